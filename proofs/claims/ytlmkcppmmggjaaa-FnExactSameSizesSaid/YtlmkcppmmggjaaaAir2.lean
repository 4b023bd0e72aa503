/-
  Contracts: airs, the same and valid.
-/
import Derived.Test.YtlmkcppmmggjaaaAir
import Derived.Deep.RegionHeld3
namespace Go.Proofs.Ytlmkcppmmggjaaa
open Go.RowKit Fl

theorem q_left {P : Program} {f : FuncId} {args : Array Value} {w : World} {n : Nat} {v : Value}
    (h : Calls P f args (w.drewN n) fun e w' => e = .returned v ∧ w.drewN n = w') : Calls P f args (w.drewN n) fun e w'' => e = .returned v ∧ ∃ m, w'' = w.drewN m :=
  h.mono fun _ _ ⟨he, hm⟩ => ⟨he, n, hm.symm⟩
theorem q_drew {P : Program} {f : FuncId} {args : Array Value} {w : World} {n : Nat} {v : Value}
    (h : Calls P f args (w.drewN n) fun e w' => e = .returned v ∧ Drew (w.drewN n) w') : Calls P f args (w.drewN n) fun e w'' => e = .returned v ∧ ∃ m, w'' = w.drewN m :=
  h.mono fun _ _ ⟨he, m, hm⟩ => ⟨he, n + m, by rw [hm]; simp⟩

theorem c_l02Same (a b c d : Nat) (ha : a < 4294967296) (hb : b < 4294967296) (hc : c < 4294967296) (hd : d < 4294967296) (g1 g2 : Nat) (t1 t2 : TypeId) (w : World)
    (h1 : Holds w g1 t1 #[.float .f32 a, .float .f32 b]) (h2 : Holds w g2 t2 #[.float .f32 c, .float .f32 d]) :
    Calls Try.prog 45 #[.pointer (some ⟨g1, 0, none⟩), .pointer (some ⟨g2, 0, none⟩)] w fun e w' => e = .returned (.bool (sameB a c && sameB b d)) ∧ Drew w w' := by
  have k0 : w.cell? ⟨g1, 0, none⟩ = some (.float .f32 a) := h1.cell 0
  have k1 : w.cell? ⟨g1, 1, none⟩ = some (.float .f32 b) := h1.cell 1
  have k2 : w.cell? ⟨g2, 0, none⟩ = some (.float .f32 c) := h2.cell 0
  have k3 : w.cell? ⟨g2, 1, none⟩ = some (.float .f32 d) := h2.cell 1
  have HS1 := Lib.hid (fun w => c_l01Same a c ha hc w)
  have HS2 := Lib.hid (fun w => c_l01Same b d hb hd w)
  clear ha hb hc hd h1 h2
  cases h : sameB a c
  · rw [h] at HS1
    go_enter Try.func45, Try.ntmps45
    go_wp2
    go_quiet ((go_at_call 41; exact q_left (HS1.out _)))
    go_wp2
    go_ret
    exact ⟨ret_bool (by simp), _, rfl⟩
  · rw [h] at HS1
    go_enter Try.func45, Try.ntmps45
    go_wp2
    go_quiet ((go_at_call 41; first | (with_reducible exact q_left (HS1.out _)) | (with_reducible exact q_left (HS2.out _))))
    go_wp2
    go_ret
    exact ⟨ret_bool (by simp), _, rfl⟩

theorem c_specSameAir (a b c d : Nat) (ha : a < 4294967296) (hb : b < 4294967296) (hc : c < 4294967296) (hd : d < 4294967296) (w : World) :
    Calls Try.prog 19 #[.agg #[.float .f32 a, .float .f32 b], .agg #[.float .f32 c, .float .f32 d]] w fun e w' => e = .returned (.bool (sameB a c && sameB b d)) ∧ Below w.heap.size w w' := by
  go_enter Try.func19, Try.ntmps19
  go_wp2_with (go_at_call 45; refine (c_l02Same a b c d ha hb hc hd _ _ _ _ _ ((Holds.new _ _ _).alloc _) (Holds.new' _ _ _ (by simp))).mono ?_; rintro e w' ⟨rfl, n, rfl⟩)
  go_ret
  exact ⟨rfl, below_drewN (((Below.refl _ _).alloc (by simp) _).alloc (by simp) _) n⟩

theorem c_SameAir (a b c d : Nat) (ha : a < 4294967296) (hb : b < 4294967296) (hc : c < 4294967296) (hd : d < 4294967296) (w : World) :
    Calls Try.prog 21 #[.agg #[.float .f32 a, .float .f32 b], .agg #[.float .f32 c, .float .f32 d]] w fun e w' => e = .returned (.bool (sameB a c && sameB b d)) ∧ Below w.heap.size w w' := by
  have HS1 := Lib.hid (fun w => c_SameNumber a c ha hc w)
  have HS2 := Lib.hid (fun w => c_SameNumber b d hb hd w)
  clear ha hb hc hd
  cases h : sameB a c
  all_goals
    rw [h] at HS1
    go_enter Try.func21, Try.ntmps21
    go_wp2_with (first | (go_at_call 16; first | ((with_reducible refine (HS1.out _).mono ?_); rintro e w' ⟨rfl, rfl⟩) | ((with_reducible refine (HS2.out _).mono ?_); rintro e w' ⟨rfl, rfl⟩)))
    go_ret
    exact ⟨ret_bool (by simp), ((Below.refl _ _).alloc (by simp) _).alloc (by simp) _⟩

theorem walk_FnExactSameAir (a b : Nat) (ha : a < 4294967296) (hb : b < 4294967296) (c d : Nat) (hc : c < 4294967296) (hd : d < 4294967296) (w : World) :
    Calls Try.prog 6 #[.agg #[.float .f32 a, .float .f32 b], .agg #[.float .f32 c, .float .f32 d]] w fun e w' => e = .returned (.bool true) ∧ Below w.heap.size w w' := by
  have hs : (sameB a c && sameB b d != (sameB a c && sameB b d)) = false := by cases sameB a c <;> cases sameB b d <;> rfl
  have HA := Lib.hid (fun w => c_toAir a b w)
  have HB := Lib.hid (fun w => c_toAir c d w)
  have HC := Lib.hid (fun w => c_specSameAir a b c d ha hb hc hd w)
  have HD := Lib.hid (fun w => c_SameAir a b c d ha hb hc hd w)
  clear ha hb hc hd
  go_enter Try.func6, Try.ntmps6
  go_wp2
  obtain ⟨w0, hw0⟩ : ∃ w0 : World, w0 = (w.alloc (Obj.cells #[Value.float FloatKind.f32 a, Value.float FloatKind.f32 b] 28)).alloc (Obj.cells #[Value.float FloatKind.f32 c, Value.float FloatKind.f32 d] 28) := ⟨_, rfl⟩
  rw [← hw0]
  have k0 : w0.cell? ⟨w.heap.size, 0, none⟩ = some (.float .f32 a) := by rw [hw0]; exact ((Holds.new _ _ _).alloc _).cell 0
  have k1 : w0.cell? ⟨w.heap.size, 1, none⟩ = some (.float .f32 b) := by rw [hw0]; exact ((Holds.new _ _ _).alloc _).cell 1
  have k2 : w0.cell? ⟨w.heap.size + 1, 0, none⟩ = some (.float .f32 c) := by rw [hw0]; exact (Holds.new' (g := w.heap.size + 1) _ _ _ (by simp)).cell 0
  have k3 : w0.cell? ⟨w.heap.size + 1, 1, none⟩ = some (.float .f32 d) := by rw [hw0]; exact (Holds.new' (g := w.heap.size + 1) _ _ _ (by simp)).cell 1
  have hz : w.heap.size + 1 < w0.heap.size := by rw [hw0]; simp
  have hb0 : Below w.heap.size w w0 := by rw [hw0]; exact ((Below.refl _ _).alloc (by simp) _).alloc (by simp) _
  clear hw0
  have KEEP : ∀ x y : World, Below x.heap.size x y → (x.cell? ⟨w.heap.size, 0, none⟩ = some (.float .f32 a) ∧ x.cell? ⟨w.heap.size, 1, none⟩ = some (.float .f32 b) ∧ x.cell? ⟨w.heap.size + 1, 0, none⟩ = some (.float .f32 c) ∧ x.cell? ⟨w.heap.size + 1, 1, none⟩ = some (.float .f32 d) ∧ w.heap.size + 1 < x.heap.size ∧ Below w.heap.size w x) →
      (y.cell? ⟨w.heap.size, 0, none⟩ = some (.float .f32 a) ∧ y.cell? ⟨w.heap.size, 1, none⟩ = some (.float .f32 b) ∧ y.cell? ⟨w.heap.size + 1, 0, none⟩ = some (.float .f32 c) ∧ y.cell? ⟨w.heap.size + 1, 1, none⟩ = some (.float .f32 d) ∧ w.heap.size + 1 < y.heap.size ∧ Below w.heap.size w y) := by
    intro x y h ⟨e0, e1, e2, e3, z, b⟩
    exact ⟨(h.cell (by simp; omega)).trans e0, (h.cell (by simp; omega)).trans e1, (h.cell (by simp; omega)).trans e2, (h.cell (by simp; omega)).trans e3, by have := h.size; omega, b.trans (h.mono b.size)⟩
  have KEEP' := Lib.hid KEEP
  have FIN := Lib.hid (fun (x : World) (h : x.cell? ⟨w.heap.size, 0, none⟩ = some (.float .f32 a) ∧ x.cell? ⟨w.heap.size, 1, none⟩ = some (.float .f32 b) ∧ x.cell? ⟨w.heap.size + 1, 0, none⟩ = some (.float .f32 c) ∧ x.cell? ⟨w.heap.size + 1, 1, none⟩ = some (.float .f32 d) ∧ w.heap.size + 1 < x.heap.size ∧ Below w.heap.size w x) => h.2.2.2.2.2)
  clear KEEP
  go_region_held3 (fun x => x.cell? ⟨w.heap.size, 0, none⟩ = some (.float .f32 a) ∧ x.cell? ⟨w.heap.size, 1, none⟩ = some (.float .f32 b) ∧ x.cell? ⟨w.heap.size + 1, 0, none⟩ = some (.float .f32 c) ∧ x.cell? ⟨w.heap.size + 1, 1, none⟩ = some (.float .f32 d) ∧ w.heap.size + 1 < x.heap.size ∧ Below w.heap.size w x) (first | exact ⟨k0, k1, k2, k3, hz, hb0.drew⟩ | exact KEEP'.out _ _ (by assumption) (by assumption))
    (first | (go_at_call 20; first | ((with_reducible refine (HA.out _).mono ?_); rintro e w1 ⟨rfl, hb1⟩) | ((with_reducible refine (HB.out _).mono ?_); rintro e w1 ⟨rfl, hb1⟩)) | (go_at_call 19; (with_reducible refine (HC.out _).mono ?_); rintro e w1 ⟨rfl, hb1⟩))
  go_wp2
  go_region_held3 (fun x => x.cell? ⟨w.heap.size, 0, none⟩ = some (.float .f32 a) ∧ x.cell? ⟨w.heap.size, 1, none⟩ = some (.float .f32 b) ∧ x.cell? ⟨w.heap.size + 1, 0, none⟩ = some (.float .f32 c) ∧ x.cell? ⟨w.heap.size + 1, 1, none⟩ = some (.float .f32 d) ∧ w.heap.size + 1 < x.heap.size ∧ Below w.heap.size w x) (first | exact KEEP'.out _ _ ((Below.refl _ _).drew) (by assumption) | exact KEEP'.out _ _ (by assumption) (by assumption))
    (first | (go_at_call 20; first | ((with_reducible refine (HA.out _).mono ?_); rintro e w1 ⟨rfl, hb1⟩) | ((with_reducible refine (HB.out _).mono ?_); rintro e w1 ⟨rfl, hb1⟩)) | (go_at_call 21; (with_reducible refine (HD.out _).mono ?_); rintro e w1 ⟨rfl, hb1⟩))
  go_wp2
  go_ret
  exact ⟨rfl, FIN.out _ (by assumption)⟩
end Go.Proofs.Ytlmkcppmmggjaaa
