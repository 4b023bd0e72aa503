/-
  Contracts and walks: valid airs, code names.
-/
import Derived.Test.YtlmkcppmmggjaaaAir2
namespace Go.Proofs.Ytlmkcppmmggjaaa
open Go.RowKit Fl

/-- a heat -/
def heatB (h : Nat) : Bool := (FloatKind.f32.format.order h 3262119936 == some .gt || FloatKind.f32.format.order h 3262119936 == some .eq) && (FloatKind.f32.format.order h 1114636288 == some .lt || FloatKind.f32.format.order h 1114636288 == some .eq)
/-- at most 1000 -/
def le1000 (v : Nat) : Bool := FloatKind.f32.format.order v 1148846080 == some .lt || FloatKind.f32.format.order v 1148846080 == some .eq
def airB (h v : Nat) : Bool := heatB h && amtB v && le1000 v

theorem c_isHeat (h : Nat) (w : World) : Calls Try.prog 51 #[.float .f32 h] w fun e w' => e = .returned (.bool (heatB h)) ∧ w = w' := by
  cases h1 : (FloatKind.f32.format.order h 3262119936 == some .gt || FloatKind.f32.format.order h 3262119936 == some .eq)
  · have hR := Lib.hid (show heatB h = false by simp only [heatB, h1, Bool.false_and])
    go_enter Try.func51, Try.ntmps51
    go_wp2
    go_ret
    exact ⟨ret_bool hR.out, rfl⟩
  · have hR := Lib.hid (show heatB h = (FloatKind.f32.format.order h 1114636288 == some .lt || FloatKind.f32.format.order h 1114636288 == some .eq) by simp only [heatB, h1, Bool.true_and])
    go_enter Try.func51, Try.ntmps51
    go_wp2
    go_ret
    exact ⟨ret_bool hR.out, rfl⟩
theorem c_l02Heat (h : Nat) (w : World) : Calls Try.prog 62 #[.float .f32 h] w fun e w' => e = .returned (.bool (heatB h)) ∧ w = w' := by
  cases h1 : (FloatKind.f32.format.order h 3262119936 == some .gt || FloatKind.f32.format.order h 3262119936 == some .eq)
  · have hR := Lib.hid (show heatB h = false by simp only [heatB, h1, Bool.false_and])
    go_enter Try.func62, Try.ntmps62
    go_wp2
    go_ret
    exact ⟨ret_bool hR.out, rfl⟩
  · have hR := Lib.hid (show heatB h = (FloatKind.f32.format.order h 1114636288 == some .lt || FloatKind.f32.format.order h 1114636288 == some .eq) by simp only [heatB, h1, Bool.true_and])
    go_enter Try.func62, Try.ntmps62
    go_wp2
    go_ret
    exact ⟨ret_bool hR.out, rfl⟩

theorem c_l02Ok (h v : Nat) (hv : v < 4294967296) (g : Nat) (t : TypeId) (w : World) (hg : Holds w g t #[.float .f32 h, .float .f32 v]) :
    Calls Try.prog 50 #[.pointer (some ⟨g, 0, none⟩)] w fun e w' => e = .returned (.bool (airB h v)) ∧ Drew w w' := by
  have k0 : w.cell? ⟨g, 0, none⟩ = some (.float .f32 h) := hg.cell 0
  have k1 : w.cell? ⟨g, 1, none⟩ = some (.float .f32 v) := hg.cell 1
  cases h1 : heatB h
  · have hR := Lib.hid (show airB h v = false by simp only [airB, h1, Bool.false_and])
    go_enter Try.func50, Try.ntmps50
    go_wp2_with (go_at_call 62; refine (c_l02Heat _ _).mono ?_; rintro e w' ⟨rfl, rfl⟩)
    go_ret
    exact ⟨ret_bool hR.out, Drew.refl _⟩
  · cases h2 : amtB v
    · have hR := Lib.hid (show airB h v = false by simp only [airB, h1, h2, Bool.true_and, Bool.false_and])
      go_enter Try.func50, Try.ntmps50
      go_wp2_with (first | (go_at_call 62; refine (c_l02Heat _ _).mono ?_; rintro e w' ⟨rfl, rfl⟩) | (go_at_call 63; refine (c_l01Amount _ hv _).mono ?_; rintro e w' ⟨rfl, n, rfl⟩))
      go_ret
      exact ⟨ret_bool hR.out, n, rfl⟩
    · have hR := Lib.hid (show airB h v = le1000 v by simp only [airB, h1, h2, Bool.true_and])
      go_enter Try.func50, Try.ntmps50
      go_wp2_with (first | (go_at_call 62; refine (c_l02Heat _ _).mono ?_; rintro e w' ⟨rfl, rfl⟩) | (go_at_call 63; refine (c_l01Amount _ hv _).mono ?_; rintro e w' ⟨rfl, n, rfl⟩))
      go_ret
      exact ⟨ret_bool hR.out, n, rfl⟩

theorem c_specValidAir (h v : Nat) (hv : v < 4294967296) (w : World) : Calls Try.prog 27 #[.agg #[.float .f32 h, .float .f32 v]] w fun e w' => e = .returned (.bool (airB h v)) ∧ Below w.heap.size w w' := by
  go_enter Try.func27, Try.ntmps27
  go_wp2_with (go_at_call 50; refine (c_l02Ok h v hv _ _ _ (Holds.new _ _ _)).mono ?_; rintro e w' ⟨rfl, n, rfl⟩)
  go_ret
  exact ⟨rfl, below_drewN ((Below.refl _ _).alloc (by simp) _) n⟩

theorem c_ValidAir (h v : Nat) (hv : v < 4294967296) (w : World) : Calls Try.prog 28 #[.agg #[.float .f32 h, .float .f32 v]] w fun e w' => e = .returned (.bool (airB h v)) ∧ Below w.heap.size w w' := by
  cases h1 : heatB h
  · have hR := Lib.hid (show airB h v = false by simp only [airB, h1, Bool.false_and])
    go_enter Try.func28, Try.ntmps28
    go_wp2_with (go_at_call 51; refine (c_isHeat _ _).mono ?_; rintro e w' ⟨rfl, rfl⟩)
    go_ret
    exact ⟨ret_bool hR.out, (Below.refl _ _).alloc (by simp) _⟩
  · cases h2 : amtB v
    · have hR := Lib.hid (show airB h v = false by simp only [airB, h1, h2, Bool.true_and, Bool.false_and])
      go_enter Try.func28, Try.ntmps28
      go_wp2_with (first | (go_at_call 51; refine (c_isHeat _ _).mono ?_; rintro e w' ⟨rfl, rfl⟩) | (go_at_call 52; refine (c_isAmount _ hv _).mono ?_; rintro e w' ⟨rfl, hb⟩))
      go_ret
      exact ⟨ret_bool hR.out, ((Below.refl _ _).alloc (by simp) _).trans (hb.mono (by simp))⟩
    · have hR := Lib.hid (show airB h v = le1000 v by simp only [airB, h1, h2, Bool.true_and])
      go_enter Try.func28, Try.ntmps28
      go_wp2_with (first | (go_at_call 51; refine (c_isHeat _ _).mono ?_; rintro e w' ⟨rfl, rfl⟩) | (go_at_call 52; refine (c_isAmount _ hv _).mono ?_; rintro e w' ⟨rfl, hb⟩; have hc1 : w'.cell? ⟨w.heap.size, 1, none⟩ = some (.float .f32 v) := (hb.cell (by simp)).trans ((Holds.new w _ _).cell 1)))
      go_ret
      exact ⟨ret_bool hR.out, ((Below.refl _ _).alloc (by simp) _).trans (hb.mono (by simp))⟩

theorem walk_FnExactValidAir (h v : Nat) (_ : h < 4294967296) (hv : v < 4294967296) (w : World) : Calls Try.prog 9 #[.agg #[.float .f32 h, .float .f32 v]] w fun e w' => e = .returned (.bool true) ∧ Below w.heap.size w w' := by
  have hs : (airB h v != airB h v) = false := by simp
  have b0 : Below w.heap.size w (w.alloc (.cells #[.float .f32 h, .float .f32 v] 28)) := (Below.refl _ _).alloc (by simp) _
  have k0 : (w.alloc (.cells #[.float .f32 h, .float .f32 v] 28)).cell? ⟨w.heap.size, 0, none⟩ = some (.float .f32 h) := (Holds.new _ _ _).cell 0
  have k1 : (w.alloc (.cells #[.float .f32 h, .float .f32 v] 28)).cell? ⟨w.heap.size, 1, none⟩ = some (.float .f32 v) := (Holds.new _ _ _).cell 1
  have z : w.heap.size < (w.alloc (.cells #[.float .f32 h, .float .f32 v] 28)).heap.size := by simp
  go_enter Try.func9, Try.ntmps9
  go_wp2_with (first | (go_at_call 20; refine (c_toAir h v _).mono ?_; rintro e w1 ⟨rfl, hb⟩; have k0 := (hb.cell z).trans k0; have k1 := (hb.cell z).trans k1; have z := Nat.lt_of_lt_of_le z hb.size; have b0 := b0.trans (hb.mono b0.size); clear hb) | (go_at_call 27; refine (c_specValidAir h v hv _).mono ?_; rintro e w1 ⟨rfl, hb⟩; have k0 := (hb.cell z).trans k0; have k1 := (hb.cell z).trans k1; have z := Nat.lt_of_lt_of_le z hb.size; have b0 := b0.trans (hb.mono b0.size); clear hb) | (go_at_call 28; refine (c_ValidAir h v hv _).mono ?_; rintro e w1 ⟨rfl, hb⟩; have k0 := (hb.cell z).trans k0; have k1 := (hb.cell z).trans k1; have z := Nat.lt_of_lt_of_le z hb.size; have b0 := b0.trans (hb.mono b0.size); clear hb))
  go_ret
  exact ⟨rfl, b0⟩

set_option maxHeartbeats 4000000 in
theorem walk_FnExactCodeName (n : Int) (_ : -9223372036854775808 ≤ n ∧ n ≤ 9223372036854775807) (w : World) : Calls Try.prog 5 #[.int .i64 n] w fun e w' => e = .returned (.bool true) ∧ Below w.heap.size w w' := by
  rcases (by omega : n < 0 ∨ 8 < n ∨ n = 0 ∨ n = 1 ∨ n = 2 ∨ n = 3 ∨ n = 4 ∨ n = 5 ∨ n = 6 ∨ n = 7 ∨ n = 8) with h | h | rfl | rfl | rfl | rfl | rfl | rfl | rfl | rfl | rfl
  rotate_left
  · have hd : decide (n ≤ 8) = false := decide_eq_false (by omega)
    go_enter Try.func5, Try.ntmps5
    go_wp2
    go_ret
    exact ⟨rfl, by first | exact (Below.refl _ _).alloc (by simp) _ | exact ((Below.refl _ _).alloc (by simp) _).alloc (by simp) _⟩
  all_goals
    go_enter Try.func5, Try.ntmps5
    go_wp2
    go_ret
    exact ⟨rfl, by first | exact (Below.refl _ _).alloc (by simp) _ | exact ((Below.refl _ _).alloc (by simp) _).alloc (by simp) _⟩

end Go.Proofs.Ytlmkcppmmggjaaa
