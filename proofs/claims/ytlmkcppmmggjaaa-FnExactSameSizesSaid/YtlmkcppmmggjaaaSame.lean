/-
  Contracts: sizes that are the same.
-/
import Derived.Test.YtlmkcppmmggjaaaAir2
namespace Go.Proofs.Ytlmkcppmmggjaaa
open Go.RowKit Fl

/-- the same in all -/
def allSame (n : Nat) (f g : Nat → Nat) : Bool := (List.range n).all fun j => sameB (f j) (g j)
theorem allSame_true {n : Nat} {f g : Nat → Nat} (h : ∀ j, j < n → sameB (f j) (g j) = true) : allSame n f g = true := by
  simp [allSame]; exact h
theorem allSame_false {n : Nat} {f g : Nat → Nat} (k : Nat) (hk : k < n) (h : sameB (f k) (g k) = false) : allSame n f g = false := by
  cases e : allSame n f g
  · rfl
  · simp [allSame] at e; rw [e k hk] at h; cases h

theorem c_l01SameSizes (f g : Nat → Nat) (hf : ∀ j, f j < 4294967296) (hg : ∀ j, g j < 4294967296) (g1 g2 : Nat) (t1 t2 : TypeId) (w : World) (h1 : Holds w g1 t1 (row 20 fun j => .float .f32 (f j))) (h2 : Holds w g2 t2 (row 20 fun j => .float .f32 (g j))) :
    Calls Try.prog 56 #[.pointer (some ⟨g1, 0, none⟩), .pointer (some ⟨g2, 0, none⟩)] w fun e w' => e = .returned (.bool (allSame 20 f g)) ∧ Drew w w' := by
  go_enter Try.func56, Try.ntmps56
  go_wp2
  go_loopw [5] (fun i wr => ∃ k : Nat, k ≤ 20 ∧ i = .int .i64 k ∧ (∀ j, j < k → sameB (f j) (g j) = true) ∧ Drew w wr ∧ Holds wr g1 t1 (row 20 fun j => .float .f32 (f j)) ∧ Holds wr g2 t2 (row 20 fun j => .float .f32 (g j))) (fun i _ => 20 - (intOf i).toNat)
  case atStart => exact ⟨0, by omega, rfl, fun j hj => by omega, Drew.refl _, h1, h2⟩
  case round =>
    clear h1 h2
    obtain ⟨k, hk, rfl, hall, hd, h1, h2⟩ := hrel
    have HA := Lib.hid hall
    clear hall
    by_cases hlt : k < 20
    · have hc1 := h1.at_ hlt
      have hc2 := h2.at_ hlt
      have hi0 : (0 : Int) ≤ (k : Int) := by omega
      have hi1 : (k : Int) < 20 := by omega
      have HS := Lib.hid (fun w => c_l01Same (f k) (g k) (hf k) (hg k) w)
      cases h : sameB (f k) (g k)
      · rw [h] at HS
        have HF := Lib.hid (allSame_false k hlt h)
        go_wp2
        go_quiet ((go_at_call 41; exact q_left (HS.out _)))
        go_wp2
        go_ret
        exact ⟨ret_bool HF.out, hd.trans ⟨_, rfl⟩⟩
      · rw [h] at HS
        have HF := Lib.hid h
        clear h
        go_wp2
        go_quiet ((go_at_call 41; exact q_left (HS.out _)))
        go_wp2
        go_roundw
        case rel => exact ⟨k + 1, by omega, by go_num, fun j hj => by
          rcases Nat.lt_or_ge j k with q | q
          · exact HA.out j q
          · have : j = k := by omega
            subst this; exact HF.out, hd.trans ⟨_, rfl⟩, h1.drewN _, h2.drewN _⟩
        case measure => simp [intOf]; omega
    · go_wp2
      go_ret
      exact ⟨ret_bool (allSame_true (fun j hj => HA.out j (by omega))), hd⟩

theorem c_specSameSizes (f g : Nat → Nat) (hf : ∀ j, f j < 4294967296) (hg : ∀ j, g j < 4294967296) (w : World) :
    Calls Try.prog 32 #[.agg (row 20 fun j => .float .f32 (f j)), .agg (row 20 fun j => .float .f32 (g j))] w fun e w' => e = .returned (.bool (allSame 20 f g)) ∧ Below w.heap.size w w' := by
  go_enter Try.func32, Try.ntmps32
  go_wp2_with (go_at_call 56; refine (c_l01SameSizes f g hf hg _ _ _ _ _ ((Holds.new _ _ _).alloc _) (Holds.new' _ _ _ (by simp))).mono ?_; rintro e w' ⟨rfl, n, rfl⟩)
  go_ret
  exact ⟨rfl, below_drewN (((Below.refl _ _).alloc (by simp) _).alloc (by simp) _) n⟩

theorem c_SameSizes (f g : Nat → Nat) (hf : ∀ j, f j < 4294967296) (hg : ∀ j, g j < 4294967296) (w : World) :
    Calls Try.prog 34 #[.agg (row 20 fun j => .float .f32 (f j)), .agg (row 20 fun j => .float .f32 (g j))] w fun e w' => e = .returned (.bool (allSame 20 f g)) ∧ Below w.heap.size w w' := by
  go_enter Try.func34, Try.ntmps34
  go_wp2
  go_loopw [6] (fun i wr => ∃ k : Nat, k ≤ 20 ∧ i = .int .i64 k ∧ (∀ j, j < k → sameB (f j) (g j) = true) ∧ Below w.heap.size w wr ∧ Holds wr w.heap.size 50 (row 20 fun j => .float .f32 (f j)) ∧ Holds wr (w.heap.size + 1) 50 (row 20 fun j => .float .f32 (g j))) (fun i _ => 20 - (intOf i).toNat)
  case atStart => exact ⟨0, by omega, rfl, fun j hj => by omega, ((Below.refl _ _).alloc (by simp) _).alloc (by simp) _, (Holds.new _ _ _).alloc _, Holds.new' _ _ _ (by simp)⟩
  case round =>
    obtain ⟨k, hk, rfl, hall, hb, h1, h2⟩ := hrel
    have HA := Lib.hid hall
    clear hall
    by_cases hlt : k < 20
    · have hc1 := h1.at_ hlt
      have hc2 := h2.at_ hlt
      have hi0 : (0 : Int) ≤ (k : Int) := by omega
      have hi1 : (k : Int) < 20 := by omega
      have HS := Lib.hid (fun w => c_SameNumber (f k) (g k) (hf k) (hg k) w)
      cases h : sameB (f k) (g k)
      · rw [h] at HS
        have HF := Lib.hid (allSame_false k hlt h)
        go_wp2
        go_quiet ((go_at_call 16; exact q_left (HS.out _)))
        go_wp2
        go_ret
        exact ⟨ret_bool HF.out, below_drewN hb _⟩
      · rw [h] at HS
        have HF := Lib.hid h
        clear h
        go_wp2
        go_quiet ((go_at_call 16; exact q_left (HS.out _)))
        go_wp2
        go_roundw
        case rel => exact ⟨k + 1, by omega, by go_num, fun j hj => by
          rcases Nat.lt_or_ge j k with q | q
          · exact HA.out j q
          · have : j = k := by omega
            subst this; exact HF.out, below_drewN hb _, h1.drewN _, h2.drewN _⟩
        case measure => simp [intOf]; omega
    · go_wp2
      go_ret
      exact ⟨ret_bool (allSame_true (fun j hj => HA.out j (by omega))), hb⟩
end Go.Proofs.Ytlmkcppmmggjaaa
