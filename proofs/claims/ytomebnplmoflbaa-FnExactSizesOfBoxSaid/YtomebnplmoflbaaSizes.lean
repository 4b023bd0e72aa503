/-
  Contracts: sizes by value, valid, the same.
-/
import Derived.Test.YtomebnplmoflbaaMass
namespace Go.Proofs.Ytomebnplmoflbaa
open Go.RowKit Fl

theorem info_sizes : (Try.prog.info? 34).map (·.size) = some 20 := by kernel_rfl
theorem info_a20 : (Try.prog.info? 23).map (·.size) = some 20 := by kernel_rfl
theorem info_f32 : (Try.prog.info? 22).map (·.size) = some 1 := by kernel_rfl
theorem agg_f32 (w : World) : (isAgg 22).run Try.prog w = .ok false w := by kernel_rfl

theorem part_zero (f : Nat → Nat) : row 20 (fun j => Value.float .f32 (if j < 0 then f j else 0)) = row 20 (fun _ => Value.float .f32 0) := row_congr fun j _ => by simp
theorem part_full (f : Nat → Nat) (k : Nat) (hk : ¬ k < 20) (j : Nat) (hj : j < 20) : Value.float .f32 (if j < k then f j else 0) = Value.float .f32 (f j) := by rw [if_pos (by omega)]
theorem part_step (f : Nat → Nat) (k j : Nat) : (if j = k then Value.float .f32 (f k) else Value.float .f32 (if j < k then f j else 0)) = Value.float .f32 (if j < k + 1 then f j else 0) := by
  by_cases e : j = k
  · subst e; simp
  · simp only [e, if_false]; congr 1
    rcases Nat.lt_or_ge j k with q | q
    · rw [if_pos q, if_pos (by omega)]
    · rw [if_neg (by omega), if_neg (by omega)]


/-- all amounts -/
def okB (f : Nat → Nat) : Bool := (List.range 20).all fun j => amtB (f j)
theorem okB_true {f : Nat → Nat} (h : ∀ j, j < 20 → amtB (f j) = true) : okB f = true := by
  simp [okB]; exact h
theorem okB_false {f : Nat → Nat} (k : Nat) (hk : k < 20) (h : amtB (f k) = false) : okB f = false := by
  cases e : okB f
  · rfl
  · simp [okB] at e; rw [e k hk] at h; cases h
theorem of_okB {f : Nat → Nat} (h : okB f = true) : ∀ j, j < 20 → amtB (f j) = true := by simpa [okB] using h




end Go.Proofs.Ytomebnplmoflbaa
