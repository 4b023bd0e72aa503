/-
  Contracts and walks: radii, third roots.
-/
import Derived.Test.YtjhognfkjdccfaaThird
import Derived.Test.YtjhognfkjdccfaaLawA
namespace Go.Proofs.Ytjhognfkjdccfaa
open Go.RowKit Fl
set_option maxRecDepth 20000
set_option maxHeartbeats 4000000
set_option linter.unusedSimpArgs false

/-- the radius of a class -/
def rad (k : Nat) : Nat := (third (mb k)).getD 0
theorem third_mb (k : Nat) (hk : k < 20) : third (mb k) = some (rad k) := by
  have h : (third (mb k)).isSome = true := by
    revert hk
    refine below20 (p := fun k => (third (mb k)).isSome = true) ?_ ?_ ?_ ?_ ?_ ?_ ?_ ?_ ?_ ?_ ?_ ?_ ?_ ?_ ?_ ?_ ?_ ?_ ?_ ?_ k <;> kernel_rfl
  unfold rad
  revert h
  generalize third (mb k) = o
  cases o <;> simp
theorem rad_fin (k : Nat) (hk : k < 20) : rad k < 2139095040 := by
  have h : (decide (rad k < 2139095040)) = true := by
    revert hk
    refine below20 (p := fun k => (decide (rad k < 2139095040)) = true) ?_ ?_ ?_ ?_ ?_ ?_ ?_ ?_ ?_ ?_ ?_ ?_ ?_ ?_ ?_ ?_ ?_ ?_ ?_ ?_ k <;> kernel_rfl
  exact of_decide_eq_true h
theorem mb_amt (k : Nat) (hk : k < 20) : amtB (mb k) = true := decide_eq_true (mb_fin k hk).1
def radR (n : Int) : Value := if inB n 0 19 then .tuple #[.float .f32 (rad n.toNat), .int .i64 0] else .tuple #[.float .f32 0, .int .i64 2]
theorem c_l01Radius (k : Nat) (hk : k < 20) (w : World) : Calls Try.prog 30 #[.int .i64 k] w fun e w' => e = .returned (.float .f32 (rad k)) ∧ w = w' := by
  have HT := Lib.hid (fun w => c_l01Third (mb k) (mb_amt k hk) _ (third_mb k hk) w)
  go_enter Try.func30, Try.ntmps30
  go_wp2_with (first | (go_at_call 57; refine (c_l01Mass k hk _).mono ?_; rintro e w' ⟨rfl, rfl⟩) | (go_at_call 34; refine (HT.out _).mono ?_; rintro e w' ⟨rfl, rfl⟩))
  go_ret
  exact ⟨rfl, rfl⟩
theorem c_radius (k : Nat) (hk : k < 20) (w : World) : Calls Try.prog 32 #[.int .i64 k] w fun e w' => e = .returned (.float .f32 (rad k)) ∧ w = w' := by
  have HT := Lib.hid (fun w => c_thirdRoot (mb k) (mb_amt k hk) _ (third_mb k hk) w)
  go_enter Try.func32, Try.ntmps32
  go_wp2_with (first | (go_at_call 58; refine (c_mass k hk _).mono ?_; rintro e w' ⟨rfl, rfl⟩) | (go_at_call 36; refine (HT.out _).mono ?_; rintro e w' ⟨rfl, rfl⟩))
  go_ret
  exact ⟨rfl, rfl⟩
theorem c_specRadiusOf (n : Int) (w : World) : Calls Try.prog 10 #[.int .i64 n] w fun e w' => e = .returned (radR n) ∧ w = w' := by
  cases h : inB n 0 19
  · have hR := Lib.hid (show radR n = .tuple #[.float .f32 0, .int .i64 2] by simp [radR, h])
    go_enter Try.func10, Try.ntmps10
    go_wp2_with (go_at_call 29; refine (c_l01Class _ _).mono ?_; rintro e w' ⟨rfl, rfl⟩)
    go_ret2
    exact ⟨by rw [hR.out]; rfl, rfl⟩
  · obtain ⟨k, rfl, hk⟩ := inB19 h
    have hR := Lib.hid (show radR k = .tuple #[.float .f32 (rad k), .int .i64 0] by simp [radR, h])
    go_enter Try.func10, Try.ntmps10
    go_wp2_with (first | (go_at_call 29; refine (c_l01Class _ _).mono ?_; rintro e w' ⟨rfl, rfl⟩) | (go_at_call 30; refine (c_l01Radius k hk _).mono ?_; rintro e w' ⟨rfl, rfl⟩))
    go_ret2
    exact ⟨by rw [hR.out]; rfl, rfl⟩
theorem c_implRadiusOf (n : Int) (w : World) : Calls Try.prog 11 #[.int .i64 n] w fun e w' => e = .returned (radR n) ∧ w = w' := by
  cases h : inB n 0 19
  · have hR := Lib.hid (show radR n = .tuple #[.float .f32 0, .int .i64 2] by simp [radR, h])
    go_enter Try.func11, Try.ntmps11
    go_wp2_with (go_at_call 31; refine (c_isClass _ _).mono ?_; rintro e w' ⟨rfl, rfl⟩)
    go_ret2
    exact ⟨by rw [hR.out]; rfl, rfl⟩
  · obtain ⟨k, rfl, hk⟩ := inB19 h
    have hR := Lib.hid (show radR k = .tuple #[.float .f32 (rad k), .int .i64 0] by simp [radR, h])
    go_enter Try.func11, Try.ntmps11
    go_wp2_with (first | (go_at_call 31; refine (c_isClass _ _).mono ?_; rintro e w' ⟨rfl, rfl⟩) | (go_at_call 32; refine (c_radius k hk _).mono ?_; rintro e w' ⟨rfl, rfl⟩))
    go_ret2
    exact ⟨by rw [hR.out]; rfl, rfl⟩
theorem walk_FnExactRadiusOf (n : Int) (_ : -9223372036854775808 ≤ n ∧ n ≤ 9223372036854775807) (w : World) : Calls Try.prog 3 #[.int .i64 n] w fun e w' => e = .returned (.bool true) ∧ Below w.heap.size w w' := by
  have hcv := fun (x : Nat) (h : cvok x = true) (w : World) => run_cv (P := Try.prog) w 22 26 (by kernel_rfl) Try.underlying26 x h
  obtain ⟨x, c, hR, hx⟩ : ∃ (x : Nat) (c : Int), radR n = .tuple #[.float .f32 x, .int .i64 c] ∧ x ≤ 2139095040 := by
    unfold radR
    split
    · rename_i h; obtain ⟨k, rfl, hk⟩ := inB19 h; exact ⟨_, _, rfl, Nat.le_of_lt (rad_fin _ (by simpa using hk))⟩
    · exact ⟨_, _, rfl, by omega⟩
  obtain ⟨h1, h2⟩ := cv_ok hx
  have HR := Lib.hid hR
  have H2 := Lib.hid h2
  clear hR h2
  go_enter Try.func3, Try.ntmps3
  go_wp2_with (first | (go_at_call 10; refine (c_specRadiusOf _ _).mono ?_; rw [HR.out]; rintro e w' ⟨rfl, rfl⟩) | (go_at_call 11; refine (c_implRadiusOf _ _).mono ?_; rw [HR.out]; rintro e w' ⟨rfl, rfl⟩) | (go_at_call 12; refine (c_sameFloat _ H2.out _).mono ?_; rintro e w' ⟨rfl, rfl⟩))
  go_ret
  exact ⟨rfl, Below.refl _ _⟩
end Go.Proofs.Ytjhognfkjdccfaa
