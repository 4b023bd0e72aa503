/-
  Contracts: classes of masses, code names, airs.
-/
import Derived.Test.YtjhognfkjdccfaaSizes
namespace Go.Proofs.Ytjhognfkjdccfaa
open Go.RowKit Fl
set_option maxRecDepth 20000

/-- at least 1 -/
def ge1 (m : Nat) : Bool := FloatKind.f32.format.order m 1065353216 == some .gt || FloatKind.f32.format.order m 1065353216 == some .eq
def classR (m : Nat) : Value := if isfin m && ge1 m then .tuple #[.int .i64 (cf m), .int .i64 0] else .tuple #[.int .i64 0, .int .i64 2]


theorem c_isMean (m : Nat) (hm : m < 4294967296) (w : World) : Calls Try.prog 40 #[.float .f32 m] w fun e w' => e = .returned (.bool (isfin m && ge1 m)) ∧ Below w.heap.size w w' := by
  cases h : isfin m
  · go_enter Try.func40, Try.ntmps40
    go_wp2_with (go_at_call 44; refine (c_isFinite1 _ hm _ _ _ _ (Holds.new _ _ _)).mono ?_; rintro e w' ⟨rfl, n, rfl⟩)
    go_ret
    exact ⟨ret_bool (by simp), below_drewN ((Below.refl _ _).alloc (by simp) _) n⟩
  · cases h1 : ge1 m
    all_goals
      unfold ge1 at h1
      go_enter Try.func40, Try.ntmps40
      go_wp2_with (go_at_call 44; refine (c_isFinite1 _ hm _ _ _ _ (Holds.new _ _ _)).mono ?_; rintro e w' ⟨rfl, n, rfl⟩)
      go_ret
      exact ⟨ret_bool (by simp), below_drewN ((Below.refl _ _).alloc (by simp) _) n⟩



/-! ### air: two numbers -/
theorem two_row (a b : Value) : #[a, b] = row 2 (fun j => if j = 0 then a else b) := by
  apply Array.ext
  · simp [row]
  · intro j h1 h2
    have : j = 0 ∨ j = 1 := by simp at h1; omega
    rcases this with rfl | rfl <;> simp [row]


end Go.Proofs.Ytjhognfkjdccfaa
