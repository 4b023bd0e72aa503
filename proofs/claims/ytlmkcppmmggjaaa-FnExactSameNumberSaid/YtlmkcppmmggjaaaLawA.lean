import Derived.Test.YtlmkcppmmggjaaaBase
namespace Go.Proofs.Ytlmkcppmmggjaaa
open Go.RowKit Fl
theorem walk_FnExactSameNumber (x : Nat) (hx : x < 4294967296) (y : Nat) (hy : y < 4294967296) (w : World) :
    Calls Try.prog 4 #[.float .f32 x, .float .f32 y] w fun e w' => e = .returned (.bool true) ∧ Below w.heap.size w w' := by
  have hs : (sameB x y != sameB x y) = false := by simp
  go_enter Try.func4, Try.ntmps4
  go_wp2_with (first | (go_at_call 15; refine (c_specSameNumber _ _ hx hy _).mono ?_; rintro e w' ⟨rfl, rfl⟩) | (go_at_call 16; refine (c_SameNumber _ _ hx hy _).mono ?_; rintro e w' ⟨rfl, rfl⟩))
  go_ret
  exact ⟨rfl, Below.refl _ _⟩
end Go.Proofs.Ytlmkcppmmggjaaa
