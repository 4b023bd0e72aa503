/-
  Contracts and walks: counts, waters, means.
-/
import Derived.Test.YtjhognfkjdccfaaSum
import Derived.Deep.RegionHeld3
namespace Go.Proofs.Ytjhognfkjdccfaa
open Go.RowKit Fl
set_option maxRecDepth 20000

theorem cvle {x : Nat} (h : x ≤ 2139095040) : cvok x = true ∧ num FloatKind.f64.format (cv x) := ⟨cvok_of (by omega) (isnum_of_le h), (cv_num (by omega) (isnum_of_le h)).2⟩
theorem drew_below {w w' : World} (h : Drew w w') : Below w.heap.size w w' := Drew.below h
theorem fv_lt {op : BinOp} {x y : Nat} (h : fok op .f32 x y = true) : fv op .f32 x y < 4294967296 := by
  have := floatBits_wf (fv_some h)
  simpa [Lit.wf] using this
theorem nb_lt (t : Nat) : nb .f32 t < 4294967296 := by
  show (t % 2) * 2 ^ 31 + 0x7f800000 + 1 + (t / 2) % (2 ^ 23 - 1) < 4294967296
  have h := Nat.mod_lt (t / 2) (show 0 < 2 ^ 23 - 1 by omega)
  omega
theorem nb_fin (t : Nat) : isfin (nb .f32 t) = false := by
  have := nb_nan .f32 t
  apply decide_eq_false
  have e : FloatKind.f32.format.infRung = 2139095040 := rfl
  have e2 : FloatKind.f32.format.signWeight = 2147483648 := rfl
  rw [e, e2] at this
  omega
theorem toldR_nan (t : Nat) : toldR (nb .f32 t) = .tuple #[.float .f32 0, .int .i64 4] := by simp [toldR, nb_fin]
/-- what is told has a number that can be made wide -/
theorem toldR_form (a : Nat) (ha : a < 4294967296) : ∃ (x : Nat) (c : Int), toldR a = .tuple #[.float .f32 x, .int .i64 c] ∧ cvok x = true ∧ num FloatKind.f64.format (cv x) := by
  unfold toldR
  cases h : isfin a
  · exact ⟨0, 4, by simp, (cvle (by omega)).1, (cvle (by omega)).2⟩
  · exact ⟨a, 0, by simp, cvok_of ha (isnum_of_fin h), (cv_num ha (isnum_of_fin h)).2⟩
theorem pairF_form (x : Nat) (c : Int) (hx : x ≤ 2139095040) : ∃ (x' : Nat) (c' : Int), Value.tuple #[.float .f32 x, .int .i64 c] = .tuple #[.float .f32 x', .int .i64 c'] ∧ cvok x' = true ∧ num FloatKind.f64.format (cv x') :=
  ⟨x, c, rfl, (cvle hx).1, (cvle hx).2⟩
theorem le_inf (a : Nat) (h : a ≤ 2139095040) : a < 4294967296 := by omega

def countOfR (f : Nat → Nat) : Value := if okB f then toldR (cnt f 19) else .tuple #[.float .f32 0, .int .i64 1]
def waterOfR (f : Nat → Nat) : Value := if okB f then toldR (wat f 0 19) else .tuple #[.float .f32 0, .int .i64 1]
end Go.Proofs.Ytjhognfkjdccfaa
