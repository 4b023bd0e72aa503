/-
  The walks of the first laws.
-/
import Derived.Test.YtjhognfkjdccfaaSizes
namespace Go.Proofs.Ytjhognfkjdccfaa
open Go.RowKit Fl


theorem cv_ok {x : Nat} (h : x ≤ 2139095040) : cvok x = true ∧ num FloatKind.f64.format (cv x) := ⟨cvok_of (by omega) (isnum_of_le h), (cv_num (by omega) (isnum_of_le h)).2⟩



end Go.Proofs.Ytjhognfkjdccfaa
