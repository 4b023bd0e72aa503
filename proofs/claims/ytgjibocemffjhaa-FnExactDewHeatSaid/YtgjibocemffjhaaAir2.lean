/-
  Contracts: airs, the same and valid.
-/
import Derived.Test.YtgjibocemffjhaaAir
import Derived.Deep.RegionHeld3
namespace Go.Proofs.Ytgjibocemffjhaa
open Go.RowKit Fl




end Go.Proofs.Ytgjibocemffjhaa
