/-
  No cell of these rows narrows 'for every input' (looked for: loops, veiled, ifaces, maps, wideKeys, modest, calm, conditions, laid).
  DERIVED. THE GIVEN ROWS OF THIS SEAT. 8 by the template 'for every input the law returns true; each argument reads behind the call as it read before'; 0 by the template 'total and deterministic' (their statements: YtgjibocemffjhaaTotals.lean).
  GIVEN WITH THE SEED: the statements are not yours to turn. If you find one false, say at which input.
  Laid BY PROGRAM, IN A SANDBOX (cutbox-rows.mjs): the forced cells as the released guide's own fill.sh prints them over the translation 6719292c475fcc60… (all of the seat's roots in one cut). By AI agents, Wed Nov 11 2026. No macro, syntax, notation, axiom, sorry.
-/
import Derived.Test.YtgjibocemffjhaaChecked
import GoSem.Claim
import GoSem.ClaimJoined
import GoSem.ClaimMapViews
import Derived.JoinedTies
import Derived.KernelRfl
namespace Go.Proofs.Ytgjibocemffjhaa
/- THE CELL 'sum', in the pinned program and in every row, IS THE sha256 OF THE DUMP (.gsa) THAT YtgjibocemffjhaaProg.lean LOADS. Nothing in Lean hashes anything: it is a label: what it is worth is what the hold of that sum in a sandbox is worth. -/
noncomputable def Try.pinned : Pinned := { name := "ytgjibocemffjhaa", sum := "6719292c475fcc60ec260dedd177e4e9e88f821ecbccec3699a5b86174c50503", checked := Try.checked }
namespace Rows
def none {H : Type} : Left H := { results := [], args := [] }

/-- 'laws.FnExactMixAir': WHATEVER THE INPUT: true; the input reads as it did. -/
def fnExactMixAirSpec : ChangeSpec := { name := "fnExactMixAir", fn := fun _ => fun
  | [d1, d2, d3] => { results := [.lit (.bool true)], args := [d1, d2, d3] }
  | _ => none }
def fnExactMixAirRow : OpenClaim := { program := "ytgjibocemffjhaa", sum := "6719292c475fcc60ec260dedd177e4e9e88f821ecbccec3699a5b86174c50503", func := "loop.example/g01224/laws.FnExactMixAir", spec := "fnExactMixAir", inPlace := ["math.Float32bits"], apart := false }
def FnExactMixAirSaid : Prop := fnExactMixAirRow.holds Try.pinned (OpenSpec.ofChange fnExactMixAirSpec)

/-- ITS FALSE NEIGHBOUR: 'it returns false'. Refute it at one input. -/
def fnExactMixAirWrong : ChangeSpec := { name := "fnExactMixAir", fn := fun _ => fun
  | [d1, d2, d3] => { results := [.lit (.bool false)], args := [d1, d2, d3] }
  | _ => none }
def FnExactMixAirWrongFalsely : Prop := fnExactMixAirRow.holds Try.pinned (OpenSpec.ofChange fnExactMixAirWrong)

/-- 'laws.FnExactWaterIn': WHATEVER THE INPUT: true; the input reads as it did. -/
def fnExactWaterInSpec : ChangeSpec := { name := "fnExactWaterIn", fn := fun _ => fun
  | [d1, d2] => { results := [.lit (.bool true)], args := [d1, d2] }
  | _ => none }
def fnExactWaterInRow : OpenClaim := { program := "ytgjibocemffjhaa", sum := "6719292c475fcc60ec260dedd177e4e9e88f821ecbccec3699a5b86174c50503", func := "loop.example/g01224/laws.FnExactWaterIn", spec := "fnExactWaterIn", inPlace := ["math.Float32bits"], apart := false }
def FnExactWaterInSaid : Prop := fnExactWaterInRow.holds Try.pinned (OpenSpec.ofChange fnExactWaterInSpec)

/-- ITS FALSE NEIGHBOUR: 'it returns false'. Refute it at one input. -/
def fnExactWaterInWrong : ChangeSpec := { name := "fnExactWaterIn", fn := fun _ => fun
  | [d1, d2] => { results := [.lit (.bool false)], args := [d1, d2] }
  | _ => none }
def FnExactWaterInWrongFalsely : Prop := fnExactWaterInRow.holds Try.pinned (OpenSpec.ofChange fnExactWaterInWrong)

/-- 'laws.FnExactTwoTo': WHATEVER THE INPUT: true; the input reads as it did. -/
def fnExactTwoToSpec : ChangeSpec := { name := "fnExactTwoTo", fn := fun _ => fun
  | [d] => { results := [.lit (.bool true)], args := [d] }
  | _ => none }
def fnExactTwoToRow : OpenClaim := { program := "ytgjibocemffjhaa", sum := "6719292c475fcc60ec260dedd177e4e9e88f821ecbccec3699a5b86174c50503", func := "loop.example/g01224/laws.FnExactTwoTo", spec := "fnExactTwoTo", inPlace := ["math.archFloor", "math.Float64bits", "math.Float64frombits", "math.archTrunc"], apart := false }
def FnExactTwoToSaid : Prop := fnExactTwoToRow.holds Try.pinned (OpenSpec.ofChange fnExactTwoToSpec)

/-- ITS FALSE NEIGHBOUR: 'it returns false'. Refute it at one input. -/
def fnExactTwoToWrong : ChangeSpec := { name := "fnExactTwoTo", fn := fun _ => fun
  | [d] => { results := [.lit (.bool false)], args := [d] }
  | _ => none }
def FnExactTwoToWrongFalsely : Prop := fnExactTwoToRow.holds Try.pinned (OpenSpec.ofChange fnExactTwoToWrong)

/-- 'laws.FnExactSaturationAt': WHATEVER THE INPUT: true; the input reads as it did. -/
def fnExactSaturationAtSpec : ChangeSpec := { name := "fnExactSaturationAt", fn := fun _ => fun
  | [d] => { results := [.lit (.bool true)], args := [d] }
  | _ => none }
def fnExactSaturationAtRow : OpenClaim := { program := "ytgjibocemffjhaa", sum := "6719292c475fcc60ec260dedd177e4e9e88f821ecbccec3699a5b86174c50503", func := "loop.example/g01224/laws.FnExactSaturationAt", spec := "fnExactSaturationAt", inPlace := ["math.archFloor", "math.Float64bits", "math.Float64frombits", "math.archTrunc"], apart := false }
def FnExactSaturationAtSaid : Prop := fnExactSaturationAtRow.holds Try.pinned (OpenSpec.ofChange fnExactSaturationAtSpec)

/-- ITS FALSE NEIGHBOUR: 'it returns false'. Refute it at one input. -/
def fnExactSaturationAtWrong : ChangeSpec := { name := "fnExactSaturationAt", fn := fun _ => fun
  | [d] => { results := [.lit (.bool false)], args := [d] }
  | _ => none }
def FnExactSaturationAtWrongFalsely : Prop := fnExactSaturationAtRow.holds Try.pinned (OpenSpec.ofChange fnExactSaturationAtWrong)

/-- 'laws.FnExactExcessOf': WHATEVER THE INPUT: true; the input reads as it did. -/
def fnExactExcessOfSpec : ChangeSpec := { name := "fnExactExcessOf", fn := fun _ => fun
  | [d] => { results := [.lit (.bool true)], args := [d] }
  | _ => none }
def fnExactExcessOfRow : OpenClaim := { program := "ytgjibocemffjhaa", sum := "6719292c475fcc60ec260dedd177e4e9e88f821ecbccec3699a5b86174c50503", func := "loop.example/g01224/laws.FnExactExcessOf", spec := "fnExactExcessOf", inPlace := ["math.Float32bits", "math.archFloor", "math.Float64bits", "math.Float64frombits", "math.archTrunc"], apart := false }
def FnExactExcessOfSaid : Prop := fnExactExcessOfRow.holds Try.pinned (OpenSpec.ofChange fnExactExcessOfSpec)

/-- ITS FALSE NEIGHBOUR: 'it returns false'. Refute it at one input. -/
def fnExactExcessOfWrong : ChangeSpec := { name := "fnExactExcessOf", fn := fun _ => fun
  | [d] => { results := [.lit (.bool false)], args := [d] }
  | _ => none }
def FnExactExcessOfWrongFalsely : Prop := fnExactExcessOfRow.holds Try.pinned (OpenSpec.ofChange fnExactExcessOfWrong)

/-- 'laws.FnExactDewHeat': WHATEVER THE INPUT: true; the input reads as it did. -/
def fnExactDewHeatSpec : ChangeSpec := { name := "fnExactDewHeat", fn := fun _ => fun
  | [d] => { results := [.lit (.bool true)], args := [d] }
  | _ => none }
def fnExactDewHeatRow : OpenClaim := { program := "ytgjibocemffjhaa", sum := "6719292c475fcc60ec260dedd177e4e9e88f821ecbccec3699a5b86174c50503", func := "loop.example/g01224/laws.FnExactDewHeat", spec := "fnExactDewHeat", inPlace := ["math.Float32bits", "math.archFloor", "math.Float64bits", "math.Float64frombits", "math.archTrunc"], apart := false }
def FnExactDewHeatSaid : Prop := fnExactDewHeatRow.holds Try.pinned (OpenSpec.ofChange fnExactDewHeatSpec)

/-- ITS FALSE NEIGHBOUR: 'it returns false'. Refute it at one input. -/
def fnExactDewHeatWrong : ChangeSpec := { name := "fnExactDewHeat", fn := fun _ => fun
  | [d] => { results := [.lit (.bool false)], args := [d] }
  | _ => none }
def FnExactDewHeatWrongFalsely : Prop := fnExactDewHeatRow.holds Try.pinned (OpenSpec.ofChange fnExactDewHeatWrong)

/-- 'laws.FnExactHumidityOf': WHATEVER THE INPUT: true; the input reads as it did. -/
def fnExactHumidityOfSpec : ChangeSpec := { name := "fnExactHumidityOf", fn := fun _ => fun
  | [d] => { results := [.lit (.bool true)], args := [d] }
  | _ => none }
def fnExactHumidityOfRow : OpenClaim := { program := "ytgjibocemffjhaa", sum := "6719292c475fcc60ec260dedd177e4e9e88f821ecbccec3699a5b86174c50503", func := "loop.example/g01224/laws.FnExactHumidityOf", spec := "fnExactHumidityOf", inPlace := ["math.Float32bits", "math.archFloor", "math.Float64bits", "math.Float64frombits", "math.archTrunc"], apart := false }
def FnExactHumidityOfSaid : Prop := fnExactHumidityOfRow.holds Try.pinned (OpenSpec.ofChange fnExactHumidityOfSpec)

/-- ITS FALSE NEIGHBOUR: 'it returns false'. Refute it at one input. -/
def fnExactHumidityOfWrong : ChangeSpec := { name := "fnExactHumidityOf", fn := fun _ => fun
  | [d] => { results := [.lit (.bool false)], args := [d] }
  | _ => none }
def FnExactHumidityOfWrongFalsely : Prop := fnExactHumidityOfRow.holds Try.pinned (OpenSpec.ofChange fnExactHumidityOfWrong)

/-- 'laws.FnExactActivate': WHATEVER THE INPUT: true; the input reads as it did. -/
def fnExactActivateSpec : ChangeSpec := { name := "fnExactActivate", fn := fun _ => fun
  | [d1, d2, d3] => { results := [.lit (.bool true)], args := [d1, d2, d3] }
  | _ => none }
def fnExactActivateRow : OpenClaim := { program := "ytgjibocemffjhaa", sum := "6719292c475fcc60ec260dedd177e4e9e88f821ecbccec3699a5b86174c50503", func := "loop.example/g01224/laws.FnExactActivate", spec := "fnExactActivate", inPlace := ["math.Float32bits", "math.archFloor", "math.Float64bits", "math.Float64frombits", "math.archTrunc"], apart := false }
def FnExactActivateSaid : Prop := fnExactActivateRow.holds Try.pinned (OpenSpec.ofChange fnExactActivateSpec)

/-- ITS FALSE NEIGHBOUR: 'it returns false'. Refute it at one input. -/
def fnExactActivateWrong : ChangeSpec := { name := "fnExactActivate", fn := fun _ => fun
  | [d1, d2, d3] => { results := [.lit (.bool false)], args := [d1, d2, d3] }
  | _ => none }
def FnExactActivateWrongFalsely : Prop := fnExactActivateRow.holds Try.pinned (OpenSpec.ofChange fnExactActivateWrong)

/- THE SECOND FORM. 'bulk': how many values and letters a reading holds, each counted each time it is reached (what is shared counts as often as it is met; a slice's spare places count too). A statement '..UptoSaid' is the law's where the arguments, and the package variables that the reading takes, are together of bulk at most 1048576: NARROWER than '..Said'. Prove '..Said' where nothing that the law and all that it calls make is longer than what came in: it says more and counts as full. Else prove '..UptoSaid'. A law counts once. -/
mutual
def uptoBulk {H : Type} : DataW H → Nat
  | .lit (.string bytes) => bytes.length + 1
  | .lit _ => 1
  | .nil => 1
  | .ptr d => uptoBulk d + 1
  | .slice elems spare => uptoBulkAll elems + uptoBulkAll spare + 1
  | .agg parts => uptoBulkAll parts + 1
  | .iface _ d => uptoBulk d + 1
  | .map entries => uptoBulkEntries entries + 1
  | .held _ => 1
def uptoBulkAll {H : Type} : List (DataW H) → Nat
  | [] => 0
  | d :: r => uptoBulk d + uptoBulkAll r
def uptoBulkEntries {H : Type} : List (Lit × DataW H) → Nat
  | [] => 0
  | x :: r => uptoBulkEntry x + uptoBulkEntries r
def uptoBulkEntry {H : Type} : Lit × DataW H → Nat
  | (.string bytes, d) => bytes.length + uptoBulk d + 1
  | (_, d) => uptoBulk d + 1
 end
def uptoSmall : (H : Type) → List (DataW H) → Bool := fun _ ds => decide (uptoBulkAll ds ≤ 1048576)
def OpenSpec.upto (s : _root_.Go.ChangeSpec) : _root_.Go.OpenSpec := { _root_.Go.OpenSpec.ofChange s with cond := some uptoSmall }

/-- 'laws.FnExactMixAir', WHERE WHAT IT READS IS OF BULK AT MOST 1048576: true; the input reads as it did. -/
def fnExactMixAirUptoRow : OpenClaim := { program := "ytgjibocemffjhaa", sum := "6719292c475fcc60ec260dedd177e4e9e88f821ecbccec3699a5b86174c50503", func := "loop.example/g01224/laws.FnExactMixAir", spec := "fnExactMixAir", inPlace := ["math.Float32bits"], apart := false, narrowed := true }
def FnExactMixAirUptoSaid : Prop := fnExactMixAirUptoRow.holds Try.pinned (OpenSpec.upto fnExactMixAirSpec)

/-- 'laws.FnExactWaterIn', WHERE WHAT IT READS IS OF BULK AT MOST 1048576: true; the input reads as it did. -/
def fnExactWaterInUptoRow : OpenClaim := { program := "ytgjibocemffjhaa", sum := "6719292c475fcc60ec260dedd177e4e9e88f821ecbccec3699a5b86174c50503", func := "loop.example/g01224/laws.FnExactWaterIn", spec := "fnExactWaterIn", inPlace := ["math.Float32bits"], apart := false, narrowed := true }
def FnExactWaterInUptoSaid : Prop := fnExactWaterInUptoRow.holds Try.pinned (OpenSpec.upto fnExactWaterInSpec)

/-- 'laws.FnExactTwoTo', WHERE WHAT IT READS IS OF BULK AT MOST 1048576: true; the input reads as it did. -/
def fnExactTwoToUptoRow : OpenClaim := { program := "ytgjibocemffjhaa", sum := "6719292c475fcc60ec260dedd177e4e9e88f821ecbccec3699a5b86174c50503", func := "loop.example/g01224/laws.FnExactTwoTo", spec := "fnExactTwoTo", inPlace := ["math.archFloor", "math.Float64bits", "math.Float64frombits", "math.archTrunc"], apart := false, narrowed := true }
def FnExactTwoToUptoSaid : Prop := fnExactTwoToUptoRow.holds Try.pinned (OpenSpec.upto fnExactTwoToSpec)

/-- 'laws.FnExactSaturationAt', WHERE WHAT IT READS IS OF BULK AT MOST 1048576: true; the input reads as it did. -/
def fnExactSaturationAtUptoRow : OpenClaim := { program := "ytgjibocemffjhaa", sum := "6719292c475fcc60ec260dedd177e4e9e88f821ecbccec3699a5b86174c50503", func := "loop.example/g01224/laws.FnExactSaturationAt", spec := "fnExactSaturationAt", inPlace := ["math.archFloor", "math.Float64bits", "math.Float64frombits", "math.archTrunc"], apart := false, narrowed := true }
def FnExactSaturationAtUptoSaid : Prop := fnExactSaturationAtUptoRow.holds Try.pinned (OpenSpec.upto fnExactSaturationAtSpec)

/-- 'laws.FnExactExcessOf', WHERE WHAT IT READS IS OF BULK AT MOST 1048576: true; the input reads as it did. -/
def fnExactExcessOfUptoRow : OpenClaim := { program := "ytgjibocemffjhaa", sum := "6719292c475fcc60ec260dedd177e4e9e88f821ecbccec3699a5b86174c50503", func := "loop.example/g01224/laws.FnExactExcessOf", spec := "fnExactExcessOf", inPlace := ["math.Float32bits", "math.archFloor", "math.Float64bits", "math.Float64frombits", "math.archTrunc"], apart := false, narrowed := true }
def FnExactExcessOfUptoSaid : Prop := fnExactExcessOfUptoRow.holds Try.pinned (OpenSpec.upto fnExactExcessOfSpec)

/-- 'laws.FnExactDewHeat', WHERE WHAT IT READS IS OF BULK AT MOST 1048576: true; the input reads as it did. -/
def fnExactDewHeatUptoRow : OpenClaim := { program := "ytgjibocemffjhaa", sum := "6719292c475fcc60ec260dedd177e4e9e88f821ecbccec3699a5b86174c50503", func := "loop.example/g01224/laws.FnExactDewHeat", spec := "fnExactDewHeat", inPlace := ["math.Float32bits", "math.archFloor", "math.Float64bits", "math.Float64frombits", "math.archTrunc"], apart := false, narrowed := true }
def FnExactDewHeatUptoSaid : Prop := fnExactDewHeatUptoRow.holds Try.pinned (OpenSpec.upto fnExactDewHeatSpec)

/-- 'laws.FnExactHumidityOf', WHERE WHAT IT READS IS OF BULK AT MOST 1048576: true; the input reads as it did. -/
def fnExactHumidityOfUptoRow : OpenClaim := { program := "ytgjibocemffjhaa", sum := "6719292c475fcc60ec260dedd177e4e9e88f821ecbccec3699a5b86174c50503", func := "loop.example/g01224/laws.FnExactHumidityOf", spec := "fnExactHumidityOf", inPlace := ["math.Float32bits", "math.archFloor", "math.Float64bits", "math.Float64frombits", "math.archTrunc"], apart := false, narrowed := true }
def FnExactHumidityOfUptoSaid : Prop := fnExactHumidityOfUptoRow.holds Try.pinned (OpenSpec.upto fnExactHumidityOfSpec)

/-- 'laws.FnExactActivate', WHERE WHAT IT READS IS OF BULK AT MOST 1048576: true; the input reads as it did. -/
def fnExactActivateUptoRow : OpenClaim := { program := "ytgjibocemffjhaa", sum := "6719292c475fcc60ec260dedd177e4e9e88f821ecbccec3699a5b86174c50503", func := "loop.example/g01224/laws.FnExactActivate", spec := "fnExactActivate", inPlace := ["math.Float32bits", "math.archFloor", "math.Float64bits", "math.Float64frombits", "math.archTrunc"], apart := false, narrowed := true }
def FnExactActivateUptoSaid : Prop := fnExactActivateUptoRow.holds Try.pinned (OpenSpec.upto fnExactActivateSpec)

end Rows
end Go.Proofs.Ytgjibocemffjhaa
