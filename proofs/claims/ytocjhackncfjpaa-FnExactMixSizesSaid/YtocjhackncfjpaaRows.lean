/-
  No cell of these rows narrows 'for every input' (looked for: loops, veiled, ifaces, maps, wideKeys, modest, calm, conditions, laid).
  DERIVED. THE GIVEN ROWS OF THIS SEAT. 8 by the template 'for every input the law returns true; each argument reads behind the call as it read before'; 0 by the template 'total and deterministic' (their statements: YtocjhackncfjpaaTotals.lean).
  GIVEN WITH THE SEED: the statements are not yours to turn. If you find one false, say at which input.
  Laid BY PROGRAM, IN A SANDBOX (cutbox-rows.mjs): the forced cells as the released guide's own fill.sh prints them over the translation 91be05ee44663708… (all of the seat's roots in one cut). By AI agents, Wed Nov 11 2026. No macro, syntax, notation, axiom, sorry.
-/
import Derived.Test.YtocjhackncfjpaaChecked
import GoSem.Claim
import GoSem.ClaimJoined
import GoSem.ClaimMapViews
import Derived.JoinedTies
import Derived.KernelRfl
namespace Go.Proofs.Ytocjhackncfjpaa
/- THE CELL 'sum', in the pinned program and in every row, IS THE sha256 OF THE DUMP (.gsa) THAT YtocjhackncfjpaaProg.lean LOADS. Nothing in Lean hashes anything: it is a label: what it is worth is what the hold of that sum in a sandbox is worth. -/
noncomputable def Try.pinned : Pinned := { name := "ytocjhackncfjpaa", sum := "91be05ee446637088fb65becc4ac7937caac0121915fc0db3b4a52711980ad9c", checked := Try.checked }
namespace Rows
def none {H : Type} : Left H := { results := [], args := [] }

/-- 'laws.FnExactTakeShare': WHATEVER THE INPUT: true; the input reads as it did. -/
def fnExactTakeShareSpec : ChangeSpec := { name := "fnExactTakeShare", fn := fun _ => fun
  | [d1, d2, d3] => { results := [.lit (.bool true)], args := [d1, d2, d3] }
  | _ => none }
def fnExactTakeShareRow : OpenClaim := { program := "ytocjhackncfjpaa", sum := "91be05ee446637088fb65becc4ac7937caac0121915fc0db3b4a52711980ad9c", func := "loop.example/g01224/laws.FnExactTakeShare", spec := "fnExactTakeShare", inPlace := ["math.Float32bits"], apart := false }
def FnExactTakeShareSaid : Prop := fnExactTakeShareRow.holds Try.pinned (OpenSpec.ofChange fnExactTakeShareSpec)

/-- ITS FALSE NEIGHBOUR: 'it returns false'. Refute it at one input. -/
def fnExactTakeShareWrong : ChangeSpec := { name := "fnExactTakeShare", fn := fun _ => fun
  | [d1, d2, d3] => { results := [.lit (.bool false)], args := [d1, d2, d3] }
  | _ => none }
def FnExactTakeShareWrongFalsely : Prop := fnExactTakeShareRow.holds Try.pinned (OpenSpec.ofChange fnExactTakeShareWrong)

/-- 'laws.FnExactCountOf': WHATEVER THE INPUT: true; the input reads as it did. -/
def fnExactCountOfSpec : ChangeSpec := { name := "fnExactCountOf", fn := fun _ => fun
  | [d] => { results := [.lit (.bool true)], args := [d] }
  | _ => none }
def fnExactCountOfRow : OpenClaim := { program := "ytocjhackncfjpaa", sum := "91be05ee446637088fb65becc4ac7937caac0121915fc0db3b4a52711980ad9c", func := "loop.example/g01224/laws.FnExactCountOf", spec := "fnExactCountOf", inPlace := ["math.Float32bits"], apart := false }
def FnExactCountOfSaid : Prop := fnExactCountOfRow.holds Try.pinned (OpenSpec.ofChange fnExactCountOfSpec)

/-- ITS FALSE NEIGHBOUR: 'it returns false'. Refute it at one input. -/
def fnExactCountOfWrong : ChangeSpec := { name := "fnExactCountOf", fn := fun _ => fun
  | [d] => { results := [.lit (.bool false)], args := [d] }
  | _ => none }
def FnExactCountOfWrongFalsely : Prop := fnExactCountOfRow.holds Try.pinned (OpenSpec.ofChange fnExactCountOfWrong)

/-- 'laws.FnExactAddSizes': WHATEVER THE INPUT: true; the input reads as it did. -/
def fnExactAddSizesSpec : ChangeSpec := { name := "fnExactAddSizes", fn := fun _ => fun
  | [d1, d2] => { results := [.lit (.bool true)], args := [d1, d2] }
  | _ => none }
def fnExactAddSizesRow : OpenClaim := { program := "ytocjhackncfjpaa", sum := "91be05ee446637088fb65becc4ac7937caac0121915fc0db3b4a52711980ad9c", func := "loop.example/g01224/laws.FnExactAddSizes", spec := "fnExactAddSizes", inPlace := ["math.Float32bits"], apart := false }
def FnExactAddSizesSaid : Prop := fnExactAddSizesRow.holds Try.pinned (OpenSpec.ofChange fnExactAddSizesSpec)

/-- ITS FALSE NEIGHBOUR: 'it returns false'. Refute it at one input. -/
def fnExactAddSizesWrong : ChangeSpec := { name := "fnExactAddSizes", fn := fun _ => fun
  | [d1, d2] => { results := [.lit (.bool false)], args := [d1, d2] }
  | _ => none }
def FnExactAddSizesWrongFalsely : Prop := fnExactAddSizesRow.holds Try.pinned (OpenSpec.ofChange fnExactAddSizesWrong)

/-- 'laws.FnExactWaterOf': WHATEVER THE INPUT: true; the input reads as it did. -/
def fnExactWaterOfSpec : ChangeSpec := { name := "fnExactWaterOf", fn := fun _ => fun
  | [d] => { results := [.lit (.bool true)], args := [d] }
  | _ => none }
def fnExactWaterOfRow : OpenClaim := { program := "ytocjhackncfjpaa", sum := "91be05ee446637088fb65becc4ac7937caac0121915fc0db3b4a52711980ad9c", func := "loop.example/g01224/laws.FnExactWaterOf", spec := "fnExactWaterOf", inPlace := ["math.Float32bits"], apart := false }
def FnExactWaterOfSaid : Prop := fnExactWaterOfRow.holds Try.pinned (OpenSpec.ofChange fnExactWaterOfSpec)

/-- ITS FALSE NEIGHBOUR: 'it returns false'. Refute it at one input. -/
def fnExactWaterOfWrong : ChangeSpec := { name := "fnExactWaterOf", fn := fun _ => fun
  | [d] => { results := [.lit (.bool false)], args := [d] }
  | _ => none }
def FnExactWaterOfWrongFalsely : Prop := fnExactWaterOfRow.holds Try.pinned (OpenSpec.ofChange fnExactWaterOfWrong)

/-- 'laws.FnExactScaleSizes': WHATEVER THE INPUT: true; the input reads as it did. -/
def fnExactScaleSizesSpec : ChangeSpec := { name := "fnExactScaleSizes", fn := fun _ => fun
  | [d1, d2] => { results := [.lit (.bool true)], args := [d1, d2] }
  | _ => none }
def fnExactScaleSizesRow : OpenClaim := { program := "ytocjhackncfjpaa", sum := "91be05ee446637088fb65becc4ac7937caac0121915fc0db3b4a52711980ad9c", func := "loop.example/g01224/laws.FnExactScaleSizes", spec := "fnExactScaleSizes", inPlace := ["math.Float32bits"], apart := false }
def FnExactScaleSizesSaid : Prop := fnExactScaleSizesRow.holds Try.pinned (OpenSpec.ofChange fnExactScaleSizesSpec)

/-- ITS FALSE NEIGHBOUR: 'it returns false'. Refute it at one input. -/
def fnExactScaleSizesWrong : ChangeSpec := { name := "fnExactScaleSizes", fn := fun _ => fun
  | [d1, d2] => { results := [.lit (.bool false)], args := [d1, d2] }
  | _ => none }
def FnExactScaleSizesWrongFalsely : Prop := fnExactScaleSizesRow.holds Try.pinned (OpenSpec.ofChange fnExactScaleSizesWrong)

/-- 'laws.FnExactMixSizes': WHATEVER THE INPUT: true; the input reads as it did. -/
def fnExactMixSizesSpec : ChangeSpec := { name := "fnExactMixSizes", fn := fun _ => fun
  | [d1, d2, d3] => { results := [.lit (.bool true)], args := [d1, d2, d3] }
  | _ => none }
def fnExactMixSizesRow : OpenClaim := { program := "ytocjhackncfjpaa", sum := "91be05ee446637088fb65becc4ac7937caac0121915fc0db3b4a52711980ad9c", func := "loop.example/g01224/laws.FnExactMixSizes", spec := "fnExactMixSizes", inPlace := ["math.Float32bits"], apart := false }
def FnExactMixSizesSaid : Prop := fnExactMixSizesRow.holds Try.pinned (OpenSpec.ofChange fnExactMixSizesSpec)

/-- ITS FALSE NEIGHBOUR: 'it returns false'. Refute it at one input. -/
def fnExactMixSizesWrong : ChangeSpec := { name := "fnExactMixSizes", fn := fun _ => fun
  | [d1, d2, d3] => { results := [.lit (.bool false)], args := [d1, d2, d3] }
  | _ => none }
def FnExactMixSizesWrongFalsely : Prop := fnExactMixSizesRow.holds Try.pinned (OpenSpec.ofChange fnExactMixSizesWrong)

/-- 'laws.FnExactAtLeast': WHATEVER THE INPUT: true; the input reads as it did. -/
def fnExactAtLeastSpec : ChangeSpec := { name := "fnExactAtLeast", fn := fun _ => fun
  | [d1, d2] => { results := [.lit (.bool true)], args := [d1, d2] }
  | _ => none }
def fnExactAtLeastRow : OpenClaim := { program := "ytocjhackncfjpaa", sum := "91be05ee446637088fb65becc4ac7937caac0121915fc0db3b4a52711980ad9c", func := "loop.example/g01224/laws.FnExactAtLeast", spec := "fnExactAtLeast", inPlace := ["math.Float32bits"], apart := false }
def FnExactAtLeastSaid : Prop := fnExactAtLeastRow.holds Try.pinned (OpenSpec.ofChange fnExactAtLeastSpec)

/-- ITS FALSE NEIGHBOUR: 'it returns false'. Refute it at one input. -/
def fnExactAtLeastWrong : ChangeSpec := { name := "fnExactAtLeast", fn := fun _ => fun
  | [d1, d2] => { results := [.lit (.bool false)], args := [d1, d2] }
  | _ => none }
def FnExactAtLeastWrongFalsely : Prop := fnExactAtLeastRow.holds Try.pinned (OpenSpec.ofChange fnExactAtLeastWrong)

/-- 'laws.FnExactMeanMass': WHATEVER THE INPUT: true; the input reads as it did. -/
def fnExactMeanMassSpec : ChangeSpec := { name := "fnExactMeanMass", fn := fun _ => fun
  | [d] => { results := [.lit (.bool true)], args := [d] }
  | _ => none }
def fnExactMeanMassRow : OpenClaim := { program := "ytocjhackncfjpaa", sum := "91be05ee446637088fb65becc4ac7937caac0121915fc0db3b4a52711980ad9c", func := "loop.example/g01224/laws.FnExactMeanMass", spec := "fnExactMeanMass", inPlace := ["math.Float32bits"], apart := false }
def FnExactMeanMassSaid : Prop := fnExactMeanMassRow.holds Try.pinned (OpenSpec.ofChange fnExactMeanMassSpec)

/-- ITS FALSE NEIGHBOUR: 'it returns false'. Refute it at one input. -/
def fnExactMeanMassWrong : ChangeSpec := { name := "fnExactMeanMass", fn := fun _ => fun
  | [d] => { results := [.lit (.bool false)], args := [d] }
  | _ => none }
def FnExactMeanMassWrongFalsely : Prop := fnExactMeanMassRow.holds Try.pinned (OpenSpec.ofChange fnExactMeanMassWrong)

/- THE SECOND FORM. 'bulk': how many values and letters a reading holds, each counted each time it is reached (what is shared counts as often as it is met; a slice's spare places count too). A statement '..UptoSaid' is the law's where the arguments, and the package variables that the reading takes, are together of bulk at most 1048576: NARROWER than '..Said'. Prove '..Said' where nothing that the law and all that it calls make is longer than what came in: it says more and counts as full. Else prove '..UptoSaid'. A law counts once. -/
mutual
def uptoBulk {H : Type} : DataW H → Nat
  | .lit (.string bytes) => bytes.length + 1
  | .lit _ => 1
  | .nil => 1
  | .ptr d => uptoBulk d + 1
  | .slice elems spare => uptoBulkAll elems + uptoBulkAll spare + 1
  | .agg parts => uptoBulkAll parts + 1
  | .iface _ d => uptoBulk d + 1
  | .map entries => uptoBulkEntries entries + 1
  | .held _ => 1
def uptoBulkAll {H : Type} : List (DataW H) → Nat
  | [] => 0
  | d :: r => uptoBulk d + uptoBulkAll r
def uptoBulkEntries {H : Type} : List (Lit × DataW H) → Nat
  | [] => 0
  | x :: r => uptoBulkEntry x + uptoBulkEntries r
def uptoBulkEntry {H : Type} : Lit × DataW H → Nat
  | (.string bytes, d) => bytes.length + uptoBulk d + 1
  | (_, d) => uptoBulk d + 1
 end
def uptoSmall : (H : Type) → List (DataW H) → Bool := fun _ ds => decide (uptoBulkAll ds ≤ 1048576)
def OpenSpec.upto (s : _root_.Go.ChangeSpec) : _root_.Go.OpenSpec := { _root_.Go.OpenSpec.ofChange s with cond := some uptoSmall }

/-- 'laws.FnExactTakeShare', WHERE WHAT IT READS IS OF BULK AT MOST 1048576: true; the input reads as it did. -/
def fnExactTakeShareUptoRow : OpenClaim := { program := "ytocjhackncfjpaa", sum := "91be05ee446637088fb65becc4ac7937caac0121915fc0db3b4a52711980ad9c", func := "loop.example/g01224/laws.FnExactTakeShare", spec := "fnExactTakeShare", inPlace := ["math.Float32bits"], apart := false, narrowed := true }
def FnExactTakeShareUptoSaid : Prop := fnExactTakeShareUptoRow.holds Try.pinned (OpenSpec.upto fnExactTakeShareSpec)

/-- 'laws.FnExactCountOf', WHERE WHAT IT READS IS OF BULK AT MOST 1048576: true; the input reads as it did. -/
def fnExactCountOfUptoRow : OpenClaim := { program := "ytocjhackncfjpaa", sum := "91be05ee446637088fb65becc4ac7937caac0121915fc0db3b4a52711980ad9c", func := "loop.example/g01224/laws.FnExactCountOf", spec := "fnExactCountOf", inPlace := ["math.Float32bits"], apart := false, narrowed := true }
def FnExactCountOfUptoSaid : Prop := fnExactCountOfUptoRow.holds Try.pinned (OpenSpec.upto fnExactCountOfSpec)

/-- 'laws.FnExactAddSizes', WHERE WHAT IT READS IS OF BULK AT MOST 1048576: true; the input reads as it did. -/
def fnExactAddSizesUptoRow : OpenClaim := { program := "ytocjhackncfjpaa", sum := "91be05ee446637088fb65becc4ac7937caac0121915fc0db3b4a52711980ad9c", func := "loop.example/g01224/laws.FnExactAddSizes", spec := "fnExactAddSizes", inPlace := ["math.Float32bits"], apart := false, narrowed := true }
def FnExactAddSizesUptoSaid : Prop := fnExactAddSizesUptoRow.holds Try.pinned (OpenSpec.upto fnExactAddSizesSpec)

/-- 'laws.FnExactWaterOf', WHERE WHAT IT READS IS OF BULK AT MOST 1048576: true; the input reads as it did. -/
def fnExactWaterOfUptoRow : OpenClaim := { program := "ytocjhackncfjpaa", sum := "91be05ee446637088fb65becc4ac7937caac0121915fc0db3b4a52711980ad9c", func := "loop.example/g01224/laws.FnExactWaterOf", spec := "fnExactWaterOf", inPlace := ["math.Float32bits"], apart := false, narrowed := true }
def FnExactWaterOfUptoSaid : Prop := fnExactWaterOfUptoRow.holds Try.pinned (OpenSpec.upto fnExactWaterOfSpec)

/-- 'laws.FnExactScaleSizes', WHERE WHAT IT READS IS OF BULK AT MOST 1048576: true; the input reads as it did. -/
def fnExactScaleSizesUptoRow : OpenClaim := { program := "ytocjhackncfjpaa", sum := "91be05ee446637088fb65becc4ac7937caac0121915fc0db3b4a52711980ad9c", func := "loop.example/g01224/laws.FnExactScaleSizes", spec := "fnExactScaleSizes", inPlace := ["math.Float32bits"], apart := false, narrowed := true }
def FnExactScaleSizesUptoSaid : Prop := fnExactScaleSizesUptoRow.holds Try.pinned (OpenSpec.upto fnExactScaleSizesSpec)

/-- 'laws.FnExactMixSizes', WHERE WHAT IT READS IS OF BULK AT MOST 1048576: true; the input reads as it did. -/
def fnExactMixSizesUptoRow : OpenClaim := { program := "ytocjhackncfjpaa", sum := "91be05ee446637088fb65becc4ac7937caac0121915fc0db3b4a52711980ad9c", func := "loop.example/g01224/laws.FnExactMixSizes", spec := "fnExactMixSizes", inPlace := ["math.Float32bits"], apart := false, narrowed := true }
def FnExactMixSizesUptoSaid : Prop := fnExactMixSizesUptoRow.holds Try.pinned (OpenSpec.upto fnExactMixSizesSpec)

/-- 'laws.FnExactAtLeast', WHERE WHAT IT READS IS OF BULK AT MOST 1048576: true; the input reads as it did. -/
def fnExactAtLeastUptoRow : OpenClaim := { program := "ytocjhackncfjpaa", sum := "91be05ee446637088fb65becc4ac7937caac0121915fc0db3b4a52711980ad9c", func := "loop.example/g01224/laws.FnExactAtLeast", spec := "fnExactAtLeast", inPlace := ["math.Float32bits"], apart := false, narrowed := true }
def FnExactAtLeastUptoSaid : Prop := fnExactAtLeastUptoRow.holds Try.pinned (OpenSpec.upto fnExactAtLeastSpec)

/-- 'laws.FnExactMeanMass', WHERE WHAT IT READS IS OF BULK AT MOST 1048576: true; the input reads as it did. -/
def fnExactMeanMassUptoRow : OpenClaim := { program := "ytocjhackncfjpaa", sum := "91be05ee446637088fb65becc4ac7937caac0121915fc0db3b4a52711980ad9c", func := "loop.example/g01224/laws.FnExactMeanMass", spec := "fnExactMeanMass", inPlace := ["math.Float32bits"], apart := false, narrowed := true }
def FnExactMeanMassUptoSaid : Prop := fnExactMeanMassUptoRow.holds Try.pinned (OpenSpec.upto fnExactMeanMassSpec)

end Rows
end Go.Proofs.Ytocjhackncfjpaa
