/-
  No cell of these rows narrows 'for every input' (looked for: loops, veiled, ifaces, maps, wideKeys, modest, calm, conditions, laid).
  DERIVED. THE GIVEN ROWS OF THIS SEAT. 12 by the template 'for every input the law returns true; each argument reads behind the call as it read before'; 0 by the template 'total and deterministic' (their statements: YtlmkcppmmggjaaaTotals.lean).
  GIVEN WITH THE SEED: the statements are not yours to turn. If you find one false, say at which input.
  Laid BY PROGRAM, IN A SANDBOX (cutbox-rows.mjs): the forced cells as the released guide's own fill.sh prints them over the translation 0361bdecb1fd7738… (all of the seat's roots in one cut). By AI agents, Wed Nov 11 2026. No macro, syntax, notation, axiom, sorry.
-/
import Derived.Test.YtlmkcppmmggjaaaChecked
import GoSem.Claim
import GoSem.ClaimJoined
import GoSem.ClaimMapViews
import Derived.JoinedTies
import Derived.KernelRfl
namespace Go.Proofs.Ytlmkcppmmggjaaa
/- THE CELL 'sum', in the pinned program and in every row, IS THE sha256 OF THE DUMP (.gsa) THAT YtlmkcppmmggjaaaProg.lean LOADS. Nothing in Lean hashes anything: it is a label: what it is worth is what the hold of that sum in a sandbox is worth. -/
noncomputable def Try.pinned : Pinned := { name := "ytlmkcppmmggjaaa", sum := "0361bdecb1fd7738c8b489d8964ed5ebb68660d92f9c8fe3ab126799049c6f34", checked := Try.checked }
namespace Rows
def none {H : Type} : Left H := { results := [], args := [] }

/-- 'laws.FnExactConstants': WHATEVER THE INPUT: true; the input reads as it did. -/
def fnExactConstantsSpec : ChangeSpec := { name := "fnExactConstants", fn := fun _ => fun
  | [] => { results := [.lit (.bool true)], args := [] }
  | _ => none }
def fnExactConstantsRow : OpenClaim := { program := "ytlmkcppmmggjaaa", sum := "0361bdecb1fd7738c8b489d8964ed5ebb68660d92f9c8fe3ab126799049c6f34", func := "loop.example/g01224/laws.FnExactConstants", spec := "fnExactConstants", apart := false }
def FnExactConstantsSaid : Prop := fnExactConstantsRow.holds Try.pinned (OpenSpec.ofChange fnExactConstantsSpec)

/-- ITS FALSE NEIGHBOUR: 'it returns false'. Refute it at one input. -/
def fnExactConstantsWrong : ChangeSpec := { name := "fnExactConstants", fn := fun _ => fun
  | [] => { results := [.lit (.bool false)], args := [] }
  | _ => none }
def FnExactConstantsWrongFalsely : Prop := fnExactConstantsRow.holds Try.pinned (OpenSpec.ofChange fnExactConstantsWrong)

/-- 'laws.FnExactSameNumber': WHATEVER THE INPUT: true; the input reads as it did. -/
def fnExactSameNumberSpec : ChangeSpec := { name := "fnExactSameNumber", fn := fun _ => fun
  | [d1, d2] => { results := [.lit (.bool true)], args := [d1, d2] }
  | _ => none }
def fnExactSameNumberRow : OpenClaim := { program := "ytlmkcppmmggjaaa", sum := "0361bdecb1fd7738c8b489d8964ed5ebb68660d92f9c8fe3ab126799049c6f34", func := "loop.example/g01224/laws.FnExactSameNumber", spec := "fnExactSameNumber", inPlace := ["math.Float32bits"], apart := false }
def FnExactSameNumberSaid : Prop := fnExactSameNumberRow.holds Try.pinned (OpenSpec.ofChange fnExactSameNumberSpec)

/-- ITS FALSE NEIGHBOUR: 'it returns false'. Refute it at one input. -/
def fnExactSameNumberWrong : ChangeSpec := { name := "fnExactSameNumber", fn := fun _ => fun
  | [d1, d2] => { results := [.lit (.bool false)], args := [d1, d2] }
  | _ => none }
def FnExactSameNumberWrongFalsely : Prop := fnExactSameNumberRow.holds Try.pinned (OpenSpec.ofChange fnExactSameNumberWrong)

/-- 'laws.FnExactCodeName': WHATEVER THE INPUT: true; the input reads as it did. -/
def fnExactCodeNameSpec : ChangeSpec := { name := "fnExactCodeName", fn := fun _ => fun
  | [d] => { results := [.lit (.bool true)], args := [d] }
  | _ => none }
def fnExactCodeNameRow : OpenClaim := { program := "ytlmkcppmmggjaaa", sum := "0361bdecb1fd7738c8b489d8964ed5ebb68660d92f9c8fe3ab126799049c6f34", func := "loop.example/g01224/laws.FnExactCodeName", spec := "fnExactCodeName", apart := false }
def FnExactCodeNameSaid : Prop := fnExactCodeNameRow.holds Try.pinned (OpenSpec.ofChange fnExactCodeNameSpec)

/-- ITS FALSE NEIGHBOUR: 'it returns false'. Refute it at one input. -/
def fnExactCodeNameWrong : ChangeSpec := { name := "fnExactCodeName", fn := fun _ => fun
  | [d] => { results := [.lit (.bool false)], args := [d] }
  | _ => none }
def FnExactCodeNameWrongFalsely : Prop := fnExactCodeNameRow.holds Try.pinned (OpenSpec.ofChange fnExactCodeNameWrong)

/-- 'laws.FnExactSameAir': WHATEVER THE INPUT: true; the input reads as it did. -/
def fnExactSameAirSpec : ChangeSpec := { name := "fnExactSameAir", fn := fun _ => fun
  | [d1, d2] => { results := [.lit (.bool true)], args := [d1, d2] }
  | _ => none }
def fnExactSameAirRow : OpenClaim := { program := "ytlmkcppmmggjaaa", sum := "0361bdecb1fd7738c8b489d8964ed5ebb68660d92f9c8fe3ab126799049c6f34", func := "loop.example/g01224/laws.FnExactSameAir", spec := "fnExactSameAir", inPlace := ["math.Float32bits"], apart := false }
def FnExactSameAirSaid : Prop := fnExactSameAirRow.holds Try.pinned (OpenSpec.ofChange fnExactSameAirSpec)

/-- ITS FALSE NEIGHBOUR: 'it returns false'. Refute it at one input. -/
def fnExactSameAirWrong : ChangeSpec := { name := "fnExactSameAir", fn := fun _ => fun
  | [d1, d2] => { results := [.lit (.bool false)], args := [d1, d2] }
  | _ => none }
def FnExactSameAirWrongFalsely : Prop := fnExactSameAirRow.holds Try.pinned (OpenSpec.ofChange fnExactSameAirWrong)

/-- 'laws.FnExactEdgeOf': WHATEVER THE INPUT: true; the input reads as it did. -/
def fnExactEdgeOfSpec : ChangeSpec := { name := "fnExactEdgeOf", fn := fun _ => fun
  | [d] => { results := [.lit (.bool true)], args := [d] }
  | _ => none }
def fnExactEdgeOfRow : OpenClaim := { program := "ytlmkcppmmggjaaa", sum := "0361bdecb1fd7738c8b489d8964ed5ebb68660d92f9c8fe3ab126799049c6f34", func := "loop.example/g01224/laws.FnExactEdgeOf", spec := "fnExactEdgeOf", apart := false }
def FnExactEdgeOfSaid : Prop := fnExactEdgeOfRow.holds Try.pinned (OpenSpec.ofChange fnExactEdgeOfSpec)

/-- ITS FALSE NEIGHBOUR: 'it returns false'. Refute it at one input. -/
def fnExactEdgeOfWrong : ChangeSpec := { name := "fnExactEdgeOf", fn := fun _ => fun
  | [d] => { results := [.lit (.bool false)], args := [d] }
  | _ => none }
def FnExactEdgeOfWrongFalsely : Prop := fnExactEdgeOfRow.holds Try.pinned (OpenSpec.ofChange fnExactEdgeOfWrong)

/-- 'laws.FnExactMassOf': WHATEVER THE INPUT: true; the input reads as it did. -/
def fnExactMassOfSpec : ChangeSpec := { name := "fnExactMassOf", fn := fun _ => fun
  | [d] => { results := [.lit (.bool true)], args := [d] }
  | _ => none }
def fnExactMassOfRow : OpenClaim := { program := "ytlmkcppmmggjaaa", sum := "0361bdecb1fd7738c8b489d8964ed5ebb68660d92f9c8fe3ab126799049c6f34", func := "loop.example/g01224/laws.FnExactMassOf", spec := "fnExactMassOf", apart := false }
def FnExactMassOfSaid : Prop := fnExactMassOfRow.holds Try.pinned (OpenSpec.ofChange fnExactMassOfSpec)

/-- ITS FALSE NEIGHBOUR: 'it returns false'. Refute it at one input. -/
def fnExactMassOfWrong : ChangeSpec := { name := "fnExactMassOf", fn := fun _ => fun
  | [d] => { results := [.lit (.bool false)], args := [d] }
  | _ => none }
def FnExactMassOfWrongFalsely : Prop := fnExactMassOfRow.holds Try.pinned (OpenSpec.ofChange fnExactMassOfWrong)

/-- 'laws.FnExactValidAir': WHATEVER THE INPUT: true; the input reads as it did. -/
def fnExactValidAirSpec : ChangeSpec := { name := "fnExactValidAir", fn := fun _ => fun
  | [d] => { results := [.lit (.bool true)], args := [d] }
  | _ => none }
def fnExactValidAirRow : OpenClaim := { program := "ytlmkcppmmggjaaa", sum := "0361bdecb1fd7738c8b489d8964ed5ebb68660d92f9c8fe3ab126799049c6f34", func := "loop.example/g01224/laws.FnExactValidAir", spec := "fnExactValidAir", inPlace := ["math.Float32bits"], apart := false }
def FnExactValidAirSaid : Prop := fnExactValidAirRow.holds Try.pinned (OpenSpec.ofChange fnExactValidAirSpec)

/-- ITS FALSE NEIGHBOUR: 'it returns false'. Refute it at one input. -/
def fnExactValidAirWrong : ChangeSpec := { name := "fnExactValidAir", fn := fun _ => fun
  | [d] => { results := [.lit (.bool false)], args := [d] }
  | _ => none }
def FnExactValidAirWrongFalsely : Prop := fnExactValidAirRow.holds Try.pinned (OpenSpec.ofChange fnExactValidAirWrong)

/-- 'laws.FnExactValidBox': WHATEVER THE INPUT: true; the input reads as it did. -/
def fnExactValidBoxSpec : ChangeSpec := { name := "fnExactValidBox", fn := fun _ => fun
  | [d] => { results := [.lit (.bool true)], args := [d] }
  | _ => none }
def fnExactValidBoxRow : OpenClaim := { program := "ytlmkcppmmggjaaa", sum := "0361bdecb1fd7738c8b489d8964ed5ebb68660d92f9c8fe3ab126799049c6f34", func := "loop.example/g01224/laws.FnExactValidBox", spec := "fnExactValidBox", apart := false }
def FnExactValidBoxSaid : Prop := fnExactValidBoxRow.holds Try.pinned (OpenSpec.ofChange fnExactValidBoxSpec)

/-- ITS FALSE NEIGHBOUR: 'it returns false'. Refute it at one input. -/
def fnExactValidBoxWrong : ChangeSpec := { name := "fnExactValidBox", fn := fun _ => fun
  | [d] => { results := [.lit (.bool false)], args := [d] }
  | _ => none }
def FnExactValidBoxWrongFalsely : Prop := fnExactValidBoxRow.holds Try.pinned (OpenSpec.ofChange fnExactValidBoxWrong)

/-- 'laws.FnExactSameSizes': WHATEVER THE INPUT: true; the input reads as it did. -/
def fnExactSameSizesSpec : ChangeSpec := { name := "fnExactSameSizes", fn := fun _ => fun
  | [d1, d2] => { results := [.lit (.bool true)], args := [d1, d2] }
  | _ => none }
def fnExactSameSizesRow : OpenClaim := { program := "ytlmkcppmmggjaaa", sum := "0361bdecb1fd7738c8b489d8964ed5ebb68660d92f9c8fe3ab126799049c6f34", func := "loop.example/g01224/laws.FnExactSameSizes", spec := "fnExactSameSizes", inPlace := ["math.Float32bits"], apart := false }
def FnExactSameSizesSaid : Prop := fnExactSameSizesRow.holds Try.pinned (OpenSpec.ofChange fnExactSameSizesSpec)

/-- ITS FALSE NEIGHBOUR: 'it returns false'. Refute it at one input. -/
def fnExactSameSizesWrong : ChangeSpec := { name := "fnExactSameSizes", fn := fun _ => fun
  | [d1, d2] => { results := [.lit (.bool false)], args := [d1, d2] }
  | _ => none }
def FnExactSameSizesWrongFalsely : Prop := fnExactSameSizesRow.holds Try.pinned (OpenSpec.ofChange fnExactSameSizesWrong)

/-- 'laws.FnExactClassFor': WHATEVER THE INPUT: true; the input reads as it did. -/
def fnExactClassForSpec : ChangeSpec := { name := "fnExactClassFor", fn := fun _ => fun
  | [d] => { results := [.lit (.bool true)], args := [d] }
  | _ => none }
def fnExactClassForRow : OpenClaim := { program := "ytlmkcppmmggjaaa", sum := "0361bdecb1fd7738c8b489d8964ed5ebb68660d92f9c8fe3ab126799049c6f34", func := "loop.example/g01224/laws.FnExactClassFor", spec := "fnExactClassFor", apart := false }
def FnExactClassForSaid : Prop := fnExactClassForRow.holds Try.pinned (OpenSpec.ofChange fnExactClassForSpec)

/-- ITS FALSE NEIGHBOUR: 'it returns false'. Refute it at one input. -/
def fnExactClassForWrong : ChangeSpec := { name := "fnExactClassFor", fn := fun _ => fun
  | [d] => { results := [.lit (.bool false)], args := [d] }
  | _ => none }
def FnExactClassForWrongFalsely : Prop := fnExactClassForRow.holds Try.pinned (OpenSpec.ofChange fnExactClassForWrong)

/-- 'laws.FnExactValidSizes': WHATEVER THE INPUT: true; the input reads as it did. -/
def fnExactValidSizesSpec : ChangeSpec := { name := "fnExactValidSizes", fn := fun _ => fun
  | [d] => { results := [.lit (.bool true)], args := [d] }
  | _ => none }
def fnExactValidSizesRow : OpenClaim := { program := "ytlmkcppmmggjaaa", sum := "0361bdecb1fd7738c8b489d8964ed5ebb68660d92f9c8fe3ab126799049c6f34", func := "loop.example/g01224/laws.FnExactValidSizes", spec := "fnExactValidSizes", inPlace := ["math.Float32bits"], apart := false }
def FnExactValidSizesSaid : Prop := fnExactValidSizesRow.holds Try.pinned (OpenSpec.ofChange fnExactValidSizesSpec)

/-- ITS FALSE NEIGHBOUR: 'it returns false'. Refute it at one input. -/
def fnExactValidSizesWrong : ChangeSpec := { name := "fnExactValidSizes", fn := fun _ => fun
  | [d] => { results := [.lit (.bool false)], args := [d] }
  | _ => none }
def FnExactValidSizesWrongFalsely : Prop := fnExactValidSizesRow.holds Try.pinned (OpenSpec.ofChange fnExactValidSizesWrong)

/-- 'laws.FnExactMassOfBox': WHATEVER THE INPUT: true; the input reads as it did. -/
def fnExactMassOfBoxSpec : ChangeSpec := { name := "fnExactMassOfBox", fn := fun _ => fun
  | [d] => { results := [.lit (.bool true)], args := [d] }
  | _ => none }
def fnExactMassOfBoxRow : OpenClaim := { program := "ytlmkcppmmggjaaa", sum := "0361bdecb1fd7738c8b489d8964ed5ebb68660d92f9c8fe3ab126799049c6f34", func := "loop.example/g01224/laws.FnExactMassOfBox", spec := "fnExactMassOfBox", apart := false }
def FnExactMassOfBoxSaid : Prop := fnExactMassOfBoxRow.holds Try.pinned (OpenSpec.ofChange fnExactMassOfBoxSpec)

/-- ITS FALSE NEIGHBOUR: 'it returns false'. Refute it at one input. -/
def fnExactMassOfBoxWrong : ChangeSpec := { name := "fnExactMassOfBox", fn := fun _ => fun
  | [d] => { results := [.lit (.bool false)], args := [d] }
  | _ => none }
def FnExactMassOfBoxWrongFalsely : Prop := fnExactMassOfBoxRow.holds Try.pinned (OpenSpec.ofChange fnExactMassOfBoxWrong)

/- THE SECOND FORM. 'bulk': how many values and letters a reading holds, each counted each time it is reached (what is shared counts as often as it is met; a slice's spare places count too). A statement '..UptoSaid' is the law's where the arguments, and the package variables that the reading takes, are together of bulk at most 1048576: NARROWER than '..Said'. Prove '..Said' where nothing that the law and all that it calls make is longer than what came in: it says more and counts as full. Else prove '..UptoSaid'. A law counts once. -/
mutual
def uptoBulk {H : Type} : DataW H → Nat
  | .lit (.string bytes) => bytes.length + 1
  | .lit _ => 1
  | .nil => 1
  | .ptr d => uptoBulk d + 1
  | .slice elems spare => uptoBulkAll elems + uptoBulkAll spare + 1
  | .agg parts => uptoBulkAll parts + 1
  | .iface _ d => uptoBulk d + 1
  | .map entries => uptoBulkEntries entries + 1
  | .held _ => 1
def uptoBulkAll {H : Type} : List (DataW H) → Nat
  | [] => 0
  | d :: r => uptoBulk d + uptoBulkAll r
def uptoBulkEntries {H : Type} : List (Lit × DataW H) → Nat
  | [] => 0
  | x :: r => uptoBulkEntry x + uptoBulkEntries r
def uptoBulkEntry {H : Type} : Lit × DataW H → Nat
  | (.string bytes, d) => bytes.length + uptoBulk d + 1
  | (_, d) => uptoBulk d + 1
 end
def uptoSmall : (H : Type) → List (DataW H) → Bool := fun _ ds => decide (uptoBulkAll ds ≤ 1048576)
def OpenSpec.upto (s : _root_.Go.ChangeSpec) : _root_.Go.OpenSpec := { _root_.Go.OpenSpec.ofChange s with cond := some uptoSmall }

/-- 'laws.FnExactConstants', WHERE WHAT IT READS IS OF BULK AT MOST 1048576: true; the input reads as it did. -/
def fnExactConstantsUptoRow : OpenClaim := { program := "ytlmkcppmmggjaaa", sum := "0361bdecb1fd7738c8b489d8964ed5ebb68660d92f9c8fe3ab126799049c6f34", func := "loop.example/g01224/laws.FnExactConstants", spec := "fnExactConstants", apart := false, narrowed := true }
def FnExactConstantsUptoSaid : Prop := fnExactConstantsUptoRow.holds Try.pinned (OpenSpec.upto fnExactConstantsSpec)

/-- 'laws.FnExactSameNumber', WHERE WHAT IT READS IS OF BULK AT MOST 1048576: true; the input reads as it did. -/
def fnExactSameNumberUptoRow : OpenClaim := { program := "ytlmkcppmmggjaaa", sum := "0361bdecb1fd7738c8b489d8964ed5ebb68660d92f9c8fe3ab126799049c6f34", func := "loop.example/g01224/laws.FnExactSameNumber", spec := "fnExactSameNumber", inPlace := ["math.Float32bits"], apart := false, narrowed := true }
def FnExactSameNumberUptoSaid : Prop := fnExactSameNumberUptoRow.holds Try.pinned (OpenSpec.upto fnExactSameNumberSpec)

/-- 'laws.FnExactCodeName', WHERE WHAT IT READS IS OF BULK AT MOST 1048576: true; the input reads as it did. -/
def fnExactCodeNameUptoRow : OpenClaim := { program := "ytlmkcppmmggjaaa", sum := "0361bdecb1fd7738c8b489d8964ed5ebb68660d92f9c8fe3ab126799049c6f34", func := "loop.example/g01224/laws.FnExactCodeName", spec := "fnExactCodeName", apart := false, narrowed := true }
def FnExactCodeNameUptoSaid : Prop := fnExactCodeNameUptoRow.holds Try.pinned (OpenSpec.upto fnExactCodeNameSpec)

/-- 'laws.FnExactSameAir', WHERE WHAT IT READS IS OF BULK AT MOST 1048576: true; the input reads as it did. -/
def fnExactSameAirUptoRow : OpenClaim := { program := "ytlmkcppmmggjaaa", sum := "0361bdecb1fd7738c8b489d8964ed5ebb68660d92f9c8fe3ab126799049c6f34", func := "loop.example/g01224/laws.FnExactSameAir", spec := "fnExactSameAir", inPlace := ["math.Float32bits"], apart := false, narrowed := true }
def FnExactSameAirUptoSaid : Prop := fnExactSameAirUptoRow.holds Try.pinned (OpenSpec.upto fnExactSameAirSpec)

/-- 'laws.FnExactEdgeOf', WHERE WHAT IT READS IS OF BULK AT MOST 1048576: true; the input reads as it did. -/
def fnExactEdgeOfUptoRow : OpenClaim := { program := "ytlmkcppmmggjaaa", sum := "0361bdecb1fd7738c8b489d8964ed5ebb68660d92f9c8fe3ab126799049c6f34", func := "loop.example/g01224/laws.FnExactEdgeOf", spec := "fnExactEdgeOf", apart := false, narrowed := true }
def FnExactEdgeOfUptoSaid : Prop := fnExactEdgeOfUptoRow.holds Try.pinned (OpenSpec.upto fnExactEdgeOfSpec)

/-- 'laws.FnExactMassOf', WHERE WHAT IT READS IS OF BULK AT MOST 1048576: true; the input reads as it did. -/
def fnExactMassOfUptoRow : OpenClaim := { program := "ytlmkcppmmggjaaa", sum := "0361bdecb1fd7738c8b489d8964ed5ebb68660d92f9c8fe3ab126799049c6f34", func := "loop.example/g01224/laws.FnExactMassOf", spec := "fnExactMassOf", apart := false, narrowed := true }
def FnExactMassOfUptoSaid : Prop := fnExactMassOfUptoRow.holds Try.pinned (OpenSpec.upto fnExactMassOfSpec)

/-- 'laws.FnExactValidAir', WHERE WHAT IT READS IS OF BULK AT MOST 1048576: true; the input reads as it did. -/
def fnExactValidAirUptoRow : OpenClaim := { program := "ytlmkcppmmggjaaa", sum := "0361bdecb1fd7738c8b489d8964ed5ebb68660d92f9c8fe3ab126799049c6f34", func := "loop.example/g01224/laws.FnExactValidAir", spec := "fnExactValidAir", inPlace := ["math.Float32bits"], apart := false, narrowed := true }
def FnExactValidAirUptoSaid : Prop := fnExactValidAirUptoRow.holds Try.pinned (OpenSpec.upto fnExactValidAirSpec)

/-- 'laws.FnExactValidBox', WHERE WHAT IT READS IS OF BULK AT MOST 1048576: true; the input reads as it did. -/
def fnExactValidBoxUptoRow : OpenClaim := { program := "ytlmkcppmmggjaaa", sum := "0361bdecb1fd7738c8b489d8964ed5ebb68660d92f9c8fe3ab126799049c6f34", func := "loop.example/g01224/laws.FnExactValidBox", spec := "fnExactValidBox", apart := false, narrowed := true }
def FnExactValidBoxUptoSaid : Prop := fnExactValidBoxUptoRow.holds Try.pinned (OpenSpec.upto fnExactValidBoxSpec)

/-- 'laws.FnExactSameSizes', WHERE WHAT IT READS IS OF BULK AT MOST 1048576: true; the input reads as it did. -/
def fnExactSameSizesUptoRow : OpenClaim := { program := "ytlmkcppmmggjaaa", sum := "0361bdecb1fd7738c8b489d8964ed5ebb68660d92f9c8fe3ab126799049c6f34", func := "loop.example/g01224/laws.FnExactSameSizes", spec := "fnExactSameSizes", inPlace := ["math.Float32bits"], apart := false, narrowed := true }
def FnExactSameSizesUptoSaid : Prop := fnExactSameSizesUptoRow.holds Try.pinned (OpenSpec.upto fnExactSameSizesSpec)

/-- 'laws.FnExactClassFor', WHERE WHAT IT READS IS OF BULK AT MOST 1048576: true; the input reads as it did. -/
def fnExactClassForUptoRow : OpenClaim := { program := "ytlmkcppmmggjaaa", sum := "0361bdecb1fd7738c8b489d8964ed5ebb68660d92f9c8fe3ab126799049c6f34", func := "loop.example/g01224/laws.FnExactClassFor", spec := "fnExactClassFor", apart := false, narrowed := true }
def FnExactClassForUptoSaid : Prop := fnExactClassForUptoRow.holds Try.pinned (OpenSpec.upto fnExactClassForSpec)

/-- 'laws.FnExactValidSizes', WHERE WHAT IT READS IS OF BULK AT MOST 1048576: true; the input reads as it did. -/
def fnExactValidSizesUptoRow : OpenClaim := { program := "ytlmkcppmmggjaaa", sum := "0361bdecb1fd7738c8b489d8964ed5ebb68660d92f9c8fe3ab126799049c6f34", func := "loop.example/g01224/laws.FnExactValidSizes", spec := "fnExactValidSizes", inPlace := ["math.Float32bits"], apart := false, narrowed := true }
def FnExactValidSizesUptoSaid : Prop := fnExactValidSizesUptoRow.holds Try.pinned (OpenSpec.upto fnExactValidSizesSpec)

/-- 'laws.FnExactMassOfBox', WHERE WHAT IT READS IS OF BULK AT MOST 1048576: true; the input reads as it did. -/
def fnExactMassOfBoxUptoRow : OpenClaim := { program := "ytlmkcppmmggjaaa", sum := "0361bdecb1fd7738c8b489d8964ed5ebb68660d92f9c8fe3ab126799049c6f34", func := "loop.example/g01224/laws.FnExactMassOfBox", spec := "fnExactMassOfBox", apart := false, narrowed := true }
def FnExactMassOfBoxUptoSaid : Prop := fnExactMassOfBoxUptoRow.holds Try.pinned (OpenSpec.upto fnExactMassOfBoxSpec)

end Rows
end Go.Proofs.Ytlmkcppmmggjaaa
