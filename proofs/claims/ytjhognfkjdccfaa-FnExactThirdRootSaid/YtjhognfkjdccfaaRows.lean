/-
  No cell of these rows narrows 'for every input' (looked for: loops, veiled, ifaces, maps, wideKeys, modest, calm, conditions, laid).
  DERIVED. THE GIVEN ROWS OF THIS SEAT. 7 by the template 'for every input the law returns true; each argument reads behind the call as it read before'; 0 by the template 'total and deterministic' (their statements: YtjhognfkjdccfaaTotals.lean).
  GIVEN WITH THE SEED: the statements are not yours to turn. If you find one false, say at which input.
  Laid BY PROGRAM, IN A SANDBOX (cutbox-rows.mjs): the forced cells as the released guide's own fill.sh prints them over the translation a4693d14063f893b… (all of the seat's roots in one cut). By AI agents, Wed Nov 11 2026. No macro, syntax, notation, axiom, sorry.
-/
import Derived.Test.YtjhognfkjdccfaaChecked
import GoSem.Claim
import GoSem.ClaimJoined
import GoSem.ClaimMapViews
import Derived.JoinedTies
import Derived.KernelRfl
namespace Go.Proofs.Ytjhognfkjdccfaa
/- THE CELL 'sum', in the pinned program and in every row, IS THE sha256 OF THE DUMP (.gsa) THAT YtjhognfkjdccfaaProg.lean LOADS. Nothing in Lean hashes anything: it is a label: what it is worth is what the hold of that sum in a sandbox is worth. -/
noncomputable def Try.pinned : Pinned := { name := "ytjhognfkjdccfaa", sum := "a4693d14063f893b4afaa75c52cfad7d0b766c2a4db3425a1dc7671d53dad094", checked := Try.checked }
namespace Rows
def none {H : Type} : Left H := { results := [], args := [] }

/-- 'laws.FnExactRadiusOf': WHATEVER THE INPUT: true; the input reads as it did. -/
def fnExactRadiusOfSpec : ChangeSpec := { name := "fnExactRadiusOf", fn := fun _ => fun
  | [d] => { results := [.lit (.bool true)], args := [d] }
  | _ => none }
def fnExactRadiusOfRow : OpenClaim := { program := "ytjhognfkjdccfaa", sum := "a4693d14063f893b4afaa75c52cfad7d0b766c2a4db3425a1dc7671d53dad094", func := "loop.example/g01224/laws.FnExactRadiusOf", spec := "fnExactRadiusOf", apart := false }
def FnExactRadiusOfSaid : Prop := fnExactRadiusOfRow.holds Try.pinned (OpenSpec.ofChange fnExactRadiusOfSpec)

/-- ITS FALSE NEIGHBOUR: 'it returns false'. Refute it at one input. -/
def fnExactRadiusOfWrong : ChangeSpec := { name := "fnExactRadiusOf", fn := fun _ => fun
  | [d] => { results := [.lit (.bool false)], args := [d] }
  | _ => none }
def FnExactRadiusOfWrongFalsely : Prop := fnExactRadiusOfRow.holds Try.pinned (OpenSpec.ofChange fnExactRadiusOfWrong)

/-- 'laws.FnExactThirdRoot': WHATEVER THE INPUT: true; the input reads as it did. -/
def fnExactThirdRootSpec : ChangeSpec := { name := "fnExactThirdRoot", fn := fun _ => fun
  | [d] => { results := [.lit (.bool true)], args := [d] }
  | _ => none }
def fnExactThirdRootRow : OpenClaim := { program := "ytjhognfkjdccfaa", sum := "a4693d14063f893b4afaa75c52cfad7d0b766c2a4db3425a1dc7671d53dad094", func := "loop.example/g01224/laws.FnExactThirdRoot", spec := "fnExactThirdRoot", inPlace := ["math.Float32bits"], apart := false }
def FnExactThirdRootSaid : Prop := fnExactThirdRootRow.holds Try.pinned (OpenSpec.ofChange fnExactThirdRootSpec)

/-- ITS FALSE NEIGHBOUR: 'it returns false'. Refute it at one input. -/
def fnExactThirdRootWrong : ChangeSpec := { name := "fnExactThirdRoot", fn := fun _ => fun
  | [d] => { results := [.lit (.bool false)], args := [d] }
  | _ => none }
def FnExactThirdRootWrongFalsely : Prop := fnExactThirdRootRow.holds Try.pinned (OpenSpec.ofChange fnExactThirdRootWrong)

/-- 'laws.FnExactSpectrum': WHATEVER THE INPUT: true; the input reads as it did. -/
def fnExactSpectrumSpec : ChangeSpec := { name := "fnExactSpectrum", fn := fun _ => fun
  | [d1, d2] => { results := [.lit (.bool true)], args := [d1, d2] }
  | _ => none }
def fnExactSpectrumRow : OpenClaim := { program := "ytjhognfkjdccfaa", sum := "a4693d14063f893b4afaa75c52cfad7d0b766c2a4db3425a1dc7671d53dad094", func := "loop.example/g01224/laws.FnExactSpectrum", spec := "fnExactSpectrum", inPlace := ["math.Float32bits"], apart := false }
def FnExactSpectrumSaid : Prop := fnExactSpectrumRow.holds Try.pinned (OpenSpec.ofChange fnExactSpectrumSpec)

/-- ITS FALSE NEIGHBOUR: 'it returns false'. Refute it at one input. -/
def fnExactSpectrumWrong : ChangeSpec := { name := "fnExactSpectrum", fn := fun _ => fun
  | [d1, d2] => { results := [.lit (.bool false)], args := [d1, d2] }
  | _ => none }
def FnExactSpectrumWrongFalsely : Prop := fnExactSpectrumRow.holds Try.pinned (OpenSpec.ofChange fnExactSpectrumWrong)

/-- 'laws.FnExactGainsAt': WHATEVER THE INPUT: true; the input reads as it did. -/
def fnExactGainsAtSpec : ChangeSpec := { name := "fnExactGainsAt", fn := fun _ => fun
  | [d1, d2] => { results := [.lit (.bool true)], args := [d1, d2] }
  | _ => none }
def fnExactGainsAtRow : OpenClaim := { program := "ytjhognfkjdccfaa", sum := "a4693d14063f893b4afaa75c52cfad7d0b766c2a4db3425a1dc7671d53dad094", func := "loop.example/g01224/laws.FnExactGainsAt", spec := "fnExactGainsAt", inPlace := ["math.Float32bits"], apart := false }
def FnExactGainsAtSaid : Prop := fnExactGainsAtRow.holds Try.pinned (OpenSpec.ofChange fnExactGainsAtSpec)

/-- ITS FALSE NEIGHBOUR: 'it returns false'. Refute it at one input. -/
def fnExactGainsAtWrong : ChangeSpec := { name := "fnExactGainsAt", fn := fun _ => fun
  | [d1, d2] => { results := [.lit (.bool false)], args := [d1, d2] }
  | _ => none }
def FnExactGainsAtWrongFalsely : Prop := fnExactGainsAtRow.holds Try.pinned (OpenSpec.ofChange fnExactGainsAtWrong)

/-- 'laws.FnExactPutDroplets': WHATEVER THE INPUT: true; the input reads as it did. -/
def fnExactPutDropletsSpec : ChangeSpec := { name := "fnExactPutDroplets", fn := fun _ => fun
  | [d1, d2, d3] => { results := [.lit (.bool true)], args := [d1, d2, d3] }
  | _ => none }
def fnExactPutDropletsRow : OpenClaim := { program := "ytjhognfkjdccfaa", sum := "a4693d14063f893b4afaa75c52cfad7d0b766c2a4db3425a1dc7671d53dad094", func := "loop.example/g01224/laws.FnExactPutDroplets", spec := "fnExactPutDroplets", inPlace := ["math.Float32bits"], apart := false }
def FnExactPutDropletsSaid : Prop := fnExactPutDropletsRow.holds Try.pinned (OpenSpec.ofChange fnExactPutDropletsSpec)

/-- ITS FALSE NEIGHBOUR: 'it returns false'. Refute it at one input. -/
def fnExactPutDropletsWrong : ChangeSpec := { name := "fnExactPutDroplets", fn := fun _ => fun
  | [d1, d2, d3] => { results := [.lit (.bool false)], args := [d1, d2, d3] }
  | _ => none }
def FnExactPutDropletsWrongFalsely : Prop := fnExactPutDropletsRow.holds Try.pinned (OpenSpec.ofChange fnExactPutDropletsWrong)

/-- 'laws.FnExactMomentOf': WHATEVER THE INPUT: true; the input reads as it did. -/
def fnExactMomentOfSpec : ChangeSpec := { name := "fnExactMomentOf", fn := fun _ => fun
  | [d1, d2] => { results := [.lit (.bool true)], args := [d1, d2] }
  | _ => none }
def fnExactMomentOfRow : OpenClaim := { program := "ytjhognfkjdccfaa", sum := "a4693d14063f893b4afaa75c52cfad7d0b766c2a4db3425a1dc7671d53dad094", func := "loop.example/g01224/laws.FnExactMomentOf", spec := "fnExactMomentOf", inPlace := ["math.Float32bits"], apart := false }
def FnExactMomentOfSaid : Prop := fnExactMomentOfRow.holds Try.pinned (OpenSpec.ofChange fnExactMomentOfSpec)

/-- ITS FALSE NEIGHBOUR: 'it returns false'. Refute it at one input. -/
def fnExactMomentOfWrong : ChangeSpec := { name := "fnExactMomentOf", fn := fun _ => fun
  | [d1, d2] => { results := [.lit (.bool false)], args := [d1, d2] }
  | _ => none }
def FnExactMomentOfWrongFalsely : Prop := fnExactMomentOfRow.holds Try.pinned (OpenSpec.ofChange fnExactMomentOfWrong)

/-- 'laws.FnExactShiftMasses': WHATEVER THE INPUT: true; the input reads as it did. -/
def fnExactShiftMassesSpec : ChangeSpec := { name := "fnExactShiftMasses", fn := fun _ => fun
  | [d1, d2] => { results := [.lit (.bool true)], args := [d1, d2] }
  | _ => none }
def fnExactShiftMassesRow : OpenClaim := { program := "ytjhognfkjdccfaa", sum := "a4693d14063f893b4afaa75c52cfad7d0b766c2a4db3425a1dc7671d53dad094", func := "loop.example/g01224/laws.FnExactShiftMasses", spec := "fnExactShiftMasses", inPlace := ["math.Float32bits"], apart := false }
def FnExactShiftMassesSaid : Prop := fnExactShiftMassesRow.holds Try.pinned (OpenSpec.ofChange fnExactShiftMassesSpec)

/-- ITS FALSE NEIGHBOUR: 'it returns false'. Refute it at one input. -/
def fnExactShiftMassesWrong : ChangeSpec := { name := "fnExactShiftMasses", fn := fun _ => fun
  | [d1, d2] => { results := [.lit (.bool false)], args := [d1, d2] }
  | _ => none }
def FnExactShiftMassesWrongFalsely : Prop := fnExactShiftMassesRow.holds Try.pinned (OpenSpec.ofChange fnExactShiftMassesWrong)

/- THE SECOND FORM. 'bulk': how many values and letters a reading holds, each counted each time it is reached (what is shared counts as often as it is met; a slice's spare places count too). A statement '..UptoSaid' is the law's where the arguments, and the package variables that the reading takes, are together of bulk at most 1048576: NARROWER than '..Said'. Prove '..Said' where nothing that the law and all that it calls make is longer than what came in: it says more and counts as full. Else prove '..UptoSaid'. A law counts once. -/
mutual
def uptoBulk {H : Type} : DataW H → Nat
  | .lit (.string bytes) => bytes.length + 1
  | .lit _ => 1
  | .nil => 1
  | .ptr d => uptoBulk d + 1
  | .slice elems spare => uptoBulkAll elems + uptoBulkAll spare + 1
  | .agg parts => uptoBulkAll parts + 1
  | .iface _ d => uptoBulk d + 1
  | .map entries => uptoBulkEntries entries + 1
  | .held _ => 1
def uptoBulkAll {H : Type} : List (DataW H) → Nat
  | [] => 0
  | d :: r => uptoBulk d + uptoBulkAll r
def uptoBulkEntries {H : Type} : List (Lit × DataW H) → Nat
  | [] => 0
  | x :: r => uptoBulkEntry x + uptoBulkEntries r
def uptoBulkEntry {H : Type} : Lit × DataW H → Nat
  | (.string bytes, d) => bytes.length + uptoBulk d + 1
  | (_, d) => uptoBulk d + 1
 end
def uptoSmall : (H : Type) → List (DataW H) → Bool := fun _ ds => decide (uptoBulkAll ds ≤ 1048576)
def OpenSpec.upto (s : _root_.Go.ChangeSpec) : _root_.Go.OpenSpec := { _root_.Go.OpenSpec.ofChange s with cond := some uptoSmall }

/-- 'laws.FnExactRadiusOf', WHERE WHAT IT READS IS OF BULK AT MOST 1048576: true; the input reads as it did. -/
def fnExactRadiusOfUptoRow : OpenClaim := { program := "ytjhognfkjdccfaa", sum := "a4693d14063f893b4afaa75c52cfad7d0b766c2a4db3425a1dc7671d53dad094", func := "loop.example/g01224/laws.FnExactRadiusOf", spec := "fnExactRadiusOf", apart := false, narrowed := true }
def FnExactRadiusOfUptoSaid : Prop := fnExactRadiusOfUptoRow.holds Try.pinned (OpenSpec.upto fnExactRadiusOfSpec)

/-- 'laws.FnExactThirdRoot', WHERE WHAT IT READS IS OF BULK AT MOST 1048576: true; the input reads as it did. -/
def fnExactThirdRootUptoRow : OpenClaim := { program := "ytjhognfkjdccfaa", sum := "a4693d14063f893b4afaa75c52cfad7d0b766c2a4db3425a1dc7671d53dad094", func := "loop.example/g01224/laws.FnExactThirdRoot", spec := "fnExactThirdRoot", inPlace := ["math.Float32bits"], apart := false, narrowed := true }
def FnExactThirdRootUptoSaid : Prop := fnExactThirdRootUptoRow.holds Try.pinned (OpenSpec.upto fnExactThirdRootSpec)

/-- 'laws.FnExactSpectrum', WHERE WHAT IT READS IS OF BULK AT MOST 1048576: true; the input reads as it did. -/
def fnExactSpectrumUptoRow : OpenClaim := { program := "ytjhognfkjdccfaa", sum := "a4693d14063f893b4afaa75c52cfad7d0b766c2a4db3425a1dc7671d53dad094", func := "loop.example/g01224/laws.FnExactSpectrum", spec := "fnExactSpectrum", inPlace := ["math.Float32bits"], apart := false, narrowed := true }
def FnExactSpectrumUptoSaid : Prop := fnExactSpectrumUptoRow.holds Try.pinned (OpenSpec.upto fnExactSpectrumSpec)

/-- 'laws.FnExactGainsAt', WHERE WHAT IT READS IS OF BULK AT MOST 1048576: true; the input reads as it did. -/
def fnExactGainsAtUptoRow : OpenClaim := { program := "ytjhognfkjdccfaa", sum := "a4693d14063f893b4afaa75c52cfad7d0b766c2a4db3425a1dc7671d53dad094", func := "loop.example/g01224/laws.FnExactGainsAt", spec := "fnExactGainsAt", inPlace := ["math.Float32bits"], apart := false, narrowed := true }
def FnExactGainsAtUptoSaid : Prop := fnExactGainsAtUptoRow.holds Try.pinned (OpenSpec.upto fnExactGainsAtSpec)

/-- 'laws.FnExactPutDroplets', WHERE WHAT IT READS IS OF BULK AT MOST 1048576: true; the input reads as it did. -/
def fnExactPutDropletsUptoRow : OpenClaim := { program := "ytjhognfkjdccfaa", sum := "a4693d14063f893b4afaa75c52cfad7d0b766c2a4db3425a1dc7671d53dad094", func := "loop.example/g01224/laws.FnExactPutDroplets", spec := "fnExactPutDroplets", inPlace := ["math.Float32bits"], apart := false, narrowed := true }
def FnExactPutDropletsUptoSaid : Prop := fnExactPutDropletsUptoRow.holds Try.pinned (OpenSpec.upto fnExactPutDropletsSpec)

/-- 'laws.FnExactMomentOf', WHERE WHAT IT READS IS OF BULK AT MOST 1048576: true; the input reads as it did. -/
def fnExactMomentOfUptoRow : OpenClaim := { program := "ytjhognfkjdccfaa", sum := "a4693d14063f893b4afaa75c52cfad7d0b766c2a4db3425a1dc7671d53dad094", func := "loop.example/g01224/laws.FnExactMomentOf", spec := "fnExactMomentOf", inPlace := ["math.Float32bits"], apart := false, narrowed := true }
def FnExactMomentOfUptoSaid : Prop := fnExactMomentOfUptoRow.holds Try.pinned (OpenSpec.upto fnExactMomentOfSpec)

/-- 'laws.FnExactShiftMasses', WHERE WHAT IT READS IS OF BULK AT MOST 1048576: true; the input reads as it did. -/
def fnExactShiftMassesUptoRow : OpenClaim := { program := "ytjhognfkjdccfaa", sum := "a4693d14063f893b4afaa75c52cfad7d0b766c2a4db3425a1dc7671d53dad094", func := "loop.example/g01224/laws.FnExactShiftMasses", spec := "fnExactShiftMasses", inPlace := ["math.Float32bits"], apart := false, narrowed := true }
def FnExactShiftMassesUptoSaid : Prop := fnExactShiftMassesUptoRow.holds Try.pinned (OpenSpec.upto fnExactShiftMassesSpec)

end Rows
end Go.Proofs.Ytjhognfkjdccfaa
