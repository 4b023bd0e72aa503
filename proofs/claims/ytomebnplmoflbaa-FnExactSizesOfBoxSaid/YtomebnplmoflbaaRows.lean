/-
  No cell of these rows narrows 'for every input' (looked for: loops, veiled, ifaces, maps, wideKeys, modest, calm, conditions, laid).
  DERIVED. THE GIVEN ROWS OF THIS SEAT. 4 by the template 'for every input the law returns true; each argument reads behind the call as it read before'; 0 by the template 'total and deterministic' (their statements: YtomebnplmoflbaaTotals.lean).
  GIVEN WITH THE SEED: the statements are not yours to turn. If you find one false, say at which input.
  Laid BY PROGRAM, IN A SANDBOX (cutbox-rows.mjs): the forced cells as the released guide's own fill.sh prints them over the translation fbf2203d87dc3e7a… (all of the seat's roots in one cut). By AI agents, Wed Nov 11 2026. No macro, syntax, notation, axiom, sorry.
-/
import Derived.Test.YtomebnplmoflbaaChecked
import GoSem.Claim
import GoSem.ClaimJoined
import GoSem.ClaimMapViews
import Derived.JoinedTies
import Derived.KernelRfl
namespace Go.Proofs.Ytomebnplmoflbaa
/- THE CELL 'sum', in the pinned program and in every row, IS THE sha256 OF THE DUMP (.gsa) THAT YtomebnplmoflbaaProg.lean LOADS. Nothing in Lean hashes anything: it is a label: what it is worth is what the hold of that sum in a sandbox is worth. -/
noncomputable def Try.pinned : Pinned := { name := "ytomebnplmoflbaa", sum := "fbf2203d87dc3e7abcdeb8df507c26170eb0b6ff0084818d09480995878fac35", checked := Try.checked }
namespace Rows
def none {H : Type} : Left H := { results := [], args := [] }

/-- 'laws.FnExactSameKernel': WHATEVER THE INPUT: true; the input reads as it did. -/
def fnExactSameKernelSpec : ChangeSpec := { name := "fnExactSameKernel", fn := fun _ => fun
  | [d1, d2] => { results := [.lit (.bool true)], args := [d1, d2] }
  | _ => none }
def fnExactSameKernelRow : OpenClaim := { program := "ytomebnplmoflbaa", sum := "fbf2203d87dc3e7abcdeb8df507c26170eb0b6ff0084818d09480995878fac35", func := "loop.example/g01224/laws.FnExactSameKernel", spec := "fnExactSameKernel", inPlace := ["math.Float32bits"], apart := false }
def FnExactSameKernelSaid : Prop := fnExactSameKernelRow.holds Try.pinned (OpenSpec.ofChange fnExactSameKernelSpec)

/-- ITS FALSE NEIGHBOUR: 'it returns false'. Refute it at one input. -/
def fnExactSameKernelWrong : ChangeSpec := { name := "fnExactSameKernel", fn := fun _ => fun
  | [d1, d2] => { results := [.lit (.bool false)], args := [d1, d2] }
  | _ => none }
def FnExactSameKernelWrongFalsely : Prop := fnExactSameKernelRow.holds Try.pinned (OpenSpec.ofChange fnExactSameKernelWrong)

/-- 'laws.FnExactValidKernel': WHATEVER THE INPUT: true; the input reads as it did. -/
def fnExactValidKernelSpec : ChangeSpec := { name := "fnExactValidKernel", fn := fun _ => fun
  | [d] => { results := [.lit (.bool true)], args := [d] }
  | _ => none }
def fnExactValidKernelRow : OpenClaim := { program := "ytomebnplmoflbaa", sum := "fbf2203d87dc3e7abcdeb8df507c26170eb0b6ff0084818d09480995878fac35", func := "loop.example/g01224/laws.FnExactValidKernel", spec := "fnExactValidKernel", inPlace := ["math.Float32bits"], apart := false }
def FnExactValidKernelSaid : Prop := fnExactValidKernelRow.holds Try.pinned (OpenSpec.ofChange fnExactValidKernelSpec)

/-- ITS FALSE NEIGHBOUR: 'it returns false'. Refute it at one input. -/
def fnExactValidKernelWrong : ChangeSpec := { name := "fnExactValidKernel", fn := fun _ => fun
  | [d] => { results := [.lit (.bool false)], args := [d] }
  | _ => none }
def FnExactValidKernelWrongFalsely : Prop := fnExactValidKernelRow.holds Try.pinned (OpenSpec.ofChange fnExactValidKernelWrong)

/-- 'laws.FnExactSizesOfBox': WHATEVER THE INPUT: true; the input reads as it did. -/
def fnExactSizesOfBoxSpec : ChangeSpec := { name := "fnExactSizesOfBox", fn := fun _ => fun
  | [d] => { results := [.lit (.bool true)], args := [d] }
  | _ => none }
def fnExactSizesOfBoxRow : OpenClaim := { program := "ytomebnplmoflbaa", sum := "fbf2203d87dc3e7abcdeb8df507c26170eb0b6ff0084818d09480995878fac35", func := "loop.example/g01224/laws.FnExactSizesOfBox", spec := "fnExactSizesOfBox", apart := false }
def FnExactSizesOfBoxSaid : Prop := fnExactSizesOfBoxRow.holds Try.pinned (OpenSpec.ofChange fnExactSizesOfBoxSpec)

/-- ITS FALSE NEIGHBOUR: 'it returns false'. Refute it at one input. -/
def fnExactSizesOfBoxWrong : ChangeSpec := { name := "fnExactSizesOfBox", fn := fun _ => fun
  | [d] => { results := [.lit (.bool false)], args := [d] }
  | _ => none }
def FnExactSizesOfBoxWrongFalsely : Prop := fnExactSizesOfBoxRow.holds Try.pinned (OpenSpec.ofChange fnExactSizesOfBoxWrong)

/-- 'laws.FnExactFlatKernel': WHATEVER THE INPUT: true; the input reads as it did. -/
def fnExactFlatKernelSpec : ChangeSpec := { name := "fnExactFlatKernel", fn := fun _ => fun
  | [d] => { results := [.lit (.bool true)], args := [d] }
  | _ => none }
def fnExactFlatKernelRow : OpenClaim := { program := "ytomebnplmoflbaa", sum := "fbf2203d87dc3e7abcdeb8df507c26170eb0b6ff0084818d09480995878fac35", func := "loop.example/g01224/laws.FnExactFlatKernel", spec := "fnExactFlatKernel", inPlace := ["math.Float32bits"], unfollowed := true, recurses := true, apart := false }
def FnExactFlatKernelSaid : Prop := fnExactFlatKernelRow.holds Try.pinned (OpenSpec.ofChange fnExactFlatKernelSpec)

/-- ITS FALSE NEIGHBOUR: 'it returns false'. Refute it at one input. -/
def fnExactFlatKernelWrong : ChangeSpec := { name := "fnExactFlatKernel", fn := fun _ => fun
  | [d] => { results := [.lit (.bool false)], args := [d] }
  | _ => none }
def FnExactFlatKernelWrongFalsely : Prop := fnExactFlatKernelRow.holds Try.pinned (OpenSpec.ofChange fnExactFlatKernelWrong)

/- THE SECOND FORM. 'bulk': how many values and letters a reading holds, each counted each time it is reached (what is shared counts as often as it is met; a slice's spare places count too). A statement '..UptoSaid' is the law's where the arguments, and the package variables that the reading takes, are together of bulk at most 1048576: NARROWER than '..Said'. Prove '..Said' where nothing that the law and all that it calls make is longer than what came in: it says more and counts as full. Else prove '..UptoSaid'. A law counts once. -/
mutual
def uptoBulk {H : Type} : DataW H → Nat
  | .lit (.string bytes) => bytes.length + 1
  | .lit _ => 1
  | .nil => 1
  | .ptr d => uptoBulk d + 1
  | .slice elems spare => uptoBulkAll elems + uptoBulkAll spare + 1
  | .agg parts => uptoBulkAll parts + 1
  | .iface _ d => uptoBulk d + 1
  | .map entries => uptoBulkEntries entries + 1
  | .held _ => 1
def uptoBulkAll {H : Type} : List (DataW H) → Nat
  | [] => 0
  | d :: r => uptoBulk d + uptoBulkAll r
def uptoBulkEntries {H : Type} : List (Lit × DataW H) → Nat
  | [] => 0
  | x :: r => uptoBulkEntry x + uptoBulkEntries r
def uptoBulkEntry {H : Type} : Lit × DataW H → Nat
  | (.string bytes, d) => bytes.length + uptoBulk d + 1
  | (_, d) => uptoBulk d + 1
 end
def uptoSmall : (H : Type) → List (DataW H) → Bool := fun _ ds => decide (uptoBulkAll ds ≤ 1048576)
def OpenSpec.upto (s : _root_.Go.ChangeSpec) : _root_.Go.OpenSpec := { _root_.Go.OpenSpec.ofChange s with cond := some uptoSmall }

/-- 'laws.FnExactSameKernel', WHERE WHAT IT READS IS OF BULK AT MOST 1048576: true; the input reads as it did. -/
def fnExactSameKernelUptoRow : OpenClaim := { program := "ytomebnplmoflbaa", sum := "fbf2203d87dc3e7abcdeb8df507c26170eb0b6ff0084818d09480995878fac35", func := "loop.example/g01224/laws.FnExactSameKernel", spec := "fnExactSameKernel", inPlace := ["math.Float32bits"], apart := false, narrowed := true }
def FnExactSameKernelUptoSaid : Prop := fnExactSameKernelUptoRow.holds Try.pinned (OpenSpec.upto fnExactSameKernelSpec)

/-- 'laws.FnExactValidKernel', WHERE WHAT IT READS IS OF BULK AT MOST 1048576: true; the input reads as it did. -/
def fnExactValidKernelUptoRow : OpenClaim := { program := "ytomebnplmoflbaa", sum := "fbf2203d87dc3e7abcdeb8df507c26170eb0b6ff0084818d09480995878fac35", func := "loop.example/g01224/laws.FnExactValidKernel", spec := "fnExactValidKernel", inPlace := ["math.Float32bits"], apart := false, narrowed := true }
def FnExactValidKernelUptoSaid : Prop := fnExactValidKernelUptoRow.holds Try.pinned (OpenSpec.upto fnExactValidKernelSpec)

/-- 'laws.FnExactSizesOfBox', WHERE WHAT IT READS IS OF BULK AT MOST 1048576: true; the input reads as it did. -/
def fnExactSizesOfBoxUptoRow : OpenClaim := { program := "ytomebnplmoflbaa", sum := "fbf2203d87dc3e7abcdeb8df507c26170eb0b6ff0084818d09480995878fac35", func := "loop.example/g01224/laws.FnExactSizesOfBox", spec := "fnExactSizesOfBox", apart := false, narrowed := true }
def FnExactSizesOfBoxUptoSaid : Prop := fnExactSizesOfBoxUptoRow.holds Try.pinned (OpenSpec.upto fnExactSizesOfBoxSpec)

/-- 'laws.FnExactFlatKernel', WHERE WHAT IT READS IS OF BULK AT MOST 1048576: true; the input reads as it did. -/
def fnExactFlatKernelUptoRow : OpenClaim := { program := "ytomebnplmoflbaa", sum := "fbf2203d87dc3e7abcdeb8df507c26170eb0b6ff0084818d09480995878fac35", func := "loop.example/g01224/laws.FnExactFlatKernel", spec := "fnExactFlatKernel", inPlace := ["math.Float32bits"], unfollowed := true, recurses := true, apart := false, narrowed := true }
def FnExactFlatKernelUptoSaid : Prop := fnExactFlatKernelUptoRow.holds Try.pinned (OpenSpec.upto fnExactFlatKernelSpec)

end Rows
end Go.Proofs.Ytomebnplmoflbaa
