/-
  Contracts: third roots, as a run of single steps tells them.
-/
import Derived.Test.YtgjibocemffjhaaMade
import Derived.Test.YtgjibocemffjhaaOpen
import Derived.Deep.LoopGhost
namespace Go.Proofs.Ytgjibocemffjhaa
open Go.RowKit Fl
set_option maxRecDepth 20000
set_option maxHeartbeats 4000000
set_option linter.unusedSimpArgs false

def ge8 (b : Nat) : Bool := FloatKind.f64.format.order b 4620693217682128896 == some .gt || FloatKind.f64.format.order b 4620693217682128896 == some .eq
def lt1 (b : Nat) : Bool := FloatKind.f64.format.order b 4607182418800017408 == some .lt
def down : Nat → Nat → Nat → Option (Nat × Nat)
  | 0, _, _ => none
  | n + 1, b, x => if ge8 b then (floatBits .quo .f64 b 4620693217682128896).bind fun b' => (floatBits .mul .f64 x 4611686018427387904).bind fun x' => down n b' x' else some (b, x)
def up : Nat → Nat → Nat → Option (Nat × Nat)
  | 0, _, _ => none
  | n + 1, b, x => if lt1 b then (floatBits .mul .f64 b 4620693217682128896).bind fun b' => (floatBits .quo .f64 x 4611686018427387904).bind fun x' => up n b' x' else some (b, x)
def newt (b : Nat) : Nat → Nat → Option Nat
  | 0, r => some r
  | n + 1, r => (floatBits .mul .f64 r r).bind fun s => (floatBits .mul .f64 s r).bind fun c => (floatBits .mul .f64 4613937818241073152 r).bind fun t => (floatBits .mul .f64 t r).bind fun v =>
      (floatBits .sub .f64 c b).bind fun d => (floatBits .quo .f64 d v).bind fun e => (floatBits .sub .f64 r e).bind fun r' => newt b n r'
/-- the third root of an amount above 0 -/
def thirdGo (a : Nat) : Option Nat := (down 64 (cv a) 4607182418800017408).bind fun p => (up 64 p.1 p.2).bind fun q => (newt q.1 6 4609434218613702656).bind fun r => (floatBits .mul .f64 r q.2).bind fun y => floatToFloatBits .f64 y .f32
def third (a : Nat) : Option Nat := if a = 0 then some 0 else thirdGo a
theorem fok_some {op : BinOp} {k : FloatKind} {x y r : Nat} (h : floatBits op k x y = some r) : fok op k x y = true := (fok_of h).1
theorem fv_is {op : BinOp} {k : FloatKind} {x y r : Nat} (h : floatBits op k x y = some r) : fv op k x y = r := (fok_of h).2
theorem ord_nz {a : Nat} (ha : amtB a = true) (h0 : a ≠ 0) : (FloatKind.f32.format.order a 0 == some .eq) = false := by
  have hl := amt_lt ha
  rw [ord_zero (by omega) (isnum_of_le (by omega)), if_neg (by omega), if_pos (by omega)]; rfl
theorem amt_cvok {a : Nat} (ha : amtB a = true) : cvok a = true := cvok_fin (by have := amt_lt ha; omega) (amt_fin ha)
end Go.Proofs.Ytgjibocemffjhaa
