/-
  Contracts: classes of masses, code names, airs.
-/
import Derived.Test.YtgjibocemffjhaaSizes
namespace Go.Proofs.Ytgjibocemffjhaa
open Go.RowKit Fl
set_option maxRecDepth 20000

/-- at least 1 -/
def ge1 (m : Nat) : Bool := FloatKind.f32.format.order m 1065353216 == some .gt || FloatKind.f32.format.order m 1065353216 == some .eq
def classR (m : Nat) : Value := if isfin m && ge1 m then .tuple #[.int .i64 (cf m), .int .i64 0] else .tuple #[.int .i64 0, .int .i64 2]





/-! ### air: two numbers -/
theorem two_row (a b : Value) : #[a, b] = row 2 (fun j => if j = 0 then a else b) := by
  apply Array.ext
  · simp [row]
  · intro j h1 h2
    have : j = 0 ∨ j = 1 := by simp at h1; omega
    rcases this with rfl | rfl <;> simp [row]

theorem c_toAir (a b : Nat) (w : World) : Calls Try.prog 12 #[.agg #[.float .f32 a, .float .f32 b]] w fun e w' => e = .returned (.agg #[.float .f32 a, .float .f32 b]) ∧ Below w.heap.size w w' := by
  go_enter Try.func12, Try.ntmps12
  go_wp2
  exact bodyPost_ret (v := .agg #[.float .f32 a, .float .f32 b]) (by simp [results, Try.results12, go_sem]) rfl ⟨rfl, (((Below.refl _ _).alloc (by simp) _).alloc (by simp) _).alloc (by simp; omega) _⟩

end Go.Proofs.Ytgjibocemffjhaa
