/-
  Contracts and walks: sizes that are scaled, shares that are taken.
-/
import Derived.Test.YtjhognfkjdccfaaMade
namespace Go.Proofs.Ytjhognfkjdccfaa
open Go.RowKit Fl
set_option maxRecDepth 20000

section
variable {P : Program} {ops : Array Oper} {rest : List Oper} {o : Oper} {a : Act} {Q : Exit → Act → World → Prop}
theorem wl_new (T : TypeId) {n : Nat} (hi : (P.info? T).map (·.size) = some n) (hgd : o.guard = none) (x y : Operand) (ho : o.op = .store T x y) {w1 : World} {t : TypeId} {z : Array Value} {F : Nat → Value} (hn : z.size = n)
    (hx : a.eval x = .pointer (some ⟨w1.heap.size, 0, none⟩)) (hy : a.eval y = .agg (row n F)) (h1 : ∀ j, (F j).oneCell' = true)
    (h : ∀ w2, Below w1.heap.size w1 w2 → Holds w2 w1.heap.size t (row n F) → wpList P ops Q rest (a.put o.dst undef) w2) : wpList P ops Q (o :: rest) a (w1.alloc (.cells z t)) :=
  wl_store T hi hgd x y ho (Holds.new w1 t z) hn hx hy h1 (h _ (below_setRow ((Below.refl _ _).alloc (Nat.le_refl _) _) (Nat.le_refl _) _) ((Holds.new w1 t z).row_ _))
end
theorem shareB_false {x : Nat} (h : amtB x = false) (b : Bool) : (amtB x && b) = false := by rw [h]; rfl
def le1 (v : Nat) : Bool := FloatKind.f32.format.order v 1065353216 == some .lt || FloatKind.f32.format.order v 1065353216 == some .eq
/-- a share -/
def shareB (v : Nat) : Bool := amtB v && le1 v
theorem shareB_iff {v : Nat} (h : shareB v = true) : v ≤ 1065353216 := by
  unfold shareB at h
  rw [Bool.and_eq_true] at h
  have h1 := amt_lt h.1
  have h2 := h.2
  unfold le1 at h2
  rw [ord_pos (by omega) (by omega)] at h2
  rcases Int.lt_trichotomy (v : Int) 1065353216 with q | q | q
  · omega
  · omega
  · exfalso
    have hc : compare (v : Int) ((1065353216 : Nat) : Int) = .gt := by simp only [compare, compareOfLessAndEq]; rw [if_neg (by omega), if_neg (by omega)]
    rw [hc] at h2; simp at h2
/-- no sizes, and a code -/
def noR (c : Int) : Value := .tuple #[.agg (row 20 fun _ => .float .f32 0), .int .i64 c]
theorem noR_form (c : Int) : ∃ (G : Nat → Nat) (c' : Int), noR c = .tuple #[.agg (row 20 fun j => .float .f32 (G j)), .int .i64 c'] ∧ ∀ j, j < 20 → cvok (G j) = true :=
  ⟨fun _ => 0, c, rfl, fun _ _ => (cvle (x := 0) (by omega)).1⟩
theorem madeR_form (F : Nat → Nat) (hF : ∀ j, F j ≤ 2139095040) : ∃ (G : Nat → Nat) (c' : Int), madeR F = .tuple #[.agg (row 20 fun j => .float .f32 (G j)), .int .i64 c'] ∧ ∀ j, j < 20 → cvok (G j) = true := by
  unfold madeR
  split
  · exact ⟨F, 0, rfl, fun j _ => (cvle (hF j)).1⟩
  · exact ⟨fun _ => 0, 4, rfl, fun _ _ => (cvle (x := 0) (by omega)).1⟩
/-- the first k numbers are done -/
def upto (k : Nat) (F f : Nat → Nat) : Nat → Nat := fun j => if j < k then F j else f j
theorem upto_zero (F f : Nat → Nat) (j : Nat) : Value.float .f32 (f j) = .float .f32 (upto 0 F f j) := by simp [upto]
theorem upto_at (F f : Nat → Nat) (k : Nat) : upto k F f k = f k := by simp [upto]
theorem upto_step (F f : Nat → Nat) (k j : Nat) : (if j = k then Value.float .f32 (F k) else Value.float .f32 (upto k F f j)) = Value.float .f32 (upto (k + 1) F f j) := by
  unfold upto
  by_cases e : j = k
  · subst e; simp
  · simp only [e, if_false]; congr 1
    rcases Nat.lt_or_ge j k with q | q
    · rw [if_pos q, if_pos (by omega)]
    · rw [if_neg (by omega), if_neg (by omega)]
theorem upto_full (F f : Nat → Nat) (k : Nat) (hk : ¬ k < 20) (j : Nat) (hj : j < 20) : Value.float .f32 (upto k F f j) = Value.float .f32 (F j) := by unfold upto; rw [if_pos (by omega)]

def sclF (f : Nat → Nat) (by_ : Nat) : Nat → Nat := fun j => fv .mul .f32 (f j) by_
def sclR (f : Nat → Nat) (by_ : Nat) : Value := if okB f then (if amtB by_ then madeR (fun j => if j < 20 then sclF f by_ j else 0) else noR 2) else noR 1
theorem scl_ok {f : Nat → Nat} {b : Nat} (h : okB f = true) (hb : amtB b = true) (j : Nat) (hj : j < 20) : fok .mul .f32 (f j) b = true ∧ sclF f b j ≤ 2139095040 := mul_ff (amt_lt (of_okB h j hj)) (amt_lt hb)
theorem scl_le {f : Nat → Nat} {b : Nat} (h : okB f = true) (hb : amtB b = true) (j : Nat) : (if j < 20 then sclF f b j else 0) ≤ 2139095040 := by
  split
  · rename_i hj; exact (scl_ok h hb j hj).2
  · omega
theorem scl_form (f : Nat → Nat) (b : Nat) : ∃ (G : Nat → Nat) (c' : Int), sclR f b = .tuple #[.agg (row 20 fun j => .float .f32 (G j)), .int .i64 c'] ∧ ∀ j, j < 20 → cvok (G j) = true := by
  unfold sclR
  split
  · rename_i h1; split
    · rename_i h2; exact madeR_form _ (scl_le h1 h2)
    · exact noR_form 2
  · exact noR_form 1
end Go.Proofs.Ytjhognfkjdccfaa
