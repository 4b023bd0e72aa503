/-
  Contracts: counts and waters.
-/
import Derived.Test.YtomebnplmoflbaaSizes
namespace Go.Proofs.Ytomebnplmoflbaa
open Go.RowKit Fl
set_option maxRecDepth 20000

theorem add_nn {a b : Nat} (ha : a ≤ 2139095040) (hb : b ≤ 2139095040) : fok .add .f32 a b = true ∧ fv .add .f32 a b ≤ 2139095040 := by
  obtain ⟨r, h1, h2⟩ := add_nonneg FloatKind.f32.format (fmt_ok .f32).1 (fmt_ok .f32).2 a b ha hb
  obtain ⟨h3, h4⟩ := fok_of (op := .add) (k := .f32) (x := a) (y := b) (r := r) h1
  exact ⟨h3, by rw [h4]; exact h2⟩
theorem mul_nn {a b : Nat} (ha : a ≤ 2139095040) (hb : b < 2139095040) (h0 : 0 < b) : fok .mul .f32 a b = true ∧ fv .mul .f32 a b ≤ 2139095040 := by
  obtain ⟨r, h1, h2⟩ := mul_nonneg FloatKind.f32.format (fmt_ok .f32).1 (fmt_ok .f32).2 a b ha hb h0
  obtain ⟨h3, h4⟩ := fok_of (op := .mul) (k := .f32) (x := a) (y := b) (r := r) h1
  exact ⟨h3, by rw [h4]; exact h2⟩
theorem mul_ff {a b : Nat} (ha : a < 2139095040) (hb : b < 2139095040) : fok .mul .f32 a b = true ∧ fv .mul .f32 a b ≤ 2139095040 := by
  obtain ⟨r, h1, _⟩ := mul_pos FloatKind.f32.format (fmt_ok .f32).1 a b ha hb
  obtain ⟨h3, h4⟩ := fok_of (op := .mul) (k := .f32) (x := a) (y := b) h1
  exact ⟨h3, by rw [h4]; exact Nat.min_le_right _ _⟩
theorem amt_lt {x : Nat} (h : amtB x = true) : x < 2139095040 := of_decide_eq_true h
theorem zero_add32 {a : Nat} (ha : a ≤ 2139095040) : fv .add .f32 0 a = a :=
  (fok_of (op := .add) (k := .f32) (x := 0) (y := a) (add_zero_left FloatKind.f32.format (fmt_ok .f32).1 (fmt_ok .f32).2 a ha)).2
theorem add_zero32 {a : Nat} (ha : a ≤ 2139095040) : fv .add .f32 a 0 = a :=
  (fok_of (op := .add) (k := .f32) (x := a) (y := 0) (add_zero_right FloatKind.f32.format (fmt_ok .f32).1 (fmt_ok .f32).2 a ha)).2

/-- the sum of the numbers 0 to k -/
def cnt (f : Nat → Nat) : Nat → Nat
  | 0 => f 0
  | k + 1 => fv .add .f32 (cnt f k) (f (k + 1))
theorem cnt_ok {f : Nat → Nat} (hf : okB f = true) : ∀ k, k < 20 → cnt f k ≤ 2139095040
  | 0, h => Nat.le_of_lt (amt_lt (of_okB hf 0 h))
  | k + 1, h => (add_nn (cnt_ok hf k (by omega)) (Nat.le_of_lt (amt_lt (of_okB hf (k + 1) h)))).2
theorem cnt_fok {f : Nat → Nat} (hf : okB f = true) (k : Nat) (h : k + 1 < 20) : fok .add .f32 (cnt f k) (f (k + 1)) = true :=
  (add_nn (cnt_ok hf k (by omega)) (Nat.le_of_lt (amt_lt (of_okB hf (k + 1) h)))).1

/-- the water of a class -/
def pr (f : Nat → Nat) (k : Nat) : Nat := fv .mul .f32 (f k) (mb k)
theorem pr_ok {f : Nat → Nat} (hf : okB f = true) (k : Nat) (h : k < 20) : fok .mul .f32 (f k) (mb k) = true ∧ pr f k ≤ 2139095040 :=
  mul_nn (Nat.le_of_lt (amt_lt (of_okB hf k h))) (mb_fin k h).1 (mb_fin k h).2
/-- the sum of the waters of the classes 'from' to 'from + j' -/
def wat (f : Nat → Nat) (from_ : Nat) : Nat → Nat
  | 0 => pr f from_
  | j + 1 => fv .add .f32 (wat f from_ j) (pr f (from_ + (j + 1)))
theorem wat_ok {f : Nat → Nat} (hf : okB f = true) (a : Nat) : ∀ j, a + j < 20 → wat f a j ≤ 2139095040
  | 0, h => (pr_ok hf a h).2
  | j + 1, h => (add_nn (wat_ok hf a j (by omega)) (pr_ok hf (a + (j + 1)) h).2).2
theorem wat_fok {f : Nat → Nat} (hf : okB f = true) (a j : Nat) (h : a + (j + 1) < 20) : fok .add .f32 (wat f a j) (pr f (a + (j + 1))) = true :=
  (add_nn (wat_ok hf a j (by omega)) (pr_ok hf (a + (j + 1)) h).2).1

theorem mul_one32 {a : Nat} (ha : a < 2139095040) : fv .mul .f32 a 1065353216 = a := by
  obtain ⟨r, h1, h2⟩ := mul_pos FloatKind.f32.format (fmt_ok .f32).1 a 1065353216 ha (by show (1065353216 : Nat) < 2139095040; omega)
  obtain ⟨_, h4⟩ := fok_of (op := .mul) (k := .f32) (x := a) (y := 1065353216) h1
  have e : sv FloatKind.f32.format 1065353216 = 8388608 * 2 ^ 126 := sv_at FloatKind.f32.format 126 8388608 (Nat.le_refl _) (by show (8388608 : Nat) ≤ 2 * 8388608; omega)
  have e2 : ((8388608 * 2 ^ 126 : Nat) : Rat) * 2 ^ FloatKind.f32.format.leastPlace = 1 := by
    have : FloatKind.f32.format.leastPlace = -149 := rfl
    rw [this, show (8388608 * 2 ^ 126 : Nat) = 2 ^ 149 by decide, Rat.natCast_pow]
    exact zpow_split 149
  rw [e, Rat.mul_assoc, e2, Rat.mul_one] at h2
  have := h2.eq_of_sv
  subst this
  rw [h4]; exact Nat.min_eq_left (Nat.le_of_lt ha)
theorem pr_zero {f : Nat → Nat} (hf : okB f = true) : pr f 0 = f 0 := mul_one32 (amt_lt (of_okB hf 0 (by omega)))

/-- a number that is told -/
def toldR (a : Nat) : Value := if isfin a then .tuple #[.float .f32 a, .int .i64 0] else .tuple #[.float .f32 0, .int .i64 4]






end Go.Proofs.Ytomebnplmoflbaa
