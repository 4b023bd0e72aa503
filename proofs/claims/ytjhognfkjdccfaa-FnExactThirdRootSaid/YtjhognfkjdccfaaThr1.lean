/-
  The plain law of third roots: ranges of products and quotients, and a step of Newton.
-/
import Derived.Test.YtjhognfkjdccfaaThr0
namespace Go.Proofs.Ytjhognfkjdccfaa
open Go.RowKit Fl
set_option maxRecDepth 20000
set_option exponentiation.threshold 3000

/-- the word of a power of two -/
def ew (n : Nat) : Nat := n * 4503599627370496
theorem sv_ew (n : Nat) (h : 1 ≤ n) : sv D64 (ew n) = 2 ^ (n + 51) := by
  have e := sv_at D64 (n - 1) 4503599627370496 (by rw [d_bin]; omega) (by rw [d_bin]; omega)
  rw [d_bin] at e
  unfold ew
  rw [show n * 4503599627370496 = (n - 1) * 4503599627370496 + 4503599627370496 by omega, e, show (4503599627370496 : Nat) = 2 ^ 52 by decide, ← Nat.pow_add]
  congr 1; omega
theorem le_lp {x y : Nat} (h : x * 2 ^ 1074 ≤ y) : (x : Rat) ≤ (y : Rat) * 2 ^ D64.leastPlace := by
  have hz : (0 : Rat) ≤ 2 ^ D64.leastPlace := Rat.le_of_lt (zp_pos _)
  have h5 := Rat.mul_le_mul_of_nonneg_right (cast_le h) hz
  rw [Rat.natCast_mul, Rat.natCast_pow, Rat.mul_assoc, show (((2 : Nat) : Rat)) = 2 from rfl, lp64', Rat.mul_one] at h5
  exact h5
theorem ge_lp {x y : Nat} (h : y ≤ x * 2 ^ 1074) : (y : Rat) * 2 ^ D64.leastPlace ≤ (x : Rat) := by
  have hz : (0 : Rat) ≤ 2 ^ D64.leastPlace := Rat.le_of_lt (zp_pos _)
  have h5 := Rat.mul_le_mul_of_nonneg_right (cast_le h) hz
  rw [Rat.natCast_mul x, Rat.natCast_pow, Rat.mul_assoc, show (((2 : Nat) : Rat)) = 2 from rfl, lp64', Rat.mul_one] at h5
  exact h5
theorem mul_rng {a b n m n' m' : Nat} (hn : 1 ≤ n) (hm : 1 ≤ m) (a1 : ew n ≤ a) (a2 : a ≤ ew n') (b1 : ew m ≤ b) (b2 : b ≤ ew m') (h1 : 1024 ≤ n + m) (hn' : n' ≤ 2046) (hm' : m' ≤ 2046) (h2 : n' + m' ≤ 3069) :
    fok .mul .f64 a b = true ∧ ew (n + m - 1023) ≤ fv .mul .f64 a b ∧ fv .mul .f64 a b ≤ ew (n' + m' - 1023) := by
  have hn1 : n ≤ n' := by unfold ew at a1 a2; omega
  have hm1 : m ≤ m' := by unfold ew at b1 b2; omega
  obtain ⟨r, k1, k2⟩ := mul_pos D64 d_ok a b (by rw [d_inf]; unfold ew at a2; omega) (by rw [d_inf]; unfold ew at b2; omega)
  obtain ⟨h3, h4⟩ := fok_of (op := .mul) (k := .f64) (x := a) (y := b) k1
  rw [← Rat.natCast_mul] at k2
  have lo : ew (n + m - 1023) ≤ r := by
    refine (IsRnd.exact D64 _).mono k2 (le_lp ?_)
    rw [sv_ew _ (by omega), ← Nat.pow_add]
    have x := sv_mono D64 a1
    have y := sv_mono D64 b1
    rw [sv_ew _ hn] at x
    rw [sv_ew _ hm] at y
    have := Nat.mul_le_mul x y
    rw [← Nat.pow_add] at this
    rw [show n + m - 1023 + 51 + 1074 = n + 51 + (m + 51) by omega]; exact this
  have hi : r ≤ ew (n' + m' - 1023) := by
    refine k2.mono (IsRnd.exact D64 _) (ge_lp ?_)
    rw [sv_ew _ (by omega), ← Nat.pow_add]
    have x := sv_mono D64 a2
    have y := sv_mono D64 b2
    rw [sv_ew _ (by omega)] at x
    rw [sv_ew _ (by omega)] at y
    have := Nat.mul_le_mul x y
    rw [← Nat.pow_add] at this
    rw [show n' + m' - 1023 + 51 + 1074 = n' + 51 + (m' + 51) by omega]; exact this
  have hr : r < 9218868437227405312 := by unfold ew at hi; omega
  have e : fv .mul .f64 a b = r := by rw [h4]; exact Nat.min_eq_left (by rw [d_inf]; omega)
  rw [e]
  exact ⟨h3, lo, hi⟩
/-- a difference of words, which may be negative -/
theorem sub_cases {a b : Nat} (ha : a < 9218868437227405312) (hb : b < 9218868437227405312) : fok .sub .f64 a b = true ∧ ∃ d, (fv .sub .f64 a b = d ∧ d ≤ a ∧ b ≤ a) ∨ (fv .sub .f64 a b = D64.word true d ∧ d ≤ b ∧ a < b) := by
  obtain ⟨r, k1, k2⟩ := add_spec D64 d_ok false true a b ha hb
  have h3 := sub_add D64 a false b hb
  have e : D64.word false b = b := rfl
  have e' : D64.word false a = a := rfl
  rw [e] at h3
  rw [e'] at k1
  obtain ⟨h4, h5⟩ := fok_of (op := .sub) (k := .f64) (x := a) (y := b) (h3.trans k1)
  refine ⟨h4, min r D64.infRung, ?_⟩
  have s1 : sgn D64 false a = (sv D64 a : Int) := rfl
  have s2 : sgn D64 true b = -(sv D64 b : Int) := rfl
  rw [s1, s2] at k2 h5
  rcases Nat.lt_or_ge a b with q | q
  · right
    have hs := sv_lt D64 q
    have hw : (if (sv D64 a : Int) + -(sv D64 b : Int) = 0 then false && true else decide ((sv D64 a : Int) + -(sv D64 b : Int) < 0)) = true := by
      rw [if_neg (by omega), decide_eq_true (by omega)]
    rw [hw] at h5
    refine ⟨h5, Nat.le_trans (Nat.min_le_left _ _) (k2.mono (IsRnd.exact D64 b) (cast_le (by omega))), q⟩
  · left
    have hs := sv_mono D64 q
    have hw : (if (sv D64 a : Int) + -(sv D64 b : Int) = 0 then false && true else decide ((sv D64 a : Int) + -(sv D64 b : Int) < 0)) = false := by
      split
      · rfl
      · exact decide_eq_false (by omega)
    rw [hw] at h5
    exact ⟨h5, Nat.le_trans (Nat.min_le_left _ _) (k2.mono (IsRnd.exact D64 a) (cast_le (by omega))), q⟩
/-- a quotient, signed -/
theorem quo_cases (s : Bool) {d v c : Nat} (hd : d < 9218868437227405312) (hv : v < 9218868437227405312) (h0 : 0 < v) (hc : sv D64 d * 2 ^ 1074 ≤ sv D64 c * sv D64 v) : fok .quo .f64 (D64.word s d) v = true ∧ ∃ e, fv .quo .f64 (D64.word s d) v = D64.word s e ∧ e ≤ c := by
  obtain ⟨r, k1, k2⟩ := div_spec D64 d_ok s false d v hd hv h0
  obtain ⟨h3, h4⟩ := fok_of (op := .quo) (k := .f64) (x := D64.word s d) (y := v) k1
  refine ⟨h3, min r D64.infRung, ?_, ?_⟩
  · rw [h4]; cases s <;> rfl
  · refine Nat.le_trans (Nat.min_le_left _ _) (k2.mono (IsRnd.exact D64 c) ?_)
    rw [nlp64]
    have hp : (0 : Rat) < sv D64 v := by have := cast_lt ((sv_pos_iff D64 v).2 h0); simpa using this
    have hi : (0 : Rat) ≤ (sv D64 v : Rat)⁻¹ := Rat.le_of_lt (Rat.inv_pos.2 hp)
    have h5 := Rat.mul_le_mul_of_nonneg_right (cast_le hc) hi
    rw [Rat.natCast_mul, Rat.natCast_mul, Rat.natCast_pow, Rat.mul_assoc (sv D64 c : Rat), Rat.mul_inv_cancel _ (by intro h0; rw [h0] at hp; exact absurd hp (by decide)), Rat.mul_one] at h5
    rw [Rat.div_def, Rat.mul_assoc, Rat.mul_comm _ ((2 : Rat) ^ 1074), ← Rat.mul_assoc]
    exact h5
end Go.Proofs.Ytjhognfkjdccfaa
