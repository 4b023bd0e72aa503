/-
  The plain law of powers of two: whole parts, the series, the scaling by powers of two, in wide numbers.
-/
import Derived.Test.YtjhognfkjdccfaaMade
namespace Go.Proofs.Ytjhognfkjdccfaa
open Go.RowKit Fl
set_option maxRecDepth 20000
set_option exponentiation.threshold 3000

abbrev D64 : Ieee.Format := FloatKind.f64.format
theorem d_ok : 1 ≤ D64.fractionBits := (fmt_ok .f64).1
theorem d_bin : D64.binade = 4503599627370496 := rfl
theorem d_inf : D64.infRung = 9218868437227405312 := rfl
theorem d_lp : D64.leastPlace = -1074 := rfl
theorem sv_shift (r k : Nat) (h : 4503599627370496 ≤ r) : sv D64 (r + k * 4503599627370496) = sv D64 r * 2 ^ k := by
  obtain ⟨L, c, h1, h2, h3⟩ := rung_cases D64 r (by rw [d_bin]; exact h)
  rw [d_bin] at h1 h2 h3
  have a := sv_at D64 L c (by rw [d_bin]; exact h2) (by rw [d_bin]; omega)
  have b := sv_at D64 (L + k) c (by rw [d_bin]; exact h2) (by rw [d_bin]; omega)
  rw [d_bin] at a b
  rw [show r + k * 4503599627370496 = (L + k) * 4503599627370496 + c by rw [h1, Nat.add_mul]; omega, b, h1, a, Nat.pow_add, Nat.mul_assoc]
theorem sv_one64 : sv D64 4607182418800017408 = 2 ^ 1074 := by
  have e := sv_at D64 1022 4503599627370496 (by rw [d_bin]; omega) (by rw [d_bin]; omega)
  rw [d_bin] at e
  rw [show (4607182418800017408 : Nat) = 1022 * 4503599627370496 + 4503599627370496 by omega, e, show (4503599627370496 : Nat) = 2 ^ 52 by decide, ← Nat.pow_add]
theorem sv_pw (k : Nat) : sv D64 (4607182418800017408 + k * 4503599627370496) = 2 ^ (1074 + k) := by
  rw [sv_shift _ k (by omega), sv_one64, ← Nat.pow_add]
theorem sv_pwn (k : Nat) (hk : k ≤ 1000) : sv D64 (4607182418800017408 - k * 4503599627370496) * 2 ^ k = 2 ^ 1074 := by
  rw [← sv_shift _ k (by omega), show 4607182418800017408 - k * 4503599627370496 + k * 4503599627370496 = 4607182418800017408 by omega, sv_one64]
theorem svr (a b : Nat) (h : a ≤ b) : (sv D64 a : Rat) ≤ sv D64 b := cast_le (sv_mono _ h)
theorem svr0 (a : Nat) : (0 : Rat) ≤ sv D64 a := by have := cast_le (Nat.zero_le (sv D64 a)); simpa using this
theorem lp64 : (2 : Rat) ^ D64.leastPlace * 2 ^ 1074 = 1 := by
  rw [d_lp]
  have := zpow_split (-1074)
  have e : (2 : Rat) ^ (- -1074 : Int) = 2 ^ 1074 := by
    have : (- -1074 : Int) = ((1074 : Nat) : Int) := rfl
    rw [this, zp_nat]
  rw [e] at this; exact this
theorem lp64' : (2 : Rat) ^ 1074 * 2 ^ D64.leastPlace = 1 := by rw [Rat.mul_comm]; exact lp64
theorem nlp64 : (2 : Rat) ^ (-D64.leastPlace) = 2 ^ 1074 := by
  have : -D64.leastPlace = ((1074 : Nat) : Int) := rfl
  rw [this, zp_nat]
theorem p64 : (0 : Rat) < 2 ^ 1074 := by rw [← zp_nat]; exact zp_pos _
theorem word_pos (r : Nat) : D64.word false r = r := rfl

/-- a product with a number that is at most one -/
theorem mul_le64 {a b : Nat} (ha : a < 9218868437227405312) (hb : b ≤ 4607182418800017408) : fok .mul .f64 a b = true ∧ fv .mul .f64 a b ≤ a := by
  obtain ⟨r, h1, h2⟩ := mul_pos D64 d_ok a b ha (by rw [d_inf]; omega)
  obtain ⟨h3, h4⟩ := fok_of (op := .mul) (k := .f64) (x := a) (y := b) h1
  refine ⟨h3, ?_⟩
  rw [h4]
  refine Nat.le_trans (Nat.min_le_left _ _) (h2.mono (IsRnd.exact _ a) ?_)
  have hs : (sv D64 b : Rat) ≤ 2 ^ 1074 := by
    have := svr _ _ hb
    rw [sv_one64, Rat.natCast_pow] at this; exact this
  have hz : (0 : Rat) ≤ 2 ^ D64.leastPlace := Rat.le_of_lt (zp_pos _)
  have h5 := Rat.mul_le_mul_of_nonneg_right hs hz
  rw [lp64'] at h5
  have h6 := Rat.mul_le_mul_of_nonneg_left h5 (svr0 a)
  rw [Rat.mul_one] at h6
  rw [Rat.mul_assoc]; exact h6
/-- a quotient by a number that is at least one -/
theorem quo_le64 {a b : Nat} (ha : a < 9218868437227405312) (hb : b < 9218868437227405312) (h1 : 4607182418800017408 ≤ b) : fok .quo .f64 a b = true ∧ fv .quo .f64 a b ≤ a := by
  obtain ⟨r, h1', h2⟩ := div_spec D64 d_ok false false a b ha hb (by omega)
  obtain ⟨h3, h4⟩ := fok_of (op := .quo) (k := .f64) (x := a) (y := b) h1'
  refine ⟨h3, ?_⟩
  rw [h4]
  have e : D64.word (false ^^ false) (min r D64.infRung) = min r D64.infRung := rfl
  rw [e]
  refine Nat.le_trans (Nat.min_le_left _ _) (h2.mono (IsRnd.exact _ a) ?_)
  rw [nlp64]
  have hs : (2 : Rat) ^ 1074 ≤ sv D64 b := by
    have := svr _ _ h1
    rw [sv_one64, Rat.natCast_pow] at this; exact this
  have hp : (0 : Rat) < sv D64 b := by have := cast_lt ((sv_pos_iff D64 b).2 (by omega)); simpa using this
  have hi : (0 : Rat) ≤ (sv D64 b : Rat)⁻¹ := Rat.le_of_lt (Rat.inv_pos.2 hp)
  have h5 := Rat.mul_le_mul_of_nonneg_right hs hi
  rw [Rat.mul_inv_cancel _ (by intro h0; rw [h0] at hp; exact absurd hp (by decide))] at h5
  have h6 := Rat.mul_le_mul_of_nonneg_left h5 (svr0 a)
  rw [Rat.mul_one] at h6
  rw [Rat.div_def, Rat.mul_assoc, Rat.mul_comm _ ((2 : Rat) ^ 1074)]
  exact h6
/-- one more -/
theorem add_one64 {a c : Nat} (ha : a ≤ c) (hc : c < 9218868437227405312) {e : Nat} (he : sv D64 4607182418800017408 + sv D64 c = sv D64 e) (hei : e < 9218868437227405312) :
    fok .add .f64 4607182418800017408 a = true ∧ fv .add .f64 4607182418800017408 a ≤ e ∧ 4607182418800017408 ≤ fv .add .f64 4607182418800017408 a := by
  obtain ⟨r, h1, h2⟩ := add_pos D64 d_ok 4607182418800017408 a (by rw [d_inf]; omega) (by rw [d_inf]; omega)
  obtain ⟨h3, h4⟩ := fok_of (op := .add) (k := .f64) (x := 4607182418800017408) (y := a) h1
  have hm := sv_mono D64 ha
  have hr : r ≤ e := h2.mono (IsRnd.exact _ e) (by rw [← Rat.natCast_add]; exact cast_le (by omega))
  have hr2 : 4607182418800017408 ≤ r := (IsRnd.exact D64 4607182418800017408).mono h2 (by rw [← Rat.natCast_add]; exact cast_le (by omega))
  refine ⟨h3, ?_, ?_⟩
  · rw [h4]; exact Nat.le_trans (Nat.min_le_left _ _) hr
  · rw [h4, Nat.min_eq_left (by rw [d_inf]; omega)]; exact hr2
/-- scaled up -/
theorem mul_pw64 {a k : Nat} (ha : 4503599627370496 ≤ a) (hk : a + k * 4503599627370496 < 9218868437227405312) (hk2 : 4607182418800017408 + k * 4503599627370496 < 9218868437227405312) :
    fok .mul .f64 a (4607182418800017408 + k * 4503599627370496) = true ∧ fv .mul .f64 a (4607182418800017408 + k * 4503599627370496) = a + k * 4503599627370496 := by
  obtain ⟨r, h1, h2⟩ := mul_pos D64 d_ok a (4607182418800017408 + k * 4503599627370496) (by rw [d_inf]; omega) hk2
  obtain ⟨h3, h4⟩ := fok_of (op := .mul) (k := .f64) h1
  rw [sv_pw, Nat.pow_add, Rat.natCast_mul, Rat.natCast_pow, Rat.natCast_pow] at h2
  have e : (sv D64 a : Rat) * (((2 : Nat) : Rat) ^ 1074 * ((2 : Nat) : Rat) ^ k) * 2 ^ D64.leastPlace = (sv D64 (a + k * 4503599627370496) : Rat) := by
    rw [sv_shift a k ha, Rat.natCast_mul, Rat.natCast_pow]
    have := lp64'
    have e2 : (((2 : Nat) : Rat)) = 2 := rfl
    rw [e2]
    generalize (2 : Rat) ^ 1074 = u at *
    generalize (2 : Rat) ^ D64.leastPlace = v at *
    generalize (2 : Rat) ^ k = z at *
    generalize (sv D64 a : Rat) = x at *
    rw [show x * (u * z) * v = x * z * (u * v) by grind, this, Rat.mul_one]
  rw [e] at h2
  have := h2.eq_of_sv
  subst this
  exact ⟨h3, by rw [h4]; exact Nat.min_eq_left (by rw [d_inf]; omega)⟩
/-- scaled down -/
theorem mul_pn64 {a k : Nat} (ha : 4503599627370496 + k * 4503599627370496 ≤ a) (hk : a < 9218868437227405312) (hk2 : k ≤ 1000) :
    fok .mul .f64 a (4607182418800017408 - k * 4503599627370496) = true ∧ fv .mul .f64 a (4607182418800017408 - k * 4503599627370496) = a - k * 4503599627370496 := by
  obtain ⟨r, h1, h2⟩ := mul_pos D64 d_ok a (4607182418800017408 - k * 4503599627370496) (by rw [d_inf]; omega) (by rw [d_inf]; omega)
  obtain ⟨h3, h4⟩ := fok_of (op := .mul) (k := .f64) h1
  have e1 : sv D64 a = sv D64 (a - k * 4503599627370496) * 2 ^ k := by
    rw [← sv_shift _ k (by omega), show a - k * 4503599627370496 + k * 4503599627370496 = a by omega]
  have e2 := sv_pwn k hk2
  have e : (sv D64 a : Rat) * (sv D64 (4607182418800017408 - k * 4503599627370496) : Rat) * 2 ^ D64.leastPlace = (sv D64 (a - k * 4503599627370496) : Rat) := by
    rw [e1, Rat.natCast_mul]
    have e3 : ((2 ^ k : Nat) : Rat) * (sv D64 (4607182418800017408 - k * 4503599627370496) : Rat) = 2 ^ 1074 := by
      rw [Rat.mul_comm, ← Rat.natCast_mul, e2, Rat.natCast_pow]; rfl
    have := lp64'
    generalize (2 : Rat) ^ 1074 = u at *
    generalize (2 : Rat) ^ D64.leastPlace = v at *
    rw [Rat.mul_assoc (sv D64 (a - k * 4503599627370496) : Rat), e3, Rat.mul_assoc, this, Rat.mul_one]
  rw [e] at h2
  have := h2.eq_of_sv
  subst this
  exact ⟨h3, by rw [h4]; exact Nat.min_eq_left (by rw [d_inf]; omega)⟩
theorem quo_two64 {a : Nat} (ha : 9007199254740992 ≤ a) (hk : a < 9218868437227405312) : fok .quo .f64 a 4611686018427387904 = true ∧ fv .quo .f64 a 4611686018427387904 = a - 4503599627370496 := by
  obtain ⟨r, h1, h2⟩ := div_spec D64 d_ok false false a 4611686018427387904 hk (by rw [d_inf]; omega) (by omega)
  obtain ⟨h3, h4⟩ := fok_of (op := .quo) (k := .f64) (x := a) (y := 4611686018427387904) h1
  have e1 : sv D64 a = sv D64 (a - 4503599627370496) * 2 ^ 1 := by
    have := sv_shift (a - 4503599627370496) 1 (by omega)
    rw [show a - 4503599627370496 + 1 * 4503599627370496 = a by omega] at this; exact this
  have e2 : sv D64 4611686018427387904 = 2 ^ (1074 + 1) := by
    have := sv_pw 1
    rw [show 4607182418800017408 + 1 * 4503599627370496 = 4611686018427387904 by omega] at this; exact this
  have e : (sv D64 a : Rat) / sv D64 4611686018427387904 * 2 ^ (-D64.leastPlace) = (sv D64 (a - 4503599627370496) : Rat) := by
    rw [nlp64, e1, e2, Rat.div_def, Rat.natCast_mul, Nat.pow_add, Rat.natCast_mul, Rat.natCast_pow, Rat.natCast_pow]
    have e5 : (((2 : Nat) : Rat)) = 2 := rfl
    rw [e5]
    have hp := p64
    have hne : (2 : Rat) ^ 1074 * 2 ^ 1 ≠ 0 := by
      have : (0 : Rat) < 2 ^ 1074 * 2 ^ 1 := Rat.mul_pos hp (by decide)
      intro h0; rw [h0] at this; exact absurd this (by decide)
    have hi := Rat.mul_inv_cancel _ hne
    generalize ((2 : Rat) ^ 1074 * 2 ^ 1)⁻¹ = v at *
    generalize (2 : Rat) ^ 1074 = u at *
    generalize (sv D64 (a - 4503599627370496) : Rat) = x at *
    rw [show x * 2 ^ 1 * v * u = x * (u * 2 ^ 1 * v) by grind, hi, Rat.mul_one]
  rw [e] at h2
  have hr := h2.eq_of_sv
  have e9 : D64.word (false ^^ false) (min r D64.infRung) = min r D64.infRung := rfl
  rw [e9, hr] at h4
  exact ⟨h3, h4.trans (Nat.min_eq_left (by rw [d_inf]; omega))⟩
end Go.Proofs.Ytjhognfkjdccfaa
