/-
  The plain law of third roots: how far a rounded product lies from the exact one; a step of Newton takes at most a half away.
-/
import Derived.Test.YtjhognfkjdccfaaThird
import Derived.Test.YtjhognfkjdccfaaTwo0
namespace Go.Proofs.Ytjhognfkjdccfaa
open Go.RowKit Fl
set_option maxRecDepth 20000
set_option exponentiation.threshold 3000

theorem sv_up8 (R : Nat) (h : 4503599627370496 ≤ R) : 8 * sv D64 (R + 1) ≤ 9 * sv D64 R := by
  obtain ⟨L, c, h1, h2, h3⟩ := rung_cases D64 R (by rw [d_bin]; exact h)
  rw [d_bin] at h1 h2 h3
  have a := sv_at D64 L c (by rw [d_bin]; exact h2) (by rw [d_bin]; omega)
  have b := sv_at D64 L (c + 1) (by rw [d_bin]; omega) (by rw [d_bin]; omega)
  rw [d_bin] at a b
  rw [show R + 1 = L * 4503599627370496 + (c + 1) by omega, b, h1, a, ← Nat.mul_assoc, ← Nat.mul_assoc]
  exact Nat.mul_le_mul_right _ (by omega)
theorem sv_dn8 (R : Nat) (h : 4503599627370496 ≤ R) : 7 * sv D64 R ≤ 8 * sv D64 (R - 1) := by
  obtain ⟨L, c, h1, h2, h3⟩ := rung_cases D64 R (by rw [d_bin]; exact h)
  rw [d_bin] at h1 h2 h3
  have a := sv_at D64 L c (by rw [d_bin]; exact h2) (by rw [d_bin]; omega)
  rw [d_bin] at a
  rcases Nat.lt_or_ge 4503599627370496 c with q | q
  · have b := sv_at D64 L (c - 1) (by rw [d_bin]; omega) (by rw [d_bin]; omega)
    rw [d_bin] at b
    rw [show R - 1 = L * 4503599627370496 + (c - 1) by omega, b, h1, a, ← Nat.mul_assoc, ← Nat.mul_assoc]
    exact Nat.mul_le_mul_right _ (by omega)
  · have hc : c = 4503599627370496 := by omega
    subst hc
    rcases L with _ | L
    · have b := sv_low D64 (R - 1) (by rw [d_bin]; omega)
      rw [b, h1, a]
      simp only [Nat.pow_zero, Nat.mul_one]
      omega
    · have b := sv_at D64 L 9007199254740991 (by rw [d_bin]; omega) (by rw [d_bin]; omega)
      rw [d_bin] at b
      rw [show R - 1 = L * 4503599627370496 + 9007199254740991 by rw [h1, Nat.add_mul]; omega, b, h1, a, Nat.pow_succ]
      generalize 2 ^ L = z
      omega
theorem h15 {s T P U : Nat} (h : 15 * s ≤ 8 * T) (k : T * U ≤ 2 * P) : 15 * s * U ≤ 16 * P := by
  have := Nat.mul_le_mul_right U h
  rw [Nat.mul_assoc 8] at this
  generalize T * U = z at *
  omega
theorem h17 {s T P U : Nat} (h : 8 * T ≤ 17 * s) (k : 2 * P ≤ T * U) : 16 * P ≤ 17 * s * U := by
  have := Nat.mul_le_mul_right U h
  rw [Nat.mul_assoc 8] at this
  generalize T * U = z at *
  omega
/-- with C near r r r, and V near 3 r r: twice C at most r V -/
theorem newt_half {r A C T V U : Nat} (hU : 0 < U) (h1 : 15 * A * U ≤ 16 * (r * r)) (h2 : 15 * C * U ≤ 16 * (A * r)) (h3 : 16 * (3 * U * r) ≤ 17 * T * U) (h4 : 16 * (T * r) ≤ 17 * V * U) : 2 * C * U ≤ r * V := by
  have a1 := Nat.mul_le_mul_right r h1
  have a2 := Nat.mul_le_mul_right U h2
  have h3' : 48 * r ≤ 17 * T := by
    have : 48 * r * U ≤ 17 * T * U := by
      have e : 16 * (3 * U * r) = 48 * r * U := by grind
      rw [← e]; exact h3
    exact Nat.le_of_mul_le_mul_right this hU
  have a3 := Nat.mul_le_mul_right (r * r) h3'
  have a4 := Nat.mul_le_mul_right r h4
  refine Nat.le_of_mul_le_mul_right (c := U) ?_ hU
  have e1 : 15 * A * U * r = 15 * (A * U * r) := by grind
  have e2 : 15 * C * U * U = 15 * (C * U * U) := by grind
  have e3 : 16 * (A * r) * U = 16 * (A * U * r) := by grind
  have e4 : 48 * r * (r * r) = 48 * (r * r * r) := by grind
  have e5 : 17 * T * (r * r) = 17 * (T * r * r) := by grind
  have e6 : 16 * (T * r) * r = 16 * (T * r * r) := by grind
  have e7 : 17 * V * U * r = 17 * (r * V * U) := by grind
  have e8 : 16 * (r * r) * r = 16 * (r * r * r) := by grind
  have e9 : 2 * C * U * U = 2 * (C * U * U) := by grind
  rw [e1, e8] at a1
  rw [e2, e3] at a2
  rw [e4, e5] at a3
  rw [e6, e7] at a4
  rw [e9]
  generalize A * U * r = m1 at *
  generalize C * U * U = m2 at *
  generalize r * r * r = m3 at *
  generalize T * r * r = m4 at *
  generalize r * V * U = m5 at *
  omega
/-- a product against the exact one -/
theorem mul_near {a b : Nat} (ha : a < 9218868437227405312) (hb : b < 9218868437227405312) (hR : fv .mul .f64 a b < 9218868437227405312) (hB : 4503599627370496 ≤ fv .mul .f64 a b) :
    fok .mul .f64 a b = true ∧ 15 * sv D64 (fv .mul .f64 a b) * 2 ^ 1074 ≤ 16 * (sv D64 a * sv D64 b) ∧ 16 * (sv D64 a * sv D64 b) ≤ 17 * sv D64 (fv .mul .f64 a b) * 2 ^ 1074 := by
  obtain ⟨r, h1, h2⟩ := mul_pos D64 d_ok a b ha hb
  obtain ⟨h3, h4⟩ := fok_of (op := .mul) (k := .f64) (x := a) (y := b) h1
  rw [d_inf] at h4
  have hr : fv .mul .f64 a b = r := by
    rw [h4]; rw [h4] at hR
    omega
  rw [hr] at hR hB ⊢
  have u8 := sv_up8 r hB
  have d8 := sv_dn8 r hB
  have key : ∀ x : Nat, (x : Rat) ≤ 2 * ((sv D64 a : Rat) * sv D64 b * 2 ^ D64.leastPlace) → x * 2 ^ 1074 ≤ 2 * (sv D64 a * sv D64 b) := fun x hx => by
    have hz : (0 : Rat) ≤ 2 ^ 1074 := Rat.le_of_lt p64
    have h5 := Rat.mul_le_mul_of_nonneg_right hx hz
    have e : 2 * ((sv D64 a : Rat) * sv D64 b * 2 ^ D64.leastPlace) * 2 ^ 1074 = ((2 * (sv D64 a * sv D64 b) : Nat) : Rat) := by
      have := lp64
      rw [Rat.natCast_mul, Rat.natCast_mul]
      generalize (2 : Rat) ^ D64.leastPlace = v at *
      generalize (2 : Rat) ^ 1074 = u at *
      generalize (sv D64 a : Rat) = x at *
      generalize (sv D64 b : Rat) = y at *
      rw [show 2 * (x * y * v) * u = 2 * (x * y * (v * u)) by grind, this, Rat.mul_one]
      rfl
    rw [e] at h5
    have e2 : (x : Rat) * 2 ^ 1074 = ((x * 2 ^ 1074 : Nat) : Rat) := by rw [Rat.natCast_mul, Rat.natCast_pow]; rfl
    rw [e2] at h5
    exact Rat.natCast_le_natCast.1 h5
  have key2 : ∀ x : Nat, 2 * ((sv D64 a : Rat) * sv D64 b * 2 ^ D64.leastPlace) ≤ (x : Rat) → 2 * (sv D64 a * sv D64 b) ≤ x * 2 ^ 1074 := fun x hx => by
    have hz : (0 : Rat) ≤ 2 ^ 1074 := Rat.le_of_lt p64
    have h5 := Rat.mul_le_mul_of_nonneg_right hx hz
    have e : 2 * ((sv D64 a : Rat) * sv D64 b * 2 ^ D64.leastPlace) * 2 ^ 1074 = ((2 * (sv D64 a * sv D64 b) : Nat) : Rat) := by
      have := lp64
      rw [Rat.natCast_mul, Rat.natCast_mul]
      generalize (2 : Rat) ^ D64.leastPlace = v at *
      generalize (2 : Rat) ^ 1074 = u at *
      generalize (sv D64 a : Rat) = x at *
      generalize (sv D64 b : Rat) = y at *
      rw [show 2 * (x * y * v) * u = 2 * (x * y * (v * u)) by grind, this, Rat.mul_one]
      rfl
    rw [e] at h5
    have e2 : (x : Rat) * 2 ^ 1074 = ((x * 2 ^ 1074 : Nat) : Rat) := by rw [Rat.natCast_mul, Rat.natCast_pow]; rfl
    rw [e2] at h5
    exact Rat.natCast_le_natCast.1 h5
  have lo := h2.lo
  have hi := h2.hi
  have lo' : (((sv D64 (r - 1) + sv D64 r : Nat)) : Rat) ≤ 2 * ((sv D64 a : Rat) * sv D64 b * 2 ^ D64.leastPlace) := by
    rw [Rat.natCast_add]
    rcases lo with q | q | q
    · omega
    · exact Rat.le_of_lt q
    · rw [q.1]; exact Rat.le_refl
  have hi' : 2 * ((sv D64 a : Rat) * sv D64 b * 2 ^ D64.leastPlace) ≤ (((sv D64 r + sv D64 (r + 1) : Nat)) : Rat) := by
    rw [Rat.natCast_add]
    rcases hi with q | q
    · exact Rat.le_of_lt q
    · rw [q.1]; exact Rat.le_refl
  have k1 := key _ lo'
  have k2 := key2 _ hi'
  exact ⟨h3, h15 (by omega) k1, h17 (by omega) k2⟩
end Go.Proofs.Ytjhognfkjdccfaa
