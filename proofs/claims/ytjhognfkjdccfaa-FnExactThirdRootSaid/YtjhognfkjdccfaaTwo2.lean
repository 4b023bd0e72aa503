/-
  The plain law of powers of two: what comes, made narrow, and its bounds.
-/
import Derived.Test.YtjhognfkjdccfaaTwo1
namespace Go.Proofs.Ytjhognfkjdccfaa
open Go.RowKit Fl
set_option maxRecDepth 20000
set_option exponentiation.threshold 3000

abbrev D32 : Ieee.Format := FloatKind.f32.format
/-- what is left of a number beside its whole part, times the logarithm of 2 -/
def twoY (x : Nat) (s : Bool) (n : Nat) : Nat := fv .mul .f64 (fv .sub .f64 (cv x) (fN s n)) 4604418534313441775
/-- 2 to a number, wide -/
def twoW (s : Bool) (n y : Nat) : Nat := if s then hsum y 14 - n * 4503599627370496 else hsum y 14 + n * 4503599627370496
def twoV (x : Nat) (s : Bool) (n : Nat) : Nat := (floatToFloatBits .f64 (twoW s n (twoY x s n)) .f32).getD 0
theorem sv32_up (k : Nat) : sv D32 (1065353216 + k * 8388608) = 2 ^ (149 + k) := by
  have e := sv_at D32 (126 + k) 8388608 (Nat.le_refl _) (by show (8388608 : Nat) ≤ 2 * 8388608; omega)
  have e1 : D32.binade = 8388608 := rfl
  rw [e1] at e
  rw [show 1065353216 + k * 8388608 = (126 + k) * 8388608 + 8388608 by omega, e, show (8388608 : Nat) = 2 ^ 23 by decide, ← Nat.pow_add]
  congr 1; omega
theorem sv32_dn (k : Nat) (hk : k ≤ 100) : sv D32 (1065353216 - k * 8388608) * 2 ^ k = 2 ^ 149 := by
  have e := sv_at D32 (126 - k) 8388608 (Nat.le_refl _) (by show (8388608 : Nat) ≤ 2 * 8388608; omega)
  have e1 : D32.binade = 8388608 := rfl
  rw [e1] at e
  rw [show 1065353216 - k * 8388608 = (126 - k) * 8388608 + 8388608 by omega, e, show (8388608 : Nat) = 2 ^ 23 by decide, ← Nat.pow_add, ← Nat.pow_add]
  congr 1; omega
/-- a wide number made narrow -/
theorem nar {W n : Nat} (hn : n ≤ 100) (h1 : 4607182418800017408 - n * 4503599627370496 ≤ W) (h2 : W ≤ 4607182418800017408 + (n + 4) * 4503599627370496) :
    ∃ v, floatToFloatBits .f64 W .f32 = some v ∧ 1065353216 - n * 8388608 ≤ v ∧ v ≤ 1065353216 + (n + 4) * 8388608 := by
  have hW : W < D64.infRung := by rw [d_inf]; omega
  have hd := read_pos D64 W hW
  obtain ⟨r, k1, k2⟩ := nearest_spec D32 (fmt_ok .f32).1 false (mgn D64 W) (D64.leastPlace + (exn D64 W : Int))
  have hq : (mgn D64 W : Rat) * 2 ^ (D64.leastPlace + (exn D64 W : Int) - D32.leastPlace) * 2 ^ 925 = (sv D64 W : Rat) := by
    have e1 : D64.leastPlace + (exn D64 W : Int) - D32.leastPlace = (exn D64 W : Int) + (-925) := by
      have : D32.leastPlace = -149 := rfl
      rw [d_lp, this]; omega
    rw [e1, Rat.zpow_add (by decide), zp_nat, sv_rat]
    have e2 : (2 : Rat) ^ (-925 : Int) * 2 ^ 925 = 1 := by
      have := zpow_split (-925)
      have e : (2 : Rat) ^ (- -925 : Int) = 2 ^ 925 := by
        have : (- -925 : Int) = ((925 : Nat) : Int) := rfl
        rw [this, zp_nat]
      rw [e] at this; exact this
    generalize (2 : Rat) ^ (-925 : Int) = u at *
    generalize (2 : Rat) ^ 925 = z at *
    rw [Rat.mul_assoc, Rat.mul_assoc, e2, Rat.mul_one]
  have p925 : (0 : Rat) < 2 ^ 925 := by rw [← zp_nat]; exact zp_pos _
  have up : ∀ c : Nat, sv D64 W ≤ sv D32 c * 2 ^ 925 → (mgn D64 W : Rat) * 2 ^ (D64.leastPlace + (exn D64 W : Int) - D32.leastPlace) ≤ sv D32 c := fun c hc => by
    have := cast_le hc
    rw [← hq, Rat.natCast_mul, Rat.natCast_pow] at this
    exact Rat.le_of_mul_le_mul_right this p925
  have dn : ∀ c : Nat, sv D32 c * 2 ^ 925 ≤ sv D64 W → (sv D32 c : Rat) ≤ (mgn D64 W : Rat) * 2 ^ (D64.leastPlace + (exn D64 W : Int) - D32.leastPlace) := fun c hc => by
    have := cast_le hc
    rw [← hq, Rat.natCast_mul, Rat.natCast_pow] at this
    exact Rat.le_of_mul_le_mul_right this p925
  have hr1 : r ≤ 1065353216 + (n + 4) * 8388608 := by
    refine k2.mono (IsRnd.exact _ _) (up _ ?_)
    have := sv_mono D64 h2
    rw [sv_pw] at this
    rw [sv32_up, ← Nat.pow_add]
    rw [show 149 + (n + 4) + 925 = 1074 + (n + 4) by omega]; exact this
  have hr2 : 1065353216 - n * 8388608 ≤ r := by
    refine (IsRnd.exact D32 _).mono k2 (dn _ ?_)
    have a := sv_mono D64 h1
    have b := sv_pwn n (by omega)
    have c := sv32_dn n hn
    refine Nat.le_trans ?_ a
    have hp : 0 < 2 ^ n := Nat.two_pow_pos _
    refine Nat.le_of_mul_le_mul_right ?_ hp
    rw [b, Nat.mul_assoc, Nat.mul_comm (2 ^ 925), ← Nat.mul_assoc, c, ← Nat.pow_add]
    exact Nat.le_refl _
  have hrlt : r < D32.infRung := by show r < 2139095040; omega
  have henc : FloatKind.f32.encode (.number false (mgn D64 W) (D64.leastPlace + (exn D64 W : Int))) = r := by
    show D32.nearest false (mgn D64 W) (D64.leastPlace + (exn D64 W : Int)) = r
    rw [k1, Nat.min_eq_left (Nat.le_of_lt hrlt)]; rfl
  refine ⟨r, ?_, hr2, hr1⟩
  unfold floatToFloatBits
  rw [if_neg (by decide)]
  have e : FloatKind.f64.decode W = .number false (mgn D64 W) (D64.leastPlace + (exn D64 W : Int)) := hd
  rw [e]
  simp only [henc]
  have e3 : (FloatKind.f32.decode r).isInfinity = false := read_inf_iff D32 false r hrlt
  rw [e3]; rfl
structure TwoOk (x : Nat) (s : Bool) (n : Nat) : Prop where
  n100 : n ≤ 100
  cvx : cvok x = true
  fl : (FloatKind.f64.decode (cv x)).integral .down = .number s n 0
  sub : fok .sub .f64 (cv x) (fN s n) = true
  mul : fok .mul .f64 (fv .sub .f64 (cv x) (fN s n)) 4604418534313441775 = true
  yle : twoY x s n ≤ 4607182418800017408
  cvt : floatToFloatBits .f64 (twoW s n (twoY x s n)) .f32 = some (twoV x s n)
  lo : 1065353216 - n * 8388608 ≤ twoV x s n
  hi : twoV x s n ≤ 1065353216 + (n + 4) * 8388608
theorem sv100 : sv D32 1120403456 * 2 ^ 925 = 100 * 2 ^ 1074 := by
  have h : decide (sv D32 1120403456 * 2 ^ 925 = 100 * 2 ^ 1074) = true := by kernel_rfl
  exact of_decide_eq_true h
theorem two_ok (s : Bool) (r : Nat) (hr : r ≤ 1120403456) : ∃ n, TwoOk (D32.word s r) s n := by
  obtain ⟨q, h1, h2, h3⟩ := cv_fin s r (by omega)
  have hq : sv D64 q ≤ 100 * 2 ^ 1074 := by
    have h2' : sv D64 q = sv D32 r * 2 ^ 925 := h2
    rw [h2', ← sv100]
    exact Nat.mul_le_mul_right _ (sv_mono D32 hr)
  have hcv : cv (D32.word s r) = D64.word s q := by unfold cv; rw [h1]; rfl
  obtain ⟨n, n1, n2, n3, n4⟩ := floor64 s q h3 hq
  have hm := mul_le64 (a := fv .sub .f64 (D64.word s q) (fN s n)) (b := 4604418534313441775) (by omega) (by omega)
  have hy : twoY (D32.word s r) s n ≤ 4607182418800017408 := by unfold twoY; rw [hcv]; exact Nat.le_trans hm.2 n4
  obtain ⟨s1, s2, s3⟩ := hsum_ok hy 14 (Nat.le_refl _)
  have s4 := cap14
  have hW : 4607182418800017408 - n * 4503599627370496 ≤ twoW s n (twoY (D32.word s r) s n) ∧ twoW s n (twoY (D32.word s r) s n) ≤ 4607182418800017408 + (n + 4) * 4503599627370496 := by
    generalize hsum (twoY (D32.word s r) s n) 14 = S at s1 s2
    unfold twoW
    generalize hS : hsum (twoY (D32.word s r) s n) 14 = S'
    have := hsum_ok hy 14 (Nat.le_refl _)
    rw [hS] at this
    obtain ⟨t1, t2, _⟩ := this
    cases s
    · simp only [Bool.false_eq_true, if_false]; omega
    · simp only [if_true]; omega
  obtain ⟨v, v1, v2, v3⟩ := nar n1 hW.1 hW.2
  have hv : twoV (D32.word s r) s n = v := by unfold twoV; rw [v1]; rfl
  refine ⟨n, n1, ?_, ?_, ?_, ?_, hy, ?_, ?_, ?_⟩
  · cases s
    · exact cvok_of (by show r < 4294967296; omega) (decide_eq_true (by show r % 2147483648 ≤ 2139095040; omega))
    · exact cvok_of (by show 2147483648 + r < 4294967296; omega) (decide_eq_true (by show (2147483648 + r) % 2147483648 ≤ 2139095040; omega))
  · rw [hcv]; exact n2
  · rw [hcv]; exact n3
  · rw [hcv]; exact hm.1
  · rw [hv]; exact v1
  · rw [hv]; exact v2
  · rw [hv]; exact v3
end Go.Proofs.Ytjhognfkjdccfaa
