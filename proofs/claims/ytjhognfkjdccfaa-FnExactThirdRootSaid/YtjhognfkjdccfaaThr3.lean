/-
  The plain law of third roots: the scaling by eights, and that there always is a root.
-/
import Derived.Test.YtjhognfkjdccfaaThr2
import Derived.Test.YtjhognfkjdccfaaTwo2
namespace Go.Proofs.Ytjhognfkjdccfaa
open Go.RowKit Fl
set_option maxRecDepth 20000
set_option exponentiation.threshold 3000

theorem ord64_pos {x y : Nat} (hx : x < 9218868437227405312) (hy : y < 9218868437227405312) : D64.order x y = some (compare (x : Int) (y : Int)) := by
  have nx : num D64 x := num_word D64 false x (Nat.le_of_lt hx)
  have ny : num D64 y := num_word D64 false y (Nat.le_of_lt hy)
  rw [order_key D64 (fmt_ok .f64).2 nx ny, show key D64 x = (x : Int) from key_word D64 false x (Nat.le_of_lt hx), show key D64 y = (y : Int) from key_word D64 false y (Nat.le_of_lt hy)]
theorem ge8_of {b : Nat} (hb : b < 9218868437227405312) : ge8 b = decide (4620693217682128896 ≤ b) := by
  unfold ge8
  rw [ord64_pos hb (by omega)]
  rcases Int.lt_trichotomy (b : Int) ((4620693217682128896 : Nat) : Int) with q | q | q
  · rw [Int.compare_eq_lt.2 q, decide_eq_false (by omega)]; rfl
  · rw [Int.compare_eq_eq.2 q, decide_eq_true (by omega)]; rfl
  · rw [Int.compare_eq_gt.2 q, decide_eq_true (by omega)]; rfl
theorem lt1_of {b : Nat} (hb : b < 9218868437227405312) : lt1 b = decide (b < 4607182418800017408) := by
  unfold lt1
  rw [ord64_pos hb (by omega)]
  rcases Int.lt_trichotomy (b : Int) ((4607182418800017408 : Nat) : Int) with q | q | q
  · rw [Int.compare_eq_lt.2 q, decide_eq_true (by omega)]; rfl
  · rw [Int.compare_eq_eq.2 q, decide_eq_false (by omega)]; rfl
  · rw [Int.compare_eq_gt.2 q, decide_eq_false (by omega)]; rfl
theorem quo_eight {a : Nat} (ha : 18014398509481984 ≤ a) (hk : a < 9218868437227405312) : floatBits .quo .f64 a 4620693217682128896 = some (a - 13510798882111488) := by
  obtain ⟨r, h1, h2⟩ := div_spec D64 d_ok false false a 4620693217682128896 hk (by rw [d_inf]; omega) (by omega)
  have e1 : sv D64 a = sv D64 (a - 13510798882111488) * 2 ^ 3 := by
    have := sv_shift (a - 13510798882111488) 3 (by omega)
    rw [show a - 13510798882111488 + 3 * 4503599627370496 = a by omega] at this; exact this
  have e2 : sv D64 4620693217682128896 = 2 ^ (1074 + 3) := by
    have := sv_pw 3
    rw [show 4607182418800017408 + 3 * 4503599627370496 = 4620693217682128896 by omega] at this; exact this
  have e : (sv D64 a : Rat) / sv D64 4620693217682128896 * 2 ^ (-D64.leastPlace) = (sv D64 (a - 13510798882111488) : Rat) := by
    rw [nlp64, e1, e2, Rat.div_def, Rat.natCast_mul, Nat.pow_add, Rat.natCast_mul, Rat.natCast_pow, Rat.natCast_pow]
    have e5 : (((2 : Nat) : Rat)) = 2 := rfl
    rw [e5]
    have hp := p64
    have hne : (2 : Rat) ^ 1074 * 2 ^ 3 ≠ 0 := by
      have : (0 : Rat) < 2 ^ 1074 * 2 ^ 3 := Rat.mul_pos hp (by decide)
      intro h0; rw [h0] at this; exact absurd this (by decide)
    have hi := Rat.mul_inv_cancel _ hne
    generalize ((2 : Rat) ^ 1074 * 2 ^ 3)⁻¹ = v at *
    generalize (2 : Rat) ^ 1074 = u at *
    generalize (sv D64 (a - 13510798882111488) : Rat) = x at *
    rw [show x * 2 ^ 3 * v * u = x * (u * 2 ^ 3 * v) by grind, hi, Rat.mul_one]
  rw [e] at h2
  have hr := h2.eq_of_sv
  have e8 : D64.word (false ^^ false) (min r D64.infRung) = min r D64.infRung := rfl
  rw [e8, hr, Nat.min_eq_left (show a - 13510798882111488 ≤ D64.infRung by rw [d_inf]; omega)] at h1
  exact h1
theorem mul_eight {a : Nat} (ha : 4503599627370496 ≤ a) (hk : a < 9000000000000000000) : floatBits .mul .f64 a 4620693217682128896 = some (a + 13510798882111488) := by
  obtain ⟨m1, m2⟩ := mul_pw64 (a := a) (k := 3) ha (by omega) (by omega)
  rw [show 4607182418800017408 + 3 * 4503599627370496 = 4620693217682128896 by omega] at m1 m2
  have := fv_some m1
  rw [m2, show a + 3 * 4503599627370496 = a + 13510798882111488 by omega] at this
  exact this
theorem mul_two' {a : Nat} (ha : 4503599627370496 ≤ a) (hk : a < 9000000000000000000) : floatBits .mul .f64 a 4611686018427387904 = some (a + 4503599627370496) := by
  obtain ⟨m1, m2⟩ := mul_pw64 (a := a) (k := 1) ha (by omega) (by omega)
  rw [show 4607182418800017408 + 1 * 4503599627370496 = 4611686018427387904 by omega] at m1 m2
  have := fv_some m1
  rw [m2, show a + 1 * 4503599627370496 = a + 4503599627370496 by omega] at this
  exact this
theorem quo_two' {a : Nat} (ha : 9007199254740992 ≤ a) (hk : a < 9218868437227405312) : floatBits .quo .f64 a 4611686018427387904 = some (a - 4503599627370496) := by
  obtain ⟨m1, m2⟩ := quo_two64 ha hk
  have := fv_some m1
  rw [m2] at this
  exact this
theorem down_ok (f : Nat) : ∀ b x n, n < f → n ≤ 50 → 4503599627370496 ≤ b → b < 4620693217682128896 + n * 13510798882111488 → 4503599627370496 * 100 ≤ x → x ≤ 4503599627370496 * (1500 - n) →
    ∃ b' x', down f b x = some (b', x') ∧ b' ≤ b ∧ (b' = b ∨ 4607182418800017408 ≤ b') ∧ b' < 4620693217682128896 ∧ x ≤ x' ∧ x' ≤ x + n * 4503599627370496 := by
  induction f with
  | zero => intro b x n h; omega
  | succ f ih =>
    intro b x n h hn h1 h2 h3 h4
    unfold down
    have hb : b < 9218868437227405312 := by omega
    rw [ge8_of hb]
    by_cases q : 4620693217682128896 ≤ b
    · rw [decide_eq_true q, if_pos rfl, quo_eight (by omega) hb, Option.bind_some, mul_two' (by omega) (by omega), Option.bind_some]
      obtain ⟨b', x', k1, k2, k3, k4, k5, k6⟩ := ih (b - 13510798882111488) (x + 4503599627370496) (n - 1) (by omega) (by omega) (by omega) (by omega) (by omega) (by omega)
      exact ⟨b', x', k1, by omega, by omega, k4, by omega, by omega⟩
    · rw [decide_eq_false q, if_neg (by decide)]
      exact ⟨b, x, rfl, Nat.le_refl _, .inl rfl, by omega, Nat.le_refl _, by omega⟩
theorem up_ok (f : Nat) : ∀ b x n, n < f → n ≤ 50 → 4503599627370496 ≤ b → 4607182418800017408 ≤ b + n * 13510798882111488 → b < 4620693217682128896 → 4503599627370496 * (100 + n) ≤ x → x ≤ 4503599627370496 * 1600 →
    ∃ b' x', up f b x = some (b', x') ∧ 4607182418800017408 ≤ b' ∧ b' < 4620693217682128896 ∧ x' ≤ x ∧ x ≤ x' + n * 4503599627370496 := by
  induction f with
  | zero => intro b x n h; omega
  | succ f ih =>
    intro b x n h hn h1 h2 h3 h4 h5
    unfold up
    have hb : b < 9218868437227405312 := by omega
    rw [lt1_of hb]
    by_cases q : b < 4607182418800017408
    · rw [decide_eq_true q, if_pos rfl, mul_eight (by omega) (by omega), Option.bind_some, quo_two' (by omega) (by omega), Option.bind_some]
      obtain ⟨b', x', k1, k2, k3, k4, k5⟩ := ih (b + 13510798882111488) (x - 4503599627370496) (n - 1) (by omega) (by omega) (by omega) (by omega) (by omega) (by omega) (by omega)
      exact ⟨b', x', k1, k2, k3, by omega, by omega⟩
    · rw [decide_eq_false q, if_neg (by decide)]
      exact ⟨b, x, rfl, by omega, h3, Nat.le_refl _, by omega⟩
theorem cv_rng {a : Nat} (h0 : 0 < a) (ha : a < 2139095040) : ew 874 ≤ cv a ∧ cv a ≤ ew 1151 := by
  obtain ⟨q, h1, h2, h3⟩ := cv_fin false a ha
  have hcv : cv a = q := by
    have e : FloatKind.f32.format.word false a = a := rfl
    rw [e] at h1
    unfold cv; rw [h1]; rfl
  have h2' : sv D64 q = sv D32 a * 2 ^ 925 := h2
  rw [hcv]
  constructor
  · rcases Nat.lt_or_ge q (ew 874) with c | c
    · exfalso
      have := sv_lt D64 c
      rw [sv_ew 874 (by omega), h2'] at this
      have hp : 0 < sv D32 a := (sv_pos_iff D32 a).2 h0
      have := Nat.le_trans (Nat.mul_le_mul_right (2 ^ 925) hp) (Nat.le_of_lt this)
      have h5 : 1 * 2 ^ 925 ≤ sv D32 a * 2 ^ 925 := Nat.mul_le_mul_right _ hp
      have h6 := sv_lt D64 c
      rw [sv_ew 874 (by omega), h2'] at h6
      rw [Nat.one_mul] at h5
      exact Nat.lt_irrefl _ (Nat.lt_of_le_of_lt h5 h6)
    · exact c
  · rcases Nat.lt_or_ge (ew 1151) q with c | c
    · exfalso
      have h6 := sv_lt D64 c
      rw [sv_ew 1151 (by omega), h2'] at h6
      have h7 := sv_mono D32 (show a ≤ 1065353216 + 128 * 8388608 by omega)
      rw [sv32_up] at h7
      have h8 := Nat.mul_le_mul_right (2 ^ 925) h7
      rw [← Nat.pow_add] at h8
      exact Nat.lt_irrefl _ (Nat.lt_of_lt_of_le h6 h8)
    · exact c
/-- every amount has a third root -/
theorem third_ok {a : Nat} (ha : amtB a = true) : ∃ v, third a = some v ∧ v ≤ 2139095040 := by
  unfold third
  by_cases h0 : a = 0
  · rw [if_pos h0]; exact ⟨0, rfl, by omega⟩
  · rw [if_neg h0]
    obtain ⟨q1, q2⟩ := cv_rng (by omega) (amt_lt ha)
    unfold thirdGo
    generalize cv a = q at *
    unfold ew at q1 q2
    obtain ⟨b1, x1, d1, d2, d3, d4, d5, d6⟩ := down_ok 64 q 4607182418800017408 42 (by omega) (by omega) (by omega) (by omega) (by omega) (by omega)
    obtain ⟨b2, x2, u1, u2, u3, u4, u5⟩ := up_ok 64 b1 x1 50 (by omega) (by omega) (by omega) (by omega) d4 (by omega) (by omega)
    obtain ⟨R, n1, n2, n3⟩ := newt_all (b := b2) (by unfold ew; omega) (by unfold ew; omega) 6 0 4609434218613702656 rfl (by unfold ew; omega) (by unfold ew; omega)
    obtain ⟨m0, m1, m2⟩ := mul_rng (a := R) (b := x2) (n := 1017) (n' := 1044) (m := 973) (m' := 1066) (by omega) (by omega) n2 n3 (by unfold ew; omega) (by unfold ew; omega) (by omega) (by omega) (by omega) (by omega)
    obtain ⟨v, v1, v2, v3⟩ := nar (W := fv .mul .f64 R x2) (n := 100) (by omega) (by unfold ew at m1; omega) (by unfold ew at m2; omega)
    refine ⟨v, ?_, by omega⟩
    rw [d1, Option.bind_some, u1, Option.bind_some, n1, Option.bind_some, fv_some m0, Option.bind_some, v1]
end Go.Proofs.Ytjhognfkjdccfaa
