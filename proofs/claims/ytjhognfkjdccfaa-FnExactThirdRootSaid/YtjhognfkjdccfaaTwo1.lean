/-
  The plain law of powers of two: the whole part of a number, what is left, and the series.
-/
import Derived.Test.YtjhognfkjdccfaaTwo0
namespace Go.Proofs.Ytjhognfkjdccfaa
open Go.RowKit Fl
set_option maxRecDepth 20000
set_option exponentiation.threshold 3000

theorem cut_down (s : Bool) (m drop : Nat) :
    (s = false → Ieee.Toward.down.cut s m drop * 2 ^ drop ≤ m ∧ m < (Ieee.Toward.down.cut s m drop + 1) * 2 ^ drop) ∧
    (s = true → m ≤ Ieee.Toward.down.cut s m drop * 2 ^ drop ∧ Ieee.Toward.down.cut s m drop * 2 ^ drop < m + 2 ^ drop) := by
  unfold Ieee.Toward.cut
  simp only [Nat.shiftLeft_eq, Nat.one_mul]
  rcases Nat.lt_or_ge (m.log2 + 2) drop with h | h
  · rw [Nat.min_eq_right (by omega)]
    have hn : m < 2 ^ (m.log2 + 1) := Nat.lt_log2_self
    have e : 2 ^ (m.log2 + 2) = 2 * 2 ^ (m.log2 + 1) := by rw [show m.log2 + 2 = (m.log2 + 1) + 1 by omega, Nat.pow_succ]; omega
    have hd : 2 ^ (m.log2 + 2) ≤ 2 ^ drop := Nat.pow_le_pow_right (by omega) (by omega)
    have hlow : m / 2 ^ (m.log2 + 2) = 0 := Nat.div_eq_of_lt (by omega)
    have hrest : m % 2 ^ (m.log2 + 2) = m := Nat.mod_eq_of_lt (by omega)
    rw [hlow, hrest]
    refine ⟨fun hs => ?_, fun hs => ?_⟩
    · subst hs
      simp only [Bool.false_and, Bool.toNat_false, Nat.add_zero, Nat.zero_mul, Nat.zero_add, Nat.one_mul]
      exact ⟨Nat.zero_le _, by omega⟩
    · subst hs
      by_cases h0 : m = 0
      · subst h0
        simp
        exact Nat.two_pow_pos _
      · have : (m != 0) = true := by simp [h0]
        rw [this]
        simp only [Bool.true_and, Bool.toNat_true, Nat.zero_add, Nat.one_mul]
        exact ⟨by omega, by omega⟩
  · rw [Nat.min_eq_left h]
    have hp : 0 < 2 ^ drop := Nat.two_pow_pos _
    have hdm := Nat.div_add_mod m (2 ^ drop)
    have hlt := Nat.mod_lt m hp
    generalize 2 ^ drop = g at hp hdm hlt ⊢
    generalize m / g = q at hdm ⊢
    generalize m % g = t at hdm hlt ⊢
    refine ⟨fun hs => ?_, fun hs => ?_⟩
    · subst hs
      simp only [Bool.false_and, Bool.toNat_false, Nat.add_zero, Nat.add_mul, Nat.one_mul]
      rw [Nat.mul_comm q g]
      exact ⟨by omega, by omega⟩
    · subst hs
      by_cases h0 : t = 0
      · subst h0
        simp only [bne_self_eq_false, Bool.and_false, Bool.toNat_false, Nat.add_zero]
        rw [Nat.mul_comm q g]
        exact ⟨by omega, by omega⟩
      · have : (t != 0) = true := by simp [h0]
        rw [this]
        simp only [Bool.true_and, Bool.toNat_true, Nat.add_mul, Nat.one_mul]
        rw [Nat.mul_comm q g]
        exact ⟨by omega, by omega⟩

/-- the number of a whole part -/
def fN (s : Bool) (n : Nat) : Nat := D64.nearest s n 0
theorem fN_word (s : Bool) (n : Nat) (hn : n ≤ 1000) : ∃ r, fN s n = D64.word s r ∧ sv D64 r = n * 2 ^ 1074 ∧ r < 9218868437227405312 :=
  nearest_exact D64 d_ok s n 1074 0 (by rw [d_bin]; omega) (by rw [d_lp]; rfl) (by rw [d_bin, d_inf]; omega)
theorem sgn_ft {q r U : Nat} (h1 : sv D64 r ≤ sv D64 q) (h2 : sv D64 q < sv D64 r + U) : 0 ≤ sgn D64 false q + sgn D64 (!false) r ∧ (sgn D64 false q + sgn D64 (!false) r).natAbs ≤ U := by
  show 0 ≤ (sv D64 q : Int) + -(sv D64 r : Int) ∧ ((sv D64 q : Int) + -(sv D64 r : Int)).natAbs ≤ U
  omega
theorem sgn_tf {q r U : Nat} (h1 : sv D64 q ≤ sv D64 r) (h2 : sv D64 r < sv D64 q + U) : 0 ≤ sgn D64 true q + sgn D64 (!true) r ∧ (sgn D64 true q + sgn D64 (!true) r).natAbs ≤ U := by
  show 0 ≤ -(sv D64 q : Int) + (sv D64 r : Int) ∧ (-(sv D64 q : Int) + (sv D64 r : Int)).natAbs ≤ U
  omega
/-- the whole part of a number of at most a hundred, and what is left -/
theorem floor64 (s : Bool) (q : Nat) (hq : q < 9218868437227405312) (h : sv D64 q ≤ 100 * 2 ^ 1074) : ∃ n, n ≤ 100 ∧ (FloatKind.f64.decode (D64.word s q)).integral .down = .number s n 0 ∧
    fok .sub .f64 (D64.word s q) (fN s n) = true ∧ fv .sub .f64 (D64.word s q) (fN s n) ≤ 4607182418800017408 := by
  have hr := read_word D64 s q hq
  have hd : FloatKind.f64.decode (D64.word s q) = .number s (mgn D64 q) (D64.leastPlace + (exn D64 q : Int)) := hr
  have hex : exn D64 q ≤ 1074 := by
    rcases Nat.lt_or_ge (exn D64 q) 1075 with c | c
    · omega
    · exfalso
      have hm : 4503599627370496 ≤ mgn D64 q := by
        unfold mgn
        have : ¬ q < D64.binade := by
          intro hlt
          unfold exn at c
          rw [Nat.div_eq_of_lt hlt] at c
          omega
        rw [if_neg this, d_bin]; omega
      have h2 : 2 ^ 1075 ≤ 2 ^ exn D64 q := Nat.pow_le_pow_right (by omega) c
      have h3 : 4503599627370496 * 2 ^ 1075 ≤ mgn D64 q * 2 ^ exn D64 q := Nat.mul_le_mul hm h2
      unfold sv at h
      have h4 : 4503599627370496 * 2 ^ 1075 ≤ 100 * 2 ^ 1074 := Nat.le_trans h3 h
      exact absurd h4 (by decide)
  have hp : (D64.leastPlace + (exn D64 q : Int)).toNat = 0 := by rw [d_lp]; omega
  have hp2 : (-(D64.leastPlace + (exn D64 q : Int))).toNat = 1074 - exn D64 q := by rw [d_lp]; omega
  have hint : (FloatKind.f64.decode (D64.word s q)).integral .down = .number s (Ieee.Toward.down.cut s (mgn D64 q) (1074 - exn D64 q)) 0 := by
    rw [hd]
    show Ieee.Datum.number s (Ieee.Toward.down.cut s (mgn D64 q <<< _) _) 0 = _
    rw [hp, hp2, Nat.shiftLeft_zero]
  obtain ⟨c1, c2⟩ := cut_down s (mgn D64 q) (1074 - exn D64 q)
  generalize hN : Ieee.Toward.down.cut s (mgn D64 q) (1074 - exn D64 q) = N at c1 c2 hint
  -- in units of the least place
  have hU : 2 ^ (1074 - exn D64 q) * 2 ^ exn D64 q = 2 ^ 1074 := by rw [← Nat.pow_add]; congr 1; omega
  have hsv : sv D64 q = mgn D64 q * 2 ^ exn D64 q := rfl
  have hE : 0 < 2 ^ exn D64 q := Nat.two_pow_pos _
  have b1 : s = false → N * 2 ^ 1074 ≤ sv D64 q ∧ sv D64 q < (N + 1) * 2 ^ 1074 := fun hs => by
    have ⟨x, y⟩ := c1 hs
    have x' := Nat.mul_le_mul_right (2 ^ exn D64 q) x
    have y' := (Nat.mul_lt_mul_right hE).2 y
    rw [Nat.mul_assoc, hU, ← hsv] at x'
    rw [Nat.mul_assoc, hU, ← hsv] at y'
    exact ⟨x', y'⟩
  have b2 : s = true → sv D64 q ≤ N * 2 ^ 1074 ∧ N * 2 ^ 1074 < sv D64 q + 2 ^ 1074 := fun hs => by
    have ⟨x, y⟩ := c2 hs
    have x' := Nat.mul_le_mul_right (2 ^ exn D64 q) x
    have y' := (Nat.mul_lt_mul_right hE).2 y
    rw [Nat.mul_assoc, hU, ← hsv] at x'
    rw [Nat.mul_assoc, hU, Nat.add_mul, hU, ← hsv] at y'
    exact ⟨x', y'⟩
  have hN100 : N ≤ 100 := by
    have hp := Nat.two_pow_pos 1074
    cases s
    · have ⟨x, _⟩ := b1 rfl
      have : N * 2 ^ 1074 ≤ 100 * 2 ^ 1074 := Nat.le_trans x h
      exact Nat.le_of_mul_le_mul_right this hp
    · have ⟨_, y⟩ := b2 rfl
      have : N * 2 ^ 1074 < 101 * 2 ^ 1074 := by
        have : sv D64 q + 2 ^ 1074 ≤ 101 * 2 ^ 1074 := by rw [show (101 : Nat) = 100 + 1 by rfl, Nat.add_mul, Nat.one_mul]; exact Nat.add_le_add_right h _
        exact Nat.lt_of_lt_of_le y this
      have := Nat.lt_of_mul_lt_mul_right this
      omega
  refine ⟨N, hN100, hint, ?_⟩
  obtain ⟨rN, k1, k2, k3⟩ := fN_word s N (by omega)
  rw [k1]
  obtain ⟨r, h1, h2⟩ := add_spec D64 d_ok s (!s) q rN hq k3
  have h3 := sub_add D64 (D64.word s q) s rN k3
  have hge : 0 ≤ sgn D64 s q + sgn D64 (!s) rN ∧ (sgn D64 s q + sgn D64 (!s) rN).natAbs ≤ 2 ^ 1074 := by
    cases s
    · have ⟨x, y⟩ := b1 rfl
      rw [Nat.add_mul, Nat.one_mul] at y
      rw [← k2] at x y
      exact sgn_ft x y
    · have ⟨x, y⟩ := b2 rfl
      rw [← k2] at x y
      exact sgn_tf x y
  have hw : (if sgn D64 s q + sgn D64 (!s) rN = 0 then s && !s else decide (sgn D64 s q + sgn D64 (!s) rN < 0)) = false := by
    split
    · cases s <;> rfl
    · exact decide_eq_false (by omega)
  rw [hw] at h1
  obtain ⟨h4, h5⟩ := fok_of (op := .sub) (k := .f64) (h3.trans h1)
  refine ⟨h4, ?_⟩
  rw [h5]
  have hr1 : r ≤ 4607182418800017408 := by
    refine h2.mono (IsRnd.exact _ 4607182418800017408) (cast_le ?_)
    rw [sv_one64]; exact hge.2
  have : D64.word false (min r D64.infRung) = min r D64.infRung := rfl
  rw [this]
  exact Nat.le_trans (Nat.min_le_left _ _) hr1

/-- the series' next sum: 1 + y / m * s -/
def hstep (y m s : Nat) : Nat := fv .add .f64 4607182418800017408 (fv .mul .f64 (fv .quo .f64 y m) s)
/-- the sums, from the 14th on -/
def hsum (y : Nat) : Nat → Nat
  | 0 => 4607182418800017408
  | j + 1 => hstep y (floatOfInt .f64 ((14 - j : Nat) : Int)) (hsum y j)
def hcap : Nat → Nat := fun j => fN false (j + 1)
def capB (j : Nat) : Bool := decide (sv D64 4607182418800017408 + sv D64 (hcap j) = sv D64 (hcap (j + 1))) && decide (hcap (j + 1) < 9218868437227405312) && decide (4607182418800017408 ≤ floatOfInt .f64 ((14 - j : Nat) : Int)) && decide (floatOfInt .f64 ((14 - j : Nat) : Int) < 9218868437227405312)
theorem cap_all : (List.range 14).all capB = true := by kernel_rfl
theorem cap_ok (j : Nat) (hj : j < 14) : sv D64 4607182418800017408 + sv D64 (hcap j) = sv D64 (hcap (j + 1)) ∧ hcap (j + 1) < 9218868437227405312 ∧ 4607182418800017408 ≤ floatOfInt .f64 ((14 - j : Nat) : Int) ∧ floatOfInt .f64 ((14 - j : Nat) : Int) < 9218868437227405312 := by
  have h := List.all_eq_true.1 cap_all j (List.mem_range.2 hj)
  unfold capB at h
  simp only [Bool.and_eq_true, decide_eq_true_eq] at h
  exact ⟨h.1.1.1, h.1.1.2, h.1.2, h.2⟩
theorem cap0 : hcap 0 = 4607182418800017408 := by kernel_rfl
structure HOk (y m s : Nat) : Prop where
  o1 : fok .quo .f64 y m = true
  o2 : fok .mul .f64 (fv .quo .f64 y m) s = true
  o3 : fok .add .f64 4607182418800017408 (fv .mul .f64 (fv .quo .f64 y m) s) = true
theorem mul_le64' {a b : Nat} (ha : a ≤ 4607182418800017408) (hb : b < 9218868437227405312) : fok .mul .f64 a b = true ∧ fv .mul .f64 a b ≤ b := by
  obtain ⟨r, h1, h2⟩ := mul_pos D64 d_ok a b (by rw [d_inf]; omega) hb
  obtain ⟨h3, h4⟩ := fok_of (op := .mul) (k := .f64) (x := a) (y := b) h1
  refine ⟨h3, ?_⟩
  rw [h4]
  refine Nat.le_trans (Nat.min_le_left _ _) (h2.mono (IsRnd.exact _ b) ?_)
  have hs : (sv D64 a : Rat) ≤ 2 ^ 1074 := by
    have := svr _ _ ha
    rw [sv_one64, Rat.natCast_pow] at this; exact this
  have hz : (0 : Rat) ≤ 2 ^ D64.leastPlace := Rat.le_of_lt (zp_pos _)
  have h5 := Rat.mul_le_mul_of_nonneg_right hs hz
  rw [lp64'] at h5
  have h6 := Rat.mul_le_mul_of_nonneg_left h5 (svr0 b)
  rw [Rat.mul_one] at h6
  rw [Rat.mul_comm (sv D64 a : Rat), Rat.mul_assoc]; exact h6
theorem hsum_ok {y : Nat} (hy : y ≤ 4607182418800017408) : ∀ j, j ≤ 14 → 4607182418800017408 ≤ hsum y j ∧ hsum y j ≤ hcap j ∧ hcap j < 9218868437227405312
  | 0, _ => ⟨Nat.le_refl _, by rw [cap0]; exact Nat.le_refl _, by rw [cap0]; omega⟩
  | j + 1, hj => by
    obtain ⟨a, b, c⟩ := hsum_ok hy j (by omega)
    obtain ⟨c1, c2, c3, c4⟩ := cap_ok j (by omega)
    obtain ⟨q1, q2⟩ := quo_le64 (show y < 9218868437227405312 by omega) c4 c3
    obtain ⟨m1, m2⟩ := mul_le64' (show fv .quo .f64 y (floatOfInt .f64 ((14 - j : Nat) : Int)) ≤ 4607182418800017408 by omega) (show hsum y j < 9218868437227405312 by omega)
    obtain ⟨a1, a2, a3⟩ := add_one64 (Nat.le_trans m2 b) c c1 c2
    exact ⟨a3, a2, c2⟩
theorem hsum_step {y : Nat} (hy : y ≤ 4607182418800017408) {j : Nat} (hj : j < 14) : HOk y (floatOfInt .f64 ((14 - j : Nat) : Int)) (hsum y j) := by
  obtain ⟨a, b, c⟩ := hsum_ok hy j (by omega)
  obtain ⟨c1, c2, c3, c4⟩ := cap_ok j hj
  obtain ⟨q1, q2⟩ := quo_le64 (show y < 9218868437227405312 by omega) c4 c3
  obtain ⟨m1, m2⟩ := mul_le64' (show fv .quo .f64 y (floatOfInt .f64 ((14 - j : Nat) : Int)) ≤ 4607182418800017408 by omega) (show hsum y j < 9218868437227405312 by omega)
  obtain ⟨a1, a2, a3⟩ := add_one64 (Nat.le_trans m2 b) c c1 c2
  exact ⟨q1, m1, a1⟩
theorem cap14 : hcap 14 ≤ 4625196817309499392 := by
  have h : decide (hcap 14 ≤ 4625196817309499392) = true := by kernel_rfl
  exact of_decide_eq_true h

/-! ### counters -/
def cntB1 (n : Nat) : Bool := (D64.order (fN false (n + 1)) 0 == some .gt) && (D64.order (fN true (n + 1)) 0 == some .lt) && (floatBits .sub .f64 (fN false (n + 1)) 4607182418800017408 == some (fN false n))
  && (floatBits .add .f64 (fN true (n + 1)) 4607182418800017408 == some (if n = 0 then 0 else fN true n)) && (floatToIntVal .f64 (fN false n) .i64 == some (n : Int)) && (floatToIntVal .f64 (fN true n) .i64 == some (-(n : Int)))
theorem cntB1_all : (List.range 101).all cntB1 = true := by kernel_rfl
structure Cnt (n : Nat) : Prop where
  gt : D64.order (fN false (n + 1)) 0 = some .gt
  lt : D64.order (fN true (n + 1)) 0 = some .lt
  dec : floatBits .sub .f64 (fN false (n + 1)) 4607182418800017408 = some (fN false n)
  inc : floatBits .add .f64 (fN true (n + 1)) 4607182418800017408 = some (if n = 0 then 0 else fN true n)
  up : floatToIntVal .f64 (fN false n) .i64 = some (n : Int)
  dn : floatToIntVal .f64 (fN true n) .i64 = some (-(n : Int))
theorem cnt64_ok (n : Nat) (hn : n ≤ 100) : Cnt n := by
  have h := List.all_eq_true.1 cntB1_all n (List.mem_range.2 (by omega))
  unfold cntB1 at h
  simp only [Bool.and_eq_true, beq_iff_eq] at h
  exact ⟨h.1.1.1.1.1, h.1.1.1.1.2, h.1.1.1.2, h.1.1.2, h.1.2, h.2⟩
theorem fN0 : fN false 0 = 0 := by kernel_rfl
theorem fN0' : fN true 0 = 9223372036854775808 := by kernel_rfl
end Go.Proofs.Ytjhognfkjdccfaa
