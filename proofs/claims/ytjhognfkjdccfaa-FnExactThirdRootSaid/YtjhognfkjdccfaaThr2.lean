/-
  The plain law of third roots: Newton's steps.
-/
import Derived.Test.YtjhognfkjdccfaaThr1
namespace Go.Proofs.Ytjhognfkjdccfaa
open Go.RowKit Fl
set_option maxRecDepth 20000
set_option exponentiation.threshold 3000

theorem ew_mono {a b : Nat} (h : a ≤ b) : ew a ≤ ew b := Nat.mul_le_mul_right _ h
theorem ew_lt {x n : Nat} (h : x ≤ ew n) (hn : n ≤ 2046) : x < 9218868437227405312 := by unfold ew at h; omega
theorem sub_ge64 {a b g : Nat} (ha : a < 9218868437227405312) (hba : b ≤ a) (h : sv D64 g + sv D64 b ≤ sv D64 a) : fok .sub .f64 a b = true ∧ fv .sub .f64 a b ≤ a ∧ g ≤ fv .sub .f64 a b := by
  have hb : b < 9218868437227405312 := by omega
  obtain ⟨r, k1, k2⟩ := add_spec D64 d_ok false true a b ha hb
  have h3 := sub_add D64 a false b hb
  have e : D64.word false b = b := rfl
  have e' : D64.word false a = a := rfl
  rw [e] at h3
  rw [e'] at k1
  obtain ⟨h4, h5⟩ := fok_of (op := .sub) (k := .f64) (x := a) (y := b) (h3.trans k1)
  have s1 : sgn D64 false a = (sv D64 a : Int) := rfl
  have s2 : sgn D64 true b = -(sv D64 b : Int) := rfl
  rw [s1, s2] at k2 h5
  have hs := sv_mono D64 hba
  have hw : (if (sv D64 a : Int) + -(sv D64 b : Int) = 0 then false && true else decide ((sv D64 a : Int) + -(sv D64 b : Int) < 0)) = false := by
    split
    · rfl
    · exact decide_eq_false (by omega)
  rw [hw] at h5
  have hr : r ≤ a := k2.mono (IsRnd.exact D64 a) (cast_le (by omega))
  have hg : g ≤ r := (IsRnd.exact D64 g).mono k2 (cast_le (by omega))
  have hm : D64.word false (min r D64.infRung) = r := by
    show min r D64.infRung = r
    exact Nat.min_eq_left (by rw [d_inf]; omega)
  rw [hm] at h5
  exact ⟨h4, by rw [h5]; exact hr, by rw [h5]; exact hg⟩
/-- one number less a negative one -/
theorem sub_neg64 {a e c : Nat} (ha : a < 9218868437227405312) (he : e < 9218868437227405312) (hc : c < 9218868437227405312) (h : sv D64 a + sv D64 e ≤ sv D64 c) : fok .sub .f64 a (D64.word true e) = true ∧ a ≤ fv .sub .f64 a (D64.word true e) ∧ fv .sub .f64 a (D64.word true e) ≤ c := by
  obtain ⟨r, k1, k2⟩ := add_pos D64 d_ok a e ha he
  have h3 := sub_add D64 a true e he
  have e1 : D64.word (!true) e = e := rfl
  rw [e1] at h3
  obtain ⟨h4, h5⟩ := fok_of (op := .sub) (k := .f64) (x := a) (y := D64.word true e) (h3.trans k1)
  rw [← Rat.natCast_add] at k2
  have hr : r ≤ c := k2.mono (IsRnd.exact D64 c) (cast_le h)
  have hg : a ≤ r := (IsRnd.exact D64 a).mono k2 (cast_le (by omega))
  have hm : min r D64.infRung = r := Nat.min_eq_left (by rw [d_inf]; omega)
  rw [hm] at h5
  exact ⟨h4, by rw [h5]; exact hg, by rw [h5]; exact hr⟩
theorem quo_room {d v : Nat} (hd : sv D64 d ≤ 2 ^ 1077) (hv : 2 ^ 1065 ≤ sv D64 v) : sv D64 d * 2 ^ 1074 ≤ sv D64 (ew 1036) * sv D64 v := by
  rw [sv_ew 1036 (by omega)]
  have a := Nat.mul_le_mul_right (2 ^ 1074) hd
  have b := Nat.mul_le_mul_left (2 ^ (1036 + 51)) hv
  refine Nat.le_trans a (Nat.le_trans ?_ b)
  rw [← Nat.pow_add, ← Nat.pow_add]
  exact Nat.pow_le_pow_right (by omega) (by omega)
theorem ew_half {i r : Nat} (hi : i < 6) (r1 : ew (1023 - i) ≤ r) : ew (1023 - (i + 1)) ≤ r - 4503599627370496 := by
  have e : ew (1023 - i) = ew (1023 - (i + 1)) + 4503599627370496 := by
    unfold ew
    rw [show 1023 - i = 1023 - (i + 1) + 1 by omega, Nat.add_mul, Nat.one_mul]
  rw [e] at r1
  generalize ew (1023 - (i + 1)) = z at *
  omega
theorem newt_step {b r i n : Nat} (_hb1 : ew 1023 ≤ b) (hb2 : b ≤ ew 1026) (hi : i < 6) (r1 : ew (1023 - i) ≤ r) (r2 : r ≤ ew (1038 + i)) : ∃ r', newt b (n + 1) r = newt b n r' ∧ ew (1023 - (i + 1)) ≤ r' ∧ r' ≤ ew (1038 + (i + 1)) := by
  obtain ⟨s0, s1, s2⟩ := mul_rng (a := r) (b := r) (by omega) (by omega) r1 r2 r1 r2 (by omega) (by omega) (by omega) (by omega)
  obtain ⟨c0, c1, c2⟩ := mul_rng (a := fv .mul .f64 r r) (b := r) (by omega) (by omega) s1 s2 r1 r2 (by omega) (by omega) (by omega) (by omega)
  have q1 : ew 1024 ≤ 4613937818241073152 := by unfold ew; omega
  have q2 : 4613937818241073152 ≤ ew 1025 := by unfold ew; omega
  obtain ⟨t0, t1, t2⟩ := mul_rng (a := 4613937818241073152) (b := r) (by omega) (by omega) q1 q2 r1 r2 (by omega) (by omega) (by omega) (by omega)
  obtain ⟨v0, v1, v2⟩ := mul_rng (a := fv .mul .f64 4613937818241073152 r) (b := r) (by omega) (by omega) t1 t2 r1 r2 (by omega) (by omega) (by omega) (by omega)
  have hr := ew_lt r2 (by omega)
  have hs := ew_lt s2 (by omega)
  have hc := ew_lt c2 (by omega)
  have ht := ew_lt t2 (by omega)
  have hv := ew_lt v2 (by omega)
  have hb := ew_lt hb2 (by omega)
  have big : ∀ {x m : Nat}, ew m ≤ x → 1 ≤ m → 4503599627370496 ≤ x := fun h hm => by unfold ew at h; omega
  have n1 := (mul_near hr hr hs (big s1 (by omega))).2
  have n2 := (mul_near hs hr hc (big c1 (by omega))).2
  have n3 := (mul_near (a := 4613937818241073152) (by omega) hr ht (big t1 (by omega))).2
  have n4 := (mul_near ht hr hv (big v1 (by omega))).2
  have e3 : sv D64 4613937818241073152 = 3 * 2 ^ 1074 := by
    have h : decide (sv D64 4613937818241073152 = 3 * 2 ^ 1074) = true := by kernel_rfl
    exact of_decide_eq_true h
  rw [e3] at n3
  have half := newt_half (Nat.two_pow_pos 1074) n1.1 n2.1 n3.2 n4.2
  have run : ∀ d e r', floatBits .sub .f64 (fv .mul .f64 (fv .mul .f64 r r) r) b = some d → floatBits .quo .f64 d (fv .mul .f64 (fv .mul .f64 4613937818241073152 r) r) = some e → floatBits .sub .f64 r e = some r' → newt b (n + 1) r = newt b n r' := fun d e r' k1 k2 k3 => by
    conv => lhs; rw [newt]
    rw [fv_some s0, Option.bind_some, fv_some c0, Option.bind_some, fv_some t0, Option.bind_some, fv_some v0, Option.bind_some, k1, Option.bind_some, k2, Option.bind_some, k3, Option.bind_some]
  have hv0 : 0 < fv .mul .f64 (fv .mul .f64 4613937818241073152 r) r := by have := big v1 (by omega); omega
  have hvs : 2 ^ 1065 ≤ sv D64 (fv .mul .f64 (fv .mul .f64 4613937818241073152 r) r) := by
    have x := sv_mono D64 v1
    rw [sv_ew _ (by omega)] at x
    exact Nat.le_trans (Nat.pow_le_pow_right (by omega) (by omega)) x
  have hrB : 4503599627370496 + 4503599627370496 ≤ r := by unfold ew at r1; omega
  have hsr : sv D64 r = sv D64 (r - 4503599627370496) * 2 := by
    have := sv_shift (r - 4503599627370496) 1 (by omega)
    rw [show r - 4503599627370496 + 1 * 4503599627370496 = r by omega] at this
    rw [this, Nat.pow_one]
  obtain ⟨d0, d, dd⟩ := sub_cases hc hb
  generalize fv .mul .f64 (fv .mul .f64 4613937818241073152 r) r = v at *
  generalize fv .mul .f64 (fv .mul .f64 r r) r = c at *
  rcases dd with ⟨d1, d2, d3⟩ | ⟨d1, d2, d3⟩
  · have room : sv D64 d * 2 ^ 1074 ≤ sv D64 (r - 4503599627370496) * sv D64 v := by
      have x := Nat.mul_le_mul_right (2 ^ 1074) (sv_mono D64 d2)
      refine Nat.le_trans x ?_
      rw [hsr] at half
      generalize sv D64 (r - 4503599627370496) = y at *
      have e1 : 2 * sv D64 c * 2 ^ 1074 = 2 * (sv D64 c * 2 ^ 1074) := Nat.mul_assoc _ _ _
      have e2 : y * 2 * sv D64 v = 2 * (y * sv D64 v) := by rw [Nat.mul_comm y 2, Nat.mul_assoc]
      rw [e1, e2] at half
      exact Nat.le_of_mul_le_mul_left half (by omega)
    obtain ⟨e0, e, e1, e2⟩ := quo_cases false (show d < 9218868437227405312 by omega) hv hv0 room
    have ew' : D64.word false e = e := rfl
    have dw' : D64.word false d = d := rfl
    rw [dw'] at e0 e1
    rw [ew'] at e1
    have hse := sv_mono D64 e2
    obtain ⟨f0, f1, f2⟩ := sub_ge64 (a := r) (b := e) (g := r - 4503599627370496) hr (by omega) (by omega)
    refine ⟨fv .sub .f64 r e, run d e _ ?_ ?_ (fv_some f0), ?_, ?_⟩
    · rw [← d1]; exact fv_some d0
    · rw [← e1]; exact fv_some e0
    · exact Nat.le_trans (ew_half hi r1) f2
    · refine Nat.le_trans f1 (Nat.le_trans r2 (ew_mono (by omega)))
  · have hds : sv D64 d ≤ 2 ^ 1077 := by
      have x := sv_mono D64 (Nat.le_trans d2 hb2)
      rw [sv_ew 1026 (by omega)] at x; exact x
    obtain ⟨e0, e, e1, e2⟩ := quo_cases true (show d < 9218868437227405312 by omega) hv hv0 (quo_room hds hvs)
    have hel := ew_lt e2 (by omega)
    have sum : sv D64 r + sv D64 e ≤ sv D64 (ew (1038 + (i + 1))) := by
      have x := sv_mono D64 r2
      have y := sv_mono D64 (Nat.le_trans e2 (ew_mono (show 1036 ≤ 1038 + i by omega)))
      rw [sv_ew _ (by omega)] at x y ⊢
      rw [show 1038 + (i + 1) + 51 = 1038 + i + 51 + 1 by omega, Nat.pow_succ]
      generalize 2 ^ (1038 + i + 51) = z at *
      omega
    obtain ⟨f0, f1, f2⟩ := sub_neg64 hr hel (ew_lt (Nat.le_refl (ew (1038 + (i + 1)))) (by omega)) sum
    refine ⟨fv .sub .f64 r (D64.word true e), run (D64.word true d) (D64.word true e) _ ?_ ?_ (fv_some f0), ?_, f2⟩
    · rw [← d1]; exact fv_some d0
    · rw [← e1]; exact fv_some e0
    · exact Nat.le_trans (ew_mono (by omega)) (Nat.le_trans r1 f1)
theorem newt_all {b : Nat} (hb1 : ew 1023 ≤ b) (hb2 : b ≤ ew 1026) (n : Nat) : ∀ i r, i + n = 6 → ew (1023 - i) ≤ r → r ≤ ew (1038 + i) → ∃ R, newt b n r = some R ∧ ew 1017 ≤ R ∧ R ≤ ew 1044 := by
  induction n with
  | zero =>
    intro i r h h1 h2
    obtain rfl : i = 6 := by omega
    exact ⟨r, by rw [newt], h1, h2⟩
  | succ n ih =>
    intro i r h h1 h2
    obtain ⟨r', k1, k2, k3⟩ := newt_step (n := n) hb1 hb2 (show i < 6 by omega) h1 h2
    obtain ⟨R, l1, l2⟩ := ih (i + 1) r' (by omega) k2 k3
    exact ⟨R, k1.trans l1, l2⟩
end Go.Proofs.Ytjhognfkjdccfaa
