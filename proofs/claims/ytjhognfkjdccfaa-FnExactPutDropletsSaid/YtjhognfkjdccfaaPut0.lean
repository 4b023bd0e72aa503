/-
  The plain law of droplets that are put: which numbers come, and that none is a NaN.
-/
import Derived.Test.YtjhognfkjdccfaaMore
namespace Go.Proofs.Ytjhognfkjdccfaa
open Go.RowKit Fl
set_option maxRecDepth 20000

theorem lem_iff {m j : Nat} (hm : m ≤ 2139095040) (hj : j < 20) : lem m j = true ↔ mb j ≤ m := by
  have h := (mb_fin j hj).1
  unfold lem
  rw [ord_pos (by omega) hm]
  rcases Nat.lt_trichotomy (mb j) m with q | q | q
  · rw [show compare (mb j : Int) (m : Int) = .lt by simp only [compare, compareOfLessAndEq]; rw [if_pos (by omega)]]
    exact ⟨fun _ => by omega, fun _ => rfl⟩
  · rw [show compare (mb j : Int) (m : Int) = .eq by simp only [compare, compareOfLessAndEq]; rw [if_neg (by omega), if_pos (by omega)]]
    exact ⟨fun _ => by omega, fun _ => rfl⟩
  · rw [show compare (mb j : Int) (m : Int) = .gt by simp only [compare, compareOfLessAndEq]; rw [if_neg (by omega), if_neg (by omega)]]
    exact ⟨fun h => by simp at h, fun h => by omega⟩
theorem cfGo_spec {m : Nat} (hm : m ≤ 2139095040) (n : Nat) : ∀ k, k + n ≤ 19 → mb k ≤ m → mb (cfGo m n k) ≤ m ∧ (cfGo m n k < k + n → m < mb (cfGo m n k + 1)) := by
  induction n with
  | zero => intro k _ h; exact ⟨h, fun q => absurd q (by show ¬ (k < k + 0); omega)⟩
  | succ n ih =>
    intro k hk h
    have hj : k + 1 < 20 := by omega
    have hL := lem_iff hm hj
    cases hl : lem m (k + 1)
    · have e : cfGo m (n + 1) k = k := by rw [cfGo, if_neg (by rw [hl]; simp)]
      rw [e]
      refine ⟨h, fun _ => ?_⟩
      rcases Nat.lt_or_ge m (mb (k + 1)) with q | q
      · exact q
      · rw [hl] at hL; cases hL.2 q
    · have e : cfGo m (n + 1) k = cfGo m n (k + 1) := by rw [cfGo, if_pos hl]
      rw [e]
      have h2 := ih (k + 1) (by omega) (hL.1 hl)
      exact ⟨h2.1, fun q => h2.2 (by omega)⟩
theorem cf_spec {m : Nat} (hm : m ≤ 2139095040) (h1 : 1065353216 ≤ m) : mb (cf m) ≤ m ∧ (cf m < 19 → m < mb (cf m + 1)) := by
  have := cfGo_spec hm 19 0 (by omega) (by unfold mb; omega)
  exact ⟨this.1, fun q => this.2 (by unfold cf at q; omega)⟩

theorem svq (a b : Nat) (h : a ≤ b) : (sv FloatKind.f32.format a : Rat) ≤ sv FloatKind.f32.format b := cast_le (sv_mono _ h)
theorem sv_one : sv FloatKind.f32.format 1065353216 = 2 ^ 149 := by
  have e : sv FloatKind.f32.format 1065353216 = 8388608 * 2 ^ 126 := sv_at FloatKind.f32.format 126 8388608 (Nat.le_refl _) (by show (8388608 : Nat) ≤ 2 * 8388608; omega)
  rw [e]
theorem sv_mb (k : Nat) (_hk : k < 20) : sv FloatKind.f32.format (mb k) = 2 ^ (149 + k) := by
  have e : sv FloatKind.f32.format ((126 + k) * 8388608 + 8388608) = 8388608 * 2 ^ (126 + k) := sv_at FloatKind.f32.format (126 + k) 8388608 (Nat.le_refl _) (by show (8388608 : Nat) ≤ 2 * 8388608; omega)
  have e2 : mb k = (126 + k) * 8388608 + 8388608 := by unfold mb; omega
  rw [e2, e, show (8388608 : Nat) = 2 ^ 23 by decide, ← Nat.pow_add]
  congr 1; omega
/-- a quotient of a number that is at most another, and at most it where the divisor is at least one -/
theorem quo_le {a b c : Nat} (ha : a < 2139095040) (hb : b < 2139095040) (h0 : 0 < b) (_hc : c ≤ 2139095040)
    (h : (sv FloatKind.f32.format a : Rat) * 2 ^ 149 ≤ sv FloatKind.f32.format c * sv FloatKind.f32.format b) : fok .quo .f32 a b = true ∧ fv .quo .f32 a b ≤ c := by
  obtain ⟨r, h1, h2⟩ := div_spec FloatKind.f32.format (fmt_ok .f32).1 false false a b ha hb h0
  obtain ⟨h3, h4⟩ := fok_of (op := .quo) (k := .f32) (x := a) (y := b) h1
  refine ⟨h3, ?_⟩
  rw [h4]
  have e : FloatKind.f32.format.word (false ^^ false) (min r FloatKind.f32.format.infRung) = min r FloatKind.f32.format.infRung := rfl
  rw [e]
  refine Nat.le_trans (Nat.min_le_left _ _) (h2.mono (IsRnd.exact _ c) ?_)
  have hp : (0 : Rat) < sv FloatKind.f32.format b := by have := cast_lt ((sv_pos_iff FloatKind.f32.format b).2 h0); simpa using this
  have e2 : (2 : Rat) ^ (-FloatKind.f32.format.leastPlace) = 2 ^ 149 := by
    have : -FloatKind.f32.format.leastPlace = ((149 : Nat) : Int) := rfl
    rw [this, zp_nat]
  rw [e2, Rat.div_def, Rat.mul_assoc, Rat.mul_comm _ ((2 : Rat) ^ 149), ← Rat.mul_assoc, ← Rat.div_def]
  rw [Rat.div_def]
  have hi : (0 : Rat) ≤ (sv FloatKind.f32.format b : Rat)⁻¹ := Rat.le_of_lt (Rat.inv_pos.2 hp)
  have h5 := Rat.mul_le_mul_of_nonneg_right h hi
  rw [Rat.mul_assoc (sv FloatKind.f32.format c : Rat), Rat.mul_inv_cancel _ (by intro h0; rw [h0] at hp; exact absurd hp (by decide)), Rat.mul_one] at h5
  exact h5
theorem sub_ge {a b c : Nat} (ha : a < 2139095040) (hba : b ≤ a) (h : sv FloatKind.f32.format a ≤ sv FloatKind.f32.format b + sv FloatKind.f32.format c) : fok .sub .f32 a b = true ∧ fv .sub .f32 a b ≤ c := by
  have hb : b < FloatKind.f32.format.infRung := by show b < 2139095040; omega
  obtain ⟨r, h1, h2⟩ := add_spec FloatKind.f32.format (fmt_ok .f32).1 false true a b ha hb
  have h3 := sub_add FloatKind.f32.format a false b hb
  have e : FloatKind.f32.format.word false b = b := rfl
  have e' : FloatKind.f32.format.word false a = a := rfl
  rw [e] at h3
  rw [e'] at h1
  have hsv := sv_mono FloatKind.f32.format hba
  have hn : ¬ (sgn FloatKind.f32.format false a + sgn FloatKind.f32.format true b < 0) := by unfold sgn; simp; omega
  have hw : (if sgn FloatKind.f32.format false a + sgn FloatKind.f32.format true b = 0 then false && true else decide (sgn FloatKind.f32.format false a + sgn FloatKind.f32.format true b < 0)) = false := by
    rw [decide_eq_false hn]; simp
  rw [hw] at h1
  obtain ⟨h4, h5⟩ := fok_of (op := .sub) (k := .f32) (x := a) (y := b) (h3.trans h1)
  refine ⟨h4, ?_⟩
  rw [h5]
  have hr : r ≤ c := by
    refine h2.mono (IsRnd.exact _ c) (cast_le ?_)
    unfold sgn; simp; omega
  have : FloatKind.f32.format.word false (min r FloatKind.f32.format.infRung) = min r FloatKind.f32.format.infRung := rfl
  rw [this]
  exact Nat.le_trans (Nat.min_le_left _ _) hr
theorem sub_one' {s : Nat} (hs : s ≤ 1065353216) : fok .sub .f32 1065353216 s = true ∧ fv .sub .f32 1065353216 s ≤ 1065353216 :=
  sub_ge (by omega) hs (by omega)
/-- the mass over its class's -/
theorem over_ok {m : Nat} (hm : m < 2139095040) (k : Nat) (hk : k < 20) : fok .quo .f32 m (mb k) = true ∧ fv .quo .f32 m (mb k) ≤ m := by
  refine quo_le hm (mb_fin k hk).1 (mb_fin k hk).2 (Nat.le_of_lt hm) ?_
  rw [sv_mb k hk, Rat.natCast_pow]
  refine Rat.mul_le_mul_of_nonneg_left ?_ (by have := cast_le (Nat.zero_le (sv FloatKind.f32.format m)); simpa using this)
  have : ((2 ^ 149 : Nat) : Rat) ≤ ((2 ^ (149 + k) : Nat) : Rat) := cast_le (Nat.pow_le_pow_right (by omega) (by omega))
  rw [Rat.natCast_pow, Rat.natCast_pow] at this
  exact this
/-- how far a mass lies between two classes' -/
def part (m k : Nat) : Nat := fv .quo .f32 (fv .sub .f32 m (mb k)) (mb k)
theorem part_ok {m k : Nat} (hm : m < 2139095040) (hk : k < 19) (h1 : mb k ≤ m) (h2 : m < mb (k + 1)) :
    fok .sub .f32 m (mb k) = true ∧ fok .quo .f32 (fv .sub .f32 m (mb k)) (mb k) = true ∧ part m k ≤ 1065353216 := by
  have hb := mb_fin k (by omega)
  obtain ⟨a1, a2⟩ := sub_ge (c := mb k) hm h1 (by
    have := sv_mono FloatKind.f32.format (Nat.le_of_lt h2)
    rw [sv_mb (k + 1) (by omega)] at this
    rw [sv_mb k (by omega)]
    rw [show 149 + (k + 1) = (149 + k) + 1 by omega, Nat.pow_succ] at this
    omega)
  obtain ⟨b1, b2⟩ := quo_le (c := 1065353216) (show fv .sub .f32 m (mb k) < 2139095040 by omega) hb.1 hb.2 (by omega) (by
    rw [sv_one]
    have := svq _ _ a2
    have hp : (0 : Rat) ≤ 2 ^ 149 := by rw [← zp_nat]; exact Rat.le_of_lt (zp_pos _)
    have := Rat.mul_le_mul_of_nonneg_right this hp
    rw [Rat.natCast_pow, Rat.mul_comm (((2 : Nat) : Rat) ^ 149)]
    exact this)
  exact ⟨a1, b1, b2⟩
end Go.Proofs.Ytjhognfkjdccfaa
