/-
  Plain facts on binary floating point (no program in sight): words as rungs, their order, correct rounding.
-/
import Derived.Laws.FloatArith
namespace Go.Proofs.Ytjhognfkjdccfaa.Fl
open Ieee

/-- the significand of a rung -/
def mgn (f : Format) (r : Nat) : Nat := if r < f.binade then r else f.binade + r % f.binade
/-- the exponent of a rung above the least place -/
def exn (f : Format) (r : Nat) : Nat := r / f.binade - 1
/-- the value of a rung in units of the least place (also past infinity) -/
def sv (f : Format) (r : Nat) : Nat := mgn f r * 2 ^ exn f r

theorem binade_pos (f : Format) : 0 < f.binade := Nat.two_pow_pos _

theorem sv_low (f : Format) (r : Nat) (h : r ≤ f.binade) : sv f r = r := by
  have hb := binade_pos f
  unfold sv mgn exn
  rcases Nat.lt_or_ge r f.binade with h1 | h1
  · rw [if_pos h1, Nat.div_eq_of_lt h1]; simp
  · have : r = f.binade := by omega
    subst this
    rw [if_neg (by omega), Nat.div_self hb, Nat.mod_self]; simp

/-- kept digits 'k' at exponent 'L' -/
theorem sv_at (f : Format) (L k : Nat) (h1 : f.binade ≤ k) (h2 : k ≤ 2 * f.binade) : sv f (L * f.binade + k) = k * 2 ^ L := by
  have hb := binade_pos f
  unfold sv mgn exn
  rw [if_neg (by have := Nat.zero_le (L * f.binade); omega)]
  rcases Nat.lt_or_ge k (2 * f.binade) with h3 | h3
  · obtain ⟨t, rfl⟩ : ∃ t, k = f.binade + t := ⟨k - f.binade, by omega⟩
    have ht : t < f.binade := by omega
    have e : L * f.binade + (f.binade + t) = f.binade * (L + 1) + t := by rw [Nat.mul_add, Nat.mul_comm]; omega
    rw [e, Nat.mul_add_mod, Nat.mod_eq_of_lt ht, Nat.mul_add_div hb, Nat.div_eq_of_lt ht]
    simp
  · have : k = 2 * f.binade := by omega
    subst this
    have e : L * f.binade + 2 * f.binade = f.binade * (L + 2) := by rw [Nat.mul_comm f.binade, Nat.add_mul]
    rw [e, Nat.mul_mod_right, Nat.mul_div_cancel_left _ hb]
    simp only [Nat.add_zero]
    rw [show L + 2 - 1 = L + 1 by omega, Nat.pow_succ, Nat.mul_comm 2, Nat.mul_assoc, Nat.mul_comm (2 ^ L) 2]

/-- each rung is low, or has kept digits and an exponent -/
theorem rung_cases (f : Format) (r : Nat) (h : f.binade ≤ r) : ∃ L k, r = L * f.binade + k ∧ f.binade ≤ k ∧ k < 2 * f.binade := by
  have hb := binade_pos f
  refine ⟨r / f.binade - 1, f.binade + r % f.binade, ?_, by omega, by have := Nat.mod_lt r hb; omega⟩
  have h1 : 1 ≤ r / f.binade := (Nat.one_le_div_iff hb).2 h
  have h2 := Nat.div_add_mod r f.binade
  obtain ⟨q, hq⟩ : ∃ q, r / f.binade = q + 1 := ⟨r / f.binade - 1, by omega⟩
  rw [hq] at h2 ⊢
  rw [Nat.mul_comm, Nat.add_mul] at h2
  simp only [Nat.add_sub_cancel]
  omega

theorem sv_succ_lt (f : Format) (r : Nat) : sv f r < sv f (r + 1) := by
  rcases Nat.lt_or_ge r f.binade with h | h
  · rw [sv_low f r (by omega), sv_low f (r + 1) (by omega)]; omega
  · obtain ⟨L, k, rfl, h1, h2⟩ := rung_cases f r h
    rw [sv_at f L k h1 (by omega), Nat.add_assoc, sv_at f L (k + 1) (by omega) (by omega)]
    exact Nat.mul_lt_mul_of_pos_right (Nat.lt_succ_self k) (Nat.two_pow_pos L)

theorem sv_mono (f : Format) {r s : Nat} (h : r ≤ s) : sv f r ≤ sv f s := by
  induction s with
  | zero => have : r = 0 := by omega
            subst this; exact Nat.le_refl _
  | succ s ih =>
    rcases Nat.lt_or_ge r (s + 1) with h1 | h1
    · exact Nat.le_of_lt (Nat.lt_of_le_of_lt (ih (by omega)) (sv_succ_lt f s))
    · have : r = s + 1 := by omega
      subst this; exact Nat.le_refl _

theorem sv_lt (f : Format) {r s : Nat} (h : r < s) : sv f r < sv f s :=
  Nat.lt_of_lt_of_le (sv_succ_lt f r) (sv_mono f h)

theorem sv_lt_iff (f : Format) {r s : Nat} : sv f r < sv f s ↔ r < s :=
  ⟨fun h => by rcases Nat.lt_or_ge r s with h1 | h1
               · exact h1
               · have := sv_mono f h1; omega, sv_lt f⟩

/-- 'r' is the rung nearest to 'q' units of the least place; between two, the even one -/
structure IsRnd (f : Format) (q : Rat) (r : Nat) : Prop where
  lo : r = 0 ∨ ((sv f (r - 1) : Rat) + sv f r < 2 * q ∨ ((sv f (r - 1) : Rat) + sv f r = 2 * q ∧ r % 2 = 0))
  hi : 2 * q < (sv f r : Rat) + sv f (r + 1) ∨ (2 * q = (sv f r : Rat) + sv f (r + 1) ∧ r % 2 = 0)

theorem cast_le {a b : Nat} (h : a ≤ b) : (a : Rat) ≤ b := Rat.natCast_le_natCast.2 h
theorem cast_lt {a b : Nat} (h : a < b) : (a : Rat) < b := Rat.natCast_lt_natCast.2 h

theorem IsRnd.mono {f : Format} {q1 q2 : Rat} {r1 r2 : Nat} (h1 : IsRnd f q1 r1) (h2 : IsRnd f q2 r2) (h : q1 ≤ q2) : r1 ≤ r2 := by
  rcases Nat.lt_or_ge r2 r1 with hl | hl
  · exfalso
    have a1 := cast_le (sv_mono f (show r2 ≤ r1 - 1 by omega))
    have a2 := cast_le (sv_mono f (show r2 + 1 ≤ r1 by omega))
    rcases h1.lo with h0 | h0 | ⟨h0, e0⟩
    · omega
    · rcases h2.hi with k | ⟨k, e⟩ <;> grind
    · rcases h2.hi with k | ⟨k, e⟩
      · grind
      · rcases Nat.lt_or_ge (r2 + 1) r1 with hh | hh
        · have a3 := cast_lt (sv_lt f (show r2 < r1 - 1 by omega))
          grind
        · omega
  · exact hl

theorem IsRnd.exact (f : Format) (r : Nat) : IsRnd f (sv f r) r := by
  refine ⟨?_, ?_⟩
  · rcases Nat.eq_zero_or_pos r with h | h
    · exact .inl h
    · have := cast_lt (sv_lt f (show r - 1 < r by omega))
      exact .inr (.inl (by grind))
  · have := cast_lt (sv_succ_lt f r)
    exact .inl (by grind)

theorem IsRnd.unique {f : Format} {q : Rat} {r s : Nat} (h1 : IsRnd f q r) (h2 : IsRnd f q s) : r = s :=
  Nat.le_antisymm (h1.mono h2 Rat.le_refl) (h2.mono h1 Rat.le_refl)

theorem IsRnd.eq_of_sv {f : Format} {r s : Nat} (h : IsRnd f (sv f s) r) : r = s := h.unique (IsRnd.exact f s)

/-- half to even, of 'n / 2^drop' -/
theorem cut_spec (n drop : Nat) : ∃ k, Toward.even.cut false n drop = k ∧
    (2 * k * 2 ^ drop < (2 * n + 2 ^ drop) ∨ (2 * k * 2 ^ drop = 2 * n + 2 ^ drop ∧ k % 2 = 0)) ∧
    (2 * n < (2 * k + 1) * 2 ^ drop ∨ (2 * n = (2 * k + 1) * 2 ^ drop ∧ k % 2 = 0)) := by
  refine ⟨_, rfl, ?_⟩
  unfold Toward.cut
  simp only [Nat.shiftLeft_eq, Nat.one_mul]
  rcases Nat.lt_or_ge (n.log2 + 2) drop with h | h
  · -- all dropped
    rw [Nat.min_eq_right (by omega)]
    have hn : n < 2 ^ (n.log2 + 1) := Nat.lt_log2_self
    have e : 2 ^ (n.log2 + 2) = 2 * 2 ^ (n.log2 + 1) := by rw [show n.log2 + 2 = (n.log2 + 1) + 1 by omega, Nat.pow_succ]; omega
    have hd : 2 ^ (n.log2 + 2) ≤ 2 ^ drop := Nat.pow_le_pow_right (by omega) (by omega)
    have hlow : n / 2 ^ (n.log2 + 2) = 0 := Nat.div_eq_of_lt (by omega)
    have hrest : n % 2 ^ (n.log2 + 2) = n := Nat.mod_eq_of_lt (by omega)
    rw [hlow, hrest]
    have hm : (decide (2 ^ (n.log2 + 2) < 2 * n) || (2 ^ (n.log2 + 2) == 2 * n && 0 % 2 == 1)) = false := by
      simp; omega
    rw [hm]
    simp only [Bool.toNat_false, Nat.add_zero, Nat.mul_zero, Nat.zero_mul, Nat.zero_add, Nat.one_mul]
    exact ⟨.inl (by omega), .inl (by omega)⟩
  · rw [Nat.min_eq_left h]
    have hp : 0 < 2 ^ drop := Nat.two_pow_pos _
    have hdm := Nat.div_add_mod n (2 ^ drop)
    have hlt := Nat.mod_lt n hp
    generalize 2 ^ drop = g at hp hdm hlt ⊢
    generalize n / g = q at hdm ⊢
    generalize n % g = t at hdm hlt ⊢
    have e1 : ∀ x : Nat, 2 * x * g = 2 * (g * x) := fun x => by rw [Nat.mul_assoc, Nat.mul_comm x g]
    rcases Nat.lt_trichotomy g (2 * t) with c | c | c
    · have hm : (decide (g < 2 * t) || (g == 2 * t && q % 2 == 1)) = true := by simp [c]
      rw [hm]
      simp only [Bool.toNat_true]
      rw [e1, Nat.mul_add, Nat.mul_one, show (2 * (q + 1) + 1) * g = 2 * (g * q) + 3 * g by
        rw [Nat.add_mul, e1, Nat.mul_add]; omega]
      exact ⟨.inl (by omega), .inl (by omega)⟩
    · rcases Nat.mod_two_eq_zero_or_one q with hq | hq
      · have hm : (decide (g < 2 * t) || (g == 2 * t && q % 2 == 1)) = false := by simp [hq, ← c]
        rw [hm]
        simp only [Bool.toNat_false, Nat.add_zero]
        rw [e1, show (2 * q + 1) * g = 2 * (g * q) + g by rw [Nat.add_mul, e1]; omega]
        exact ⟨.inl (by omega), .inr ⟨by omega, hq⟩⟩
      · have hm : (decide (g < 2 * t) || (g == 2 * t && q % 2 == 1)) = true := by simp [hq, ← c]
        rw [hm]
        simp only [Bool.toNat_true]
        rw [e1, Nat.mul_add, Nat.mul_one, show (2 * (q + 1) + 1) * g = 2 * (g * q) + 3 * g by
          rw [Nat.add_mul, e1, Nat.mul_add]; omega]
        exact ⟨.inr ⟨by omega, by omega⟩, .inl (by omega)⟩
    · have hm : (decide (g < 2 * t) || (g == 2 * t && q % 2 == 1)) = false := by
        simp; omega
      rw [hm]
      simp only [Bool.toNat_false, Nat.add_zero]
      rw [e1, show (2 * q + 1) * g = 2 * (g * q) + g by rw [Nat.add_mul, e1]; omega]
      exact ⟨.inl (by omega), .inl (by omega)⟩

/-- the sign plays no part in half to even -/
theorem cut_sign (s : Bool) (n drop : Nat) : Toward.even.cut s n drop = Toward.even.cut false n drop := rfl

/-- rounding 'n / 2^drop * 2^L' units, where that has the right number of digits -/
theorem isRnd_cut (f : Format) (hf : 1 ≤ f.fractionBits) (L n drop k : Nat) (q : Rat) (hq : q * 2 ^ drop = (n : Rat) * 2 ^ L)
    (hn : n < 2 * f.binade * 2 ^ drop) (hL : 0 < L → f.binade * 2 ^ drop ≤ n)
    (h1 : 2 * k * 2 ^ drop < (2 * n + 2 ^ drop) ∨ (2 * k * 2 ^ drop = 2 * n + 2 ^ drop ∧ k % 2 = 0))
    (h2 : 2 * n < (2 * k + 1) * 2 ^ drop ∨ (2 * n = (2 * k + 1) * 2 ^ drop ∧ k % 2 = 0)) : IsRnd f q (L * f.binade + k) := by
  have hb := binade_pos f
  have hbe : f.binade % 2 = 0 := by
    unfold Format.binade
    obtain ⟨m, hm⟩ : ∃ m, f.fractionBits = m + 1 := ⟨f.fractionBits - 1, by omega⟩
    rw [hm, Nat.pow_succ]; omega
  have hpar : (L * f.binade + k) % 2 = k % 2 := by
    rw [Nat.add_mod, Nat.mul_mod, hbe]; simp
  have hG : 0 < 2 ^ drop := Nat.two_pow_pos _
  have hP : 0 < 2 ^ L := Nat.two_pow_pos _
  have hk2 : k ≤ 2 * f.binade := by
    rcases Nat.lt_or_ge (2 * f.binade) k with h | h
    · exfalso
      have : (2 * f.binade + 1) * 2 ^ drop ≤ k * 2 ^ drop := Nat.mul_le_mul_right _ h
      rw [Nat.add_mul] at this
      have e : 2 * k * 2 ^ drop = 2 * (k * 2 ^ drop) := Nat.mul_assoc ..
      rw [e] at h1
      omega
    · exact h
  have hk1 : 0 < L → f.binade ≤ k := by
    intro h0
    rcases Nat.lt_or_ge k f.binade with h | h
    · exfalso
      have a := hL h0
      have : (k + 1) * 2 ^ drop ≤ f.binade * 2 ^ drop := Nat.mul_le_mul_right _ h
      rw [Nat.add_mul] at this
      have e : (2 * k + 1) * 2 ^ drop = 2 * (k * 2 ^ drop) + 2 ^ drop := by rw [Nat.add_mul, Nat.mul_assoc]; omega
      rw [e] at h2
      omega
    · exact h
  have hsv : sv f (L * f.binade + k) = k * 2 ^ L := by
    rcases Nat.eq_zero_or_pos L with h0 | h0
    · subst h0
      rcases Nat.lt_or_ge k f.binade with h | h
      · rw [Nat.zero_mul, Nat.zero_add, sv_low f k (by omega)]; simp
      · exact sv_at f 0 k h hk2
    · exact sv_at f L k (hk1 h0) hk2
  have hsv1 : (k + 1) * 2 ^ L ≤ sv f (L * f.binade + k + 1) ∧ (k < 2 * f.binade → sv f (L * f.binade + k + 1) = (k + 1) * 2 ^ L) := by
    have lt : k < 2 * f.binade → sv f (L * f.binade + k + 1) = (k + 1) * 2 ^ L := by
      intro h
      rcases Nat.lt_or_ge (k + 1) f.binade with hh | hh
      · have h0 : L = 0 := by
          rcases Nat.eq_zero_or_pos L with h0 | h0
          · exact h0
          · have := hk1 h0; omega
        subst h0
        rw [Nat.zero_mul, Nat.zero_add, sv_low f _ (by omega)]; simp
      · rw [Nat.add_assoc]; exact sv_at f L (k + 1) hh (by omega)
    refine ⟨?_, lt⟩
    rcases Nat.lt_or_ge k (2 * f.binade) with h | h
    · rw [lt h]; exact Nat.le_refl _
    · have hk : k = 2 * f.binade := by omega
      have e : L * f.binade + k + 1 = (L + 1) * f.binade + (f.binade + 1) := by rw [hk, Nat.add_mul]; omega
      rw [e, sv_at f (L + 1) (f.binade + 1) (by omega) (by omega), hk, Nat.pow_succ]
      have : (f.binade + 1) * (2 ^ L * 2) = (2 * f.binade + 2) * 2 ^ L := by
        rw [Nat.mul_comm (2 ^ L) 2, ← Nat.mul_assoc]; congr 1; omega
      rw [this]
      exact Nat.mul_le_mul_right _ (by omega)
  have hsv0 : k = 0 ∨ (sv f (L * f.binade + k - 1) ≤ (k - 1) * 2 ^ L ∧ 0 < k) ∨ (sv f (L * f.binade + k - 1) < k * 2 ^ L ∧ k * 2 ^ drop ≤ n) := by
    rcases Nat.eq_zero_or_pos k with h | h
    · exact .inl h
    · refine .inr ?_
      rcases Nat.eq_zero_or_pos L with h0 | h0
      · left
        subst h0
        refine ⟨?_, h⟩
        rcases Nat.lt_or_ge k (f.binade + 1) with hh | hh
        · rw [Nat.zero_mul, Nat.zero_add, sv_low f _ (by omega)]; simp
        · rw [show 0 * f.binade + k - 1 = 0 * f.binade + (k - 1) by omega, sv_at f 0 (k - 1) (by omega) (by omega)]
          exact Nat.le_refl _
      · have hkb := hk1 h0
        rcases Nat.lt_or_ge f.binade k with hh | hh
        · left
          rw [show L * f.binade + k - 1 = L * f.binade + (k - 1) by omega, sv_at f L (k - 1) (by omega) (by omega)]
          exact ⟨Nat.le_refl _, h⟩
        · right
          have hk : k = f.binade := by omega
          refine ⟨?_, by rw [hk]; exact hL h0⟩
          have := sv_lt f (show L * f.binade + k - 1 < L * f.binade + k by omega)
          rw [hsv] at this
          exact this
  -- over the rationals
  have hGq : (0 : Rat) < 2 ^ drop := Rat.pow_pos (by decide)
  have hPq : (0 : Rat) < 2 ^ L := Rat.pow_pos (by decide)
  have cG : ((2 ^ drop : Nat) : Rat) = 2 ^ drop := by simp
  have cP : ((2 ^ L : Nat) : Rat) = 2 ^ L := by simp
  generalize (2 : Rat) ^ drop = G at hq hGq cG
  generalize (2 : Rat) ^ L = Q at hq hPq cP
  generalize hg : 2 ^ drop = g at *
  generalize hp : 2 ^ L = p at *
  -- 2 q g compared with (2 k ± 1) p g
  have up : 2 * q < (2 * k + 1 : Rat) * Q ∨ (2 * q = (2 * k + 1 : Rat) * Q ∧ k % 2 = 0) := by
    rcases h2 with h | ⟨h, e⟩
    · left
      have c : ((2 * n : Nat) : Rat) < (((2 * k + 1) * g : Nat) : Rat) := cast_lt h
      simp only [Rat.natCast_mul, Rat.natCast_add, cG] at c
      have c2 := Rat.mul_lt_mul_of_pos_right c hPq
      refine Rat.lt_of_mul_lt_mul_right (c := G) ?_ (Rat.le_of_lt hGq)
      grind
    · right
      refine ⟨?_, e⟩
      have c : ((2 * n : Nat) : Rat) = (((2 * k + 1) * g : Nat) : Rat) := by rw [h]
      simp only [Rat.natCast_mul, Rat.natCast_add, cG] at c
      have : 2 * q * G = (2 * k + 1 : Rat) * Q * G := by grind
      grind
  have dn : (2 * k - 1 : Rat) * Q < 2 * q ∨ ((2 * k - 1 : Rat) * Q = 2 * q ∧ k % 2 = 0) := by
    rcases h1 with h | ⟨h, e⟩
    · left
      have c : ((2 * k * g : Nat) : Rat) < ((2 * n + g : Nat) : Rat) := cast_lt h
      simp only [Rat.natCast_mul, Rat.natCast_add, cG] at c
      have c2 := Rat.mul_lt_mul_of_pos_right c hPq
      refine Rat.lt_of_mul_lt_mul_right (c := G) ?_ (Rat.le_of_lt hGq)
      grind
    · right
      refine ⟨?_, e⟩
      have c : ((2 * k * g : Nat) : Rat) = ((2 * n + g : Nat) : Rat) := by rw [h]
      simp only [Rat.natCast_mul, Rat.natCast_add, cG] at c
      have : (2 * k - 1 : Rat) * Q * G = 2 * q * G := by grind
      grind
  constructor
  · rcases hsv0 with h | ⟨h, h'⟩ | ⟨h, h'⟩
    · rcases Nat.eq_zero_or_pos L with h0 | h0
      · left; subst h; subst h0; simp
      · have := hk1 h0; omega
    · right
      have c := cast_le h
      obtain ⟨j, rfl⟩ : ∃ j, k = j + 1 := ⟨k - 1, by omega⟩
      simp only [Nat.add_sub_cancel, Rat.natCast_mul, cP] at c
      rw [hsv, hpar]
      simp only [Rat.natCast_mul, Rat.natCast_add, cP] at dn ⊢
      rcases dn with d | ⟨d, e⟩
      · left; grind
      · rcases Rat.le_iff_lt_or_eq.1 c with c | c
        · left; grind
        · right; exact ⟨by grind, e⟩
    · right; left
      have c := cast_lt h
      have c' := cast_le h'
      rw [hsv]
      simp only [Rat.natCast_mul, cP, cG] at c c' ⊢
      have : (k : Rat) * Q * G ≤ q * G := by
        have := Rat.mul_le_mul_of_nonneg_right c' (Rat.le_of_lt hPq)
        grind
      have := Rat.le_of_mul_le_mul_right this hGq
      grind
  · have c := cast_le hsv1.1
    rw [hsv, hpar]
    simp only [Rat.natCast_mul, Rat.natCast_add, cP] at c ⊢
    rcases up with u | ⟨u, e⟩
    · left; grind
    · rcases Rat.le_iff_lt_or_eq.1 c with c | c
      · left; grind
      · right; exact ⟨by grind, e⟩


/-- a number of units of two's power, as a rational -/
theorem zpow_split (a : Int) : (2 : Rat) ^ a * 2 ^ (-a) = 1 := by
  rw [← Rat.zpow_add (by decide), Int.add_right_neg]
  exact Rat.zpow_zero _

theorem zp_pos (a : Int) : (0 : Rat) < 2 ^ a := Rat.zpow_pos (by decide)

theorem zp_nat (n : Nat) : (2 : Rat) ^ (n : Int) = 2 ^ n := Rat.zpow_natCast 2 n

theorem nearest_zero (f : Format) (s : Bool) (p : Int) : f.nearest s 0 p = f.word s 0 := by
  unfold Format.nearest; simp

/-- rounding is correct: of 'mag * 2 ^ place' -/
theorem nearest_spec (f : Format) (hf : 1 ≤ f.fractionBits) (s : Bool) (mag : Nat) (place : Int) :
    ∃ r, f.nearest s mag place = f.word s (min r f.infRung) ∧ IsRnd f ((mag : Rat) * 2 ^ (place - f.leastPlace)) r := by
  rcases Nat.eq_zero_or_pos mag with h0 | h0
  · subst h0
    refine ⟨0, by rw [nearest_zero, Nat.zero_min], ?_⟩
    have := IsRnd.exact f 0
    rw [sv_low f 0 (by have := binade_pos f; omega)] at this
    simpa using this
  · unfold Format.nearest
    rw [if_neg (by omega)]
    dsimp only
    rw [cut_sign]
    generalize hlast : max (place + (mag.log2 : Int) - f.fractionBits) f.leastPlace = last
    have hL0 : f.leastPlace ≤ last := by omega
    obtain ⟨L, hL⟩ : ∃ L : Nat, last - f.leastPlace = L := ⟨(last - f.leastPlace).toNat, by omega⟩
    obtain ⟨drop, hdrop⟩ : ∃ d : Nat, (last - place).toNat = d := ⟨_, rfl⟩
    obtain ⟨up, hup⟩ : ∃ d : Nat, (place - last).toNat = d := ⟨_, rfl⟩
    rw [hdrop, hup, hL]
    simp only [Int.toNat_natCast]
    obtain ⟨k, hk, h1, h2⟩ := cut_spec (mag <<< up) drop
    rw [hk]
    refine ⟨L * f.binade + k, rfl, ?_⟩
    have hlog1 : 2 ^ mag.log2 ≤ mag := Nat.log2_self_le (by omega)
    have hlog2 : mag < 2 ^ (mag.log2 + 1) := Nat.lt_log2_self
    have hB : 2 * f.binade = 2 ^ (f.fractionBits + 1) := by unfold Format.binade; rw [Nat.pow_succ]; omega
    rw [Nat.shiftLeft_eq] at h1 h2
    refine isRnd_cut f hf L (mag * 2 ^ up) drop k _ ?_ ?_ ?_ h1 h2
    · rw [Rat.natCast_mul, Rat.natCast_pow]
      have e : (place - f.leastPlace) + (drop : Int) = (up : Int) + (L : Int) := by omega
      have e2 : (2 : Rat) ^ (place - f.leastPlace) * 2 ^ drop = 2 ^ up * 2 ^ L := by
        rw [← zp_nat drop, ← zp_nat up, ← zp_nat L, ← Rat.zpow_add (by decide), ← Rat.zpow_add (by decide), e]
      have : ((2 : Nat) : Rat) = 2 := rfl
      rw [this, Rat.mul_assoc, e2, ← Rat.mul_assoc]
    · rw [hB, ← Nat.pow_add]
      have : mag * 2 ^ up < 2 ^ (mag.log2 + 1) * 2 ^ up := Nat.mul_lt_mul_of_pos_right hlog2 (Nat.two_pow_pos _)
      rw [← Nat.pow_add] at this
      refine Nat.lt_of_lt_of_le this (Nat.pow_le_pow_right (by omega) ?_)
      omega
    · intro hLp
      unfold Format.binade
      rw [← Nat.pow_add]
      have : 2 ^ mag.log2 * 2 ^ up ≤ mag * 2 ^ up := Nat.mul_le_mul_right _ hlog1
      rw [← Nat.pow_add] at this
      refine Nat.le_trans (Nat.pow_le_pow_right (by omega) ?_) this
      omega

/-! ### words -/

theorem sw_eq (f : Format) : f.signWeight = 2 ^ f.exponentBits * f.binade := by
  unfold Format.signWeight Format.binade; rw [Nat.pow_add]

theorem inf_lt (f : Format) : f.infRung < f.signWeight := f.infRung_lt

theorem read_pos (f : Format) (x : Nat) (h : x < f.infRung) : f.read x = .number false (mgn f x) (f.leastPlace + (exn f x : Int)) := by
  have h1 := inf_lt f
  unfold Format.read
  rw [Nat.div_eq_of_lt (by omega), Nat.mod_eq_of_lt (show x < f.signWeight by omega)]
  unfold mgn exn
  by_cases hb : x < f.binade
  · rw [if_pos hb, if_pos hb, Nat.div_eq_of_lt hb]; simp
  · rw [if_neg hb, if_pos h, if_neg hb]; rfl

theorem read_neg (f : Format) (x : Nat) (h : x < f.infRung) : f.read (f.signWeight + x) = .number true (mgn f x) (f.leastPlace + (exn f x : Int)) := by
  have h1 := inf_lt f
  have h0 : 0 < f.signWeight := by omega
  unfold Format.read
  rw [Nat.add_div_left _ h0, Nat.div_eq_of_lt (by omega), Nat.add_mod_left, Nat.mod_eq_of_lt (show x < f.signWeight by omega)]
  unfold mgn exn
  by_cases hb : x < f.binade
  · rw [if_pos hb, if_pos hb, Nat.div_eq_of_lt hb]; simp
  · rw [if_neg hb, if_pos h, if_neg hb]; rfl

theorem read_inf (f : Format) (he : f.binade ≤ f.infRung) : f.read f.infRung = .infinity false := by
  have h1 := inf_lt f
  unfold Format.read
  rw [Nat.div_eq_of_lt (by omega), Nat.mod_eq_of_lt h1]
  simp only [Nat.lt_irrefl, if_false, if_true]
  rw [if_neg (by omega)]; rfl

/-- the value of a finite datum, in units of the least place -/
def uval (f : Format) (s : Bool) (r : Nat) : Rat := if s then -(sv f r : Rat) else sv f r

theorem signed_cast (s : Bool) (m up : Nat) : ((signed s m up : Int) : Rat) = (if s then -((m : Rat) * 2 ^ up) else (m : Rat) * 2 ^ up) := by
  have c : (((m <<< up : Nat) : Int) : Rat) = (m : Rat) * 2 ^ up := by
    show ((m <<< up : Nat) : Rat) = _
    rw [Nat.shiftLeft_eq, Rat.natCast_mul, Rat.natCast_pow]; rfl
  unfold signed
  cases s
  · simpa using c
  · simp only [if_true, Rat.intCast_neg, c]

theorem sv_rat (f : Format) (r : Nat) : (sv f r : Rat) = (mgn f r : Rat) * 2 ^ exn f r := by
  unfold sv; rw [Rat.natCast_mul, Rat.natCast_pow]; rfl

/-- the place of a word on the line: its rung, with the sign -/
def key (f : Format) (x : Nat) : Int := if x < f.signWeight then x else -((x - f.signWeight : Nat) : Int)
/-- no NaN -/
def num (f : Format) (x : Nat) : Prop := x % f.signWeight ≤ f.infRung ∧ x < 2 * f.signWeight
def sval (f : Format) (x : Nat) : Int := if x < f.signWeight then sv f x else -((sv f (x - f.signWeight) : Nat) : Int)

theorem num_cases {f : Format} {x : Nat} (h : num f x) : (x ≤ f.infRung) ∨ (∃ r, x = f.signWeight + r ∧ r ≤ f.infRung) := by
  have h1 := inf_lt f
  obtain ⟨h2, h3⟩ := h
  rcases Nat.lt_or_ge x f.signWeight with h | h
  · rw [Nat.mod_eq_of_lt h] at h2; exact .inl h2
  · refine .inr ⟨x - f.signWeight, by omega, ?_⟩
    rw [Nat.mod_eq_sub_mod h, Nat.mod_eq_of_lt (by omega)] at h2; exact h2

theorem read_inf_neg (f : Format) (he : f.binade ≤ f.infRung) : f.read (f.signWeight + f.infRung) = .infinity true := by
  have h1 := inf_lt f
  unfold Format.read
  rw [Nat.add_div_left _ (by omega), Nat.div_eq_of_lt (by omega), Nat.add_mod_left, Nat.mod_eq_of_lt h1]
  simp only [Nat.lt_irrefl, if_false, if_true]
  rw [if_neg (by omega)]; rfl

/-- a word read: sign and rung -/
theorem read_word (f : Format) (s : Bool) (r : Nat) (h : r < f.infRung) : f.read (f.word s r) = .number s (mgn f r) (f.leastPlace + (exn f r : Int)) := by
  cases s
  · exact read_pos f r h
  · exact read_neg f r h

theorem read_word_inf (f : Format) (he : f.binade ≤ f.infRung) (s : Bool) : f.read (f.word s f.infRung) = .infinity s := by
  cases s
  · exact read_inf f he
  · exact read_inf_neg f he

theorem word_of_num {f : Format} {x : Nat} (h : num f x) : ∃ s r, x = f.word s r ∧ r ≤ f.infRung := by
  rcases num_cases h with h | ⟨r, h', h''⟩
  · exact ⟨false, x, rfl, h⟩
  · exact ⟨true, r, h', h''⟩

theorem num_word (f : Format) (s : Bool) (r : Nat) (h : r ≤ f.infRung) : num f (f.word s r) := by
  have h1 := inf_lt f
  cases s
  · exact ⟨by show r % _ ≤ _; rw [Nat.mod_eq_of_lt (by omega)]; exact h, by show r < _; omega⟩
  · exact ⟨by show (f.signWeight + r) % _ ≤ _; rw [Nat.add_mod_left, Nat.mod_eq_of_lt (by omega)]; exact h, by show f.signWeight + r < _; omega⟩

theorem key_word (f : Format) (s : Bool) (r : Nat) (h : r ≤ f.infRung) : key f (f.word s r) = if s then -(r : Int) else r := by
  have h1 := inf_lt f
  unfold key
  cases s
  · show (if r < _ then _ else _) = _
    rw [if_pos (by omega)]; rfl
  · show (if f.signWeight + r < _ then _ else -((f.signWeight + r - f.signWeight : Nat) : Int)) = _
    rw [if_neg (by omega), Nat.add_sub_cancel_left]; rfl

theorem signed_scale (s : Bool) (m u v : Nat) : signed s m (u + v) = signed s m u * (2 ^ v : Nat) := by
  unfold signed
  simp only [Nat.shiftLeft_eq, Nat.pow_add]
  cases s
  · simp [Int.mul_assoc]
  · simp [Int.mul_assoc, Int.neg_mul]

theorem cmp_mul (a b : Int) (k : Nat) (hk : 0 < k) : compare (a * k) (b * k) = compare a b := by
  have hk' : (0 : Int) < k := by omega
  rcases Int.lt_trichotomy a b with h | h | h
  · have : a * k < b * k := Int.mul_lt_mul_of_pos_right h hk'
    rw [Int.compare_eq_lt.2 h, Int.compare_eq_lt.2 this]
  · subst h; simp
  · have : b * k < a * k := Int.mul_lt_mul_of_pos_right h hk'
    rw [Int.compare_eq_gt.2 h, Int.compare_eq_gt.2 this]

theorem order_number (s t : Bool) (m n a b : Nat) (p : Int) :
    Datum.order (.number s m (p + a)) (.number t n (p + b)) = some (compare (signed s m a) (signed t n b)) := by
  have e1 : (p + (a : Int) - min (p + (a : Int)) (p + b)).toNat = a - min a b := by omega
  have e2 : (p + (b : Int) - min (p + (a : Int)) (p + b)).toNat = b - min a b := by omega
  simp only [Datum.order, e1, e2]
  rw [← cmp_mul (signed s m (a - min a b)) (signed t n (b - min a b)) (2 ^ min a b) (Nat.two_pow_pos _),
    ← signed_scale, ← signed_scale, Nat.sub_add_cancel (Nat.min_le_left _ _), Nat.sub_add_cancel (Nat.min_le_right _ _)]

theorem signed_sv (f : Format) (s : Bool) (r : Nat) : signed s (mgn f r) (exn f r) = if s then -(sv f r : Int) else sv f r := by
  unfold signed sv
  rw [Nat.shiftLeft_eq]

theorem cmp_of (a b c d : Int) (h1 : a < b ↔ c < d) (h2 : b < a ↔ d < c) : compare a b = compare c d := by
  rcases Int.lt_trichotomy a b with h | h | h
  · rw [Int.compare_eq_lt.2 h, Int.compare_eq_lt.2 (h1.1 h)]
  · have : c = d := by omega
    subst this; subst h; simp
  · rw [Int.compare_eq_gt.2 h, Int.compare_eq_gt.2 (h2.1 h)]

theorem sv_zero (f : Format) : sv f 0 = 0 := sv_low f 0 (Nat.zero_le _)

theorem sv_pos_iff (f : Format) (r : Nat) : 0 < sv f r ↔ 0 < r := by
  have := @sv_lt_iff f 0 r
  rw [sv_zero] at this
  exact this

/-- the order of words that are no NaN is that of their keys -/
theorem order_word (f : Format) (he : f.binade ≤ f.infRung) (s t : Bool) (r q : Nat) (hr : r ≤ f.infRung) (hq : q ≤ f.infRung) :
    f.order (f.word s r) (f.word t q) = some (compare (if s then -(r : Int) else r) (if t then -(q : Int) else q)) := by
  have hi : 0 < f.infRung := Nat.lt_of_lt_of_le (binade_pos f) he
  unfold Format.order
  rcases Nat.lt_or_ge r f.infRung with h | h
  · rw [read_word f s r h]
    rcases Nat.lt_or_ge q f.infRung with k | k
    · rw [read_word f t q k, order_number, signed_sv, signed_sv]
      congr 1
      have a1 := @sv_lt_iff f r q
      have a2 := @sv_lt_iff f q r
      have b1 := sv_pos_iff f r
      have b2 := sv_pos_iff f q
      cases s <;> cases t <;> simp <;> apply cmp_of <;> constructor <;> intro <;> omega
    · have : q = f.infRung := by omega
      subst this
      rw [read_word_inf f he]
      cases s <;> cases t <;> simp [Datum.order] <;> symm <;> first | (rw [Int.compare_eq_lt]; omega) | (rw [Int.compare_eq_gt]; omega)
  · have : r = f.infRung := by omega
    subst this
    rw [read_word_inf f he]
    rcases Nat.lt_or_ge q f.infRung with k | k
    · rw [read_word f t q k]
      cases s <;> cases t <;> simp [Datum.order] <;> symm <;> first | (rw [Int.compare_eq_lt]; omega) | (rw [Int.compare_eq_gt]; omega)
    · have : q = f.infRung := by omega
      subst this
      rw [read_word_inf f he]
      cases s <;> cases t <;> simp only [Datum.order, Bool.toNat_true, Bool.toNat_false, if_true, Bool.false_eq_true, if_false, Option.some.injEq]
      · simp
      · rw [Int.compare_eq_gt.2 (show -(f.infRung : Int) < f.infRung by omega)]; rfl
      · rw [Int.compare_eq_lt.2 (show -(f.infRung : Int) < f.infRung by omega)]; rfl
      · simp

theorem order_key (f : Format) (he : f.binade ≤ f.infRung) {x y : Nat} (hx : num f x) (hy : num f y) : f.order x y = some (compare (key f x) (key f y)) := by
  obtain ⟨s, r, rfl, hr⟩ := word_of_num hx
  obtain ⟨t, q, rfl, hq⟩ := word_of_num hy
  rw [order_word f he s t r q hr hq, key_word f s r hr, key_word f t q hq]

/-- a NaN: no order -/
theorem read_nan (f : Format) (he : f.binade ≤ f.infRung) {x : Nat} (h : f.infRung < x % f.signWeight) : ∃ s t, f.read x = .nan s t := by
  unfold Format.read
  dsimp only
  rw [if_neg (by omega), if_neg (by omega), if_neg (by omega)]
  exact ⟨_, _, rfl⟩

theorem order_nan_left (f : Format) (he : f.binade ≤ f.infRung) {x : Nat} (h : f.infRung < x % f.signWeight) (y : Nat) : f.order x y = none := by
  obtain ⟨s, t, e⟩ := read_nan f he h
  unfold Format.order
  rw [e]
  cases f.read y <;> rfl

theorem order_nan_right (f : Format) (he : f.binade ≤ f.infRung) {x : Nat} (h : f.infRung < x % f.signWeight) (y : Nat) : f.order y x = none := by
  obtain ⟨s, t, e⟩ := read_nan f he h
  unfold Format.order
  rw [e]
  cases f.read y <;> rfl

/-! ### sums -/

/-- the signed value of a word, in units -/
def sgn (f : Format) (s : Bool) (r : Nat) : Int := if s then -(sv f r : Int) else sv f r

theorem write_number (f : Format) (s : Bool) (m : Nat) (p : Int) : f.write (.number s m p) = f.nearest s m p := rfl

theorem sum_number (s t : Bool) (m n a b : Nat) (p : Int) :
    Datum.sum (.number s m (p + a)) (.number t n (p + b)) =
      some (.number (if signed s m (a - min a b) + signed t n (b - min a b) = 0 then s && t else decide (signed s m (a - min a b) + signed t n (b - min a b) < 0))
        (signed s m (a - min a b) + signed t n (b - min a b)).natAbs (p + (min a b : Nat))) := by
  have e3 : min (p + (a : Int)) (p + b) = p + (min a b : Nat) := by omega
  have e1 : (p + (a : Int) - (p + (min a b : Nat))).toNat = a - min a b := by omega
  have e2 : (p + (b : Int) - (p + (min a b : Nat))).toNat = b - min a b := by omega
  simp only [Datum.sum, e3, e1, e2]

theorem add_spec (f : Format) (hf : 1 ≤ f.fractionBits) (s t : Bool) (a b : Nat) (ha : a < f.infRung) (hb : b < f.infRung) :
    ∃ r, f.add (f.word s a) (f.word t b) = some (f.word (if sgn f s a + sgn f t b = 0 then s && t else decide (sgn f s a + sgn f t b < 0)) (min r f.infRung)) ∧
      IsRnd f ((sgn f s a + sgn f t b).natAbs : Rat) r := by
  unfold Format.add
  rw [read_word f s a ha, read_word f t b hb, sum_number]
  generalize he : min (exn f a) (exn f b) = e0
  have l1 : e0 ≤ exn f a := by omega
  have l2 : e0 ≤ exn f b := by omega
  -- the total, scaled
  have tot : (signed s (mgn f a) (exn f a - e0) + signed t (mgn f b) (exn f b - e0)) * (2 ^ e0 : Nat) = sgn f s a + sgn f t b := by
    rw [Int.add_mul, ← signed_scale, ← signed_scale, Nat.sub_add_cancel l1, Nat.sub_add_cancel l2, signed_sv, signed_sv]; rfl
  have hp : (0 : Int) < (2 ^ e0 : Nat) := by have := Nat.two_pow_pos e0; omega
  generalize signed s (mgn f a) (exn f a - e0) + signed t (mgn f b) (exn f b - e0) = T at tot ⊢
  have z : T = 0 ↔ sgn f s a + sgn f t b = 0 := by
    rw [← tot]
    constructor
    · intro h; rw [h]; simp
    · intro h
      rcases Int.mul_eq_zero.1 h with h | h
      · exact h
      · omega
  have n : T < 0 ↔ sgn f s a + sgn f t b < 0 := by
    rw [← tot]
    constructor
    · intro h; exact Int.mul_neg_of_neg_of_pos h hp
    · intro h
      rcases (by omega : T < 0 ∨ 0 ≤ T) with k | k
      · exact k
      · have := Int.mul_nonneg k (Int.le_of_lt hp); omega
  obtain ⟨r, h1, h2⟩ := nearest_spec f hf (if T = 0 then s && t else decide (T < 0)) T.natAbs (f.leastPlace + (e0 : Int))
  refine ⟨r, ?_, ?_⟩
  · simp only [Option.map_some, write_number, h1]
    congr 2
    simp only [z, n]
  · have : ((T.natAbs : Nat) : Rat) * 2 ^ (f.leastPlace + (e0 : Int) - f.leastPlace) = ((sgn f s a + sgn f t b).natAbs : Rat) := by
      rw [show f.leastPlace + (e0 : Int) - f.leastPlace = (e0 : Int) by omega, zp_nat, ← tot, Int.natAbs_mul, Rat.natCast_mul, Int.natAbs_natCast, Rat.natCast_pow]; rfl
    rw [← this]; exact h2

theorem opposite_word (f : Format) (t : Bool) (b : Nat) (hb : b < f.infRung) : (f.read (f.word t b)).opposite = f.read (f.word (!t) b) := by
  rw [read_word f t b hb, read_word f (!t) b hb]; rfl

theorem sub_add (f : Format) (x : Nat) (t : Bool) (b : Nat) (hb : b < f.infRung) : f.sub x (f.word t b) = f.add x (f.word (!t) b) := by
  unfold Format.sub Format.add
  rw [opposite_word f t b hb]

/-- sums of words that are not negative (infinity included) -/
theorem add_pos (f : Format) (hf : 1 ≤ f.fractionBits) (a b : Nat) (ha : a < f.infRung) (hb : b < f.infRung) :
    ∃ r, f.add a b = some (min r f.infRung) ∧ IsRnd f ((sv f a : Rat) + sv f b) r := by
  obtain ⟨r, h1, h2⟩ := add_spec f hf false false a b ha hb
  refine ⟨r, ?_, ?_⟩
  · have e : f.add (f.word false a) (f.word false b) = f.add a b := rfl
    rw [e] at h1
    rw [h1]
    congr 1
    have : ¬ (sgn f false a + sgn f false b < 0) := by unfold sgn; simp; omega
    rw [decide_eq_false this]
    simp [Format.word]
  · have : (((sgn f false a + sgn f false b).natAbs : Nat) : Rat) = (sv f a : Rat) + sv f b := by
      rw [← Rat.natCast_add]; congr 1
    rw [← this]; exact h2

theorem add_inf_left (f : Format) (he : f.binade ≤ f.infRung) (b : Nat) (hb : b ≤ f.infRung) : f.add f.infRung b = some f.infRung := by
  unfold Format.add
  rw [read_inf f he]
  rcases Nat.lt_or_ge b f.infRung with h | h
  · rw [read_pos f b h]; rfl
  · have : b = f.infRung := by omega
    subst this
    rw [read_inf f he]; rfl

theorem add_inf_right (f : Format) (he : f.binade ≤ f.infRung) (b : Nat) (hb : b ≤ f.infRung) : f.add b f.infRung = some f.infRung := by
  unfold Format.add
  rw [read_inf f he]
  rcases Nat.lt_or_ge b f.infRung with h | h
  · rw [read_pos f b h]; rfl
  · have : b = f.infRung := by omega
    subst this
    rw [read_inf f he]; rfl

theorem add_nonneg (f : Format) (hf : 1 ≤ f.fractionBits) (he : f.binade ≤ f.infRung) (a b : Nat) (ha : a ≤ f.infRung) (hb : b ≤ f.infRung) :
    ∃ r, f.add a b = some r ∧ r ≤ f.infRung := by
  rcases Nat.lt_or_ge a f.infRung with h | h
  · rcases Nat.lt_or_ge b f.infRung with k | k
    · obtain ⟨r, h1, _⟩ := add_pos f hf a b h k
      exact ⟨_, h1, Nat.min_le_right _ _⟩
    · have : b = f.infRung := by omega
      subst this
      exact ⟨_, add_inf_right f he a ha, Nat.le_refl _⟩
  · have : a = f.infRung := by omega
    subst this
    exact ⟨_, add_inf_left f he b hb, Nat.le_refl _⟩

theorem add_zero_right (f : Format) (hf : 1 ≤ f.fractionBits) (he : f.binade ≤ f.infRung) (a : Nat) (ha : a ≤ f.infRung) : f.add a 0 = some a := by
  rcases Nat.lt_or_ge a f.infRung with h | h
  · obtain ⟨r, h1, h2⟩ := add_pos f hf a 0 h (Nat.lt_of_lt_of_le (binade_pos f) he)
    rw [sv_zero] at h2
    have : r = a := IsRnd.eq_of_sv (f := f) (by simpa [Rat.add_zero] using h2)
    subst this
    rw [h1, Nat.min_eq_left (by omega)]
  · have : a = f.infRung := by omega
    subst this
    exact add_inf_left f he 0 (Nat.zero_le _)

theorem add_zero_left (f : Format) (hf : 1 ≤ f.fractionBits) (he : f.binade ≤ f.infRung) (a : Nat) (ha : a ≤ f.infRung) : f.add 0 a = some a := by
  rcases Nat.lt_or_ge a f.infRung with h | h
  · obtain ⟨r, h1, h2⟩ := add_pos f hf 0 a (Nat.lt_of_lt_of_le (binade_pos f) he) h
    rw [sv_zero] at h2
    have : r = a := IsRnd.eq_of_sv (f := f) (by simpa [Rat.zero_add] using h2)
    subst this
    rw [h1, Nat.min_eq_left (by omega)]
  · have : a = f.infRung := by omega
    subst this
    exact add_inf_right f he 0 (Nat.zero_le _)

/-- 'a - a' tells whether 'a' is finite -/
theorem sub_self_fin (f : Format) (s : Bool) (a : Nat) (ha : a < f.infRung) : f.sub (f.word s a) (f.word s a) = some 0 := by
  rw [sub_add f _ s a ha]
  unfold Format.add
  rw [read_word f s a ha, read_word f (!s) a ha, sum_number]
  have : signed s (mgn f a) (exn f a - min (exn f a) (exn f a)) + signed (!s) (mgn f a) (exn f a - min (exn f a) (exn f a)) = 0 := by
    unfold signed; cases s <;> simp <;> omega
  rw [this]
  simp only [if_true, Option.map_some, write_number, Int.natAbs_zero, nearest_zero]
  cases s <;> rfl

theorem sub_self_inf (f : Format) (he : f.binade ≤ f.infRung) (s : Bool) : f.sub (f.word s f.infRung) (f.word s f.infRung) = none := by
  unfold Format.sub
  rw [read_word_inf f he]
  cases s <;> rfl

theorem sub_nan_left (f : Format) (he : f.binade ≤ f.infRung) {x : Nat} (h : f.infRung < x % f.signWeight) (y : Nat) : f.sub x y = none := by
  obtain ⟨s, t, e⟩ := read_nan f he h
  unfold Format.sub
  rw [e]
  cases f.read y <;> rfl

/-! ### products and quotients -/

theorem mul_spec (f : Format) (hf : 1 ≤ f.fractionBits) (s t : Bool) (a b : Nat) (ha : a < f.infRung) (hb : b < f.infRung) :
    ∃ r, f.mul (f.word s a) (f.word t b) = some (f.word (s ^^ t) (min r f.infRung)) ∧ IsRnd f ((sv f a : Rat) * sv f b * 2 ^ f.leastPlace) r := by
  unfold Format.mul
  rw [read_word f s a ha, read_word f t b hb]
  obtain ⟨r, h1, h2⟩ := nearest_spec f hf (s ^^ t) (mgn f a * mgn f b) (f.leastPlace + (exn f a : Int) + (f.leastPlace + (exn f b : Int)))
  refine ⟨r, ?_, ?_⟩
  · simp only [Datum.product, Option.map_some, write_number, h1]
  · have : (mgn f a * mgn f b : Nat) * (2 : Rat) ^ (f.leastPlace + (exn f a : Int) + (f.leastPlace + (exn f b : Int)) - f.leastPlace) = (sv f a : Rat) * sv f b * 2 ^ f.leastPlace := by
      rw [show f.leastPlace + (exn f a : Int) + (f.leastPlace + (exn f b : Int)) - f.leastPlace = (exn f a : Int) + ((exn f b : Int) + f.leastPlace) by omega,
        Rat.zpow_add (by decide), Rat.zpow_add (by decide), zp_nat, zp_nat, sv_rat, sv_rat, Rat.natCast_mul]
      grind
    rw [← this]; exact h2

theorem mul_pos (f : Format) (hf : 1 ≤ f.fractionBits) (a b : Nat) (ha : a < f.infRung) (hb : b < f.infRung) :
    ∃ r, f.mul a b = some (min r f.infRung) ∧ IsRnd f ((sv f a : Rat) * sv f b * 2 ^ f.leastPlace) r := mul_spec f hf false false a b ha hb

theorem mgn_ne_zero (f : Format) (a : Nat) (ha : 0 < a) : mgn f a ≠ 0 := by
  have := binade_pos f
  unfold mgn; split <;> omega

theorem mul_inf_left (f : Format) (he : f.binade ≤ f.infRung) (b : Nat) (hb : b ≤ f.infRung) (h0 : 0 < b) : f.mul f.infRung b = some f.infRung := by
  unfold Format.mul
  rw [read_inf f he]
  rcases Nat.lt_or_ge b f.infRung with h | h
  · rw [read_pos f b h]; simp only [Datum.product]; rw [if_neg (mgn_ne_zero f b h0)]; rfl
  · have : b = f.infRung := by omega
    subst this
    rw [read_inf f he]; rfl

theorem mul_inf_right (f : Format) (he : f.binade ≤ f.infRung) (b : Nat) (hb : b ≤ f.infRung) (h0 : 0 < b) : f.mul b f.infRung = some f.infRung := by
  unfold Format.mul
  rw [read_inf f he]
  rcases Nat.lt_or_ge b f.infRung with h | h
  · rw [read_pos f b h]; simp only [Datum.product]; rw [if_neg (mgn_ne_zero f b h0)]; rfl
  · have : b = f.infRung := by omega
    subst this
    rw [read_inf f he]; rfl

/-- a product of words that are not negative, one of them finite and greater than 0 -/
theorem mul_nonneg (f : Format) (hf : 1 ≤ f.fractionBits) (he : f.binade ≤ f.infRung) (a b : Nat) (ha : a ≤ f.infRung) (hb : b < f.infRung) (h0 : 0 < b) :
    ∃ r, f.mul a b = some r ∧ r ≤ f.infRung := by
  rcases Nat.lt_or_ge a f.infRung with h | h
  · obtain ⟨r, h1, _⟩ := mul_pos f hf a b h hb
    exact ⟨_, h1, Nat.min_le_right _ _⟩
  · have : a = f.infRung := by omega
    subst this
    exact ⟨_, mul_inf_left f he b (by omega) h0, Nat.le_refl _⟩


/-! ### quotients -/

theorem sv_dvd (f : Format) (u r : Nat) (h : (u + 1) * f.binade ≤ r) : ∃ c, sv f r = c * 2 ^ u := by
  have hb := binade_pos f
  have h1 : 1 * f.binade ≤ (u + 1) * f.binade := Nat.mul_le_mul_right _ (by omega)
  obtain ⟨L, k, rfl, h2, h3⟩ := rung_cases f r (by omega)
  have hL : u ≤ L := by
    rcases Nat.lt_or_ge L u with h4 | h4
    · exfalso
      have : (L + 1) * f.binade ≤ u * f.binade := Nat.mul_le_mul_right _ h4
      rw [Nat.add_mul] at h this
      omega
    · exact h4
  obtain ⟨d, rfl⟩ : ∃ d, L = u + d := ⟨L - u, by omega⟩
  exact ⟨k * 2 ^ d, by rw [sv_at f _ k h2 (by omega), Nat.pow_add, Nat.mul_comm (2 ^ u), Nat.mul_assoc]⟩

/-- what is left over has only to be told from nothing: 'q' lies strictly between 'k' and 'k + 1' steps of 'U', its stand-in is in the middle -/
theorem isRnd_sticky (f : Format) (u : Int) (k r : Nat) (q : Rat) (hk : 2 * f.binade ≤ k) (h1 : (k : Rat) * 2 ^ u < q) (h2 : q < ((k : Rat) + 1) * 2 ^ u)
    (h : IsRnd f ((2 * (k : Rat) + 1) * 2 ^ (u - 1)) r) : IsRnd f q r := by
  have hb := binade_pos f
  have hUpos := zp_pos u
  have hU : (2 : Rat) ^ u = 2 * 2 ^ (u - 1) := by
    have : (2 : Rat) ^ u = 2 ^ (u - 1) * 2 := by rw [← Rat.zpow_add_one (by decide)]; congr 1; omega
    rw [this, Rat.mul_comm]
  -- the test against a whole number of steps
  have cmpu : ∀ S : Nat, (∃ c : Nat, (S : Rat) = (c : Rat) * (2 * 2 ^ u)) →
      ((S : Rat) < 2 * ((2 * (k : Rat) + 1) * 2 ^ (u - 1)) → (S : Rat) < 2 * q) ∧ (2 * ((2 * (k : Rat) + 1) * 2 ^ (u - 1)) < S → 2 * q < S) ∧ (S : Rat) ≠ 2 * ((2 * (k : Rat) + 1) * 2 ^ (u - 1)) := by
    rintro S ⟨c, hc⟩
    have e : 2 * ((2 * (k : Rat) + 1) * 2 ^ (u - 1)) = (2 * (k : Rat) + 1) * 2 ^ u := by rw [hU]; grind
    rw [e, hc]
    rcases Nat.lt_or_ge k c with hlt | hge
    · have c1 := cast_le (show k + 1 ≤ c by omega)
      rw [Rat.natCast_add] at c1
      have c2 := Rat.mul_le_mul_of_nonneg_right c1 (Rat.le_of_lt hUpos)
      have c3 : ((1 : Nat) : Rat) = 1 := rfl
      refine ⟨fun hh => ?_, fun _ => ?_, fun hh => ?_⟩ <;> grind
    · have c1 := cast_le hge
      have c2 := Rat.mul_le_mul_of_nonneg_right c1 (Rat.le_of_lt hUpos)
      refine ⟨fun hh => ?_, fun hh => ?_, fun hh => ?_⟩ <;> grind
  rcases (by omega : u ≤ -1 ∨ 0 ≤ u) with hu | hu
  · -- steps of at most a half: every whole number is a number of steps
    have mult : ∀ S : Nat, ∃ c : Nat, (S : Rat) = (c : Rat) * (2 * 2 ^ u) := by
      intro S
      obtain ⟨d, hd⟩ : ∃ d : Nat, -(u + 1) = d := ⟨(-(u + 1)).toNat, by omega⟩
      refine ⟨S * 2 ^ d, ?_⟩
      have e : (2 : Rat) * 2 ^ u = 2 ^ (u + 1) := by rw [Rat.zpow_add_one (by decide), Rat.mul_comm]
      rw [e, Rat.natCast_mul, Rat.natCast_pow, Rat.mul_assoc]
      have : ((2 : Nat) : Rat) ^ d * 2 ^ (u + 1) = 1 := by
        show (2 : Rat) ^ d * 2 ^ (u + 1) = 1
        rw [← zp_nat, ← Rat.zpow_add (by decide), show (d : Int) + (u + 1) = 0 by omega]; exact Rat.zpow_zero _
      rw [this, Rat.mul_one]
    constructor
    · rcases h.lo with h0 | h0
      · exact .inl h0
      · obtain ⟨c1, c2, c3⟩ := cmpu (sv f (r - 1) + sv f r) (mult _)
        rw [Rat.natCast_add] at c1 c2 c3
        rcases h0 with h0 | ⟨h0, _⟩
        · exact .inr (.inl (c1 h0))
        · exact absurd h0 c3
    · obtain ⟨c1, c2, c3⟩ := cmpu (sv f r + sv f (r + 1)) (mult _)
      rw [Rat.natCast_add] at c1 c2 c3
      rcases h.hi with h0 | ⟨h0, _⟩
      · exact .inl (c2 h0)
      · exact absurd h0.symm c3
  · obtain ⟨v, rfl⟩ : ∃ v : Nat, u = v := ⟨u.toNat, by omega⟩
    rw [zp_nat] at *
    -- the rung of 2 binades of steps
    have hbase : sv f ((v + 1) * f.binade + f.binade) = 2 * f.binade * 2 ^ v := by
      rw [sv_at f (v + 1) f.binade (Nat.le_refl _) (by omega), Nat.pow_succ, Nat.mul_comm (2 ^ v) 2, ← Nat.mul_assoc, Nat.mul_comm f.binade 2]
    have hlow : ((2 * f.binade * 2 ^ v : Nat) : Rat) ≤ (k : Rat) * 2 ^ v := by
      have c := cast_le (Nat.mul_le_mul_right (2 ^ v) hk)
      rw [Rat.natCast_mul k, Rat.natCast_pow] at c
      exact c
    have hr : (v + 1) * f.binade + f.binade ≤ r := by
      refine IsRnd.mono (IsRnd.exact f _) h ?_
      rw [hbase]
      have hU' := hU
      have hp' := hUpos
      revert hlow hU' hp'
      generalize (2 : Rat) ^ ((v : Int) - 1) = A
      generalize (2 : Rat) ^ v = Bq
      generalize ((2 * f.binade * 2 ^ v : Nat) : Rat) = C
      intro hlow hU' hp'
      subst hU'
      clear hbase cmpu h h1 h2 hU hu hUpos
      grind
    have mult : ∀ s : Nat, (v + 1 + 1) * f.binade ≤ s → ∃ c : Nat, (sv f s : Rat) = (c : Rat) * (2 * 2 ^ v) := by
      intro s hs
      obtain ⟨c, hc⟩ := sv_dvd f (v + 1) s hs
      refine ⟨c, ?_⟩
      rw [hc, Rat.natCast_mul, Rat.natCast_pow, Rat.pow_succ, Rat.mul_comm (_ ^ v)]; rfl
    have e0 : (v + 1 + 1) * f.binade = (v + 1) * f.binade + f.binade := by rw [Nat.add_mul (v + 1) 1, Nat.one_mul]
    have mult2 : ∀ s : Nat, (v + 1 + 1) * f.binade ≤ s → ∃ c : Nat, ((sv f s + sv f (s + 1) : Nat) : Rat) = (c : Rat) * (2 * 2 ^ v) := by
      intro s hs
      obtain ⟨c, hc⟩ := mult s hs
      obtain ⟨d, hd⟩ := mult (s + 1) (by omega)
      refine ⟨c + d, ?_⟩
      rw [Rat.natCast_add, Rat.natCast_add, hc, hd, Rat.add_mul]
    constructor
    · rcases Nat.lt_or_ge ((v + 1) * f.binade + f.binade) r with hgt | hle
      · right
        obtain ⟨c1, c2, c3⟩ := cmpu (sv f (r - 1) + sv f (r - 1 + 1)) (mult2 _ (by omega))
        rw [show r - 1 + 1 = r by omega, Rat.natCast_add] at c1 c2 c3
        rcases h.lo with h0 | h0 | ⟨h0, _⟩
        · omega
        · exact .inl (c1 h0)
        · exact absurd h0 c3
      · right; left
        have er : r = (v + 1) * f.binade + f.binade := by omega
        have c := cast_lt (sv_lt f (show r - 1 < r by omega))
        have : (sv f r : Rat) = ((2 * f.binade * 2 ^ v : Nat) : Rat) := by rw [er, hbase]
        grind
    · obtain ⟨c1, c2, c3⟩ := cmpu (sv f r + sv f (r + 1)) (mult2 _ (by omega))
      rw [Rat.natCast_add] at c1 c2 c3
      rcases h.hi with h0 | ⟨h0, _⟩
      · exact .inl (c2 h0)
      · exact absurd h0.symm c3

theorem mgn_pos (f : Format) (a : Nat) (ha : 0 < a) : 0 < mgn f a := Nat.pos_of_ne_zero (mgn_ne_zero f a ha)

theorem div_spec (f : Format) (hf : 1 ≤ f.fractionBits) (s t : Bool) (a b : Nat) (ha : a < f.infRung) (hb : b < f.infRung) (h0 : 0 < b) :
    ∃ r, f.div (f.word s a) (f.word t b) = some (f.word (s ^^ t) (min r f.infRung)) ∧ IsRnd f ((sv f a : Rat) / sv f b * 2 ^ (-f.leastPlace)) r := by
  unfold Format.div
  rw [read_word f s a ha, read_word f t b hb]
  have hn0 := mgn_pos f b h0
  have hnz : mgn f b ≠ 0 := by omega
  simp only [Datum.quotient, if_neg hnz, Option.map_some, write_number]
  generalize hmore : f.fractionBits + 2 + (mgn f b).log2 - (mgn f a).log2 = more
  rw [Nat.shiftLeft_eq]
  generalize hD : mgn f a * 2 ^ more = D
  generalize hplace : f.leastPlace + (exn f a : Int) - (f.leastPlace + (exn f b : Int)) - (more : Int) - 1 = place
  obtain ⟨r, h1, h2⟩ := nearest_spec f hf (s ^^ t) (2 * (D / mgn f b) + (D % mgn f b != 0).toNat) place
  refine ⟨r, by rw [h1], ?_⟩
  -- the exact quotient
  have hnq : (mgn f b : Rat) ≠ 0 := by
    intro e
    have : ((mgn f b : Nat) : Rat) = ((0 : Nat) : Rat) := e
    have := cast_lt hn0
    grind
  have exact_ : (sv f a : Rat) / sv f b * 2 ^ (-f.leastPlace) * mgn f b = (D : Rat) * 2 ^ (place + 1 - f.leastPlace) := by
    have ez : (2 : Rat) ^ (place + 1 - f.leastPlace) * 2 ^ more * 2 ^ (exn f b) = 2 ^ exn f a * 2 ^ (-f.leastPlace) := by
      rw [← zp_nat more, ← zp_nat (exn f a), ← zp_nat (exn f b), ← Rat.zpow_add (by decide), ← Rat.zpow_add (by decide), ← Rat.zpow_add (by decide)]
      congr 1; omega
    have hb2 : (0 : Rat) < 2 ^ exn f b := Rat.pow_pos (by decide)
    have ed : (D : Rat) = (mgn f a : Rat) * 2 ^ more := by rw [← hD, Rat.natCast_mul, Rat.natCast_pow]; rfl
    have hsvb : (sv f b : Rat) = (mgn f b : Rat) * 2 ^ exn f b := sv_rat f b
    have hsva : (sv f a : Rat) = (mgn f a : Rat) * 2 ^ exn f a := sv_rat f a
    have hsb : (sv f b : Rat) ≠ 0 := by
      rw [hsvb]; intro e
      rcases Rat.mul_eq_zero.1 e with e | e
      · exact hnq e
      · rw [e] at hb2; exact absurd hb2 (by decide)
    have c : (sv f a : Rat) / sv f b * sv f b = sv f a := Rat.div_mul_cancel hsb
    rw [hsvb] at c ⊢
    generalize (sv f a : Rat) / ((mgn f b : Rat) * 2 ^ exn f b) = Q at c ⊢
    have hne : (2 : Rat) ^ exn f b ≠ 0 := by intro e; rw [e] at hb2; exact absurd hb2 (by decide)
    have : Q * 2 ^ (-f.leastPlace) * mgn f b * 2 ^ exn f b = (D : Rat) * 2 ^ (place + 1 - f.leastPlace) * 2 ^ exn f b := by
      rw [hsva] at c
      rw [ed]
      grind
    have := congrArg (· / (2 : Rat) ^ exn f b) this
    simp only [Rat.mul_div_cancel hne] at this
    exact this
  generalize (sv f a : Rat) / sv f b * 2 ^ (-f.leastPlace) = Q at exact_ ⊢
  have hdm := Nat.div_add_mod D (mgn f b)
  have hlt := Nat.mod_lt D hn0
  have hdm' : (D : Rat) = (mgn f b : Rat) * (D / mgn f b : Nat) + (D % mgn f b : Nat) := by
    rw [← Rat.natCast_mul, ← Rat.natCast_add, hdm]
  have hP := zp_pos (place + 1 - f.leastPlace)
  have hPe : (2 : Rat) ^ (place + 1 - f.leastPlace) = 2 * 2 ^ (place - f.leastPlace) := by
    rw [show place + 1 - f.leastPlace = (place - f.leastPlace) + 1 by omega, Rat.zpow_add_one (by decide), Rat.mul_comm]
  have hnpos : (0 : Rat) < mgn f b := cast_lt hn0
  by_cases hrem : D % mgn f b = 0
  · -- nothing is left over
    have e1 : (D % mgn f b != 0).toNat = 0 := by simp [hrem]
    rw [e1, Nat.add_zero] at h2
    have : ((2 * (D / mgn f b) : Nat) : Rat) * 2 ^ (place - f.leastPlace) = Q := by
      rw [hrem] at hdm'
      rw [hdm', hPe] at exact_
      have z : ((0 : Nat) : Rat) = 0 := rfl
      have : (((2 * (D / mgn f b) : Nat) : Rat) * 2 ^ (place - f.leastPlace)) * mgn f b = Q * mgn f b := by
        rw [exact_, Rat.natCast_mul, z]
        have : ((2 : Nat) : Rat) = 2 := rfl
        rw [this]
        grind
      have := congrArg (· / (mgn f b : Rat)) this
      simp only [Rat.mul_div_cancel hnq] at this
      exact this
    rw [← this]; exact h2
  · have e1 : (D % mgn f b != 0).toNat = 1 := by simp [hrem]
    rw [e1] at h2
    have ha0 : 0 < mgn f a := by
      rcases Nat.eq_zero_or_pos (mgn f a) with h | h
      · rw [h] at hD; simp at hD; rw [← hD] at hrem; simp at hrem
      · exact h
    -- enough digits
    have hk : 2 * f.binade ≤ D / mgn f b := by
      rw [Nat.le_div_iff_mul_le hn0]
      have l1 : 2 ^ (mgn f a).log2 ≤ mgn f a := Nat.log2_self_le (by omega)
      have l2 : mgn f b < 2 ^ ((mgn f b).log2 + 1) := Nat.lt_log2_self
      have : 2 * f.binade * 2 ^ ((mgn f b).log2 + 1) ≤ D := by
        rw [← hD]
        refine Nat.le_trans ?_ (Nat.mul_le_mul_right _ l1)
        unfold Format.binade
        rw [← Nat.pow_add, show 2 * 2 ^ f.fractionBits = 2 ^ (f.fractionBits + 1) by rw [Nat.pow_succ]; omega, ← Nat.pow_add]
        exact Nat.pow_le_pow_right (by omega) (by omega)
      exact Nat.le_trans (Nat.mul_le_mul_left _ (Nat.le_of_lt l2)) this
    refine isRnd_sticky f (place + 1 - f.leastPlace) (D / mgn f b) r Q hk ?_ ?_ ?_
    · have c := cast_lt (Nat.pos_of_ne_zero hrem)
      refine Rat.lt_of_mul_lt_mul_right (c := (mgn f b : Rat)) ?_ (Rat.le_of_lt hnpos)
      rw [exact_, hdm']
      have := Rat.mul_lt_mul_of_pos_right c hP
      have z : ((0 : Nat) : Rat) = 0 := rfl
      grind
    · have c := cast_lt hlt
      refine Rat.lt_of_mul_lt_mul_right (c := (mgn f b : Rat)) ?_ (Rat.le_of_lt hnpos)
      rw [exact_, hdm']
      have := Rat.mul_lt_mul_of_pos_right c hP
      grind
    · rw [show place + 1 - f.leastPlace - 1 = place - f.leastPlace by omega]
      have : ((2 * (D / mgn f b) + 1 : Nat) : Rat) = 2 * ((D / mgn f b : Nat) : Rat) + 1 := by
        rw [Rat.natCast_add, Rat.natCast_mul]; rfl
      rw [← this]; exact h2


/-! ### what is representable -/

theorem repr (f : Format) : ∀ L k, k ≤ 2 * f.binade → ∃ r, sv f r = k * 2 ^ L ∧ r ≤ (L + 2) * f.binade := by
  intro L
  induction L with
  | zero =>
    intro k hk
    rcases Nat.lt_or_ge k f.binade with h | h
    · exact ⟨k, by rw [sv_low f k (by omega)]; simp, by omega⟩
    · refine ⟨0 * f.binade + k, sv_at f 0 k h hk, by omega⟩
  | succ L ih =>
    intro k hk
    rcases Nat.lt_or_ge k f.binade with h | h
    · obtain ⟨r, h1, h2⟩ := ih (2 * k) (by omega)
      refine ⟨r, by rw [h1, Nat.pow_succ, Nat.mul_comm 2 k, Nat.mul_assoc, Nat.mul_comm 2], ?_⟩
      exact Nat.le_trans h2 (Nat.mul_le_mul_right _ (by omega))
    · refine ⟨(L + 1) * f.binade + k, sv_at f (L + 1) k h hk, ?_⟩
      have : (L + 1 + 2) * f.binade = (L + 1) * f.binade + 2 * f.binade := Nat.add_mul ..
      omega

theorem mgn_lt (f : Format) (r : Nat) : mgn f r < 2 * f.binade := by
  have hb := binade_pos f
  have := Nat.mod_lt r hb
  unfold mgn; split <;> omega

/-- an exact number is written as it is -/
theorem nearest_exact (f : Format) (hf : 1 ≤ f.fractionBits) (s : Bool) (k L : Nat) (place : Int) (hk : k ≤ 2 * f.binade) (hp : place = f.leastPlace + L) (hL : (L + 2) * f.binade < f.infRung) :
    ∃ r, f.nearest s k place = f.word s r ∧ sv f r = k * 2 ^ L ∧ r < f.infRung := by
  obtain ⟨r, h1, h2⟩ := repr f L k hk
  obtain ⟨q, h3, h4⟩ := nearest_spec f hf s k place
  have e : (k : Rat) * 2 ^ (place - f.leastPlace) = sv f r := by
    rw [h1, hp, show f.leastPlace + (L : Int) - f.leastPlace = (L : Int) by omega, zp_nat, Rat.natCast_mul, Rat.natCast_pow]; rfl
  rw [e] at h4
  have : q = r := h4.eq_of_sv
  subst this
  exact ⟨q, by rw [h3, Nat.min_eq_left (by omega)], h1, by omega⟩

theorem read_inf_iff (f : Format) (s : Bool) (r : Nat) (h : r < f.infRung) : (f.read (f.word s r)).isInfinity = false := by
  rw [read_word f s r h]; rfl

end Go.Proofs.Ytjhognfkjdccfaa.Fl
