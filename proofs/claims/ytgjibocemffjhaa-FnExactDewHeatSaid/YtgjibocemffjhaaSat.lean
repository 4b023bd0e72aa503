/-
  Contracts and walks: saturation, excess, humidity.
-/
import Derived.Test.YtgjibocemffjhaaTwoL
import Derived.Test.YtgjibocemffjhaaMa
namespace Go.Proofs.Ytgjibocemffjhaa
open Go.RowKit Fl
set_option maxRecDepth 20000
set_option maxHeartbeats 4000000
set_option linter.unusedSimpArgs false

theorem five_ok {v : Nat} (hv : v ≤ 1065353216 + 104 * 8388608) : fok .mul .f32 1084227584 v = true ∧ v ≤ fv .mul .f32 1084227584 v ∧ fv .mul .f32 1084227584 v ≤ 1065353216 + 107 * 8388608 := by
  obtain ⟨r, h1, h2⟩ := mul_pos D32 (fmt_ok .f32).1 1084227584 v (by show (1084227584 : Nat) < 2139095040; omega) (by show v < 2139095040; omega)
  obtain ⟨h3, h4⟩ := fok_of (op := .mul) (k := .f32) (x := 1084227584) (y := v) h1
  have hz : (0 : Rat) ≤ 2 ^ D32.leastPlace := Rat.le_of_lt (zp_pos _)
  have e2 : (2 : Rat) ^ 149 * 2 ^ D32.leastPlace = 1 := by
    have : D32.leastPlace = -149 := rfl
    rw [this]
    exact zpow_split 149
  have p0 : ∀ a : Nat, (0 : Rat) ≤ sv D32 a := fun a => by have := cast_le (Nat.zero_le (sv D32 a)); simpa using this
  have s1 : sv D32 1065353216 = 2 ^ 149 := sv32_up 0
  have s5 : sv D32 1065353216 ≤ sv D32 1084227584 := sv_mono D32 (by omega)
  have s8 : sv D32 1084227584 ≤ 2 ^ 152 := by
    have := sv_mono D32 (show 1084227584 ≤ 1065353216 + 3 * 8388608 by omega)
    rw [sv32_up] at this; exact this
  have sv' : sv D32 v ≤ 2 ^ 253 := by
    have := sv_mono D32 hv
    rw [sv32_up] at this; exact this
  have hlo : v ≤ r := by
    refine (IsRnd.exact D32 v).mono h2 ?_
    rw [Rat.mul_comm (sv D32 1084227584 : Rat), Rat.mul_assoc]
    have a := Rat.mul_le_mul_of_nonneg_right (cast_le s5) hz
    rw [s1, Rat.natCast_pow, show (((2 : Nat) : Rat)) = 2 from rfl, e2] at a
    have b := Rat.mul_le_mul_of_nonneg_left a (p0 v)
    rw [Rat.mul_one] at b; exact b
  have hhi : r ≤ 1065353216 + 107 * 8388608 := by
    refine h2.mono (IsRnd.exact D32 _) ?_
    rw [sv32_up]
    have a : sv D32 1084227584 * sv D32 v ≤ 2 ^ 152 * 2 ^ 253 := Nat.mul_le_mul s8 sv'
    have a := cast_le a
    rw [Rat.natCast_mul] at a
    have b := Rat.mul_le_mul_of_nonneg_right a hz
    have e9 : ((2 ^ 152 * 2 ^ 253 : Nat) : Rat) * 2 ^ D32.leastPlace = ((2 ^ (149 + 107) : Nat) : Rat) := by
      rw [show (2 ^ 152 * 2 ^ 253 : Nat) = 2 ^ (149 + 107) * 2 ^ 149 by rw [← Nat.pow_add], Rat.natCast_mul, Rat.mul_assoc, Rat.natCast_pow 2 149, show (((2 : Nat) : Rat)) = 2 from rfl, e2, Rat.mul_one]
    rw [e9] at b; exact b
  refine ⟨h3, ?_, ?_⟩
  · rw [h4]; exact Nat.le_min.2 ⟨hlo, by show v ≤ 2139095040; omega⟩
  · rw [h4]; exact Nat.le_trans (Nat.min_le_left _ _) hhi
/-- a tenth of a heat -/
theorem tenth {s : Bool} {r : Nat} (hr : r ≤ 1114636288) : fok .quo .f32 (D32.word s r) 1092616192 = true ∧ ∃ q, fv .quo .f32 (D32.word s r) 1092616192 = D32.word s q ∧ q ≤ 1120403456 := by
  obtain ⟨q, h1, h2⟩ := div_spec D32 (fmt_ok .f32).1 s false r 1092616192 (by show r < 2139095040; omega) (by show (1092616192 : Nat) < 2139095040; omega) (by omega)
  obtain ⟨h3, h4⟩ := fok_of (op := .quo) (k := .f32) (x := D32.word s r) (y := 1092616192) h1
  refine ⟨h3, min q D32.infRung, ?_, ?_⟩
  · rw [h4]; cases s <;> rfl
  · have hq : q ≤ r := by
      refine h2.mono (IsRnd.exact _ r) ?_
      have e : (2 : Rat) ^ (-D32.leastPlace) = 2 ^ 149 := by
        have : -D32.leastPlace = ((149 : Nat) : Int) := rfl
        rw [this, zp_nat]
      rw [e]
      have hs : (2 : Rat) ^ 149 ≤ sv D32 1092616192 := by
        have := cast_le (sv_mono D32 (show 1065353216 ≤ 1092616192 by omega))
        have e1 : sv D32 1065353216 = 2 ^ 149 := sv32_up 0
        rw [e1, Rat.natCast_pow] at this; exact this
      have hp : (0 : Rat) < sv D32 1092616192 := by have := cast_lt ((sv_pos_iff D32 1092616192).2 (by omega)); simpa using this
      have hi : (0 : Rat) ≤ (sv D32 1092616192 : Rat)⁻¹ := Rat.le_of_lt (Rat.inv_pos.2 hp)
      have h5 := Rat.mul_le_mul_of_nonneg_right hs hi
      rw [Rat.mul_inv_cancel _ (by intro h0; rw [h0] at hp; exact absurd hp (by decide))] at h5
      have p0 : (0 : Rat) ≤ sv D32 r := by have := cast_le (Nat.zero_le (sv D32 r)); simpa using this
      have h6 := Rat.mul_le_mul_of_nonneg_left h5 p0
      rw [Rat.mul_one] at h6
      rw [Rat.div_def, Rat.mul_assoc, Rat.mul_comm _ ((2 : Rat) ^ 149)]
      exact h6
    exact Nat.le_trans (Nat.min_le_left _ _) (by omega)
theorem heat_word {h : Nat} (hh : h < 4294967296) (hb : heatB h = true) : ∃ s r, h = D32.word s r ∧ r ≤ 1114636288 := by
  unfold heatB at hb
  rw [Bool.and_eq_true] at hb
  exact rng (W := 1114636288) hh (by omega) hb.1 hb.2
/-- what holds of the saturation at a heat -/
structure SatOk (h v : Nat) : Prop where
  lo : 226492416 ≤ v
  hi : v ≤ 1065353216 + 107 * 8388608
  spec : ∀ w, Calls Try.prog 47 #[.float .f32 h] w fun e w' => e = .returned (.float .f32 v) ∧ w = w'
  impl : ∀ w, Calls Try.prog 49 #[.float .f32 h] w fun e w' => e = .returned (.float .f32 v) ∧ w = w'
theorem c_l02Full (h q v : Nat) (h1 : fok .quo .f32 h 1092616192 = true) (h2 : fv .quo .f32 h 1092616192 = q) (HT : Hid (∀ w, Calls Try.prog 44 #[.float .f32 q] w fun e w' => e = .returned (.float .f32 v) ∧ w = w')) (h3 : fok .mul .f32 1084227584 v = true) (w : World) : Calls Try.prog 47 #[.float .f32 h] w fun e w' => e = .returned (.float .f32 (fv .mul .f32 1084227584 v)) ∧ w = w' := by
  go_enter Try.func47, Try.ntmps47
  go_wp2_with (go_at_call 44; refine (HT.out _).mono ?_; rintro e w1 ⟨rfl, rfl⟩)
  go_ret
  exact ⟨rfl, rfl⟩
theorem c_saturation (h q v : Nat) (h1 : fok .quo .f32 h 1092616192 = true) (h2 : fv .quo .f32 h 1092616192 = q) (HT : Hid (∀ w, Calls Try.prog 45 #[.float .f32 q] w fun e w' => e = .returned (.float .f32 v) ∧ w = w')) (h3 : fok .mul .f32 1084227584 v = true) (w : World) : Calls Try.prog 49 #[.float .f32 h] w fun e w' => e = .returned (.float .f32 (fv .mul .f32 1084227584 v)) ∧ w = w' := by
  go_enter Try.func49, Try.ntmps49
  go_wp2_with (go_at_call 45; refine (HT.out _).mono ?_; rintro e w1 ⟨rfl, rfl⟩)
  go_ret
  exact ⟨rfl, rfl⟩
theorem lo_ok {n v : Nat} (h : n ≤ 100) (h1 : 1065353216 - n * 8388608 ≤ v) : 226492416 ≤ v := by omega
theorem hi_ok {n v : Nat} (h : n ≤ 100) (h1 : v ≤ 1065353216 + (n + 4) * 8388608) : v ≤ 1065353216 + 104 * 8388608 := Nat.le_trans h1 (Nat.add_le_add_left (Nat.mul_le_mul_right _ (Nat.add_le_add_right h 4)) _)
theorem sat_both {h : Nat} (hh : h < 4294967296) (hb : heatB h = true) : ∃ v, SatOk h v := by
  obtain ⟨s, r, rfl, hr⟩ := heat_word hh hb
  obtain ⟨t1, q, t2, t3⟩ := tenth (s := s) hr
  obtain ⟨n, v, v1, v2, v3, v4, v5⟩ := two_both s q t3
  obtain ⟨f1, f2, f3⟩ := five_ok (v := v) (hi_ok v1 v3)
  have k1 := fun w => c_l02Full (D32.word s r) (D32.word s q) v t1 t2 (Lib.hid v4) f1 w
  have k2 := fun w => c_saturation (D32.word s r) (D32.word s q) v t1 t2 (Lib.hid v5) f1 w
  have k3 := Nat.le_trans (lo_ok v1 v2) f2
  generalize fv .mul .f32 1084227584 v = V at *
  exact ⟨V, k3, f3, k1, k2⟩
theorem c_specSaturationAt (h v : Nat) (c : Int) (hT : heatB h = true → SatOk h v ∧ c = 0) (hF : heatB h = false → v = 0 ∧ c = 2) (w : World) : Calls Try.prog 21 #[.float .f32 h] w fun e w' => e = .returned (.tuple #[.float .f32 v, .int .i64 c]) ∧ w = w' := by
  cases h1 : heatB h
  · obtain ⟨rfl, rfl⟩ := hF h1
    clear hT hF
    go_enter Try.func21, Try.ntmps21
    go_wp2_with (go_at_call 46; refine (c_l02Heat _ _).mono ?_; rw [h1]; rintro e w1 ⟨rfl, rfl⟩)
    go_ret2
    exact ⟨rfl, rfl⟩
  obtain ⟨hs, rfl⟩ := hT h1
  have HC := Lib.hid hs.spec
  clear hs hT hF
  go_enter Try.func21, Try.ntmps21
  go_wp2_with (first | (go_at_call 46; refine (c_l02Heat _ _).mono ?_; rw [h1]; rintro e w1 ⟨rfl, rfl⟩) | (go_at_call 47; refine (HC.out _).mono ?_; rintro e w1 ⟨rfl, rfl⟩))
  go_ret2
  exact ⟨rfl, rfl⟩
theorem c_implSaturationAt (h v : Nat) (c : Int) (hT : heatB h = true → SatOk h v ∧ c = 0) (hF : heatB h = false → v = 0 ∧ c = 2) (w : World) : Calls Try.prog 22 #[.float .f32 h] w fun e w' => e = .returned (.tuple #[.float .f32 v, .int .i64 c]) ∧ w = w' := by
  cases h1 : heatB h
  · obtain ⟨rfl, rfl⟩ := hF h1
    clear hT hF
    go_enter Try.func22, Try.ntmps22
    go_wp2_with (go_at_call 48; refine (c_isHeat _ _).mono ?_; rw [h1]; rintro e w1 ⟨rfl, rfl⟩)
    go_ret2
    exact ⟨rfl, rfl⟩
  obtain ⟨hs, rfl⟩ := hT h1
  have HC := Lib.hid hs.impl
  clear hs hT hF
  go_enter Try.func22, Try.ntmps22
  go_wp2_with (first | (go_at_call 48; refine (c_isHeat _ _).mono ?_; rw [h1]; rintro e w1 ⟨rfl, rfl⟩) | (go_at_call 49; refine (HC.out _).mono ?_; rintro e w1 ⟨rfl, rfl⟩))
  go_ret2
  exact ⟨rfl, rfl⟩
theorem walk_FnExactSaturationAt (x : Nat) (hx : x < 4294967296) (w : World) : Calls Try.prog 6 #[.float .f32 x] w fun e w' => e = .returned (.bool true) ∧ Below w.heap.size w w' := by
  have hcv := fun (x : Nat) (h : cvok x = true) (w : World) => run_cv (P := Try.prog) w 22 37 (by kernel_rfl) Try.underlying37 x h
  obtain ⟨v, c, hv, hS, hI⟩ : ∃ (v : Nat) (c : Int), v ≤ 2139095040 ∧ (∀ w, Calls Try.prog 21 #[.float .f32 x] w fun e w' => e = .returned (.tuple #[.float .f32 v, .int .i64 c]) ∧ w = w') ∧ (∀ w, Calls Try.prog 22 #[.float .f32 x] w fun e w' => e = .returned (.tuple #[.float .f32 v, .int .i64 c]) ∧ w = w') := by
    cases h : heatB x
    · exact ⟨0, 2, by omega, c_specSaturationAt x 0 2 (fun q => by rw [h] at q; cases q) (fun _ => ⟨rfl, rfl⟩), c_implSaturationAt x 0 2 (fun q => by rw [h] at q; cases q) (fun _ => ⟨rfl, rfl⟩)⟩
    · obtain ⟨v, hv⟩ := sat_both hx h
      exact ⟨v, 0, by have := hv.hi; omega, c_specSaturationAt x v 0 (fun _ => ⟨hv, rfl⟩) (fun q => by rw [h] at q; cases q), c_implSaturationAt x v 0 (fun _ => ⟨hv, rfl⟩) (fun q => by rw [h] at q; cases q)⟩
  obtain ⟨h1, h2⟩ := cv_ok hv
  have HS := Lib.hid hS
  have HI := Lib.hid hI
  have H2 := Lib.hid h2
  clear hS hI h2
  go_enter Try.func6, Try.ntmps6
  go_wp2_with (first | (go_at_call 21; refine (HS.out _).mono ?_; rintro e w1 ⟨rfl, rfl⟩) | (go_at_call 22; refine (HI.out _).mono ?_; rintro e w1 ⟨rfl, rfl⟩) | (go_at_call 18; refine (c_sameFloat _ H2.out _).mono ?_; rintro e w1 ⟨rfl, rfl⟩))
  go_ret
  exact ⟨rfl, Below.refl _ _⟩
end Go.Proofs.Ytgjibocemffjhaa
