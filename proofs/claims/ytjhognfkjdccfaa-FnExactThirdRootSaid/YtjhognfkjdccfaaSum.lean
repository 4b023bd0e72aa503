/-
  Contracts: counts and waters.
-/
import Derived.Test.YtjhognfkjdccfaaSizes
namespace Go.Proofs.Ytjhognfkjdccfaa
open Go.RowKit Fl
set_option maxRecDepth 20000

theorem add_nn {a b : Nat} (ha : a ≤ 2139095040) (hb : b ≤ 2139095040) : fok .add .f32 a b = true ∧ fv .add .f32 a b ≤ 2139095040 := by
  obtain ⟨r, h1, h2⟩ := add_nonneg FloatKind.f32.format (fmt_ok .f32).1 (fmt_ok .f32).2 a b ha hb
  obtain ⟨h3, h4⟩ := fok_of (op := .add) (k := .f32) (x := a) (y := b) (r := r) h1
  exact ⟨h3, by rw [h4]; exact h2⟩
theorem mul_nn {a b : Nat} (ha : a ≤ 2139095040) (hb : b < 2139095040) (h0 : 0 < b) : fok .mul .f32 a b = true ∧ fv .mul .f32 a b ≤ 2139095040 := by
  obtain ⟨r, h1, h2⟩ := mul_nonneg FloatKind.f32.format (fmt_ok .f32).1 (fmt_ok .f32).2 a b ha hb h0
  obtain ⟨h3, h4⟩ := fok_of (op := .mul) (k := .f32) (x := a) (y := b) (r := r) h1
  exact ⟨h3, by rw [h4]; exact h2⟩
theorem mul_ff {a b : Nat} (ha : a < 2139095040) (hb : b < 2139095040) : fok .mul .f32 a b = true ∧ fv .mul .f32 a b ≤ 2139095040 := by
  obtain ⟨r, h1, _⟩ := mul_pos FloatKind.f32.format (fmt_ok .f32).1 a b ha hb
  obtain ⟨h3, h4⟩ := fok_of (op := .mul) (k := .f32) (x := a) (y := b) h1
  exact ⟨h3, by rw [h4]; exact Nat.min_le_right _ _⟩
theorem amt_lt {x : Nat} (h : amtB x = true) : x < 2139095040 := of_decide_eq_true h
theorem zero_add32 {a : Nat} (ha : a ≤ 2139095040) : fv .add .f32 0 a = a :=
  (fok_of (op := .add) (k := .f32) (x := 0) (y := a) (add_zero_left FloatKind.f32.format (fmt_ok .f32).1 (fmt_ok .f32).2 a ha)).2
theorem add_zero32 {a : Nat} (ha : a ≤ 2139095040) : fv .add .f32 a 0 = a :=
  (fok_of (op := .add) (k := .f32) (x := a) (y := 0) (add_zero_right FloatKind.f32.format (fmt_ok .f32).1 (fmt_ok .f32).2 a ha)).2

/-- the sum of the numbers 0 to k -/
def cnt (f : Nat → Nat) : Nat → Nat
  | 0 => f 0
  | k + 1 => fv .add .f32 (cnt f k) (f (k + 1))
theorem cnt_ok {f : Nat → Nat} (hf : okB f = true) : ∀ k, k < 20 → cnt f k ≤ 2139095040
  | 0, h => Nat.le_of_lt (amt_lt (of_okB hf 0 h))
  | k + 1, h => (add_nn (cnt_ok hf k (by omega)) (Nat.le_of_lt (amt_lt (of_okB hf (k + 1) h)))).2
theorem cnt_fok {f : Nat → Nat} (hf : okB f = true) (k : Nat) (h : k + 1 < 20) : fok .add .f32 (cnt f k) (f (k + 1)) = true :=
  (add_nn (cnt_ok hf k (by omega)) (Nat.le_of_lt (amt_lt (of_okB hf (k + 1) h)))).1

/-- the water of a class -/
def pr (f : Nat → Nat) (k : Nat) : Nat := fv .mul .f32 (f k) (mb k)
theorem pr_ok {f : Nat → Nat} (hf : okB f = true) (k : Nat) (h : k < 20) : fok .mul .f32 (f k) (mb k) = true ∧ pr f k ≤ 2139095040 :=
  mul_nn (Nat.le_of_lt (amt_lt (of_okB hf k h))) (mb_fin k h).1 (mb_fin k h).2
/-- the sum of the waters of the classes 'from' to 'from + j' -/
def wat (f : Nat → Nat) (from_ : Nat) : Nat → Nat
  | 0 => pr f from_
  | j + 1 => fv .add .f32 (wat f from_ j) (pr f (from_ + (j + 1)))
theorem wat_ok {f : Nat → Nat} (hf : okB f = true) (a : Nat) : ∀ j, a + j < 20 → wat f a j ≤ 2139095040
  | 0, h => (pr_ok hf a h).2
  | j + 1, h => (add_nn (wat_ok hf a j (by omega)) (pr_ok hf (a + (j + 1)) h).2).2
theorem wat_fok {f : Nat → Nat} (hf : okB f = true) (a j : Nat) (h : a + (j + 1) < 20) : fok .add .f32 (wat f a j) (pr f (a + (j + 1))) = true :=
  (add_nn (wat_ok hf a j (by omega)) (pr_ok hf (a + (j + 1)) h).2).1

theorem mul_one32 {a : Nat} (ha : a < 2139095040) : fv .mul .f32 a 1065353216 = a := by
  obtain ⟨r, h1, h2⟩ := mul_pos FloatKind.f32.format (fmt_ok .f32).1 a 1065353216 ha (by show (1065353216 : Nat) < 2139095040; omega)
  obtain ⟨_, h4⟩ := fok_of (op := .mul) (k := .f32) (x := a) (y := 1065353216) h1
  have e : sv FloatKind.f32.format 1065353216 = 8388608 * 2 ^ 126 := sv_at FloatKind.f32.format 126 8388608 (Nat.le_refl _) (by show (8388608 : Nat) ≤ 2 * 8388608; omega)
  have e2 : ((8388608 * 2 ^ 126 : Nat) : Rat) * 2 ^ FloatKind.f32.format.leastPlace = 1 := by
    have : FloatKind.f32.format.leastPlace = -149 := rfl
    rw [this, show (8388608 * 2 ^ 126 : Nat) = 2 ^ 149 by decide, Rat.natCast_pow]
    exact zpow_split 149
  rw [e, Rat.mul_assoc, e2, Rat.mul_one] at h2
  have := h2.eq_of_sv
  subst this
  rw [h4]; exact Nat.min_eq_left (Nat.le_of_lt ha)
theorem pr_zero {f : Nat → Nat} (hf : okB f = true) : pr f 0 = f 0 := mul_one32 (amt_lt (of_okB hf 0 (by omega)))

/-- a number that is told -/
def toldR (a : Nat) : Value := if isfin a then .tuple #[.float .f32 a, .int .i64 0] else .tuple #[.float .f32 0, .int .i64 4]

theorem c_l01Told (a : Nat) (ha : a < 4294967296) (w : World) : Calls Try.prog 51 #[.float .f32 a] w fun e w' => e = .returned (toldR a) ∧ Drew w w' := by
  cases h : isfin a
  · have hR := Lib.hid (show toldR a = .tuple #[.float .f32 0, .int .i64 4] by simp [toldR, h])
    go_enter Try.func51, Try.ntmps51
    go_wp2_with (go_at_call 37; refine (c_l01Finite _ ha _).mono ?_; rintro e w' ⟨rfl, n, rfl⟩)
    go_ret2
    exact ⟨by rw [hR.out]; rfl, n, rfl⟩
  · have hR := Lib.hid (show toldR a = .tuple #[.float .f32 a, .int .i64 0] by simp [toldR, h])
    go_enter Try.func51, Try.ntmps51
    go_wp2_with (go_at_call 37; refine (c_l01Finite _ ha _).mono ?_; rintro e w' ⟨rfl, n, rfl⟩)
    go_ret2
    exact ⟨by rw [hR.out]; rfl, n, rfl⟩

theorem c_finite (a : Nat) (ha : a < 4294967296) (w : World) : Calls Try.prog 53 #[.float .f32 a] w fun e w' => e = .returned (toldR a) ∧ Below w.heap.size w w' := by
  cases h : isfin a
  · have hR := Lib.hid (show toldR a = .tuple #[.float .f32 0, .int .i64 4] by simp [toldR, h])
    go_enter Try.func53, Try.ntmps53
    go_wp2_with (go_at_call 44; refine (c_isFinite1 _ ha _ _ _ _ (Holds.new _ _ _)).mono ?_; rintro e w' ⟨rfl, n, rfl⟩)
    go_ret2
    exact ⟨by rw [hR.out]; rfl, below_drewN ((Below.refl _ _).alloc (by simp) _) n⟩
  · have hR := Lib.hid (show toldR a = .tuple #[.float .f32 a, .int .i64 0] by simp [toldR, h])
    go_enter Try.func53, Try.ntmps53
    go_wp2_with (go_at_call 44; refine (c_isFinite1 _ ha _ _ _ _ (Holds.new _ _ _)).mono ?_; rintro e w' ⟨rfl, n, rfl⟩)
    go_ret2
    exact ⟨by rw [hR.out]; rfl, below_drewN ((Below.refl _ _).alloc (by simp) _) n⟩

theorem c_l01Count (f : Nat → Nat) (hf : okB f = true) (g : Nat) (t : TypeId) (w : World) (hg : Holds w g t (row 20 fun j => .float .f32 (f j))) :
    Calls Try.prog 61 #[.pointer (some ⟨g, 0, none⟩)] w fun e w' => e = .returned (.float .f32 (cnt f 19)) ∧ w = w' := by
  have h0 := hg.at_ (show 0 < 20 by omega)
  go_enter Try.func61, Try.ntmps61
  go_wp2
  go_loop [3, 4] (fun s i => ∃ k : Nat, k < 20 ∧ i = .int .i64 ((k + 1 : Nat) : Int) ∧ s = .float .f32 (cnt f k)) (fun _ i => 21 - (intOf i).toNat)
  case atStart => exact ⟨0, by omega, rfl, rfl⟩
  case round =>
    obtain ⟨k, hk, rfl, rfl⟩ := hrel
    by_cases hlt : k + 1 < 20
    · have hc := hg.at_ hlt
      have ho := cnt_fok hf k hlt
      go_wp2
      go_round
      case rel => exact ⟨k + 1, by omega, by go_num, rfl⟩
      case measure => simp [intOf]; omega
    · have : k = 19 := by omega
      subst this
      go_wp2
      go_ret
      exact ⟨rfl, rfl⟩

theorem c_count (f : Nat → Nat) (hf : okB f = true) (w : World) :
    Calls Try.prog 63 #[.agg (row 20 fun j => .float .f32 (f j))] w fun e w' => e = .returned (.float .f32 (cnt f 19)) ∧ Below w.heap.size w w' := by
  have hg := Holds.new w 31 (row 20 fun j => .float .f32 (f j))
  have h0 := hg.at_ (show 0 < 20 by omega)
  go_enter Try.func63, Try.ntmps63
  go_wp2
  go_loop [3, 10] (fun s i => ∃ k : Nat, k < 20 ∧ i = .int .i64 k ∧ s = .float .f32 (cnt f k)) (fun _ i => 21 - (intOf i).toNat)
  case atStart => exact ⟨0, by omega, rfl, rfl⟩
  case round =>
    obtain ⟨k, hk, rfl, rfl⟩ := hrel
    by_cases hlt : k + 1 < 20
    · have hc := hg.at_ hlt
      have hc' : (w.alloc (.cells (row 20 fun j => .float .f32 (f j)) 31)).cell? ⟨w.heap.size, 1 + k, none⟩ = some (.float .f32 (f (k + 1))) := by rw [Nat.add_comm]; exact hc
      have ho := cnt_fok hf k hlt
      have hlt' : k < 19 := by omega
      go_wp2
      go_round
      case rel => exact ⟨k + 1, by omega, by go_num, rfl⟩
      case measure => simp [intOf]; omega
    · have : k = 19 := by omega
      subst this
      go_wp2
      go_ret
      exact ⟨rfl, (Below.refl _ _).alloc (by simp) _⟩

theorem c_l01Water (f : Nat → Nat) (hf : okB f = true) (a : Nat) (ha : a < 20) (g : Nat) (t : TypeId) (w : World) (hg : Holds w g t (row 20 fun j => .float .f32 (f j))) :
    Calls Try.prog 64 #[.pointer (some ⟨g, 0, none⟩), .int .i64 a] w fun e w' => e = .returned (.float .f32 (wat f a (19 - a))) ∧ Drew w w' := by
  have h0 := hg.at_ ha
  have hi0 : (0 : Int) ≤ (a : Int) := by omega
  have hi1 : (a : Int) < 20 := by omega
  have hm := (pr_ok hf a ha).1
  have HM := Lib.hid (fun w => c_l01Mass a ha w)
  go_enter Try.func64, Try.ntmps64
  go_wp2
  go_quiet ((go_at_call 57; exact q_left (HM.out _)))
  go_wp2
  go_loopw [5, 6] (fun s i wr => ∃ b x : Nat, a < b ∧ b ≤ 20 ∧ i = .int .i64 b ∧ s = .float .f32 x ∧ x = wat f a (b - 1 - a) ∧ Drew w wr ∧ Holds wr g t (row 20 fun j => .float .f32 (f j))) (fun _ i _ => 21 - (intOf i).toNat)
  case atStart => exact ⟨a + 1, _, by omega, by omega, by go_num, rfl, by rw [show a + 1 - 1 - a = 0 by omega]; rfl, ⟨_, rfl⟩, hg.drewN _⟩
  case round =>
    clear hg h0 HM hm hi0 hi1
    obtain ⟨b, x, hab, hk, rfl, rfl, hx, hd, hg⟩ := hrel
    have HX := Lib.hid hx
    clear hx
    by_cases hlt : b < 20
    · have hc := hg.at_ hlt
      have hi0 : (0 : Int) ≤ (b : Int) := by omega
      have hi1 : (b : Int) < 20 := by omega
      have ho : fok .add .f32 x (fv .mul .f32 (f b) (mb b)) = true := by
        have := wat_fok hf a (b - 1 - a) (by omega)
        rw [show a + (b - 1 - a + 1) = b by omega, ← HX.out] at this; exact this
      have HN := Lib.hid (show fv .add .f32 x (fv .mul .f32 (f b) (mb b)) = wat f a (b + 1 - 1 - a) by
        rw [show b + 1 - 1 - a = (b - 1 - a) + 1 by omega, wat, show a + (b - 1 - a + 1) = b by omega, ← HX.out]; rfl)
      have hm := (pr_ok hf b hlt).1
      have HM := Lib.hid (fun w => c_l01Mass b hlt w)
      go_wp2
      go_quiet ((go_at_call 57; exact q_left (HM.out _)))
      go_wp2
      go_roundw
      case rel => exact ⟨b + 1, _, by omega, by omega, by go_num, rfl, HN.out, hd.trans ⟨_, rfl⟩, hg.drewN _⟩
      case measure => simp [intOf]; omega
    · have HE := Lib.hid (show x = wat f a (19 - a) by rw [HX.out, show b - 1 - a = 19 - a by omega])
      go_wp2
      go_ret
      exact ⟨ret_f32 HE.out, hd⟩

theorem c_water (f : Nat → Nat) (hf : okB f = true) (w : World) :
    Calls Try.prog 65 #[.agg (row 20 fun j => .float .f32 (f j))] w fun e w' => e = .returned (.float .f32 (wat f 0 19)) ∧ Below w.heap.size w w' := by
  have hg0 := Holds.new w 31 (row 20 fun j => .float .f32 (f j))
  have h0 := hg0.at_ (show 0 < 20 by omega)
  have HP := Lib.hid (pr_zero hf)
  go_enter Try.func65, Try.ntmps65
  go_wp2
  go_loopw [3, 4] (fun s i wr => ∃ b x : Nat, 0 < b ∧ b ≤ 20 ∧ i = .int .i64 b ∧ s = .float .f32 x ∧ x = wat f 0 (b - 1) ∧ Below w.heap.size w wr ∧ Holds wr w.heap.size 31 (row 20 fun j => .float .f32 (f j))) (fun _ i _ => 21 - (intOf i).toNat)
  case atStart => exact ⟨1, _, by omega, by omega, rfl, rfl, HP.out.symm, (Below.refl _ _).alloc (by simp) _, hg0⟩
  case round =>
    clear hg0 h0
    obtain ⟨b, x, hab, hk, rfl, rfl, hx, hd, hg⟩ := hrel
    have HX := Lib.hid hx
    clear hx
    by_cases hlt : b < 20
    · have hc := hg.at_ hlt
      have hi0 : (0 : Int) ≤ (b : Int) := by omega
      have hi1 : (b : Int) < 20 := by omega
      have ho : fok .add .f32 x (fv .mul .f32 (f b) (mb b)) = true := by
        have := wat_fok hf 0 (b - 1) (by omega)
        rw [show 0 + (b - 1 + 1) = b by omega, ← HX.out] at this; exact this
      have HN := Lib.hid (show fv .add .f32 x (fv .mul .f32 (f b) (mb b)) = wat f 0 (b + 1 - 1) by
        rw [show b + 1 - 1 = (b - 1) + 1 by omega, wat, show 0 + (b - 1 + 1) = b by omega, ← HX.out]; rfl)
      have hm := (pr_ok hf b hlt).1
      have HM := Lib.hid (fun w => c_mass b hlt w)
      go_wp2
      go_quiet ((go_at_call 58; exact q_left (HM.out _)))
      go_wp2
      go_roundw
      case rel => exact ⟨b + 1, _, by omega, by omega, by go_num, rfl, HN.out, below_drewN hd _, hg.drewN _⟩
      case measure => simp [intOf]; omega
    · have HE := Lib.hid (show x = wat f 0 19 by rw [HX.out, show b - 1 = 19 by omega])
      go_wp2
      go_ret
      exact ⟨ret_f32 HE.out, hd⟩
end Go.Proofs.Ytjhognfkjdccfaa
