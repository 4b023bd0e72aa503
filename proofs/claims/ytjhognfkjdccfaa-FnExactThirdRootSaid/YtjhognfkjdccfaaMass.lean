/-
  Contracts: masses, classes, edges.
-/
import Derived.Test.YtjhognfkjdccfaaBase
namespace Go.Proofs.Ytjhognfkjdccfaa
open Go.RowKit Fl

theorem below20 {p : Nat → Prop} (h0 : p 0) (h1 : p 1) (h2 : p 2) (h3 : p 3) (h4 : p 4) (h5 : p 5) (h6 : p 6) (h7 : p 7) (h8 : p 8) (h9 : p 9) (h10 : p 10) (h11 : p 11) (h12 : p 12) (h13 : p 13) (h14 : p 14) (h15 : p 15) (h16 : p 16) (h17 : p 17) (h18 : p 18) (h19 : p 19) (k : Nat) (hk : k < 20) : p k := by
  rcases k with _ | _ | _ | _ | _ | _ | _ | _ | _ | _ | _ | _ | _ | _ | _ | _ | _ | _ | _ | _ | k <;> first | assumption | omega

/-- the mass of a class -/
def mb (k : Nat) : Nat := (127 + k) * 8388608
theorem mb_fin (k : Nat) (hk : k < 20) : mb k < 2139095040 ∧ 0 < mb k := by unfold mb; omega
theorem mb_wide (k : Nat) (hk : k < 20) : mb k < 4294967296 := by unfold mb; omega
theorem mb_of (k : Nat) (hk : k < 20) : floatOfInt .f32 (wrap64 (2 ^ k)) = mb k := by
  revert hk; revert k
  refine below20 (p := fun k => floatOfInt .f32 (wrap64 (2 ^ k)) = mb k) ?_ ?_ ?_ ?_ ?_ ?_ ?_ ?_ ?_ ?_ ?_ ?_ ?_ ?_ ?_ ?_ ?_ ?_ ?_ ?_ <;> kernel_rfl

theorem c_l01Mass (k : Nat) (hk : k < 20) (w : World) : Calls Try.prog 57 #[.int .i64 k] w fun e w' => e = .returned (.float .f32 (mb k)) ∧ w = w' := by
  go_enter Try.func57, Try.ntmps57
  go_wp2
  go_ret
  exact ⟨ret_f32 (mb_of k hk), rfl⟩

theorem c_mass (k : Nat) (hk : k < 20) (w : World) : Calls Try.prog 58 #[.int .i64 k] w fun e w' => e = .returned (.float .f32 (mb k)) ∧ w = w' := by
  go_enter Try.func58, Try.ntmps58
  go_wp2
  go_ret
  exact ⟨ret_f32 (mb_of k hk), rfl⟩

theorem c_l01Class (n : Int) (w : World) : Calls Try.prog 29 #[.int .i64 n] w fun e w' => e = .returned (.bool (inB n 0 19)) ∧ w = w' := by
  go_enter Try.func29, Try.ntmps29
  go_wp2_with (go_at_call 50; refine (c_l00In _ _ _ _).mono ?_; rintro e w' ⟨rfl, rfl⟩)
  go_ret
  exact ⟨rfl, rfl⟩
theorem c_isClass (n : Int) (w : World) : Calls Try.prog 31 #[.int .i64 n] w fun e w' => e = .returned (.bool (inB n 0 19)) ∧ w = w' := by
  go_enter Try.func31, Try.ntmps31
  go_wp2_with (go_at_call 52; refine (c_within _ _ _ _).mono ?_; rintro e w' ⟨rfl, rfl⟩)
  go_ret
  exact ⟨rfl, rfl⟩

theorem inB19 {n : Int} (h : inB n 0 19 = true) : ∃ k : Nat, n = k ∧ k < 20 := by
  simp [inB] at h
  exact ⟨n.toNat, by omega, by omega⟩

/-- a mass, with a code -/
def massR (n : Int) : Value := if inB n 0 19 then .tuple #[.float .f32 (mb n.toNat), .int .i64 0] else .tuple #[.float .f32 0, .int .i64 2]



/-- one and a half of a mass -/
def edge (k : Nat) : Nat := fv .mul .f32 1069547520 (mb k)
theorem edge_ok (k : Nat) (hk : k < 20) : fok .mul .f32 1069547520 (mb k) = true ∧ edge k ≤ 2139095040 := by
  obtain ⟨h1, h2⟩ := mb_fin k hk
  obtain ⟨r, h3, h4⟩ := mul_nonneg FloatKind.f32.format (fmt_ok .f32).1 (fmt_ok .f32).2 1069547520 (mb k) (by show (1069547520 : Nat) ≤ 2139095040; omega) h1 h2
  obtain ⟨h5, h6⟩ := fok_of (op := .mul) (k := .f32) (x := 1069547520) (y := mb k) (r := r) h3
  exact ⟨h5, by unfold edge; rw [h6]; exact h4⟩
def edgeR (n : Int) : Value := if inB n 0 19 then .tuple #[.float .f32 (edge n.toNat), .int .i64 0] else .tuple #[.float .f32 0, .int .i64 2]



/-- is the mass of class j at most m? -/
def lem (m j : Nat) : Bool := FloatKind.f32.format.order (mb j) m == some .lt || FloatKind.f32.format.order (mb j) m == some .eq
/-- the greatest class whose mass is at most m, from k on -/
def cfGo (m : Nat) : Nat → Nat → Nat
  | 0, k => k
  | n + 1, k => if lem m (k + 1) then cfGo m n (k + 1) else k
def cf (m : Nat) : Nat := cfGo m 19 0
theorem cfGo_le (m : Nat) : ∀ n k, k ≤ cfGo m n k ∧ cfGo m n k ≤ k + n
  | 0, k => ⟨Nat.le_refl _, Nat.le_refl _⟩
  | n + 1, k => by
    have := cfGo_le m n (k + 1)
    unfold cfGo; split <;> omega
theorem cf_le (m : Nat) : cf m ≤ 19 := by have := cfGo_le m 19 0; unfold cf; omega
theorem cf_step {m k : Nat} (h : cf m = cfGo m (19 - k) k) (hk : k < 19) (hl : lem m (k + 1) = true) : cf m = cfGo m (19 - (k + 1)) (k + 1) := by
  rw [h, show 19 - k = (19 - (k + 1)) + 1 by omega, cfGo, if_pos hl]
theorem cf_stop {m k : Nat} (h : cf m = cfGo m (19 - k) k) (hk : k < 19) (hl : lem m (k + 1) = false) : cf m = k := by
  rw [h, show 19 - k = (19 - (k + 1)) + 1 by omega, cfGo, if_neg (by simp [hl])]
theorem cf_end {m k : Nat} (h : cf m = cfGo m (19 - k) k) (hk : ¬ k < 19) : cf m = k := by
  rw [h, show 19 - k = 0 by omega, cfGo]

theorem c_l01For (m : Nat) (w : World) : Calls Try.prog 60 #[.float .f32 m] w fun e w' => e = .returned (.int .i64 (cf m)) ∧ w = w' := by
  go_enter Try.func60, Try.ntmps60
  go_wp2
  go_loop [3] (fun i => ∃ k : Nat, k ≤ 19 ∧ i = .int .i64 k ∧ cf m = cfGo m (19 - k) k) (fun i => 20 - (intOf i).toNat)
  case atStart => exact ⟨0, by omega, rfl, rfl⟩
  case round =>
    obtain ⟨k, hk, rfl, hc⟩ := hrel
    have HC := Lib.hid hc
    clear hc
    by_cases hlt : k < 19
    · cases hl : lem m (k + 1)
      · have HE := Lib.hid (cf_stop HC.out hlt hl)
        unfold lem at hl
        go_wp2_with (go_at_call 57; refine (c_l01Mass (k + 1) (by omega) _).mono ?_; rintro e w' ⟨rfl, rfl⟩)
        go_ret
        exact ⟨ret_int (by rw [HE.out]), rfl⟩
      · have HE := Lib.hid (cf_step HC.out hlt hl)
        unfold lem at hl
        go_wp2_with (go_at_call 57; refine (c_l01Mass (k + 1) (by omega) _).mono ?_; rintro e w' ⟨rfl, rfl⟩)
        go_round
        case rel => exact ⟨k + 1, by omega, by go_num, HE.out⟩
        case measure => simp [intOf]; omega
    · have HE := Lib.hid (cf_end HC.out hlt)
      go_wp2
      go_ret
      exact ⟨ret_int (by rw [HE.out]), rfl⟩

theorem c_classFor (m : Nat) (w : World) : Calls Try.prog 62 #[.float .f32 m] w fun e w' => e = .returned (.int .i64 (cf m)) ∧ w = w' := by
  go_enter Try.func62, Try.ntmps62
  go_wp2
  go_loop [3] (fun i => ∃ k : Nat, k ≤ 19 ∧ i = .int .i64 k ∧ cf m = cfGo m (19 - k) k) (fun i => 20 - (intOf i).toNat)
  case atStart => exact ⟨0, by omega, rfl, rfl⟩
  case round =>
    obtain ⟨k, hk, rfl, hc⟩ := hrel
    have HC := Lib.hid hc
    clear hc
    by_cases hlt : k < 19
    · cases hl : lem m (k + 1)
      · have HE := Lib.hid (cf_stop HC.out hlt hl)
        unfold lem at hl
        go_wp2_with (go_at_call 58; refine (c_mass (k + 1) (by omega) _).mono ?_; rintro e w' ⟨rfl, rfl⟩)
        go_ret
        exact ⟨ret_int (by rw [HE.out]), rfl⟩
      · have HE := Lib.hid (cf_step HC.out hlt hl)
        unfold lem at hl
        go_wp2_with (go_at_call 58; refine (c_mass (k + 1) (by omega) _).mono ?_; rintro e w' ⟨rfl, rfl⟩)
        go_round
        case rel => exact ⟨k + 1, by omega, by go_num, HE.out⟩
        case measure => simp [intOf]; omega
    · have HE := Lib.hid (cf_end HC.out hlt)
      go_wp2
      go_ret
      exact ⟨ret_int (by rw [HE.out]), rfl⟩

end Go.Proofs.Ytjhognfkjdccfaa
