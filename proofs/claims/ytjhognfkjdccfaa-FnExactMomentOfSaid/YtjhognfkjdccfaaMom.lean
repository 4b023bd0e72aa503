/-
  Contracts and the walk: moments.
-/
import Derived.Test.YtjhognfkjdccfaaRad
import Derived.Test.YtjhognfkjdccfaaMore
namespace Go.Proofs.Ytjhognfkjdccfaa
open Go.RowKit Fl
set_option maxRecDepth 20000
set_option maxHeartbeats 4000000
set_option linter.unusedSimpArgs false

/-- a power of a radius -/
def pw (k : Nat) : Nat → Nat
  | 0 => 1065353216
  | n + 1 => fv .mul .f32 (pw k n) (rad k)
def pwB (k : Nat) : Bool := (List.range 7).all fun n => decide (pw k n < 2139095040)
theorem pw_fin (k : Nat) (hk : k < 20) (n : Nat) (hn : n ≤ 6) : pw k n < 2139095040 := by
  have h : pwB k = true := by
    revert hk
    refine below20 (p := fun k => pwB k = true) ?_ ?_ ?_ ?_ ?_ ?_ ?_ ?_ ?_ ?_ ?_ ?_ ?_ ?_ ?_ ?_ ?_ ?_ ?_ ?_ k <;> kernel_rfl
  unfold pwB at h
  rw [List.all_eq_true] at h
  exact of_decide_eq_true (h n (List.mem_range.2 (by omega)))
def mp (f : Nat → Nat) (p k : Nat) : Nat := fv .mul .f32 (f k) (pw k p)
/-- the sum of the first classes' powers -/
def msum (f : Nat → Nat) (p : Nat) : Nat → Nat
  | 0 => 0
  | k + 1 => if k = 0 then mp f p k else fv .add .f32 (msum f p k) (mp f p k)
theorem mp_ok {f : Nat → Nat} (h : okB f = true) {p k : Nat} (hp : p ≤ 6) (hk : k < 20) : fok .mul .f32 (f k) (pw k p) = true ∧ mp f p k ≤ 2139095040 := mul_ff (amt_lt (of_okB h k hk)) (pw_fin k hk p hp)
theorem msum_le {f : Nat → Nat} (h : okB f = true) {p : Nat} (hp : p ≤ 6) : ∀ k, k ≤ 20 → msum f p k ≤ 2139095040 := by
  intro k
  induction k with
  | zero => intro _; unfold msum; omega
  | succ k ih =>
    intro hk
    unfold msum
    split
    · exact (mp_ok h hp (by omega)).2
    · exact (add_nn (ih (by omega)) (mp_ok h hp (by omega)).2).2
theorem msum_ok {f : Nat → Nat} (h : okB f = true) {p k : Nat} (hp : p ≤ 6) (hk : k < 20) : fok .add .f32 (msum f p k) (mp f p k) = true := (add_nn (msum_le h hp k (by omega)) (mp_ok h hp hk).2).1
def momR (f : Nat → Nat) (n : Int) : Value := if okB f then (if inB n 0 6 then toldR (msum f n.toNat 20) else .tuple #[.float .f32 0, .int .i64 2]) else .tuple #[.float .f32 0, .int .i64 1]
theorem inB6 {n : Int} (h : inB n 0 6 = true) : ∃ p : Nat, n = p ∧ p ≤ 6 := by
  simp only [inB, Bool.and_eq_true, decide_eq_true_eq] at h
  exact ⟨n.toNat, by omega, by omega⟩
theorem mom_form (f : Nat → Nat) (n : Int) : ∃ (x : Nat) (c : Int), momR f n = .tuple #[.float .f32 x, .int .i64 c] ∧ cvok x = true ∧ num FloatKind.f64.format (cv x) := by
  unfold momR
  split
  · rename_i h; split
    · rename_i h2; obtain ⟨p, rfl, hp⟩ := inB6 h2
      exact toldR_form _ (le_inf _ (msum_le h (by simpa using hp) 20 (by omega)))
    · exact pairF_form 0 2 (by omega)
  · exact pairF_form 0 1 (by omega)
theorem c_moment (f : Nat → Nat) (hf : okB f = true) (p : Nat) (hp : p ≤ 6) (w : World) : Calls Try.prog 54 #[.agg (row 20 fun j => .float .f32 (f j)), .int .i64 p] w fun e w' => e = .returned (.float .f32 (msum f p 20)) ∧ Below w.heap.size w w' := by
  have g0 := Holds.new w 31 (row 20 fun j => .float .f32 (f j))
  have b0 : Below w.heap.size w (w.alloc (.cells (row 20 fun j => .float .f32 (f j)) 31)) := (Below.refl _ _).alloc (by simp) _
  have HF := Lib.hid hf
  have HP := Lib.hid hp
  have FM := Lib.hid (fun (k : Nat) (hk : k < 20) w => c_radius k hk w)
  have OM := Lib.hid (fun (k : Nat) (hk : k < 20) => show fok .mul .f32 (f k) (pw k p) = true from (mp_ok HF.out HP.out hk).1)
  have OA := Lib.hid (fun (k : Nat) (hk : k < 20) => show fok .add .f32 (msum f p k) (fv .mul .f32 (f k) (pw k p)) = true from msum_ok HF.out HP.out hk)
  have HW := Lib.hid (fun (k : Nat) (hk : k < 20) n (hn : n ≤ 6) => (mul_ff (pw_fin k hk n hn) (rad_fin k hk)).1)
  have S0 := Lib.hid (show msum f p 0 = 0 from rfl)
  have S1 := Lib.hid (fun k => show msum f p (k + 1) = if k = 0 then fv .mul .f32 (f k) (pw k p) else fv .add .f32 (msum f p k) (fv .mul .f32 (f k) (pw k p)) from rfl)
  have P0 := Lib.hid (fun k => show pw k 0 = 1065353216 from rfl)
  have P1 := Lib.hid (fun k n => show pw k (n + 1) = fv .mul .f32 (pw k n) (rad k) from rfl)
  generalize msum f p = S at *
  generalize pw = P at *
  generalize rad = R at *
  clear hf hp
  go_enter Try.func54, Try.ntmps54
  go_wp2_with (refine wl_load 31 Try.underlying31 info_sizes rfl _ rfl g0 rfl ?_)
  go_loopw [5, 11] (fun s i wr => ∃ k x : Nat, k ≤ 20 ∧ i = .int .i64 k ∧ s = .float .f32 x ∧ x = S k ∧ Below w.heap.size w wr ∧ Holds wr w.heap.size 31 (row 20 fun j => .float .f32 (f j))) (fun _ i _ => 20 - (intOf i).toNat)
  case atStart => exact ⟨0, _, by omega, rfl, rfl, S0.out.symm, b0, g0⟩
  case round =>
    clear g0 b0
    obtain ⟨k, x, hk, rfl, rfl, hx, b0, g0⟩ := hrel
    have HX := Lib.hid hx
    clear hx
    by_cases hlt : k < 20
    · have HM := Lib.hid (fun w => FM.out k hlt w)
      have hm := OM.out k hlt
      have OA := Lib.hid (show fok .add .f32 x (fv .mul .f32 (f k) (P k p)) = true by rw [HX.out]; exact OA.out k hlt)
      have HN := Lib.hid (show S (k + 1) = if k = 0 then fv .mul .f32 (f k) (P k p) else fv .add .f32 x (fv .mul .f32 (f k) (P k p)) by rw [HX.out]; exact S1.out k)
      have HW := Lib.hid (HW.out k hlt)
      have hc := g0.at_ hlt
      have hi0 : (0 : Int) ≤ (k : Int) := by omega
      have hi1 : (k : Int) < 20 := by omega
      have hix := fun w => run_index_row (P := Try.prog) 31 22 20 (fun j => .float .f32 (f j)) k w Try.underlying31 (by kernel_rfl) (by kernel_rfl) hlt
      go_wp2_with (go_at_call 32; refine (HM.out _).mono ?_; rintro e w1 ⟨rfl, rfl⟩)
      go_loopw [8, 18] (fun s i wx => ∃ n y : Nat, n ≤ p ∧ i = .int .i64 n ∧ s = .float .f32 y ∧ y = P k n ∧ wr = wx) (fun _ i _ => p - (intOf i).toNat)
      case atStart => exact ⟨0, _, by omega, rfl, rfl, (P0.out k).symm, rfl⟩
      case round =>
        obtain ⟨n, y, hn, rfl, rfl, hy, rfl⟩ := hrel
        have HY := Lib.hid hy
        clear hy
        by_cases hnp : n < p
        · have ho : fok .mul .f32 y (R k) = true := by rw [HY.out]; exact HW.out n (by have := HP.out; omega)
          have HY2 := Lib.hid (show fv .mul .f32 y (R k) = P k (n + 1) by rw [HY.out]; exact (P1.out k n).symm)
          have hn6 : n < 6 := by have := HP.out; omega
          go_wp2
          go_roundw
          case rel => exact ⟨n + 1, _, by omega, by go_num, rfl, HY2.out, by first | rfl | trivial⟩
          case measure => simp [intOf]; omega
        · have hnn : n = p := by omega
          subst hnn
          have hyy := HY.out
          subst hyy
          by_cases hz : k = 0
          · have h0 : ((k : Int) == 0) = true := by simp; omega
            have HN := Lib.hid (HN.out.trans (if_pos hz))
            clear hz
            go_wp2
            go_roundw
            case rel => exact ⟨k + 1, _, by omega, by go_num, rfl, HN.out.symm, b0, g0⟩
            case measure => simp [intOf]; omega
          · have h0 : ((k : Int) == 0) = false := by simp; omega
            have HN := Lib.hid (HN.out.trans (if_neg hz))
            have oa := OA.out
            clear hz
            go_wp2
            go_roundw
            case rel => exact ⟨k + 1, _, by omega, by go_num, rfl, HN.out.symm, b0, g0⟩
            case measure => simp [intOf]; omega
    · have hk20 : k = 20 := by omega
      subst hk20
      have HE := Lib.hid (show x = S 20 from HX.out)
      go_wp2
      go_ret
      exact ⟨ret_f32 HE.out, b0⟩
theorem c_specMomentOf (f : Nat → Nat) (hf : ∀ j, f j < 4294967296) (n : Int) (w : World) : Calls Try.prog 24 #[.agg (row 20 fun j => .float .f32 (f j)), .int .i64 n] w fun e w' => e = .returned (momR f n) ∧ Below w.heap.size w w' := by
  have g0 := Holds.new w 31 (row 20 fun j => .float .f32 (f j))
  have b0 : Below w.heap.size w (w.alloc (.cells (row 20 fun j => .float .f32 (f j)) 31)) := (Below.refl _ _).alloc (by simp) _
  cases hf1 : okB f
  · have hR := Lib.hid (show momR f n = .tuple #[.float .f32 0, .int .i64 1] by simp [momR, hf1])
    go_enter Try.func24, Try.ntmps24
    go_wp2_with (first | (refine wl_load 31 Try.underlying31 info_sizes rfl _ rfl g0 rfl ?_) | (go_at_call 46; with_reducible refine (c_l01Ok f hf _ _ _ g0).mono ?_; rw [hf1]; rintro e w1 ⟨rfl, hdr⟩; have hb := drew_below hdr; clear hdr; have g0 := g0.keep hb; have b0 := b0.trans (hb.mono b0.size); clear hb))
    go_ret2
    exact ⟨by rw [hR.out]; rfl, b0⟩
  cases hf2 : inB n 0 6
  · have hR := Lib.hid (show momR f n = .tuple #[.float .f32 0, .int .i64 2] by simp [momR, hf1, hf2])
    go_enter Try.func24, Try.ntmps24
    go_wp2_with (first | (refine wl_load 31 Try.underlying31 info_sizes rfl _ rfl g0 rfl ?_) | (go_at_call 46; with_reducible refine (c_l01Ok f hf _ _ _ g0).mono ?_; rw [hf1]; rintro e w1 ⟨rfl, hdr⟩; have hb := drew_below hdr; clear hdr; have g0 := g0.keep hb; have b0 := b0.trans (hb.mono b0.size); clear hb) | (go_at_call 50; refine (c_l00In _ _ _ _).mono ?_; rw [hf2]; rintro e w1 ⟨rfl, rfl⟩))
    go_ret2
    exact ⟨by rw [hR.out]; rfl, b0⟩
  obtain ⟨p, rfl, hp⟩ := inB6 hf2
  have hlt32 := le_inf _ (msum_le hf1 hp 20 (by omega))
  obtain ⟨X, C, hT, _, _⟩ := toldR_form _ hlt32
  have hR := Lib.hid (show momR f p = .tuple #[.float .f32 X, .int .i64 C] by simp only [momR, hf1, hf2, if_true, Int.toNat_natCast, hT])
  have HF := Lib.hid hf1
  have HP := Lib.hid hp
  have HT := Lib.hid (fun w => (c_l01Told _ hlt32 w).mono (fun e w' h => (⟨h.1.trans (by rw [hT]), h.2⟩ : e = .returned (.tuple #[.float .f32 X, .int .i64 C]) ∧ Drew w w')))
  clear hT hp hlt32
  generalize momR f p = MR at *
  have FM := Lib.hid (fun (k : Nat) (hk : k < 20) w => c_l01Radius k hk w)
  have OM := Lib.hid (fun (k : Nat) (hk : k < 20) => show fok .mul .f32 (f k) (pw k p) = true from (mp_ok HF.out HP.out hk).1)
  have OA := Lib.hid (fun (k : Nat) (hk : k < 20) => show fok .add .f32 (msum f p k) (fv .mul .f32 (f k) (pw k p)) = true from msum_ok HF.out HP.out hk)
  have HW := Lib.hid (fun (k : Nat) (hk : k < 20) n (hn : n ≤ 6) => (mul_ff (pw_fin k hk n hn) (rad_fin k hk)).1)
  have S0 := Lib.hid (show msum f p 0 = 0 from rfl)
  have S1 := Lib.hid (fun k => show msum f p (k + 1) = if k = 0 then fv .mul .f32 (f k) (pw k p) else fv .add .f32 (msum f p k) (fv .mul .f32 (f k) (pw k p)) from rfl)
  have P0 := Lib.hid (fun k => show pw k 0 = 1065353216 from rfl)
  have P1 := Lib.hid (fun k n => show pw k (n + 1) = fv .mul .f32 (pw k n) (rad k) from rfl)
  generalize msum f p = S at *
  generalize pw = P at *
  generalize rad = R at *
  go_enter Try.func24, Try.ntmps24
  go_wp2_with (first | (refine wl_load 31 Try.underlying31 info_sizes rfl _ rfl g0 rfl ?_) | (go_at_call 46; with_reducible refine (c_l01Ok f hf _ _ _ g0).mono ?_; rw [hf1]; rintro e w1 ⟨rfl, hdr⟩; have hb := drew_below hdr; clear hdr; have g0 := g0.keep hb; have b0 := b0.trans (hb.mono b0.size); clear hb) | (go_at_call 50; refine (c_l00In _ _ _ _).mono ?_; rw [hf2]; rintro e w1 ⟨rfl, rfl⟩))
  clear hf1 hf2 hf
  go_loopw [6, 7] (fun s i wr => ∃ k x : Nat, k ≤ 20 ∧ i = .int .i64 k ∧ s = .float .f32 x ∧ x = S k ∧ Below w.heap.size w wr ∧ Holds wr w.heap.size 31 (row 20 fun j => .float .f32 (f j))) (fun _ i _ => 20 - (intOf i).toNat)
  case atStart => exact ⟨0, _, by omega, rfl, rfl, S0.out.symm, b0, g0⟩
  case round =>
    clear g0 b0
    obtain ⟨k, x, hk, rfl, rfl, hx, b0, g0⟩ := hrel
    have HX := Lib.hid hx
    clear hx
    by_cases hlt : k < 20
    · have HM := Lib.hid (fun w => FM.out k hlt w)
      have hm := OM.out k hlt
      have OA := Lib.hid (show fok .add .f32 x (fv .mul .f32 (f k) (P k p)) = true by rw [HX.out]; exact OA.out k hlt)
      have HN := Lib.hid (show S (k + 1) = if k = 0 then fv .mul .f32 (f k) (P k p) else fv .add .f32 x (fv .mul .f32 (f k) (P k p)) by rw [HX.out]; exact S1.out k)
      have HW := Lib.hid (HW.out k hlt)
      have hc := g0.at_ hlt
      have hi0 : (0 : Int) ≤ (k : Int) := by omega
      have hi1 : (k : Int) < 20 := by omega
      go_wp2
      go_loopw [8, 9] (fun s i wx => ∃ n y : Nat, n ≤ p ∧ i = .int .i64 n ∧ s = .float .f32 y ∧ y = P k n ∧ wr = wx) (fun _ i _ => p - (intOf i).toNat)
      case atStart => exact ⟨0, _, by omega, rfl, rfl, (P0.out k).symm, rfl⟩
      case round =>
        obtain ⟨n, y, hn, rfl, rfl, hy, rfl⟩ := hrel
        have HY := Lib.hid hy
        clear hy
        by_cases hnp : n < p
        · have ho : fok .mul .f32 y (R k) = true := by rw [HY.out]; exact HW.out n (by have := HP.out; omega)
          have HY2 := Lib.hid (show fv .mul .f32 y (R k) = P k (n + 1) by rw [HY.out]; exact (P1.out k n).symm)
          have hn6 : n < 6 := by have := HP.out; omega
          go_wp2_with (go_at_call 30; refine (HM.out _).mono ?_; rintro e w1 ⟨rfl, rfl⟩)
          go_roundw
          case rel => exact ⟨n + 1, _, by omega, by go_num, rfl, HY2.out, by first | rfl | trivial⟩
          case measure => simp [intOf]; omega
        · have hnn : n = p := by omega
          subst hnn
          have hyy := HY.out
          subst hyy
          by_cases hz : k = 0
          · have h0 : ((k : Int) == 0) = true := by simp; omega
            have HN := Lib.hid (HN.out.trans (if_pos hz))
            clear hz
            go_wp2
            go_roundw
            case rel => exact ⟨k + 1, _, by omega, by go_num, rfl, HN.out.symm, b0, g0⟩
            case measure => simp [intOf]; omega
          · have h0 : ((k : Int) == 0) = false := by simp; omega
            have HN := Lib.hid (HN.out.trans (if_neg hz))
            have oa := OA.out
            clear hz
            go_wp2
            go_roundw
            case rel => exact ⟨k + 1, _, by omega, by go_num, rfl, HN.out.symm, b0, g0⟩
            case measure => simp [intOf]; omega
    · have hk20 : k = 20 := by omega
      subst hk20
      have HE := Lib.hid (show x = S 20 from HX.out)
      rw [HE.out]
      go_wp2_with (go_at_call 51; refine (HT.out _).mono ?_; rintro e w1 ⟨rfl, hdr⟩; have hb := drew_below hdr; clear hdr; have b0 := b0.trans (hb.mono b0.size); clear hb)
      go_ret2
      exact ⟨by rw [hR.out]; rfl, b0⟩
theorem c_implMomentOf (f : Nat → Nat) (hf : ∀ j, f j < 4294967296) (n : Int) (w : World) : Calls Try.prog 25 #[.agg (row 20 fun j => .float .f32 (f j)), .int .i64 n] w fun e w' => e = .returned (momR f n) ∧ Below w.heap.size w w' := by
  have g0 := Holds.new w 31 (row 20 fun j => .float .f32 (f j))
  have b0 : Below w.heap.size w (w.alloc (.cells (row 20 fun j => .float .f32 (f j)) 31)) := (Below.refl _ _).alloc (by simp) _
  cases hf1 : okB f
  · have hR := Lib.hid (show momR f n = .tuple #[.float .f32 0, .int .i64 1] by simp [momR, hf1])
    go_enter Try.func25, Try.ntmps25
    go_wp2_with (first | (refine wl_load 31 Try.underlying31 info_sizes rfl _ rfl g0 rfl ?_) | (go_at_call 48; with_reducible refine (c_ValidSizes f hf _).mono ?_; rw [hf1]; rintro e w1 ⟨rfl, hb⟩; have g0 := g0.keep hb; have b0 := b0.trans (hb.mono b0.size); clear hb))
    go_ret2
    exact ⟨by rw [hR.out]; rfl, b0⟩
  cases hf2 : inB n 0 6
  · have hR := Lib.hid (show momR f n = .tuple #[.float .f32 0, .int .i64 2] by simp [momR, hf1, hf2])
    go_enter Try.func25, Try.ntmps25
    go_wp2_with (first | (refine wl_load 31 Try.underlying31 info_sizes rfl _ rfl g0 rfl ?_) | (go_at_call 48; with_reducible refine (c_ValidSizes f hf _).mono ?_; rw [hf1]; rintro e w1 ⟨rfl, hb⟩; have g0 := g0.keep hb; have b0 := b0.trans (hb.mono b0.size); clear hb) | (go_at_call 52; refine (c_within _ _ _ _).mono ?_; rw [hf2]; rintro e w1 ⟨rfl, rfl⟩))
    go_ret2
    exact ⟨by rw [hR.out]; rfl, b0⟩
  obtain ⟨p, rfl, hp⟩ := inB6 hf2
  have hlt32 := le_inf _ (msum_le hf1 hp 20 (by omega))
  obtain ⟨X, C, hT, _, _⟩ := toldR_form _ hlt32
  have hR := Lib.hid (show momR f p = .tuple #[.float .f32 X, .int .i64 C] by simp only [momR, hf1, hf2, if_true, Int.toNat_natCast, hT])
  have HF := Lib.hid hf1
  have HP := Lib.hid hp
  have HT := Lib.hid (fun w => (c_finite _ hlt32 w).mono (fun e w' h => (⟨h.1.trans (by rw [hT]), h.2⟩ : e = .returned (.tuple #[.float .f32 X, .int .i64 C]) ∧ Below w.heap.size w w')))
  have HM := Lib.hid (fun w => c_moment f hf1 p hp w)
  clear hT hp hlt32
  generalize momR f p = MR at *
  generalize msum f p 20 = S20 at *
  go_enter Try.func25, Try.ntmps25
  go_wp2_with (first | (refine wl_load 31 Try.underlying31 info_sizes rfl _ rfl g0 rfl ?_) | (go_at_call 48; with_reducible refine (c_ValidSizes f hf _).mono ?_; rw [hf1]; rintro e w1 ⟨rfl, hb⟩; have g0 := g0.keep hb; have b0 := b0.trans (hb.mono b0.size); clear hb) | (go_at_call 52; refine (c_within _ _ _ _).mono ?_; rw [hf2]; rintro e w1 ⟨rfl, rfl⟩) | (go_at_call 54; with_reducible refine (HM.out _).mono ?_; rintro e w1 ⟨rfl, hb⟩; have g0 := g0.keep hb; have b0 := b0.trans (hb.mono b0.size); clear hb) | (go_at_call 53; refine (HT.out _).mono ?_; rintro e w1 ⟨rfl, hb⟩; have b0 := b0.trans (hb.mono b0.size); clear hb))
  go_ret2
  exact ⟨by rw [hR.out]; rfl, b0⟩
theorem walk_FnExactMomentOf (f : Nat → Nat) (hf : ∀ j, f j < 4294967296) (n : Int) (_hn : -9223372036854775808 ≤ n ∧ n ≤ 9223372036854775807) (w : World) : Calls Try.prog 8 #[.agg (row 20 fun j => .float .f32 (f j)), .int .i64 n] w fun e w' => e = .returned (.bool true) ∧ Below w.heap.size w w' := by
  have hcv := fun (x : Nat) (h : cvok x = true) (w : World) => run_cv (P := Try.prog) w 22 26 (by kernel_rfl) Try.underlying26 x h
  obtain ⟨x, c, hR, h1, h2⟩ := mom_form f n
  have HR := Lib.hid hR
  have H2 := Lib.hid h2
  clear hR h2
  have g0 := Holds.new w 30 (row 20 fun j => .float .f32 (f j))
  have b0 : Below w.heap.size w (w.alloc (.cells (row 20 fun j => .float .f32 (f j)) 30)) := (Below.refl _ _).alloc (by simp) _
  go_enter Try.func8, Try.ntmps8
  go_wp2_with (first | (refine wl_load 30 Try.underlying30 info_a20 rfl _ rfl g0 rfl ?_) | (go_at_call 22; with_reducible refine (c_toSizes f _).mono ?_; rintro e w1 ⟨rfl, hb⟩; have g0 := g0.keep hb; have b0 := b0.trans (hb.mono b0.size); clear hb) | (go_at_call 24; with_reducible refine (c_specMomentOf f hf n _).mono ?_; rw [HR.out]; rintro e w1 ⟨rfl, hb⟩; have g0 := g0.keep hb; have b0 := b0.trans (hb.mono b0.size); clear hb) | (go_at_call 25; with_reducible refine (c_implMomentOf f hf n _).mono ?_; rw [HR.out]; rintro e w1 ⟨rfl, hb⟩; have g0 := g0.keep hb; have b0 := b0.trans (hb.mono b0.size); clear hb) | (go_at_call 12; refine (c_sameFloat _ H2.out _).mono ?_; rintro e w1 ⟨rfl, rfl⟩))
  go_ret
  exact ⟨rfl, b0⟩
end Go.Proofs.Ytjhognfkjdccfaa
