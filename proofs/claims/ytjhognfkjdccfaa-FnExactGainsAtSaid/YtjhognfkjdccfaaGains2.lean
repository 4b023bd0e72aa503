/-
  Contracts and the walk: GainsAt.
-/
import Derived.Test.YtjhognfkjdccfaaGains
namespace Go.Proofs.Ytjhognfkjdccfaa
open Go.RowKit Fl
set_option maxRecDepth 20000
set_option maxHeartbeats 4000000
set_option linter.unusedSimpArgs false

theorem gain_no {e t : Nat} (h1 : isfin e = true) (h2 : amtB t = true) {F : Nat → Nat} (hF : ∀ k, k < 20 → Gn e t k (F k)) (k : Nat) (hk : k < 20) (hn : isfin (F k) = false) : gainR e t = noG 4 := by
  have ha : allok e t = false := by rw [← all_gn hF]; exact allfin_false k hk hn
  simp [gainR, h1, h2, ha]
theorem gain_yes {e t : Nat} (h1 : isfin e = true) (h2 : amtB t = true) {F : Nat → Nat} (hF : ∀ k, k < 20 → Gn e t k (F k)) (hn : ∀ k, k < 20 → isfin (F k) = true) : gainR e t = .tuple #[.agg (row 20 fun k => .float .f32 (F k)), .int .i64 0] := by
  have hall := allfin_true (n := 20) (f := F) hn
  have ha : allok e t = true := by rw [← all_gn hF]; exact hall
  have hr : row 20 (fun k => Value.float .f32 (cl e t k)) = row 20 (fun k => Value.float .f32 (F k)) := row_congr fun k hk => by
    have hg : gok e t k = true := List.all_eq_true.1 ha k (List.mem_range.2 hk)
    rw [(hF k hk).yes hg]
  simp [gainR, h1, h2, ha, hr]
theorem c_specGainsAt (e : Nat) (he : e < 4294967296) (t : Nat) (ht : t < 4294967296) (w : World) : Calls Try.prog 18 #[.float .f32 e, .float .f32 t] w fun en w' => en = .returned (gainR e t) ∧ Below w.heap.size w w' := by
  have b0 : Below w.heap.size w (w.alloc (.cells #[.float .f32 0, .float .f32 0, .float .f32 0, .float .f32 0, .float .f32 0, .float .f32 0, .float .f32 0, .float .f32 0, .float .f32 0, .float .f32 0, .float .f32 0, .float .f32 0, .float .f32 0, .float .f32 0, .float .f32 0, .float .f32 0, .float .f32 0, .float .f32 0, .float .f32 0, .float .f32 0] 30)) := (Below.refl _ _).alloc (by simp) _
  have g1 : Holds (w.alloc (.cells #[.float .f32 0, .float .f32 0, .float .f32 0, .float .f32 0, .float .f32 0, .float .f32 0, .float .f32 0, .float .f32 0, .float .f32 0, .float .f32 0, .float .f32 0, .float .f32 0, .float .f32 0, .float .f32 0, .float .f32 0, .float .f32 0, .float .f32 0, .float .f32 0, .float .f32 0, .float .f32 0] 30)) w.heap.size 30 (row 20 fun _ => .float .f32 0) := by rw [zrow_eq]; exact Holds.new _ _ _
  cases hf1 : isfin e
  · have hR := Lib.hid (show gainR e t = noG 2 by simp [gainR, hf1])
    go_enter Try.func18, Try.ntmps18
    go_wp2_with (first | (go_at_call 37; with_reducible refine (c_l01Finite e he _).mono ?_; rw [hf1]; rintro e w1 ⟨rfl, hdr⟩; have hb := drew_below hdr; clear hdr; have g1 := g1.keep hb; have b0 := b0.trans (hb.mono b0.size); clear hb) | (refine wl_store 30 info_a20 rfl _ _ rfl g1 (row_size _ _) rfl (congrArg Value.agg zrow_eq) (fun _ => rfl) ?_))
    exact ret_row2 rfl Try.underlying30 info_a20 (g1.row_ _) rfl rfl ⟨by rw [hR.out]; rfl, below_setRow b0 (Nat.le_refl _) _⟩
  cases hf2 : amtB t
  · have hR := Lib.hid (show gainR e t = noG 2 by simp [gainR, hf1, hf2])
    go_enter Try.func18, Try.ntmps18
    go_wp2_with (first | (go_at_call 37; with_reducible refine (c_l01Finite e he _).mono ?_; rw [hf1]; rintro e w1 ⟨rfl, hdr⟩; have hb := drew_below hdr; clear hdr; have g1 := g1.keep hb; have b0 := b0.trans (hb.mono b0.size); clear hb) | (go_at_call 33; with_reducible refine (c_l01Amount t ht _).mono ?_; rw [hf2]; rintro e w1 ⟨rfl, hdr⟩; have hb := drew_below hdr; clear hdr; have g1 := g1.keep hb; have b0 := b0.trans (hb.mono b0.size); clear hb) | (refine wl_store 30 info_a20 rfl _ _ rfl g1 (row_size _ _) rfl (congrArg Value.agg zrow_eq) (fun _ => rfl) ?_))
    exact ret_row2 rfl Try.underlying30 info_a20 (g1.row_ _) rfl rfl ⟨by rw [hR.out]; rfl, below_setRow b0 (Nat.le_refl _) _⟩
  have HG := Lib.hid (fun w => c_l02Gains e t he hf1 w)
  have HN := Lib.hid (fun (F : Nat → Nat) (hF : ∀ k, k < 20 → Gn e t k (F k)) k hk hn => gain_no hf1 hf2 hF k hk hn)
  have HY := Lib.hid (fun (F : Nat → Nat) (hF : ∀ k, k < 20 → Gn e t k (F k)) hn => gain_yes hf1 hf2 hF hn)
  go_enter Try.func18, Try.ntmps18
  go_wp2_with (first | (go_at_call 37; with_reducible refine (c_l01Finite e he _).mono ?_; rw [hf1]; rintro e w1 ⟨rfl, hdr⟩; have hb := drew_below hdr; clear hdr; have g1 := g1.keep hb; have b0 := b0.trans (hb.mono b0.size); clear hb) | (go_at_call 33; with_reducible refine (c_l01Amount t ht _).mono ?_; rw [hf2]; rintro e w1 ⟨rfl, hdr⟩; have hb := drew_below hdr; clear hdr; have g1 := g1.keep hb; have b0 := b0.trans (hb.mono b0.size); clear hb) | (go_at_call 43; refine (HG.out _).mono ?_; rintro en wg ⟨F, hF, rfl, hb⟩; have HF := Lib.hid hF; clear hF; have g1 := g1.keep hb; have b0 := b0.trans (hb.mono b0.size); clear hb) | (refine wl_newh 30 rfl (.tmp 6) (.tmp 19) rfl (row 20 fun j => .float .f32 (F j)) (by rw [row_size]; exact info_a20) (by rw [row_size]; rfl) rfl (by first | rfl | simp) rfl (rowf_one _) ?_; intro w2 hb2 g2; have hl2 : w.heap.size < wg.heap.size := g1.lt; have g1 := g1.keep hb2; have b0 := b0.trans (hb2.mono b0.size); clear hb2))
  have HL2 := Lib.hid hl2
  go_loopw [7] (fun i wr => ∃ k : Nat, k ≤ 20 ∧ i = .int .i64 k ∧ (∀ j, j < k → isfin (F j) = true) ∧ Below w.heap.size w wr ∧ Holds wr w.heap.size 30 (row 20 fun _ => .float .f32 0) ∧ Holds wr wg.heap.size 30 (row 20 fun j => .float .f32 (F j))) (fun i _ => 20 - (intOf i).toNat)
  case atStart => exact ⟨0, by omega, rfl, fun j hj => by omega, b0, g1, g2⟩
  case round =>
    clear b0 g1 g2 hf1 hf2
    obtain ⟨k, hk, rfl, hall, b0, g1, g2⟩ := hrel
    have HA := Lib.hid hall
    clear hall
    by_cases hlt : k < 20
    · have hc := g2.at_ hlt
      have hi0 : (0 : Int) ≤ (k : Int) := by omega
      have hi1 : (k : Int) < 20 := by omega
      cases hfk : isfin (F k)
      · have hR := Lib.hid (HN.out F HF.out k hlt hfk)
        go_wp2_with (first | (go_at_call 37; with_reducible refine (c_l01Finite (F k) (HF.out k hlt).lt _).mono ?_; rw [hfk]; rintro e w1 ⟨rfl, hdr⟩; have hb := drew_below hdr; clear hdr; have g1 := g1.keep hb; have g2 := g2.keep hb; have b0 := b0.trans (hb.mono b0.size); clear hb) | (refine wl_store 30 info_a20 rfl _ _ rfl g1 (row_size _ _) rfl (congrArg Value.agg zrow_eq) (fun _ => rfl) ?_))
        exact ret_row2 rfl Try.underlying30 info_a20 (g1.row_ _) rfl rfl ⟨by rw [hR.out]; rfl, below_setRow b0 (Nat.le_refl _) _⟩
      · have HFK := Lib.hid hfk
        go_wp2_with (first | (go_at_call 37; with_reducible refine (c_l01Finite (F k) (HF.out k hlt).lt _).mono ?_; rw [hfk]; rintro e w1 ⟨rfl, hdr⟩; have hb := drew_below hdr; clear hdr; have g1 := g1.keep hb; have g2 := g2.keep hb; have b0 := b0.trans (hb.mono b0.size); clear hb))
        go_roundw
        case rel => exact ⟨k + 1, by omega, by go_num, fun j hj => by
          rcases Nat.lt_or_ge j k with q | q
          · exact HA.out j q
          · have : j = k := by omega
            subst this; exact HFK.out, b0, g1, g2⟩
        case measure => simp [intOf]; omega
    · have hR := Lib.hid (HY.out F HF.out (fun j hj => HA.out j (by omega)))
      go_wp2_with (first | (refine wl_load 30 Try.underlying30 info_a20 rfl _ rfl g2 rfl ?_) | (refine wl_store 30 info_a20 rfl _ _ rfl g1 (row_size _ _) rfl rfl (fun _ => rfl) ?_))
      exact ret_row2 rfl Try.underlying30 info_a20 (g1.row_ _) rfl rfl ⟨by rw [hR.out]; rfl, below_setRow b0 (Nat.le_refl _) _⟩
theorem c_implGainsAt (e : Nat) (he : e < 4294967296) (t : Nat) (ht : t < 4294967296) (w : World) : Calls Try.prog 19 #[.float .f32 e, .float .f32 t] w fun en w' => en = .returned (gainR e t) ∧ Below w.heap.size w w' := by
  have b0 : Below w.heap.size w (w.alloc (.cells #[.float .f32 0, .float .f32 0, .float .f32 0, .float .f32 0, .float .f32 0, .float .f32 0, .float .f32 0, .float .f32 0, .float .f32 0, .float .f32 0, .float .f32 0, .float .f32 0, .float .f32 0, .float .f32 0, .float .f32 0, .float .f32 0, .float .f32 0, .float .f32 0, .float .f32 0, .float .f32 0] 30)) := (Below.refl _ _).alloc (by simp) _
  have g1 : Holds (w.alloc (.cells #[.float .f32 0, .float .f32 0, .float .f32 0, .float .f32 0, .float .f32 0, .float .f32 0, .float .f32 0, .float .f32 0, .float .f32 0, .float .f32 0, .float .f32 0, .float .f32 0, .float .f32 0, .float .f32 0, .float .f32 0, .float .f32 0, .float .f32 0, .float .f32 0, .float .f32 0, .float .f32 0] 30)) w.heap.size 30 (row 20 fun _ => .float .f32 0) := by rw [zrow_eq]; exact Holds.new _ _ _
  cases hf1 : isfin e
  · have hR := Lib.hid (show gainR e t = noG 2 by simp [gainR, hf1])
    go_enter Try.func19, Try.ntmps19
    go_wp2_with (first | (go_at_call 44; with_reducible refine (c_isFinite1 e he _ _ _ _ (Holds.new' _ _ _ (by simp))).mono ?_; rw [hf1]; rintro e w2 ⟨rfl, hdr⟩; have hb := drew_below hdr; clear hdr; have g1 := (g1.alloc _).keep hb; have b0 := (b0.alloc b0.size _).trans (hb.mono (b0.alloc b0.size _).size); clear hb) | (refine wl_store 30 info_a20 rfl _ _ rfl g1 (row_size _ _) rfl (congrArg Value.agg zrow_eq) (fun _ => rfl) ?_))
    exact ret_row2 rfl Try.underlying30 info_a20 (g1.row_ _) rfl rfl ⟨by rw [hR.out]; rfl, below_setRow b0 (Nat.le_refl _) _⟩
  cases hf2 : amtB t
  · have hR := Lib.hid (show gainR e t = noG 2 by simp [gainR, hf1, hf2])
    go_enter Try.func19, Try.ntmps19
    go_wp2_with (first | (go_at_call 44; with_reducible refine (c_isFinite1 e he _ _ _ _ (Holds.new' _ _ _ (by simp))).mono ?_; rw [hf1]; rintro e w2 ⟨rfl, hdr⟩; have hb := drew_below hdr; clear hdr; have g1 := (g1.alloc _).keep hb; have b0 := (b0.alloc b0.size _).trans (hb.mono (b0.alloc b0.size _).size); clear hb) | (go_at_call 35; with_reducible refine (c_isAmount t ht _).mono ?_; rw [hf2]; rintro e w1 ⟨rfl, hb⟩; have g1 := g1.keep hb; have b0 := b0.trans (hb.mono b0.size); clear hb) | (refine wl_store 30 info_a20 rfl _ _ rfl g1 (row_size _ _) rfl (congrArg Value.agg zrow_eq) (fun _ => rfl) ?_))
    exact ret_row2 rfl Try.underlying30 info_a20 (g1.row_ _) rfl rfl ⟨by rw [hR.out]; rfl, below_setRow b0 (Nat.le_refl _) _⟩
  have HG := Lib.hid (fun w => c_gainsAt e t he hf1 w)
  have HN := Lib.hid (fun (F : Nat → Nat) (hF : ∀ k, k < 20 → Gn e t k (F k)) k hk hn => gain_no hf1 hf2 hF k hk hn)
  have HY := Lib.hid (fun (F : Nat → Nat) (hF : ∀ k, k < 20 → Gn e t k (F k)) hn => gain_yes hf1 hf2 hF hn)
  go_enter Try.func19, Try.ntmps19
  go_wp2_with (first | (go_at_call 44; with_reducible refine (c_isFinite1 e he _ _ _ _ (Holds.new' _ _ _ (by simp))).mono ?_; rw [hf1]; rintro e w2 ⟨rfl, hdr⟩; have hb := drew_below hdr; clear hdr; have g1 := (g1.alloc _).keep hb; have b0 := (b0.alloc b0.size _).trans (hb.mono (b0.alloc b0.size _).size); clear hb) | (go_at_call 35; with_reducible refine (c_isAmount t ht _).mono ?_; rw [hf2]; rintro e w1 ⟨rfl, hb⟩; have g1 := g1.keep hb; have b0 := b0.trans (hb.mono b0.size); clear hb) | (go_at_call 45; refine (HG.out _).mono ?_; rintro en wg ⟨F, hF, rfl, hb⟩; have HF := Lib.hid hF; clear hF; have g1 := g1.keep hb; have b0 := b0.trans (hb.mono b0.size); clear hb) | (refine wl_newh 30 rfl (.tmp 6) (.tmp 19) rfl (row 20 fun j => .float .f32 (F j)) (by rw [row_size]; exact info_a20) (by rw [row_size]; rfl) rfl (by first | rfl | simp) rfl (rowf_one _) ?_; intro w2 hb2 g2; have hl2 : w.heap.size < wg.heap.size := g1.lt; have g1 := g1.keep hb2; have b0 := b0.trans (hb2.mono b0.size); clear hb2))
  cases hall : allfin 20 F
  · obtain ⟨k, hk, hn⟩ : ∃ k, k < 20 ∧ isfin (F k) = false := by
      unfold allfin at hall
      rw [List.all_eq_false] at hall
      obtain ⟨k, hk, hn⟩ := hall
      exact ⟨k, List.mem_range.1 hk, by simpa using hn⟩
    have hR := Lib.hid (HN.out F HF.out k hk hn)
    clear hn hk
    go_wp2_with (first | (go_at_call 44; refine (c_isFinite 20 (by omega) _ _ F (fun j hj => (HF.out j hj).lt) _ _ g2).mono ?_; rw [hall]; rintro e w3 ⟨rfl, hdr⟩; have hb := drew_below hdr; clear hdr; have g1 := g1.keep hb; have g2 := g2.keep hb; have b0 := b0.trans (hb.mono b0.size); clear hb) | (refine wl_store 30 info_a20 rfl _ _ rfl g1 (row_size _ _) rfl (congrArg Value.agg zrow_eq) (fun _ => rfl) ?_))
    exact ret_row2 rfl Try.underlying30 info_a20 (g1.row_ _) rfl rfl ⟨by rw [hR.out]; rfl, below_setRow b0 (Nat.le_refl _) _⟩
  · have hR := Lib.hid (HY.out F HF.out (of_allfin hall))
    go_wp2_with (first | (go_at_call 44; refine (c_isFinite 20 (by omega) _ _ F (fun j hj => (HF.out j hj).lt) _ _ g2).mono ?_; rw [hall]; rintro e w3 ⟨rfl, hdr⟩; have hb := drew_below hdr; clear hdr; have g1 := g1.keep hb; have g2 := g2.keep hb; have b0 := b0.trans (hb.mono b0.size); clear hb) | (refine wl_load 30 Try.underlying30 info_a20 rfl _ rfl g2 rfl ?_) | (refine wl_store 30 info_a20 rfl _ _ rfl g1 (row_size _ _) rfl rfl (fun _ => rfl) ?_))
    exact ret_row2 rfl Try.underlying30 info_a20 (g1.row_ _) rfl rfl ⟨by rw [hR.out]; rfl, below_setRow b0 (Nat.le_refl _) _⟩
theorem c_eqA20 (f : Nat → Nat) (hf : ∀ j, j < 20 → cvok (f j) = true) (w : World) : Calls Try.prog 20 #[.agg (row 20 fun j => .float .f32 (f j)), .agg (row 20 fun j => .float .f32 (f j))] w fun e w' => e = .returned (.bool true) ∧ Below w.heap.size w w' := by
  have hcv := fun (x : Nat) (h : cvok x = true) (w : World) => run_cv (P := Try.prog) w 22 26 (by kernel_rfl) Try.underlying26 x h
  go_enter Try.func20, Try.ntmps20
  go_wp2
  go_loopw [5] (fun i wr => ∃ k : Nat, k ≤ 20 ∧ i = .int .i64 k ∧ Below w.heap.size w wr ∧ Holds wr w.heap.size 30 (row 20 fun j => .float .f32 (f j)) ∧ Holds wr (w.heap.size + 1) 30 (row 20 fun j => .float .f32 (f j))) (fun i _ => 20 - (intOf i).toNat)
  case atStart => exact ⟨0, by omega, rfl, ((Below.refl _ _).alloc (by simp) _).alloc (by simp) _, (Holds.new _ _ _).alloc _, Holds.new' _ _ _ (by simp)⟩
  case round =>
    obtain ⟨k, hk, rfl, hb, g0, g1⟩ := hrel
    by_cases hlt : k < 20
    · have hc := g0.at_ hlt
      have hc' := g1.at_ hlt
      have hi0 : (0 : Int) ≤ (k : Int) := by omega
      have hi1 : (k : Int) < 20 := by omega
      have ho := hf k hlt
      have HS := Lib.hid (fun w => c_sameFloat _ (cv_f64 ho) w)
      go_wp2
      go_quiet ((go_at_call 12; exact q_left (HS.out _)))
      go_wp2
      go_roundw
      case rel => exact ⟨k + 1, by omega, by go_num, below_drewN hb _, g0.drewN _, g1.drewN _⟩
      case measure => simp [intOf]; omega
    · go_wp2
      go_ret
      exact ⟨rfl, hb⟩
theorem walk_FnExactGainsAt (x : Nat) (hx : x < 4294967296) (t : Nat) (ht : t < 4294967296) (w : World) : Calls Try.prog 6 #[.float .f32 x, .float .f32 t] w fun e w' => e = .returned (.bool true) ∧ Below w.heap.size w w' := by
  obtain ⟨G, C, hR, h1⟩ := gain_form x t
  have HR := Lib.hid hR
  have H1 := Lib.hid h1
  clear hR h1
  have b0 : Below w.heap.size w w := Below.refl _ _
  go_enter Try.func6, Try.ntmps6
  go_wp2_with (first | (refine wl_load 30 Try.underlying30 info_a20 rfl _ rfl r2 rfl ?_) | (refine wl_load 30 Try.underlying30 info_a20 rfl _ rfl r1 rfl ?_) | (go_at_call 18; with_reducible refine (c_specGainsAt x hx t ht _).mono ?_; rw [HR.out]; rintro e w1 ⟨rfl, hb⟩; skip; have b0 := b0.trans (hb.mono b0.size); clear hb) | (go_at_call 19; with_reducible refine (c_implGainsAt x hx t ht _).mono ?_; rw [HR.out]; rintro e w1 ⟨rfl, hb⟩; have r1 := r1.keep hb; have b0 := b0.trans (hb.mono b0.size); clear hb) | (refine wl_new 30 info_a20 rfl _ _ rfl rfl rfl rfl (fun _ => rfl) ?_; intro w2 hb r2; have r1 := r1.keep hb; have b0 := b0.trans (hb.mono b0.size); clear hb) | (refine wl_new 30 info_a20 rfl _ _ rfl rfl rfl rfl (fun _ => rfl) ?_; intro w2 hb r1; skip; have b0 := b0.trans (hb.mono b0.size); clear hb) | (go_at_call 20; go_loud (with_reducible refine (c_eqA20 G H1.out _).mono ?_; rintro e w1 ⟨rfl, hb⟩; have b0 := b0.trans (hb.mono b0.size); clear hb)))
  go_ret
  exact ⟨rfl, b0⟩
end Go.Proofs.Ytjhognfkjdccfaa
