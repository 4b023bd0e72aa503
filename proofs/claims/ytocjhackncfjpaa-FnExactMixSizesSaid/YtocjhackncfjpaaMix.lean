/-
  Contracts and the walk: sizes that are mixed.
-/
import Derived.Test.YtocjhackncfjpaaAdd
import Derived.Deep.RegionWith
namespace Go.Proofs.Ytocjhackncfjpaa
open Go.RowKit Fl
set_option maxRecDepth 20000
set_option maxHeartbeats 4000000
set_option linter.unusedSimpArgs false

theorem sub_one {s : Nat} (hs : s ≤ 1065353216) : fok .sub .f32 1065353216 s = true ∧ fv .sub .f32 1065353216 s ≤ 1065353216 := by
  have hb : s < FloatKind.f32.format.infRung := by show s < 2139095040; omega
  obtain ⟨r, h1, h2⟩ := add_spec FloatKind.f32.format (fmt_ok .f32).1 false true 1065353216 s (by show (1065353216 : Nat) < 2139095040; omega) hb
  have h3 := sub_add FloatKind.f32.format 1065353216 false s hb
  have e : FloatKind.f32.format.word false s = s := rfl
  have e' : FloatKind.f32.format.word false 1065353216 = 1065353216 := rfl
  rw [e] at h3
  rw [e'] at h1
  have hsv := sv_mono FloatKind.f32.format hs
  have hn : ¬ (sgn FloatKind.f32.format false 1065353216 + sgn FloatKind.f32.format true s < 0) := by unfold sgn; simp; omega
  have hw : (if sgn FloatKind.f32.format false 1065353216 + sgn FloatKind.f32.format true s = 0 then false && true else decide (sgn FloatKind.f32.format false 1065353216 + sgn FloatKind.f32.format true s < 0)) = false := by
    rw [decide_eq_false hn]; simp
  rw [hw] at h1
  obtain ⟨h4, h5⟩ := fok_of (op := .sub) (k := .f32) (x := 1065353216) (y := s) (h3.trans h1)
  refine ⟨h4, ?_⟩
  rw [h5]
  have hr : r ≤ 1065353216 := by
    refine h2.mono (IsRnd.exact _ 1065353216) (cast_le ?_)
    unfold sgn; simp; omega
  have : FloatKind.f32.format.word false (min r FloatKind.f32.format.infRung) = min r FloatKind.f32.format.infRung := rfl
  rw [this]
  exact Nat.le_trans (Nat.min_le_left _ _) hr
/-- between two numbers -/
def mixv (a b s : Nat) : Nat := fv .add .f32 (fv .mul .f32 a (fv .sub .f32 1065353216 s)) (fv .mul .f32 b s)
theorem mix_ok {a b s : Nat} (ha : a < 2139095040) (hb : b < 2139095040) (hs : s ≤ 1065353216) :
    fok .sub .f32 1065353216 s = true ∧ fok .mul .f32 a (fv .sub .f32 1065353216 s) = true ∧ fok .mul .f32 b s = true ∧ fok .add .f32 (fv .mul .f32 a (fv .sub .f32 1065353216 s)) (fv .mul .f32 b s) = true ∧ mixv a b s ≤ 2139095040 := by
  obtain ⟨h1, h2⟩ := sub_one hs
  obtain ⟨h3, h4⟩ := mul_ff ha (show fv .sub .f32 1065353216 s < 2139095040 by omega)
  obtain ⟨h5, h6⟩ := mul_ff hb (show s < 2139095040 by omega)
  obtain ⟨h7, h8⟩ := add_nn h4 h6
  exact ⟨h1, h3, h5, h7, h8⟩
def mixF (f g : Nat → Nat) (s : Nat) : Nat → Nat := fun j => mixv (f j) (g j) s
def mixR (f g : Nat → Nat) (s : Nat) : Value := if okB f && okB g then (if shareB s then madeR (fun j => if j < 20 then mixF f g s j else 0) else noR 2) else noR 1
theorem mixF_le {f g : Nat → Nat} (h : okB f = true) (h' : okB g = true) {s : Nat} (hs : s ≤ 1065353216) (j : Nat) : (if j < 20 then mixF f g s j else 0) ≤ 2139095040 := by
  split
  · rename_i hj; exact (mix_ok (amt_lt (of_okB h j hj)) (amt_lt (of_okB h' j hj)) hs).2.2.2.2
  · omega
theorem mixR_form (f g : Nat → Nat) (s : Nat) : ∃ (G : Nat → Nat) (c' : Int), mixR f g s = .tuple #[.agg (row 20 fun j => .float .f32 (G j)), .int .i64 c'] ∧ ∀ j, j < 20 → cvok (G j) = true := by
  unfold mixR
  split
  · rename_i h; rw [Bool.and_eq_true] at h
    split
    · rename_i h2; exact madeR_form _ (mixF_le h.1 h.2 (shareB_iff h2))
    · exact noR_form 2
  · exact noR_form 1
theorem c_mix (a b s : Nat) (h1 : fok .sub .f32 1065353216 s = true) (h2 : fok .mul .f32 a (fv .sub .f32 1065353216 s) = true) (h3 : fok .mul .f32 b s = true) (h4 : fok .add .f32 (fv .mul .f32 a (fv .sub .f32 1065353216 s)) (fv .mul .f32 b s) = true) (w : World) : Calls Try.prog 46 #[.float .f32 a, .float .f32 b, .float .f32 s] w fun e w' => e = .returned (.float .f32 (mixv a b s)) ∧ w = w' := by
  go_enter Try.func46, Try.ntmps46
  go_wp2
  go_ret
  exact ⟨rfl, rfl⟩
theorem c_specMixSizes (f : Nat → Nat) (hf : ∀ j, f j < 4294967296) (g : Nat → Nat) (hg : ∀ j, g j < 4294967296) (s : Nat) (hs : s < 4294967296) (w : World) : Calls Try.prog 24 #[.agg (row 20 fun j => .float .f32 (f j)), .agg (row 20 fun j => .float .f32 (g j)), .float .f32 s] w fun e w' => e = .returned (mixR f g s) ∧ Below w.heap.size w w' := by
  have g0 : Holds (((w.alloc (.cells (row 20 fun j => .float .f32 (f j)) 24)).alloc (.cells (row 20 fun j => .float .f32 (g j)) 24)).alloc (.cells #[.float .f32 0, .float .f32 0, .float .f32 0, .float .f32 0, .float .f32 0, .float .f32 0, .float .f32 0, .float .f32 0, .float .f32 0, .float .f32 0, .float .f32 0, .float .f32 0, .float .f32 0, .float .f32 0, .float .f32 0, .float .f32 0, .float .f32 0, .float .f32 0, .float .f32 0, .float .f32 0] 24)) w.heap.size 24 (row 20 fun j => .float .f32 (f j)) := ((Holds.new _ _ _).alloc _).alloc _
  have g1 : Holds (((w.alloc (.cells (row 20 fun j => .float .f32 (f j)) 24)).alloc (.cells (row 20 fun j => .float .f32 (g j)) 24)).alloc (.cells #[.float .f32 0, .float .f32 0, .float .f32 0, .float .f32 0, .float .f32 0, .float .f32 0, .float .f32 0, .float .f32 0, .float .f32 0, .float .f32 0, .float .f32 0, .float .f32 0, .float .f32 0, .float .f32 0, .float .f32 0, .float .f32 0, .float .f32 0, .float .f32 0, .float .f32 0, .float .f32 0] 24)) (w.heap.size + 1) 24 (row 20 fun j => .float .f32 (g j)) := (Holds.new' _ _ _ (by simp)).alloc _
  have g2 : Holds (((w.alloc (.cells (row 20 fun j => .float .f32 (f j)) 24)).alloc (.cells (row 20 fun j => .float .f32 (g j)) 24)).alloc (.cells #[.float .f32 0, .float .f32 0, .float .f32 0, .float .f32 0, .float .f32 0, .float .f32 0, .float .f32 0, .float .f32 0, .float .f32 0, .float .f32 0, .float .f32 0, .float .f32 0, .float .f32 0, .float .f32 0, .float .f32 0, .float .f32 0, .float .f32 0, .float .f32 0, .float .f32 0, .float .f32 0] 24)) (w.heap.size + 1 + 1) 24 (row 20 fun _ => .float .f32 0) := by rw [zrow_eq]; exact Holds.new' _ _ _ (by simp)
  have b0 : Below w.heap.size w (((w.alloc (.cells (row 20 fun j => .float .f32 (f j)) 24)).alloc (.cells (row 20 fun j => .float .f32 (g j)) 24)).alloc (.cells #[.float .f32 0, .float .f32 0, .float .f32 0, .float .f32 0, .float .f32 0, .float .f32 0, .float .f32 0, .float .f32 0, .float .f32 0, .float .f32 0, .float .f32 0, .float .f32 0, .float .f32 0, .float .f32 0, .float .f32 0, .float .f32 0, .float .f32 0, .float .f32 0, .float .f32 0, .float .f32 0] 24)) := (((Below.refl _ _).alloc (by simp) _).alloc (by simp) _).alloc (by simp; omega) _
  cases hf1 : okB f
  · have hR := Lib.hid (show mixR f g s = noR 1 by simp [mixR, hf1])
    go_enter Try.func24, Try.ntmps24
    go_wp2_with (first | (refine wl_loadW 24 Try.underlying24 info_sizes rfl _ rfl g1 rfl ?_) | (refine wl_load 24 Try.underlying24 info_sizes rfl _ rfl g0 rfl ?_) | (refine wl_load 24 Try.underlying24 info_sizes rfl _ rfl g1 rfl ?_) | (go_at_call 30; with_reducible refine (c_l01Ok f hf _ _ _ g0).mono ?_; rw [hf1]; rintro e w1 ⟨rfl, hdr⟩; have hb := drew_below hdr; clear hdr; have g0 := g0.keep hb; have g1 := g1.keep hb; have g2 := g2.keep hb; have b0 := b0.trans (hb.mono b0.size); clear hb) | (refine wl_store 24 info_sizes rfl _ _ rfl g2 (row_size _ _) rfl (congrArg Value.agg zrow_eq) (fun _ => rfl) ?_))
    exact ret_row2 rfl Try.underlying24 info_sizes (g2.row_ _) rfl rfl ⟨by rw [hR.out]; rfl, below_setRow b0 (by omega) _⟩
  cases hf2 : okB g
  · have hR := Lib.hid (show mixR f g s = noR 1 by simp [mixR, hf1, hf2])
    go_enter Try.func24, Try.ntmps24
    go_wp2_with (first | (refine wl_loadW 24 Try.underlying24 info_sizes rfl _ rfl g1 rfl ?_) | (refine wl_load 24 Try.underlying24 info_sizes rfl _ rfl g0 rfl ?_) | (refine wl_load 24 Try.underlying24 info_sizes rfl _ rfl g1 rfl ?_) | (go_at_call 30; with_reducible refine (c_l01Ok f hf _ _ _ g0).mono ?_; rw [hf1]; rintro e w1 ⟨rfl, hdr⟩; have hb := drew_below hdr; clear hdr; have g0 := g0.keep hb; have g1 := g1.keep hb; have g2 := g2.keep hb; have b0 := b0.trans (hb.mono b0.size); clear hb) | (go_at_call 30; with_reducible refine (c_l01Ok g hg _ _ _ g1).mono ?_; rw [hf2]; rintro e w1 ⟨rfl, hdr⟩; have hb := drew_below hdr; clear hdr; have g0 := g0.keep hb; have g1 := g1.keep hb; have g2 := g2.keep hb; have b0 := b0.trans (hb.mono b0.size); clear hb) | (refine wl_store 24 info_sizes rfl _ _ rfl g2 (row_size _ _) rfl (congrArg Value.agg zrow_eq) (fun _ => rfl) ?_))
    exact ret_row2 rfl Try.underlying24 info_sizes (g2.row_ _) rfl rfl ⟨by rw [hR.out]; rfl, below_setRow b0 (by omega) _⟩
  cases hf3 : shareB s
  · have hR := Lib.hid (show mixR f g s = noR 2 by simp [mixR, hf1, hf2, hf3])
    go_enter Try.func24, Try.ntmps24
    go_wp2_with (first | (refine wl_loadW 24 Try.underlying24 info_sizes rfl _ rfl g1 rfl ?_) | (refine wl_load 24 Try.underlying24 info_sizes rfl _ rfl g0 rfl ?_) | (refine wl_load 24 Try.underlying24 info_sizes rfl _ rfl g1 rfl ?_) | (go_at_call 30; with_reducible refine (c_l01Ok f hf _ _ _ g0).mono ?_; rw [hf1]; rintro e w1 ⟨rfl, hdr⟩; have hb := drew_below hdr; clear hdr; have g0 := g0.keep hb; have g1 := g1.keep hb; have g2 := g2.keep hb; have b0 := b0.trans (hb.mono b0.size); clear hb) | (go_at_call 30; with_reducible refine (c_l01Ok g hg _ _ _ g1).mono ?_; rw [hf2]; rintro e w1 ⟨rfl, hdr⟩; have hb := drew_below hdr; clear hdr; have g0 := g0.keep hb; have g1 := g1.keep hb; have g2 := g2.keep hb; have b0 := b0.trans (hb.mono b0.size); clear hb) | (go_at_call 32; with_reducible refine (c_l01Share s hs _).mono ?_; rw [hf3]; rintro e w1 ⟨rfl, hdr⟩; have hb := drew_below hdr; clear hdr; have g0 := g0.keep hb; have g1 := g1.keep hb; have g2 := g2.keep hb; have b0 := b0.trans (hb.mono b0.size); clear hb) | (refine wl_store 24 info_sizes rfl _ _ rfl g2 (row_size _ _) rfl (congrArg Value.agg zrow_eq) (fun _ => rfl) ?_))
    exact ret_row2 rfl Try.underlying24 info_sizes (g2.row_ _) rfl rfl ⟨by rw [hR.out]; rfl, below_setRow b0 (by omega) _⟩
  have hs1 := shareB_iff hf3
  have hR := Lib.hid (show mixR f g s = madeR (fun j => if j < 20 then mixF f g s j else 0) by simp [mixR, hf1, hf2, hf3])
  obtain ⟨G, c, hG, _⟩ := madeR_form _ (mixF_le hf1 hf2 hs1)
  have HG := Lib.hid hG
  clear hG
  have HM := Lib.hid (fun w => c_l01Made (fun j => if j < 20 then mixF f g s j else 0) (fun j => le_inf _ (mixF_le hf1 hf2 hs1 j)) w)
  have HO := Lib.hid (fun j (hj : j < 20) => mix_ok (amt_lt (of_okB hf1 j hj)) (amt_lt (of_okB hf2 j hj)) hs1)
  go_enter Try.func24, Try.ntmps24
  go_wp2_with (first | (refine wl_loadW 24 Try.underlying24 info_sizes rfl _ rfl g1 rfl ?_) | (refine wl_load 24 Try.underlying24 info_sizes rfl _ rfl g0 rfl ?_) | (refine wl_load 24 Try.underlying24 info_sizes rfl _ rfl g1 rfl ?_) | (go_at_call 30; with_reducible refine (c_l01Ok f hf _ _ _ g0).mono ?_; rw [hf1]; rintro e w1 ⟨rfl, hdr⟩; have hb := drew_below hdr; clear hdr; have g0 := g0.keep hb; have g1 := g1.keep hb; have g2 := g2.keep hb; have b0 := b0.trans (hb.mono b0.size); clear hb) | (go_at_call 30; with_reducible refine (c_l01Ok g hg _ _ _ g1).mono ?_; rw [hf2]; rintro e w1 ⟨rfl, hdr⟩; have hb := drew_below hdr; clear hdr; have g0 := g0.keep hb; have g1 := g1.keep hb; have g2 := g2.keep hb; have b0 := b0.trans (hb.mono b0.size); clear hb) | (go_at_call 32; with_reducible refine (c_l01Share s hs _).mono ?_; rw [hf3]; rintro e w1 ⟨rfl, hdr⟩; have hb := drew_below hdr; clear hdr; have g0 := g0.keep hb; have g1 := g1.keep hb; have g2 := g2.keep hb; have b0 := b0.trans (hb.mono b0.size); clear hb))
  clear hf3 hf2 hf1 hs1
  go_loopw [8] (fun i wr => ∃ k : Nat, k ≤ 20 ∧ i = .int .i64 k ∧ Below w.heap.size w wr ∧ Holds wr w.heap.size 24 (row 20 fun j => .float .f32 (upto k (mixF f g s) f j)) ∧ Holds wr (w.heap.size + 1) 24 (row 20 fun j => .float .f32 (g j)) ∧ Holds wr (w.heap.size + 1 + 1) 24 (row 20 fun _ => .float .f32 0)) (fun i _ => 20 - (intOf i).toNat)
  case atStart => exact ⟨0, by omega, rfl, b0, g0.to (fun j _ => upto_zero _ f j), g1, g2⟩
  case round =>
    obtain ⟨k, hk, rfl, b0, g0, g1, g2⟩ := hrel
    by_cases hlt : k < 20
    · have hc := g0.drew.at_ hlt
      rw [upto_at] at hc
      have hc1 := g1.drew.at_ hlt
      have hfz := g0.drew.free k
      obtain ⟨o1, o2, o3, o4, _⟩ := HO.out k hlt
      have hi0 : (0 : Int) ≤ (k : Int) := by omega
      have hi1 : (k : Int) < 20 := by omega
      go_wp2
      go_region
      go_wp2
      go_roundw
      case rel => exact ⟨k + 1, by omega, by go_num, (b0.trans ((Below.refl _ _).drew)).setCell (by simp) _, (g0.drew.set_row k _).to (fun j _ => upto_step (mixF f g s) f k j), g1.drew.far (by simp) _, g2.drew.far (by simp; omega) _⟩
      case measure => simp [intOf]; omega
    · have g0 : Holds wr w.heap.size 24 (row 20 fun j => .float .f32 (if j < 20 then mixF f g s j else 0)) := g0.to (fun j hj => (upto_full (mixF f g s) f k hlt j hj).trans (by rw [if_pos hj]))
      go_wp2_with (first | (refine wl_load 24 Try.underlying24 info_sizes rfl _ rfl g0 rfl ?_) | (go_at_call 40; refine (HM.out _).mono ?_; rw [HG.out]; rintro e w1 ⟨rfl, hb⟩; have g2 := g2.keep hb; have b0 := b0.trans (hb.mono b0.size); clear hb) | (refine wl_store 24 info_sizes rfl _ _ rfl g2 (row_size _ _) rfl rfl (fun _ => rfl) ?_))
      exact ret_row2 rfl Try.underlying24 info_sizes (g2.row_ _) rfl rfl ⟨by rw [hR.out, HG.out]; rfl, below_setRow b0 (by omega) _⟩
theorem c_implMixSizes (f : Nat → Nat) (hf : ∀ j, f j < 4294967296) (g : Nat → Nat) (hg : ∀ j, g j < 4294967296) (s : Nat) (hs : s < 4294967296) (w : World) : Calls Try.prog 25 #[.agg (row 20 fun j => .float .f32 (f j)), .agg (row 20 fun j => .float .f32 (g j)), .float .f32 s] w fun e w' => e = .returned (mixR f g s) ∧ Below w.heap.size w w' := by
  have g0 : Holds (((w.alloc (.cells (row 20 fun j => .float .f32 (f j)) 24)).alloc (.cells (row 20 fun j => .float .f32 (g j)) 24)).alloc (.cells #[.float .f32 0, .float .f32 0, .float .f32 0, .float .f32 0, .float .f32 0, .float .f32 0, .float .f32 0, .float .f32 0, .float .f32 0, .float .f32 0, .float .f32 0, .float .f32 0, .float .f32 0, .float .f32 0, .float .f32 0, .float .f32 0, .float .f32 0, .float .f32 0, .float .f32 0, .float .f32 0] 24)) w.heap.size 24 (row 20 fun j => .float .f32 (f j)) := ((Holds.new _ _ _).alloc _).alloc _
  have g1 : Holds (((w.alloc (.cells (row 20 fun j => .float .f32 (f j)) 24)).alloc (.cells (row 20 fun j => .float .f32 (g j)) 24)).alloc (.cells #[.float .f32 0, .float .f32 0, .float .f32 0, .float .f32 0, .float .f32 0, .float .f32 0, .float .f32 0, .float .f32 0, .float .f32 0, .float .f32 0, .float .f32 0, .float .f32 0, .float .f32 0, .float .f32 0, .float .f32 0, .float .f32 0, .float .f32 0, .float .f32 0, .float .f32 0, .float .f32 0] 24)) (w.heap.size + 1) 24 (row 20 fun j => .float .f32 (g j)) := (Holds.new' _ _ _ (by simp)).alloc _
  have g2 : Holds (((w.alloc (.cells (row 20 fun j => .float .f32 (f j)) 24)).alloc (.cells (row 20 fun j => .float .f32 (g j)) 24)).alloc (.cells #[.float .f32 0, .float .f32 0, .float .f32 0, .float .f32 0, .float .f32 0, .float .f32 0, .float .f32 0, .float .f32 0, .float .f32 0, .float .f32 0, .float .f32 0, .float .f32 0, .float .f32 0, .float .f32 0, .float .f32 0, .float .f32 0, .float .f32 0, .float .f32 0, .float .f32 0, .float .f32 0] 24)) (w.heap.size + 1 + 1) 24 (row 20 fun _ => .float .f32 0) := by rw [zrow_eq]; exact Holds.new' _ _ _ (by simp)
  have b0 : Below w.heap.size w (((w.alloc (.cells (row 20 fun j => .float .f32 (f j)) 24)).alloc (.cells (row 20 fun j => .float .f32 (g j)) 24)).alloc (.cells #[.float .f32 0, .float .f32 0, .float .f32 0, .float .f32 0, .float .f32 0, .float .f32 0, .float .f32 0, .float .f32 0, .float .f32 0, .float .f32 0, .float .f32 0, .float .f32 0, .float .f32 0, .float .f32 0, .float .f32 0, .float .f32 0, .float .f32 0, .float .f32 0, .float .f32 0, .float .f32 0] 24)) := (((Below.refl _ _).alloc (by simp) _).alloc (by simp) _).alloc (by simp; omega) _
  cases hf1 : okB f
  · have hR := Lib.hid (show mixR f g s = noR 1 by simp [mixR, hf1])
    go_enter Try.func25, Try.ntmps25
    go_wp2_with (first | (refine wl_loadW 24 Try.underlying24 info_sizes rfl _ rfl g1 rfl ?_) | (refine wl_load 24 Try.underlying24 info_sizes rfl _ rfl g0 rfl ?_) | (refine wl_load 24 Try.underlying24 info_sizes rfl _ rfl g1 rfl ?_) | (go_at_call 33; with_reducible refine (c_ValidSizes f hf _).mono ?_; rw [hf1]; rintro e w1 ⟨rfl, hb⟩; have g0 := g0.keep hb; have g1 := g1.keep hb; have g2 := g2.keep hb; have b0 := b0.trans (hb.mono b0.size); clear hb) | (refine wl_store 24 info_sizes rfl _ _ rfl g2 (row_size _ _) rfl (congrArg Value.agg zrow_eq) (fun _ => rfl) ?_))
    exact ret_row2 rfl Try.underlying24 info_sizes (g2.row_ _) rfl rfl ⟨by rw [hR.out]; rfl, below_setRow b0 (by omega) _⟩
  cases hf2 : okB g
  · have hR := Lib.hid (show mixR f g s = noR 1 by simp [mixR, hf1, hf2])
    go_enter Try.func25, Try.ntmps25
    go_wp2_with (first | (refine wl_loadW 24 Try.underlying24 info_sizes rfl _ rfl g1 rfl ?_) | (refine wl_load 24 Try.underlying24 info_sizes rfl _ rfl g0 rfl ?_) | (refine wl_load 24 Try.underlying24 info_sizes rfl _ rfl g1 rfl ?_) | (go_at_call 33; with_reducible refine (c_ValidSizes f hf _).mono ?_; rw [hf1]; rintro e w1 ⟨rfl, hb⟩; have g0 := g0.keep hb; have g1 := g1.keep hb; have g2 := g2.keep hb; have b0 := b0.trans (hb.mono b0.size); clear hb) | (go_at_call 33; with_reducible refine (c_ValidSizes g hg _).mono ?_; rw [hf2]; rintro e w1 ⟨rfl, hb⟩; have g0 := g0.keep hb; have g1 := g1.keep hb; have g2 := g2.keep hb; have b0 := b0.trans (hb.mono b0.size); clear hb) | (refine wl_store 24 info_sizes rfl _ _ rfl g2 (row_size _ _) rfl (congrArg Value.agg zrow_eq) (fun _ => rfl) ?_))
    exact ret_row2 rfl Try.underlying24 info_sizes (g2.row_ _) rfl rfl ⟨by rw [hR.out]; rfl, below_setRow b0 (by omega) _⟩
  cases hf3 : shareB s
  · have hR := Lib.hid (show mixR f g s = noR 2 by simp [mixR, hf1, hf2, hf3])
    go_enter Try.func25, Try.ntmps25
    go_wp2_with (first | (refine wl_loadW 24 Try.underlying24 info_sizes rfl _ rfl g1 rfl ?_) | (refine wl_load 24 Try.underlying24 info_sizes rfl _ rfl g0 rfl ?_) | (refine wl_load 24 Try.underlying24 info_sizes rfl _ rfl g1 rfl ?_) | (go_at_call 33; with_reducible refine (c_ValidSizes f hf _).mono ?_; rw [hf1]; rintro e w1 ⟨rfl, hb⟩; have g0 := g0.keep hb; have g1 := g1.keep hb; have g2 := g2.keep hb; have b0 := b0.trans (hb.mono b0.size); clear hb) | (go_at_call 33; with_reducible refine (c_ValidSizes g hg _).mono ?_; rw [hf2]; rintro e w1 ⟨rfl, hb⟩; have g0 := g0.keep hb; have g1 := g1.keep hb; have g2 := g2.keep hb; have b0 := b0.trans (hb.mono b0.size); clear hb) | (go_at_call 35; with_reducible refine (c_isPart s hs _).mono ?_; rw [hf3]; rintro e w1 ⟨rfl, hb⟩; have g0 := g0.keep hb; have g1 := g1.keep hb; have g2 := g2.keep hb; have b0 := b0.trans (hb.mono b0.size); clear hb) | (refine wl_store 24 info_sizes rfl _ _ rfl g2 (row_size _ _) rfl (congrArg Value.agg zrow_eq) (fun _ => rfl) ?_))
    exact ret_row2 rfl Try.underlying24 info_sizes (g2.row_ _) rfl rfl ⟨by rw [hR.out]; rfl, below_setRow b0 (by omega) _⟩
  have hs1 := shareB_iff hf3
  have hR := Lib.hid (show mixR f g s = madeR (fun j => if j < 20 then mixF f g s j else 0) by simp [mixR, hf1, hf2, hf3])
  obtain ⟨G, c, hG, _⟩ := madeR_form _ (mixF_le hf1 hf2 hs1)
  have HG := Lib.hid hG
  clear hG
  have HM := Lib.hid (fun w => c_checked (fun j => if j < 20 then mixF f g s j else 0) (fun j => le_inf _ (mixF_le hf1 hf2 hs1 j)) w)
  have HO := Lib.hid (fun j (hj : j < 20) => mix_ok (amt_lt (of_okB hf1 j hj)) (amt_lt (of_okB hf2 j hj)) hs1)
  go_enter Try.func25, Try.ntmps25
  go_wp2_with (first | (refine wl_loadW 24 Try.underlying24 info_sizes rfl _ rfl g1 rfl ?_) | (refine wl_load 24 Try.underlying24 info_sizes rfl _ rfl g0 rfl ?_) | (refine wl_load 24 Try.underlying24 info_sizes rfl _ rfl g1 rfl ?_) | (go_at_call 33; with_reducible refine (c_ValidSizes f hf _).mono ?_; rw [hf1]; rintro e w1 ⟨rfl, hb⟩; have g0 := g0.keep hb; have g1 := g1.keep hb; have g2 := g2.keep hb; have b0 := b0.trans (hb.mono b0.size); clear hb) | (go_at_call 33; with_reducible refine (c_ValidSizes g hg _).mono ?_; rw [hf2]; rintro e w1 ⟨rfl, hb⟩; have g0 := g0.keep hb; have g1 := g1.keep hb; have g2 := g2.keep hb; have b0 := b0.trans (hb.mono b0.size); clear hb) | (go_at_call 35; with_reducible refine (c_isPart s hs _).mono ?_; rw [hf3]; rintro e w1 ⟨rfl, hb⟩; have g0 := g0.keep hb; have g1 := g1.keep hb; have g2 := g2.keep hb; have b0 := b0.trans (hb.mono b0.size); clear hb))
  clear hf3 hf2 hf1 hs1
  go_loopw [24] (fun i wr => ∃ k : Nat, k ≤ 20 ∧ i = .int .i64 k ∧ Below w.heap.size w wr ∧ Holds wr w.heap.size 24 (row 20 fun j => .float .f32 (upto k (mixF f g s) f j)) ∧ Holds wr (w.heap.size + 1) 24 (row 20 fun j => .float .f32 (g j)) ∧ Holds wr (w.heap.size + 1 + 1) 24 (row 20 fun _ => .float .f32 0)) (fun i _ => 20 - (intOf i).toNat)
  case atStart => exact ⟨0, by omega, rfl, b0, g0.to (fun j _ => upto_zero _ f j), g1, g2⟩
  case round =>
    obtain ⟨k, hk, rfl, b0, g0, g1, g2⟩ := hrel
    by_cases hlt : k < 20
    · have hc := g0.drew.at_ hlt
      rw [upto_at] at hc
      have hc1 := g1.drew.at_ hlt
      have hfz := g0.drew.free k
      obtain ⟨o1, o2, o3, o4, _⟩ := HO.out k hlt
      have hi0 : (0 : Int) ≤ (k : Int) := by omega
      have hi1 : (k : Int) < 20 := by omega
      go_wp2
      have HX := Lib.hid (fun w => c_mix (f k) (g k) s o1 o2 o3 o4 w)
      clear o1 o2 o3 o4
      go_region_with ((go_at_call 46; with_reducible refine (HX.out _).mono ?_; rintro e w1 ⟨rfl, rfl⟩))
      all_goals go_wp2
      all_goals go_roundw
      all_goals first | exact ⟨k + 1, by omega, by go_num, (b0.trans ((Below.refl _ _).drew)).setCell (by simp) _, (g0.drew.set_row k _).to (fun j _ => upto_step (mixF f g s) f k j), g1.drew.far (by simp) _, g2.drew.far (by simp; omega) _⟩ | exact ⟨k + 1, by omega, by go_num, (b0.setCell (by simp) _).trans ((Below.refl _ _).drew), ((g0.set_row k _).to (fun j _ => upto_step (mixF f g s) f k j)).drew, (g1.far (by simp) _).drew, (g2.far (by simp; omega) _).drew⟩ | (simp [intOf]; omega)
    · have g0 : Holds wr w.heap.size 24 (row 20 fun j => .float .f32 (if j < 20 then mixF f g s j else 0)) := g0.to (fun j hj => (upto_full (mixF f g s) f k hlt j hj).trans (by rw [if_pos hj]))
      go_wp2_with (first | (refine wl_load 24 Try.underlying24 info_sizes rfl _ rfl g0 rfl ?_) | (go_at_call 41; refine (HM.out _).mono ?_; rw [HG.out]; rintro e w1 ⟨rfl, hb⟩; have g2 := g2.keep hb; have b0 := b0.trans (hb.mono b0.size); clear hb) | (refine wl_store 24 info_sizes rfl _ _ rfl g2 (row_size _ _) rfl rfl (fun _ => rfl) ?_))
      exact ret_row2 rfl Try.underlying24 info_sizes (g2.row_ _) rfl rfl ⟨by rw [hR.out, HG.out]; rfl, below_setRow b0 (by omega) _⟩
end Go.Proofs.Ytocjhackncfjpaa
