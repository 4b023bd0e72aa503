/-
  Contracts and the walk: PutDroplets.
-/
import Derived.Test.YtjhognfkjdccfaaPut
namespace Go.Proofs.Ytjhognfkjdccfaa
open Go.RowKit Fl
set_option maxRecDepth 20000
set_option maxHeartbeats 4000000
set_option linter.unusedSimpArgs false

def gt0 (m : Nat) : Bool := FloatKind.f32.format.order m 0 == some .gt
theorem gt0_lt {m : Nat} (hm : m < 4294967296) (h : isfin m = true) (h0 : gt0 m = true) : 0 < m ∧ m < 2139095040 := by
  unfold gt0 at h0
  rw [gt_zero hm h] at h0
  have h0 := of_decide_eq_true h0
  have h := of_decide_eq_true h
  omega
def putX (f : Nat → Nat) (m n : Nat) : Nat → Nat := fun j => if j < 20 then putF f m n j else 0
def putR (f : Nat → Nat) (m n : Nat) : Value := if okB f then (if isfin m then (if gt0 m then (if amtB n then madeR (putX f m n) else noR 2) else noR 2) else noR 2) else noR 1
theorem okle {f : Nat → Nat} (h : okB f = true) : ∀ j, j < 20 → f j ≤ 2139095040 := fun j hj => Nat.le_of_lt (amt_lt (of_okB h j hj))
theorem putX_le {f : Nat → Nat} (h : okB f = true) {m n : Nat} (hm : m < 2139095040) (hn : n < 2139095040) : ∀ j, putX f m n j ≤ 2139095040 := by
  intro j; unfold putX; split
  · rename_i q; exact (put_ok (okle h) hm hn).le j q
  · omega
theorem put_form (f : Nat → Nat) (m n : Nat) (hm : m < 4294967296) : ∃ (G : Nat → Nat) (c' : Int), putR f m n = .tuple #[.agg (row 20 fun j => .float .f32 (G j)), .int .i64 c'] ∧ ∀ j, j < 20 → cvok (G j) = true := by
  unfold putR
  split
  · rename_i h1; split
    · rename_i h2; split
      · rename_i h3; split
        · rename_i h4
          exact madeR_form _ (putX_le h1 (gt0_lt hm h2 h3).2 (amt_lt h4))
        · exact noR_form 2
      · exact noR_form 2
    · exact noR_form 2
  · exact noR_form 1
theorem c_specPutDroplets (f : Nat → Nat) (hf : ∀ j, f j < 4294967296) (m : Nat) (hm : m < 4294967296) (n : Nat) (hn : n < 4294967296) (w : World) : Calls Try.prog 21 #[.agg (row 20 fun j => .float .f32 (f j)), .float .f32 m, .float .f32 n] w fun e w' => e = .returned (putR f m n) ∧ Below w.heap.size w w' := by
  have g0 : Holds ((w.alloc (.cells (row 20 fun j => .float .f32 (f j)) 31)).alloc (.cells #[.float .f32 0, .float .f32 0, .float .f32 0, .float .f32 0, .float .f32 0, .float .f32 0, .float .f32 0, .float .f32 0, .float .f32 0, .float .f32 0, .float .f32 0, .float .f32 0, .float .f32 0, .float .f32 0, .float .f32 0, .float .f32 0, .float .f32 0, .float .f32 0, .float .f32 0, .float .f32 0] 31)) w.heap.size 31 (row 20 fun j => .float .f32 (f j)) := (Holds.new _ _ _).alloc _
  have g1 : Holds ((w.alloc (.cells (row 20 fun j => .float .f32 (f j)) 31)).alloc (.cells #[.float .f32 0, .float .f32 0, .float .f32 0, .float .f32 0, .float .f32 0, .float .f32 0, .float .f32 0, .float .f32 0, .float .f32 0, .float .f32 0, .float .f32 0, .float .f32 0, .float .f32 0, .float .f32 0, .float .f32 0, .float .f32 0, .float .f32 0, .float .f32 0, .float .f32 0, .float .f32 0] 31)) (w.heap.size + 1) 31 (row 20 fun _ => .float .f32 0) := by rw [zrow_eq]; exact Holds.new' _ _ _ (by simp)
  have b0 : Below w.heap.size w ((w.alloc (.cells (row 20 fun j => .float .f32 (f j)) 31)).alloc (.cells #[.float .f32 0, .float .f32 0, .float .f32 0, .float .f32 0, .float .f32 0, .float .f32 0, .float .f32 0, .float .f32 0, .float .f32 0, .float .f32 0, .float .f32 0, .float .f32 0, .float .f32 0, .float .f32 0, .float .f32 0, .float .f32 0, .float .f32 0, .float .f32 0, .float .f32 0, .float .f32 0] 31)) := ((Below.refl _ _).alloc (by simp) _).alloc (by simp) _
  cases hf1 : okB f
  · have hR := Lib.hid (show putR f m n = noR 1 by simp [putR, hf1])
    go_enter Try.func21, Try.ntmps21
    go_wp2_with (first | (refine wl_load 31 Try.underlying31 info_sizes rfl _ rfl g0 rfl ?_) | (go_at_call 46; with_reducible refine (c_l01Ok f hf _ _ _ g0).mono ?_; rw [hf1]; rintro e w1 ⟨rfl, hdr⟩; have hb := drew_below hdr; clear hdr; have g0 := g0.keep hb; have g1 := g1.keep hb; have b0 := b0.trans (hb.mono b0.size); clear hb) | (refine wl_store 31 info_sizes rfl _ _ rfl g1 (row_size _ _) rfl (congrArg Value.agg zrow_eq) (fun _ => rfl) ?_))
    exact ret_row2 rfl Try.underlying31 info_sizes (g1.row_ _) rfl rfl ⟨by rw [hR.out]; rfl, below_setRow b0 (by omega) _⟩
  cases hf2 : isfin m
  · have hR := Lib.hid (show putR f m n = noR 2 by simp [putR, hf1, hf2])
    go_enter Try.func21, Try.ntmps21
    go_wp2_with (first | (refine wl_load 31 Try.underlying31 info_sizes rfl _ rfl g0 rfl ?_) | (go_at_call 46; with_reducible refine (c_l01Ok f hf _ _ _ g0).mono ?_; rw [hf1]; rintro e w1 ⟨rfl, hdr⟩; have hb := drew_below hdr; clear hdr; have g0 := g0.keep hb; have g1 := g1.keep hb; have b0 := b0.trans (hb.mono b0.size); clear hb) | (go_at_call 37; with_reducible refine (c_l01Finite m hm _).mono ?_; rw [hf2]; rintro e w1 ⟨rfl, hdr⟩; have hb := drew_below hdr; clear hdr; have g0 := g0.keep hb; have g1 := g1.keep hb; have b0 := b0.trans (hb.mono b0.size); clear hb) | (refine wl_store 31 info_sizes rfl _ _ rfl g1 (row_size _ _) rfl (congrArg Value.agg zrow_eq) (fun _ => rfl) ?_))
    exact ret_row2 rfl Try.underlying31 info_sizes (g1.row_ _) rfl rfl ⟨by rw [hR.out]; rfl, below_setRow b0 (by omega) _⟩
  cases hf3 : gt0 m
  · have hR := Lib.hid (show putR f m n = noR 2 by simp [putR, hf1, hf2, hf3])
    unfold gt0 at hf3
    go_enter Try.func21, Try.ntmps21
    go_wp2_with (first | (refine wl_load 31 Try.underlying31 info_sizes rfl _ rfl g0 rfl ?_) | (go_at_call 46; with_reducible refine (c_l01Ok f hf _ _ _ g0).mono ?_; rw [hf1]; rintro e w1 ⟨rfl, hdr⟩; have hb := drew_below hdr; clear hdr; have g0 := g0.keep hb; have g1 := g1.keep hb; have b0 := b0.trans (hb.mono b0.size); clear hb) | (go_at_call 37; with_reducible refine (c_l01Finite m hm _).mono ?_; rw [hf2]; rintro e w1 ⟨rfl, hdr⟩; have hb := drew_below hdr; clear hdr; have g0 := g0.keep hb; have g1 := g1.keep hb; have b0 := b0.trans (hb.mono b0.size); clear hb) | (refine wl_store 31 info_sizes rfl _ _ rfl g1 (row_size _ _) rfl (congrArg Value.agg zrow_eq) (fun _ => rfl) ?_))
    exact ret_row2 rfl Try.underlying31 info_sizes (g1.row_ _) rfl rfl ⟨by rw [hR.out]; rfl, below_setRow b0 (by omega) _⟩
  have HB := Lib.hid (gt0_lt hm hf2 hf3)
  cases hf4 : amtB n
  · have hR := Lib.hid (show putR f m n = noR 2 by simp [putR, hf1, hf2, hf3, hf4])
    unfold gt0 at hf3
    go_enter Try.func21, Try.ntmps21
    go_wp2_with (first | (refine wl_load 31 Try.underlying31 info_sizes rfl _ rfl g0 rfl ?_) | (go_at_call 46; with_reducible refine (c_l01Ok f hf _ _ _ g0).mono ?_; rw [hf1]; rintro e w1 ⟨rfl, hdr⟩; have hb := drew_below hdr; clear hdr; have g0 := g0.keep hb; have g1 := g1.keep hb; have b0 := b0.trans (hb.mono b0.size); clear hb) | (go_at_call 37; with_reducible refine (c_l01Finite m hm _).mono ?_; rw [hf2]; rintro e w1 ⟨rfl, hdr⟩; have hb := drew_below hdr; clear hdr; have g0 := g0.keep hb; have g1 := g1.keep hb; have b0 := b0.trans (hb.mono b0.size); clear hb) | (go_at_call 33; with_reducible refine (c_l01Amount n hn _).mono ?_; rw [hf4]; rintro e w1 ⟨rfl, hdr⟩; have hb := drew_below hdr; clear hdr; have g0 := g0.keep hb; have g1 := g1.keep hb; have b0 := b0.trans (hb.mono b0.size); clear hb) | (refine wl_store 31 info_sizes rfl _ _ rfl g1 (row_size _ _) rfl (congrArg Value.agg zrow_eq) (fun _ => rfl) ?_))
    exact ret_row2 rfl Try.underlying31 info_sizes (g1.row_ _) rfl rfl ⟨by rw [hR.out]; rfl, below_setRow b0 (by omega) _⟩
  have hR := Lib.hid (show putR f m n = madeR (putX f m n) by simp [putR, hf1, hf2, hf3, hf4])
  unfold gt0 at hf3
  have HL := Lib.hid (okle hf1)
  have HN := Lib.hid (amt_lt hf4)
  obtain ⟨G, c, hG, _⟩ := madeR_form _ (putX_le hf1 HB.out.2 HN.out)
  have HG := Lib.hid hG
  clear hG
  have HM := Lib.hid (fun w => c_l01Made (putX f m n) (fun j => le_inf _ (putX_le hf1 HB.out.2 HN.out j)) w)
  go_enter Try.func21, Try.ntmps21
  go_wp2_with (first | (refine wl_load 31 Try.underlying31 info_sizes rfl _ rfl g0 rfl ?_) | (go_at_call 46; with_reducible refine (c_l01Ok f hf _ _ _ g0).mono ?_; rw [hf1]; rintro e w1 ⟨rfl, hdr⟩; have hb := drew_below hdr; clear hdr; have g0 := g0.keep hb; have g1 := g1.keep hb; have b0 := b0.trans (hb.mono b0.size); clear hb) | (go_at_call 37; with_reducible refine (c_l01Finite m hm _).mono ?_; rw [hf2]; rintro e w1 ⟨rfl, hdr⟩; have hb := drew_below hdr; clear hdr; have g0 := g0.keep hb; have g1 := g1.keep hb; have b0 := b0.trans (hb.mono b0.size); clear hb) | (go_at_call 33; with_reducible refine (c_l01Amount n hn _).mono ?_; rw [hf4]; rintro e w1 ⟨rfl, hdr⟩; have hb := drew_below hdr; clear hdr; have g0 := g0.keep hb; have g1 := g1.keep hb; have b0 := b0.trans (hb.mono b0.size); clear hb) | (go_at_call 47; with_reducible refine (c_l01Put f HL.out m n HB.out.2 HN.out _ _ _ g0).mono ?_; rintro e w2 ⟨rfl, hp⟩; have g1 := hp.keep _ _ _ (by omega) g1; have b0 := hp.bel _ _ (Nat.le_refl _) b0; have g0 : Holds w2 w.heap.size 31 (row 20 fun j => .float .f32 (putX f m n j)) := hp.row.to (fun j hj => by unfold putX; rw [if_pos hj]); clear hp) | (go_at_call 38; refine (HM.out _).mono ?_; rw [HG.out]; rintro e w1 ⟨rfl, hb⟩; have g0 := g0.keep hb; have g1 := g1.keep hb; have b0 := b0.trans (hb.mono b0.size); clear hb) | (refine wl_store 31 info_sizes rfl _ _ rfl g1 (row_size _ _) rfl rfl (fun _ => rfl) ?_))
  exact ret_row2 rfl Try.underlying31 info_sizes (g1.row_ _) rfl rfl ⟨by rw [hR.out, HG.out]; rfl, below_setRow b0 (by omega) _⟩
theorem c_implPutDroplets (f : Nat → Nat) (hf : ∀ j, f j < 4294967296) (m : Nat) (hm : m < 4294967296) (n : Nat) (hn : n < 4294967296) (w : World) : Calls Try.prog 23 #[.agg (row 20 fun j => .float .f32 (f j)), .float .f32 m, .float .f32 n] w fun e w' => e = .returned (putR f m n) ∧ Below w.heap.size w w' := by
  have g0 : Holds ((w.alloc (.cells (row 20 fun j => .float .f32 (f j)) 31)).alloc (.cells #[.float .f32 0, .float .f32 0, .float .f32 0, .float .f32 0, .float .f32 0, .float .f32 0, .float .f32 0, .float .f32 0, .float .f32 0, .float .f32 0, .float .f32 0, .float .f32 0, .float .f32 0, .float .f32 0, .float .f32 0, .float .f32 0, .float .f32 0, .float .f32 0, .float .f32 0, .float .f32 0] 31)) w.heap.size 31 (row 20 fun j => .float .f32 (f j)) := (Holds.new _ _ _).alloc _
  have g1 : Holds ((w.alloc (.cells (row 20 fun j => .float .f32 (f j)) 31)).alloc (.cells #[.float .f32 0, .float .f32 0, .float .f32 0, .float .f32 0, .float .f32 0, .float .f32 0, .float .f32 0, .float .f32 0, .float .f32 0, .float .f32 0, .float .f32 0, .float .f32 0, .float .f32 0, .float .f32 0, .float .f32 0, .float .f32 0, .float .f32 0, .float .f32 0, .float .f32 0, .float .f32 0] 31)) (w.heap.size + 1) 31 (row 20 fun _ => .float .f32 0) := by rw [zrow_eq]; exact Holds.new' _ _ _ (by simp)
  have b0 : Below w.heap.size w ((w.alloc (.cells (row 20 fun j => .float .f32 (f j)) 31)).alloc (.cells #[.float .f32 0, .float .f32 0, .float .f32 0, .float .f32 0, .float .f32 0, .float .f32 0, .float .f32 0, .float .f32 0, .float .f32 0, .float .f32 0, .float .f32 0, .float .f32 0, .float .f32 0, .float .f32 0, .float .f32 0, .float .f32 0, .float .f32 0, .float .f32 0, .float .f32 0, .float .f32 0] 31)) := ((Below.refl _ _).alloc (by simp) _).alloc (by simp) _
  cases hf1 : okB f
  · have hR := Lib.hid (show putR f m n = noR 1 by simp [putR, hf1])
    go_enter Try.func23, Try.ntmps23
    go_wp2_with (first | (refine wl_load 31 Try.underlying31 info_sizes rfl _ rfl g0 rfl ?_) | (go_at_call 48; with_reducible refine (c_ValidSizes f hf _).mono ?_; rw [hf1]; rintro e w1 ⟨rfl, hb⟩; have g0 := g0.keep hb; have g1 := g1.keep hb; have b0 := b0.trans (hb.mono b0.size); clear hb) | (refine wl_store 31 info_sizes rfl _ _ rfl g1 (row_size _ _) rfl (congrArg Value.agg zrow_eq) (fun _ => rfl) ?_))
    exact ret_row2 rfl Try.underlying31 info_sizes (g1.row_ _) rfl rfl ⟨by rw [hR.out]; rfl, below_setRow b0 (by omega) _⟩
  cases hf2 : isfin m
  · have hR := Lib.hid (show putR f m n = noR 2 by simp [putR, hf1, hf2])
    go_enter Try.func23, Try.ntmps23
    go_wp2_with (first | (refine wl_load 31 Try.underlying31 info_sizes rfl _ rfl g0 rfl ?_) | (go_at_call 48; with_reducible refine (c_ValidSizes f hf _).mono ?_; rw [hf1]; rintro e w1 ⟨rfl, hb⟩; have g0 := g0.keep hb; have g1 := g1.keep hb; have b0 := b0.trans (hb.mono b0.size); clear hb) | (go_at_call 44; refine (c_isFinite1 m hm _ _ _ _ (Holds.new _ _ _)).mono ?_; rw [hf2]; rintro e w2 ⟨rfl, hdr⟩; have hb := drew_below hdr; clear hdr; have g0 := (g0.alloc _).keep hb; have g1 := (g1.alloc _).keep hb; have b0 := (b0.alloc b0.size _).trans (hb.mono (b0.alloc b0.size _).size); clear hb) | (refine wl_store 31 info_sizes rfl _ _ rfl g1 (row_size _ _) rfl (congrArg Value.agg zrow_eq) (fun _ => rfl) ?_))
    exact ret_row2 rfl Try.underlying31 info_sizes (g1.row_ _) rfl rfl ⟨by rw [hR.out]; rfl, below_setRow b0 (by omega) _⟩
  cases hf3 : gt0 m
  · have hR := Lib.hid (show putR f m n = noR 2 by simp [putR, hf1, hf2, hf3])
    unfold gt0 at hf3
    go_enter Try.func23, Try.ntmps23
    go_wp2_with (first | (refine wl_load 31 Try.underlying31 info_sizes rfl _ rfl g0 rfl ?_) | (go_at_call 48; with_reducible refine (c_ValidSizes f hf _).mono ?_; rw [hf1]; rintro e w1 ⟨rfl, hb⟩; have g0 := g0.keep hb; have g1 := g1.keep hb; have b0 := b0.trans (hb.mono b0.size); clear hb) | (go_at_call 44; refine (c_isFinite1 m hm _ _ _ _ (Holds.new _ _ _)).mono ?_; rw [hf2]; rintro e w2 ⟨rfl, hdr⟩; have hb := drew_below hdr; clear hdr; have g0 := (g0.alloc _).keep hb; have g1 := (g1.alloc _).keep hb; have b0 := (b0.alloc b0.size _).trans (hb.mono (b0.alloc b0.size _).size); clear hb) | (refine wl_store 31 info_sizes rfl _ _ rfl g1 (row_size _ _) rfl (congrArg Value.agg zrow_eq) (fun _ => rfl) ?_))
    exact ret_row2 rfl Try.underlying31 info_sizes (g1.row_ _) rfl rfl ⟨by rw [hR.out]; rfl, below_setRow b0 (by omega) _⟩
  have HB := Lib.hid (gt0_lt hm hf2 hf3)
  cases hf4 : amtB n
  · have hR := Lib.hid (show putR f m n = noR 2 by simp [putR, hf1, hf2, hf3, hf4])
    unfold gt0 at hf3
    go_enter Try.func23, Try.ntmps23
    go_wp2_with (first | (refine wl_load 31 Try.underlying31 info_sizes rfl _ rfl g0 rfl ?_) | (go_at_call 48; with_reducible refine (c_ValidSizes f hf _).mono ?_; rw [hf1]; rintro e w1 ⟨rfl, hb⟩; have g0 := g0.keep hb; have g1 := g1.keep hb; have b0 := b0.trans (hb.mono b0.size); clear hb) | (go_at_call 44; refine (c_isFinite1 m hm _ _ _ _ (Holds.new _ _ _)).mono ?_; rw [hf2]; rintro e w2 ⟨rfl, hdr⟩; have hb := drew_below hdr; clear hdr; have g0 := (g0.alloc _).keep hb; have g1 := (g1.alloc _).keep hb; have b0 := (b0.alloc b0.size _).trans (hb.mono (b0.alloc b0.size _).size); clear hb) | (go_at_call 35; with_reducible refine (c_isAmount n hn _).mono ?_; rw [hf4]; rintro e w1 ⟨rfl, hb⟩; have g0 := g0.keep hb; have g1 := g1.keep hb; have b0 := b0.trans (hb.mono b0.size); clear hb) | (refine wl_store 31 info_sizes rfl _ _ rfl g1 (row_size _ _) rfl (congrArg Value.agg zrow_eq) (fun _ => rfl) ?_))
    exact ret_row2 rfl Try.underlying31 info_sizes (g1.row_ _) rfl rfl ⟨by rw [hR.out]; rfl, below_setRow b0 (by omega) _⟩
  have hR := Lib.hid (show putR f m n = madeR (putX f m n) by simp [putR, hf1, hf2, hf3, hf4])
  unfold gt0 at hf3
  have HL := Lib.hid (okle hf1)
  have HN := Lib.hid (amt_lt hf4)
  obtain ⟨G, c, hG, _⟩ := madeR_form _ (putX_le hf1 HB.out.2 HN.out)
  have HG := Lib.hid hG
  clear hG
  have HM := Lib.hid (fun w => c_checked (putX f m n) (fun j => le_inf _ (putX_le hf1 HB.out.2 HN.out j)) w)
  go_enter Try.func23, Try.ntmps23
  go_wp2_with (first | (refine wl_load 31 Try.underlying31 info_sizes rfl _ rfl g0 rfl ?_) | (go_at_call 48; with_reducible refine (c_ValidSizes f hf _).mono ?_; rw [hf1]; rintro e w1 ⟨rfl, hb⟩; have g0 := g0.keep hb; have g1 := g1.keep hb; have b0 := b0.trans (hb.mono b0.size); clear hb) | (go_at_call 44; refine (c_isFinite1 m hm _ _ _ _ (Holds.new _ _ _)).mono ?_; rw [hf2]; rintro e w2 ⟨rfl, hdr⟩; have hb := drew_below hdr; clear hdr; have g0 := (g0.alloc _).keep hb; have g1 := (g1.alloc _).keep hb; have b0 := (b0.alloc b0.size _).trans (hb.mono (b0.alloc b0.size _).size); clear hb) | (go_at_call 35; with_reducible refine (c_isAmount n hn _).mono ?_; rw [hf4]; rintro e w1 ⟨rfl, hb⟩; have g0 := g0.keep hb; have g1 := g1.keep hb; have b0 := b0.trans (hb.mono b0.size); clear hb) | (go_at_call 49; with_reducible refine (c_put f HL.out m n HB.out.2 HN.out _ _ _ g0).mono ?_; rintro e w2 ⟨rfl, hp⟩; have g1 := hp.keep _ _ _ (by omega) g1; have b0 := hp.bel _ _ (Nat.le_refl _) b0; have g0 : Holds w2 w.heap.size 31 (row 20 fun j => .float .f32 (putX f m n j)) := hp.row.to (fun j hj => by unfold putX; rw [if_pos hj]); clear hp) | (go_at_call 41; refine (HM.out _).mono ?_; rw [HG.out]; rintro e w1 ⟨rfl, hb⟩; have g0 := g0.keep hb; have g1 := g1.keep hb; have b0 := b0.trans (hb.mono b0.size); clear hb) | (refine wl_store 31 info_sizes rfl _ _ rfl g1 (row_size _ _) rfl rfl (fun _ => rfl) ?_))
  exact ret_row2 rfl Try.underlying31 info_sizes (g1.row_ _) rfl rfl ⟨by rw [hR.out, HG.out]; rfl, below_setRow b0 (by omega) _⟩
theorem walk_FnExactPutDroplets (f : Nat → Nat) (hf : ∀ j, f j < 4294967296) (m : Nat) (hm : m < 4294967296) (n : Nat) (hn : n < 4294967296) (w : World) : Calls Try.prog 7 #[.agg (row 20 fun j => .float .f32 (f j)), .float .f32 m, .float .f32 n] w fun e w' => e = .returned (.bool true) ∧ Below w.heap.size w w' := by
  obtain ⟨G, c, hR, h1⟩ := put_form f m n hm
  have HR := Lib.hid hR
  have H1 := Lib.hid h1
  clear hR h1
  have g0 := Holds.new w 30 (row 20 fun j => .float .f32 (f j))
  have b0 : Below w.heap.size w (w.alloc (.cells (row 20 fun j => .float .f32 (f j)) 30)) := (Below.refl _ _).alloc (by simp) _
  go_enter Try.func7, Try.ntmps7
  go_wp2_with (first | (refine wl_load 30 Try.underlying30 info_a20 rfl _ rfl g0 rfl ?_) | (refine wl_load 31 Try.underlying31 info_sizes rfl _ rfl r2 rfl ?_) | (refine wl_load 31 Try.underlying31 info_sizes rfl _ rfl r1 rfl ?_) | (go_at_call 22; with_reducible refine (c_toSizes f _).mono ?_; rintro e w1 ⟨rfl, hb⟩; have g0 := g0.keep hb; have r1 := r1.keep hb; have b0 := b0.trans (hb.mono b0.size); clear hb) | (go_at_call 22; with_reducible refine (c_toSizes f _).mono ?_; rintro e w1 ⟨rfl, hb⟩; have g0 := g0.keep hb; have b0 := b0.trans (hb.mono b0.size); clear hb) | (go_at_call 21; with_reducible refine (c_specPutDroplets f hf m hm n hn _).mono ?_; rw [HR.out]; rintro e w1 ⟨rfl, hb⟩; have g0 := g0.keep hb; have b0 := b0.trans (hb.mono b0.size); clear hb) | (go_at_call 23; with_reducible refine (c_implPutDroplets f hf m hm n hn _).mono ?_; rw [HR.out]; rintro e w1 ⟨rfl, hb⟩; have g0 := g0.keep hb; have r1 := r1.keep hb; have b0 := b0.trans (hb.mono b0.size); clear hb) | (refine wl_new 31 info_sizes rfl _ _ rfl rfl rfl rfl (fun _ => rfl) ?_; intro w2 hb r2; have g0 := g0.keep hb; have r1 := r1.keep hb; have b0 := b0.trans (hb.mono b0.size); clear hb) | (refine wl_new 31 info_sizes rfl _ _ rfl rfl rfl rfl (fun _ => rfl) ?_; intro w2 hb r1; have g0 := g0.keep hb; have b0 := b0.trans (hb.mono b0.size); clear hb) | (go_at_call 17; with_reducible refine (c_eqSizes G H1.out _).mono ?_; rintro e w1 ⟨rfl, hb⟩; skip; have b0 := b0.trans (hb.mono b0.size); clear hb))
  go_ret
  exact ⟨rfl, b0⟩
end Go.Proofs.Ytjhognfkjdccfaa
