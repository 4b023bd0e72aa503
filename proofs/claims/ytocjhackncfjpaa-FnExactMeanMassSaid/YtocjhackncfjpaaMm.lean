/-
  Contracts and the walk: the mean mass.
-/
import Derived.Test.YtocjhackncfjpaaAdd
namespace Go.Proofs.Ytocjhackncfjpaa
open Go.RowKit Fl
set_option maxRecDepth 20000
set_option maxHeartbeats 4000000
set_option linter.unusedSimpArgs false

theorem toldR_nb (t : Nat) : toldR (nb .f32 t) = .tuple #[.float .f32 0, .int .i64 4] := by unfold toldR; rw [nb_fin]; rfl
def meanR (f : Nat → Nat) : Value :=
  if okB f then (if cnt f 19 = 0 then .tuple #[.float .f32 0, .int .i64 6] else if fok .quo .f32 (wat f 0 19) (cnt f 19) then toldR (fv .quo .f32 (wat f 0 19) (cnt f 19)) else .tuple #[.float .f32 0, .int .i64 4])
  else .tuple #[.float .f32 0, .int .i64 1]
theorem mean_form (f : Nat → Nat) : ∃ (x : Nat) (c : Int), meanR f = .tuple #[.float .f32 x, .int .i64 c] ∧ cvok x = true ∧ num FloatKind.f64.format (cv x) := by
  unfold meanR
  split
  · split
    · exact pairF_form _ _ (by omega)
    · split
      · rename_i h; exact toldR_form _ (fv_lt h)
      · exact pairF_form _ _ (by omega)
  · exact pairF_form _ _ (by omega)
theorem cmp_nz {x : Nat} (hx : x ≤ 2139095040) (h : x ≠ 0) : FloatKind.f32.format.order x 0 = some .gt := by
  rw [ord_pos hx (by omega)]
  have : compare (x : Int) ((0 : Nat) : Int) = .gt := by simp only [compare, compareOfLessAndEq]; rw [if_neg (by omega), if_neg (by omega)]
  rw [this]
theorem c_specMeanMass (f : Nat → Nat) (hf : ∀ j, f j < 4294967296) (w : World) : Calls Try.prog 28 #[.agg (row 20 fun j => .float .f32 (f j))] w fun e w' => e = .returned (meanR f) ∧ Below w.heap.size w w' := by
  have g0 := Holds.new w 24 (row 20 fun j => .float .f32 (f j))
  have b0 : Below w.heap.size w (w.alloc (.cells (row 20 fun j => .float .f32 (f j)) 24)) := (Below.refl _ _).alloc (by simp) _
  cases hf1 : okB f
  · have hR := Lib.hid (show meanR f = .tuple #[.float .f32 0, .int .i64 1] by simp [meanR, hf1])
    go_enter Try.func28, Try.ntmps28
    go_wp2_with (first | (refine wl_load 24 Try.underlying24 info_sizes rfl _ rfl g0 rfl ?_) | (go_at_call 30; with_reducible refine (c_l01Ok f hf _ _ _ g0).mono ?_; rw [hf1]; rintro e w1 ⟨rfl, hdr⟩; have hb := drew_below hdr; clear hdr; have g0 := g0.keep hb; have b0 := b0.trans (hb.mono b0.size); clear hb))
    go_ret2
    exact ⟨by rw [hR.out]; rfl, b0⟩
  have hcn := cnt_ok hf1 19 (by omega)
  by_cases hz : cnt f 19 = 0
  · have hR := Lib.hid (show meanR f = .tuple #[.float .f32 0, .int .i64 6] by simp [meanR, hf1, hz])
    have ho : FloatKind.f32.format.order (cnt f 19) 0 = some .eq := by rw [hz]; exact order00
    clear hz
    go_enter Try.func28, Try.ntmps28
    go_wp2_with (first | (refine wl_load 24 Try.underlying24 info_sizes rfl _ rfl g0 rfl ?_) | (go_at_call 30; with_reducible refine (c_l01Ok f hf _ _ _ g0).mono ?_; rw [hf1]; rintro e w1 ⟨rfl, hdr⟩; have hb := drew_below hdr; clear hdr; have g0 := g0.keep hb; have b0 := b0.trans (hb.mono b0.size); clear hb) | (go_at_call 37; with_reducible refine (c_l01Count f hf1 _ _ _ g0).mono ?_; rintro e w1 ⟨rfl, rfl⟩))
    go_ret2
    exact ⟨by rw [hR.out]; rfl, b0⟩
  have ho := cmp_nz hcn hz
  cases hq : fok .quo .f32 (wat f 0 19) (cnt f 19)
  · have hR := Lib.hid (show meanR f = .tuple #[.float .f32 0, .int .i64 4] by simp [meanR, hf1, hz, hq])
    have HTD := Lib.hid (fun t w => c_l01Told (nb .f32 t) (nb_lt t) w)
    clear hz
    go_enter Try.func28, Try.ntmps28
    go_wp2_with (first | (refine wl_load 24 Try.underlying24 info_sizes rfl _ rfl g0 rfl ?_) | (go_at_call 30; with_reducible refine (c_l01Ok f hf _ _ _ g0).mono ?_; rw [hf1]; rintro e w1 ⟨rfl, hdr⟩; have hb := drew_below hdr; clear hdr; have g0 := g0.keep hb; have b0 := b0.trans (hb.mono b0.size); clear hb) | (go_at_call 37; with_reducible refine (c_l01Count f hf1 _ _ _ g0).mono ?_; rintro e w1 ⟨rfl, rfl⟩) | (go_at_call 42; refine (c_l01Water f hf1 0 (by omega) _ _ _ g0).mono ?_; rintro e w1 ⟨rfl, hdr⟩; have hb := drew_below hdr; clear hdr; have g0 := g0.keep hb; have b0 := b0.trans (hb.mono b0.size); clear hb) | (go_at_call 36; with_reducible refine (HTD.out _ _).mono ?_; rw [toldR_nb]; rintro e w1 ⟨rfl, hdr⟩; have hb := drew_below hdr; clear hdr; have g0 := g0.drew.keep hb; have b0 := b0.trans ((Below.refl _ _).drew); have b0 := b0.trans (hb.mono b0.size); clear hb))
    go_ret2
    exact ⟨by rw [hR.out]; rfl, b0⟩
  · obtain ⟨x, c, hx, _, _⟩ := toldR_form (fv .quo .f32 (wat f 0 19) (cnt f 19)) (fv_lt hq)
    have hlt := fv_lt hq
    have hR := Lib.hid (show meanR f = toldR (fv .quo .f32 (wat f 0 19) (cnt f 19)) by simp [meanR, hf1, hz, hq])
    have HT := Lib.hid hx
    clear hx
    have HTD := Lib.hid (fun w => c_l01Told _ hlt w)
    clear hz
    go_enter Try.func28, Try.ntmps28
    go_wp2_with (first | (refine wl_load 24 Try.underlying24 info_sizes rfl _ rfl g0 rfl ?_) | (go_at_call 30; with_reducible refine (c_l01Ok f hf _ _ _ g0).mono ?_; rw [hf1]; rintro e w1 ⟨rfl, hdr⟩; have hb := drew_below hdr; clear hdr; have g0 := g0.keep hb; have b0 := b0.trans (hb.mono b0.size); clear hb) | (go_at_call 37; with_reducible refine (c_l01Count f hf1 _ _ _ g0).mono ?_; rintro e w1 ⟨rfl, rfl⟩) | (go_at_call 42; refine (c_l01Water f hf1 0 (by omega) _ _ _ g0).mono ?_; rintro e w1 ⟨rfl, hdr⟩; have hb := drew_below hdr; clear hdr; have g0 := g0.keep hb; have b0 := b0.trans (hb.mono b0.size); clear hb) | (go_at_call 36; with_reducible refine (HTD.out _).mono ?_; rw [HT.out]; rintro e w1 ⟨rfl, hdr⟩; have hb := drew_below hdr; clear hdr; have g0 := g0.keep hb; have b0 := b0.trans (hb.mono b0.size); clear hb))
    go_ret2
    exact ⟨by rw [hR.out, HT.out]; rfl, b0⟩
theorem c_implMeanMass (f : Nat → Nat) (hf : ∀ j, f j < 4294967296) (w : World) : Calls Try.prog 29 #[.agg (row 20 fun j => .float .f32 (f j))] w fun e w' => e = .returned (meanR f) ∧ Below w.heap.size w w' := by
  have g0 := Holds.new w 24 (row 20 fun j => .float .f32 (f j))
  have b0 : Below w.heap.size w (w.alloc (.cells (row 20 fun j => .float .f32 (f j)) 24)) := (Below.refl _ _).alloc (by simp) _
  cases hf1 : okB f
  · have hR := Lib.hid (show meanR f = .tuple #[.float .f32 0, .int .i64 1] by simp [meanR, hf1])
    go_enter Try.func29, Try.ntmps29
    go_wp2_with (first | (refine wl_load 24 Try.underlying24 info_sizes rfl _ rfl g0 rfl ?_) | (go_at_call 33; with_reducible refine (c_ValidSizes f hf _).mono ?_; rw [hf1]; rintro e w1 ⟨rfl, hb⟩; have g0 := g0.keep hb; have b0 := b0.trans (hb.mono b0.size); clear hb))
    go_ret2
    exact ⟨by rw [hR.out]; rfl, b0⟩
  have hcn := cnt_ok hf1 19 (by omega)
  by_cases hz : cnt f 19 = 0
  · have hR := Lib.hid (show meanR f = .tuple #[.float .f32 0, .int .i64 6] by simp [meanR, hf1, hz])
    have ho : FloatKind.f32.format.order (cnt f 19) 0 = some .eq := by rw [hz]; exact order00
    clear hz
    go_enter Try.func29, Try.ntmps29
    go_wp2_with (first | (refine wl_load 24 Try.underlying24 info_sizes rfl _ rfl g0 rfl ?_) | (go_at_call 33; with_reducible refine (c_ValidSizes f hf _).mono ?_; rw [hf1]; rintro e w1 ⟨rfl, hb⟩; have g0 := g0.keep hb; have b0 := b0.trans (hb.mono b0.size); clear hb) | (go_at_call 39; with_reducible refine (c_count f hf1 _).mono ?_; rintro e w1 ⟨rfl, hb⟩; have g0 := g0.keep hb; have b0 := b0.trans (hb.mono b0.size); clear hb))
    go_ret2
    exact ⟨by rw [hR.out]; rfl, b0⟩
  have ho := cmp_nz hcn hz
  cases hq : fok .quo .f32 (wat f 0 19) (cnt f 19)
  · have hR := Lib.hid (show meanR f = .tuple #[.float .f32 0, .int .i64 4] by simp [meanR, hf1, hz, hq])
    have HTD := Lib.hid (fun t w => c_finite (nb .f32 t) (nb_lt t) w)
    clear hz
    go_enter Try.func29, Try.ntmps29
    have HW := Lib.hid (fun w => c_water f hf1 w)
    have HN := Lib.hid (fun w => c_count f hf1 w)
    go_wp2_with (first | (refine wl_load 24 Try.underlying24 info_sizes rfl _ rfl g0 rfl ?_) | (go_at_call 33; with_reducible refine (c_ValidSizes f hf _).mono ?_; rw [hf1]; rintro e w1 ⟨rfl, hb⟩; have g0 := g0.keep hb; have b0 := b0.trans (hb.mono b0.size); clear hb) | (go_at_call 39; with_reducible refine (c_count f hf1 _).mono ?_; rintro e w1 ⟨rfl, hb⟩; have g0 := g0.keep hb; have b0 := b0.trans (hb.mono b0.size); clear hb))
    refine wp_region_held_drew (S := fun x => Holds x w.heap.size 24 (row 20 fun j => .float .f32 (f j)) ∧ Below w.heap.size w x) (by kernel_rfl) ⟨g0.drew, b0.trans ((Below.refl _ _).drew)⟩ (fun hS => ?_)
    refine take_ (i := 0) (d := some 12) (v := .agg (row 20 fun j => .float .f32 (f j))) rfl rfl (by kernel_rfl) (by kernel_rfl) (by kernel_rfl) (fun _ _ _ h => h) (y_load 24 Try.underlying24 info_sizes (by rfl) _ rfl rfl (fun x hx => hx.1)) (by assumption) ?_
    try simp only [Act.put, List.setIfInBounds_toArray, List.set_cons_zero, List.set_cons_succ]
    refine take_ (i := 2) (d := some 14) (v := .agg (row 20 fun j => .float .f32 (f j))) rfl rfl (by kernel_rfl) (by kernel_rfl) (by kernel_rfl) (fun _ _ _ h => h) (y_load 24 Try.underlying24 info_sizes (by rfl) _ rfl rfl (fun x hx => hx.1)) (by assumption) ?_
    try simp only [Act.put, List.setIfInBounds_toArray, List.set_cons_zero, List.set_cons_succ]
    refine wpAnyH_ready (rs := [1]) (by kernel_rfl) (by simp) (AllReadyH.cons rfl (fun K hK => ?_) AllReadyH.nil)
    go_simp
    with_reducible refine (HW.out _).mono ?_
    rintro e v1 ⟨rfl, hb⟩
    go_simp
    refine hK.out _ _ ⟨hS.1.keep hb, hS.2.trans (hb.mono hS.2.size)⟩ (fun hS => ?_)
    clear hK K
    try simp only [Act.put, List.setIfInBounds_toArray, List.set_cons_zero, List.set_cons_succ]
    refine wpAnyH_ready (rs := [3]) (by kernel_rfl) (by simp) (AllReadyH.cons rfl (fun K hK => ?_) AllReadyH.nil)
    go_simp
    with_reducible refine (HN.out _).mono ?_
    rintro e v2 ⟨rfl, hb⟩
    go_simp
    refine hK.out _ _ ⟨hS.1.keep hb, hS.2.trans (hb.mono hS.2.size)⟩ (fun hS => ?_)
    clear hK K
    try simp only [Act.put, List.setIfInBounds_toArray, List.set_cons_zero, List.set_cons_succ]
    refine wpAnyH_ready (rs := [4]) (by kernel_rfl) (by simp) (AllReadyH.cons rfl (fun K hK => ?_) AllReadyH.nil)
    go_simp
    refine hK.out _ _ ⟨hS.1.drew, hS.2.trans ((Below.refl _ _).drew)⟩ (fun hS => ?_)
    clear hK K
    try simp only [Act.put, List.setIfInBounds_toArray, List.set_cons_zero, List.set_cons_succ]
    refine wpAnyH_ready (rs := [5]) (by kernel_rfl) (by simp) (AllReadyH.cons rfl (fun K hK => ?_) AllReadyH.nil)
    go_simp
    with_reducible refine (HTD.out _ _).mono ?_
    rw [toldR_nb]
    rintro e v3 ⟨rfl, hb⟩
    go_simp
    refine hK.out _ _ ⟨hS.1.keep hb, hS.2.trans (hb.mono hS.2.size)⟩ (fun hS => ?_)
    clear hK K
    try simp only [Act.put, List.setIfInBounds_toArray, List.set_cons_zero, List.set_cons_succ]
    refine take_ (i := 6) (d := some 18) (v := .float .f32 0) rfl rfl (by kernel_rfl) (by kernel_rfl) (by kernel_rfl) (fun _ _ _ h => h) (Or.inl ⟨by rfl, fun x hx => by go_simp⟩) (by assumption) ?_
    try simp only [Act.put, List.setIfInBounds_toArray, List.set_cons_zero, List.set_cons_succ]
    refine take_ (i := 7) (d := some 19) (v := .int .i64 4) rfl rfl (by kernel_rfl) (by kernel_rfl) (by kernel_rfl) (fun _ _ _ h => h) (Or.inl ⟨by rfl, fun x hx => by go_simp⟩) (by assumption) ?_
    try simp only [Act.put, List.setIfInBounds_toArray, List.set_cons_zero, List.set_cons_succ]
    refine take_ (i := 8) (d := some 2) (v := .float .f32 0) rfl rfl (by kernel_rfl) (by kernel_rfl) (by kernel_rfl) (fun _ _ _ h => h) (Or.inl ⟨by rfl, fun x hx => by go_simp⟩) (by assumption) ?_
    try simp only [Act.put, List.setIfInBounds_toArray, List.set_cons_zero, List.set_cons_succ]
    refine take_ (i := 9) (d := some 3) (v := .int .i64 4) rfl rfl (by kernel_rfl) (by kernel_rfl) (by kernel_rfl) (fun _ _ _ h => h) (Or.inl ⟨by rfl, fun x hx => by go_simp⟩) (by assumption) ?_
    try simp only [Act.put, List.setIfInBounds_toArray, List.set_cons_zero, List.set_cons_succ]
    refine wpAnyH_done (by kernel_rfl) ?_ _
    go_wp2
    go_ret2
    exact ⟨by rw [hR.out]; rfl, hS.2⟩
  · obtain ⟨x, c, hx, _, _⟩ := toldR_form (fv .quo .f32 (wat f 0 19) (cnt f 19)) (fv_lt hq)
    have hlt := fv_lt hq
    have hR := Lib.hid (show meanR f = toldR (fv .quo .f32 (wat f 0 19) (cnt f 19)) by simp [meanR, hf1, hz, hq])
    have HT := Lib.hid hx
    clear hx
    have HTD := Lib.hid (fun w => c_finite _ hlt w)
    clear hz
    go_enter Try.func29, Try.ntmps29
    have HW := Lib.hid (fun w => c_water f hf1 w)
    have HN := Lib.hid (fun w => c_count f hf1 w)
    go_wp2_with (first | (refine wl_load 24 Try.underlying24 info_sizes rfl _ rfl g0 rfl ?_) | (go_at_call 33; with_reducible refine (c_ValidSizes f hf _).mono ?_; rw [hf1]; rintro e w1 ⟨rfl, hb⟩; have g0 := g0.keep hb; have b0 := b0.trans (hb.mono b0.size); clear hb) | (go_at_call 39; with_reducible refine (c_count f hf1 _).mono ?_; rintro e w1 ⟨rfl, hb⟩; have g0 := g0.keep hb; have b0 := b0.trans (hb.mono b0.size); clear hb))
    refine wp_region_held_drew (S := fun x => Holds x w.heap.size 24 (row 20 fun j => .float .f32 (f j)) ∧ Below w.heap.size w x) (by kernel_rfl) ⟨g0.drew, b0.trans ((Below.refl _ _).drew)⟩ (fun hS => ?_)
    refine take_ (i := 0) (d := some 12) (v := .agg (row 20 fun j => .float .f32 (f j))) rfl rfl (by kernel_rfl) (by kernel_rfl) (by kernel_rfl) (fun _ _ _ h => h) (y_load 24 Try.underlying24 info_sizes (by rfl) _ rfl rfl (fun x hx => hx.1)) (by assumption) ?_
    try simp only [Act.put, List.setIfInBounds_toArray, List.set_cons_zero, List.set_cons_succ]
    refine take_ (i := 2) (d := some 14) (v := .agg (row 20 fun j => .float .f32 (f j))) rfl rfl (by kernel_rfl) (by kernel_rfl) (by kernel_rfl) (fun _ _ _ h => h) (y_load 24 Try.underlying24 info_sizes (by rfl) _ rfl rfl (fun x hx => hx.1)) (by assumption) ?_
    try simp only [Act.put, List.setIfInBounds_toArray, List.set_cons_zero, List.set_cons_succ]
    refine wpAnyH_ready (rs := [1]) (by kernel_rfl) (by simp) (AllReadyH.cons rfl (fun K hK => ?_) AllReadyH.nil)
    go_simp
    with_reducible refine (HW.out _).mono ?_
    rintro e v1 ⟨rfl, hb⟩
    go_simp
    refine hK.out _ _ ⟨hS.1.keep hb, hS.2.trans (hb.mono hS.2.size)⟩ (fun hS => ?_)
    clear hK K
    try simp only [Act.put, List.setIfInBounds_toArray, List.set_cons_zero, List.set_cons_succ]
    refine wpAnyH_ready (rs := [3]) (by kernel_rfl) (by simp) (AllReadyH.cons rfl (fun K hK => ?_) AllReadyH.nil)
    go_simp
    with_reducible refine (HN.out _).mono ?_
    rintro e v2 ⟨rfl, hb⟩
    go_simp
    refine hK.out _ _ ⟨hS.1.keep hb, hS.2.trans (hb.mono hS.2.size)⟩ (fun hS => ?_)
    clear hK K
    try simp only [Act.put, List.setIfInBounds_toArray, List.set_cons_zero, List.set_cons_succ]
    refine wpAnyH_ready (rs := [4]) (by kernel_rfl) (by simp) (AllReadyH.cons rfl (fun K hK => ?_) AllReadyH.nil)
    go_simp
    refine hK.out _ _ hS (fun hS => ?_)
    clear hK K
    try simp only [Act.put, List.setIfInBounds_toArray, List.set_cons_zero, List.set_cons_succ]
    refine wpAnyH_ready (rs := [5]) (by kernel_rfl) (by simp) (AllReadyH.cons rfl (fun K hK => ?_) AllReadyH.nil)
    go_simp
    with_reducible refine (HTD.out _).mono ?_
    rw [HT.out]
    rintro e v3 ⟨rfl, hb⟩
    go_simp
    refine hK.out _ _ ⟨hS.1.keep hb, hS.2.trans (hb.mono hS.2.size)⟩ (fun hS => ?_)
    clear hK K
    try simp only [Act.put, List.setIfInBounds_toArray, List.set_cons_zero, List.set_cons_succ]
    refine take_ (i := 6) (d := some 18) (v := .float .f32 x) rfl rfl (by kernel_rfl) (by kernel_rfl) (by kernel_rfl) (fun _ _ _ h => h) (Or.inl ⟨by rfl, fun x hx => by go_simp⟩) (by assumption) ?_
    try simp only [Act.put, List.setIfInBounds_toArray, List.set_cons_zero, List.set_cons_succ]
    refine take_ (i := 7) (d := some 19) (v := .int .i64 c) rfl rfl (by kernel_rfl) (by kernel_rfl) (by kernel_rfl) (fun _ _ _ h => h) (Or.inl ⟨by rfl, fun x hx => by go_simp⟩) (by assumption) ?_
    try simp only [Act.put, List.setIfInBounds_toArray, List.set_cons_zero, List.set_cons_succ]
    refine take_ (i := 8) (d := some 2) (v := .float .f32 x) rfl rfl (by kernel_rfl) (by kernel_rfl) (by kernel_rfl) (fun _ _ _ h => h) (Or.inl ⟨by rfl, fun x hx => by go_simp⟩) (by assumption) ?_
    try simp only [Act.put, List.setIfInBounds_toArray, List.set_cons_zero, List.set_cons_succ]
    refine take_ (i := 9) (d := some 3) (v := .int .i64 c) rfl rfl (by kernel_rfl) (by kernel_rfl) (by kernel_rfl) (fun _ _ _ h => h) (Or.inl ⟨by rfl, fun x hx => by go_simp⟩) (by assumption) ?_
    try simp only [Act.put, List.setIfInBounds_toArray, List.set_cons_zero, List.set_cons_succ]
    refine wpAnyH_done (by kernel_rfl) ?_ _
    go_wp2
    go_ret2
    exact ⟨by rw [hR.out, HT.out]; rfl, hS.2⟩
theorem walk_FnExactMeanMass (f : Nat → Nat) (hf : ∀ j, f j < 4294967296) (w : World) : Calls Try.prog 10 #[.agg (row 20 fun j => .float .f32 (f j))] w fun e w' => e = .returned (.bool true) ∧ Below w.heap.size w w' := by
  have hcv := fun (x : Nat) (h : cvok x = true) (w : World) => run_cv (P := Try.prog) w 22 30 (by kernel_rfl) Try.underlying30 x h
  obtain ⟨x, c, hR, h1, h2⟩ := mean_form f
  have HR := Lib.hid hR
  have H2 := Lib.hid h2
  clear hR h2
  have g0 := Holds.new w 23 (row 20 fun j => .float .f32 (f j))
  have b0 : Below w.heap.size w (w.alloc (.cells (row 20 fun j => .float .f32 (f j)) 23)) := (Below.refl _ _).alloc (by simp) _
  go_enter Try.func10, Try.ntmps10
  go_wp2_with (first | (refine wl_load 23 Try.underlying23 info_a20 rfl _ rfl g0 rfl ?_) | (go_at_call 12; with_reducible refine (c_toSizes f _).mono ?_; rintro e w1 ⟨rfl, hb⟩; have g0 := g0.keep hb; have b0 := b0.trans (hb.mono b0.size); clear hb) | (go_at_call 28; with_reducible refine (c_specMeanMass f hf _).mono ?_; rw [HR.out]; rintro e w1 ⟨rfl, hb⟩; have g0 := g0.keep hb; have b0 := b0.trans (hb.mono b0.size); clear hb) | (go_at_call 29; with_reducible refine (c_implMeanMass f hf _).mono ?_; rw [HR.out]; rintro e w1 ⟨rfl, hb⟩; have g0 := g0.keep hb; have b0 := b0.trans (hb.mono b0.size); clear hb) | (go_at_call 15; refine (c_sameFloat _ H2.out _).mono ?_; rintro e w1 ⟨rfl, rfl⟩))
  go_ret
  exact ⟨rfl, b0⟩
end Go.Proofs.Ytocjhackncfjpaa
