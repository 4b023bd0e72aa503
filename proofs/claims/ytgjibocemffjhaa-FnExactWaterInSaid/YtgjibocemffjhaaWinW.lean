/-
  The law's walk: the water of droplets and air.
-/
import Derived.Test.YtgjibocemffjhaaWin
namespace Go.Proofs.Ytgjibocemffjhaa
open Go.RowKit Fl
set_option maxRecDepth 20000
set_option maxHeartbeats 4000000
set_option linter.unusedSimpArgs false
theorem walk_FnExactWaterIn (f : Nat → Nat) (hf : ∀ j, f j < 4294967296) (h v : Nat) (_hh : h < 4294967296) (hv : v < 4294967296) (w : World) : Calls Try.prog 4 #[.agg (row 20 fun j => .float .f32 (f j)), .agg #[.float .f32 h, .float .f32 v]] w fun e w' => e = .returned (.bool true) ∧ Below w.heap.size w w' := by
  have hcv := fun (x : Nat) (h : cvok x = true) (w : World) => run_cv (P := Try.prog) w 22 37 (by kernel_rfl) Try.underlying37 x h
  obtain ⟨X, C, hR, h1, h2⟩ := win_form f h v
  have HA := Lib.hid (fun w => c_toSizes f w)
  have HB := Lib.hid (fun w => c_toAir h v w)
  have HC := Lib.hid (fun w => c_specWaterIn f hf h v hv w)
  have HD := Lib.hid (fun w => c_implWaterIn f hf h v hv w)
  rw [hR] at HC HD
  have H2 := Lib.hid h2
  clear hR h2
  have g0 : Holds ((w.alloc (.cells (row 20 fun j => .float .f32 (f j)) 31)).alloc (.cells #[.float .f32 h, .float .f32 v] 24)) w.heap.size 31 (row 20 fun j => .float .f32 (f j)) := (Holds.new _ _ _).alloc _
  have g1 : Holds ((w.alloc (.cells (row 20 fun j => .float .f32 (f j)) 31)).alloc (.cells #[.float .f32 h, .float .f32 v] 24)) (w.heap.size + 1) 24 #[.float .f32 h, .float .f32 v] := Holds.new' _ _ _ (by simp)
  have b0 : Below w.heap.size w ((w.alloc (.cells (row 20 fun j => .float .f32 (f j)) 31)).alloc (.cells #[.float .f32 h, .float .f32 v] 24)) := ((Below.refl _ _).alloc (by simp) _).alloc (by simp) _
  go_enter Try.func4, Try.ntmps4
  go_wp2
  obtain ⟨u0, hu0⟩ : ∃ u0, u0 = ((w.alloc (.cells (row 20 fun j => .float .f32 (f j)) 31)).alloc (.cells #[.float .f32 h, .float .f32 v] 24)) := ⟨_, rfl⟩
  rw [← hu0] at g0 g1 b0 ⊢
  clear hu0
  refine Code.wp_mono (Q := fun e a' x => e = .normal ∧ a' = { tmps := #[.agg (row 20 fun j => .float .f32 (f j)), .agg #[.float .f32 h, .float .f32 v], .pointer (some ⟨w.heap.size, 0, none⟩), .pointer (some ⟨(w.heap.size + 1), 0, none⟩), .bool false, .float .f32 X, .int .i64 C, undef, undef, .tuple #[.float .f32 X, .int .i64 C], .agg (row 20 fun j => .float .f32 (f j)), .agg (row 20 fun j => .float .f32 (f j)), .agg #[.float .f32 h, .float .f32 v], .agg #[.float .f32 h, .float .f32 v], .tuple #[.float .f32 X, .int .i64 C], .float .f32 X, .int .i64 C, undef, undef, undef, undef, undef, undef, undef, undef, undef, undef, undef, undef, undef, undef, undef, undef, undef, undef, undef], defers := [] } ∧ (fun x => Holds x w.heap.size 31 (row 20 fun j => .float .f32 (f j)) ∧ Holds x (w.heap.size + 1) 24 #[.float .f32 h, .float .f32 v] ∧ Below w.heap.size w x) x) ?_ ?_
  · rintro e a' x1 ⟨rfl, rfl, g0, g1, b0⟩
    go_wp2
    refine Code.wp_mono (Q := fun e a' x => e = .normal ∧ a' = { tmps := #[.agg (row 20 fun j => .float .f32 (f j)), .agg #[.float .f32 h, .float .f32 v], .pointer (some ⟨w.heap.size, 0, none⟩), .pointer (some ⟨(w.heap.size + 1), 0, none⟩), .bool false, .float .f32 X, .int .i64 C, .float .f32 X, .int .i64 C, .tuple #[.float .f32 X, .int .i64 C], .agg (row 20 fun j => .float .f32 (f j)), .agg (row 20 fun j => .float .f32 (f j)), .agg #[.float .f32 h, .float .f32 v], .agg #[.float .f32 h, .float .f32 v], .tuple #[.float .f32 X, .int .i64 C], .float .f32 X, .int .i64 C, .tuple #[.float .f32 X, .int .i64 C], .agg (row 20 fun j => .float .f32 (f j)), .agg (row 20 fun j => .float .f32 (f j)), .agg #[.float .f32 h, .float .f32 v], .agg #[.float .f32 h, .float .f32 v], .tuple #[.float .f32 X, .int .i64 C], .float .f32 X, .int .i64 C, undef, undef, undef, undef, undef, undef, undef, undef, undef, undef, undef], defers := [] } ∧ (fun x => Holds x w.heap.size 31 (row 20 fun j => .float .f32 (f j)) ∧ Holds x (w.heap.size + 1) 24 #[.float .f32 h, .float .f32 v] ∧ Below w.heap.size w x) x) ?_ ?_
    · rintro e a' x2 ⟨rfl, rfl, g0, g1, b0⟩
      go_wp2_with (go_at_call 18; refine (c_sameFloat _ H2.out _).mono ?_; rintro e w1 ⟨rfl, rfl⟩)
      go_ret
      exact ⟨rfl, b0⟩
    · refine wp_region_held_drew (S := fun x => Holds x w.heap.size 31 (row 20 fun j => .float .f32 (f j)) ∧ Holds x (w.heap.size + 1) 24 #[.float .f32 h, .float .f32 v] ∧ Below w.heap.size w x) (by kernel_rfl) ⟨g0.drew, g1.drew, b0.trans ((Below.refl _ _).drew)⟩ (fun hS => ?_)
      refine takeA (i := 0) (d := some 18) (v := .agg (row 20 fun j => .float .f32 (f j))) rfl rfl (by kernel_rfl) (by kernel_rfl) (by kernel_rfl) (fun _ _ _ h => nomatch h.1) (y_loadA 31 Try.underlying31 rfl (row 20 fun j => .float .f32 (f j)) (by rw [row_size]; exact info_a20) (by rfl) _ rfl rfl (fun x hS => hS.1)) (by assumption) ?_
      try simp only [Act.put, List.setIfInBounds_toArray, List.set_cons_zero, List.set_cons_succ]
      refine takeA (i := 2) (d := some 20) (v := .agg #[.float .f32 h, .float .f32 v]) rfl rfl (by kernel_rfl) (by kernel_rfl) (by kernel_rfl) (fun _ _ _ h => nomatch h.1) (y_loadA 24 Try.underlying24 rfl #[.float .f32 h, .float .f32 v] info_lair (by rfl) _ rfl rfl (fun x hS => hS.2.1)) (by assumption) ?_
      try simp only [Act.put, List.setIfInBounds_toArray, List.set_cons_zero, List.set_cons_succ]
      refine wpAnyH_ready (rs := [1]) (by kernel_rfl) (by simp) (AllReadyH.cons rfl (fun K hK => ?_) AllReadyH.nil)
      go_simp
      with_reducible refine (HA.out _).mono ?_
      rintro e v1 ⟨rfl, hb⟩
      go_simp
      refine hK.out _ _ ⟨hS.1.keep hb, hS.2.1.keep hb, hS.2.2.trans (hb.mono hS.2.2.size)⟩ (fun hS => ?_)
      clear hK K
      try simp only [Act.put, List.setIfInBounds_toArray, List.set_cons_zero, List.set_cons_succ]
      refine wpAnyH_ready (rs := [3]) (by kernel_rfl) (by simp) (AllReadyH.cons rfl (fun K hK => ?_) AllReadyH.nil)
      go_simp
      with_reducible refine (HB.out _).mono ?_
      rintro e v2 ⟨rfl, hb⟩
      go_simp
      refine hK.out _ _ ⟨hS.1.keep hb, hS.2.1.keep hb, hS.2.2.trans (hb.mono hS.2.2.size)⟩ (fun hS => ?_)
      clear hK K
      try simp only [Act.put, List.setIfInBounds_toArray, List.set_cons_zero, List.set_cons_succ]
      refine wpAnyH_ready (rs := [4]) (by kernel_rfl) (by simp) (AllReadyH.cons rfl (fun K hK => ?_) AllReadyH.nil)
      go_simp
      with_reducible refine (HD.out _).mono ?_
      rintro e v3 ⟨rfl, hb⟩
      go_simp
      refine hK.out _ _ ⟨hS.1.keep hb, hS.2.1.keep hb, hS.2.2.trans (hb.mono hS.2.2.size)⟩ (fun hS => ?_)
      clear hK K
      try simp only [Act.put, List.setIfInBounds_toArray, List.set_cons_zero, List.set_cons_succ]
      refine takeA (i := 5) (d := some 17) (v := .tuple #[.float .f32 X, .int .i64 C]) rfl rfl (by kernel_rfl) (by kernel_rfl) (by kernel_rfl) (fun _ _ _ h => nomatch h.1) (Or.inl ⟨by rfl, fun x hx => by go_simp⟩) (by assumption) ?_
      try simp only [Act.put, List.setIfInBounds_toArray, List.set_cons_zero, List.set_cons_succ]
      refine takeA (i := 6) (d := some 23) (v := .float .f32 X) rfl rfl (by kernel_rfl) (by kernel_rfl) (by kernel_rfl) (fun _ _ _ h => nomatch h.1) (Or.inl ⟨by rfl, fun x hx => by go_simp⟩) (by assumption) ?_
      try simp only [Act.put, List.setIfInBounds_toArray, List.set_cons_zero, List.set_cons_succ]
      refine takeA (i := 7) (d := some 24) (v := .int .i64 C) rfl rfl (by kernel_rfl) (by kernel_rfl) (by kernel_rfl) (fun _ _ _ h => nomatch h.1) (Or.inl ⟨by rfl, fun x hx => by go_simp⟩) (by assumption) ?_
      try simp only [Act.put, List.setIfInBounds_toArray, List.set_cons_zero, List.set_cons_succ]
      refine takeA (i := 8) (d := some 7) (v := .float .f32 X) rfl rfl (by kernel_rfl) (by kernel_rfl) (by kernel_rfl) (fun _ _ _ h => nomatch h.1) (Or.inl ⟨by rfl, fun x hx => by go_simp⟩) (by assumption) ?_
      try simp only [Act.put, List.setIfInBounds_toArray, List.set_cons_zero, List.set_cons_succ]
      refine takeA (i := 9) (d := some 8) (v := .int .i64 C) rfl rfl (by kernel_rfl) (by kernel_rfl) (by kernel_rfl) (fun _ _ _ h => nomatch h.1) (Or.inl ⟨by rfl, fun x hx => by go_simp⟩) (by assumption) ?_
      try simp only [Act.put, List.setIfInBounds_toArray, List.set_cons_zero, List.set_cons_succ]
      refine wpAnyH_done (by kernel_rfl) ?_ _
      exact ⟨rfl, rfl, hS⟩
  · refine wp_region_held_drew (S := fun x => Holds x w.heap.size 31 (row 20 fun j => .float .f32 (f j)) ∧ Holds x (w.heap.size + 1) 24 #[.float .f32 h, .float .f32 v] ∧ Below w.heap.size w x) (by kernel_rfl) ⟨g0.drew, g1.drew, b0.trans ((Below.refl _ _).drew)⟩ (fun hS => ?_)
    refine takeA (i := 0) (d := some 10) (v := .agg (row 20 fun j => .float .f32 (f j))) rfl rfl (by kernel_rfl) (by kernel_rfl) (by kernel_rfl) (fun _ _ _ h => nomatch h.1) (y_loadA 31 Try.underlying31 rfl (row 20 fun j => .float .f32 (f j)) (by rw [row_size]; exact info_a20) (by rfl) _ rfl rfl (fun x hS => hS.1)) (by assumption) ?_
    try simp only [Act.put, List.setIfInBounds_toArray, List.set_cons_zero, List.set_cons_succ]
    refine takeA (i := 2) (d := some 12) (v := .agg #[.float .f32 h, .float .f32 v]) rfl rfl (by kernel_rfl) (by kernel_rfl) (by kernel_rfl) (fun _ _ _ h => nomatch h.1) (y_loadA 24 Try.underlying24 rfl #[.float .f32 h, .float .f32 v] info_lair (by rfl) _ rfl rfl (fun x hS => hS.2.1)) (by assumption) ?_
    try simp only [Act.put, List.setIfInBounds_toArray, List.set_cons_zero, List.set_cons_succ]
    refine wpAnyH_ready (rs := [1]) (by kernel_rfl) (by simp) (AllReadyH.cons rfl (fun K hK => ?_) AllReadyH.nil)
    go_simp
    with_reducible refine (HA.out _).mono ?_
    rintro e v1 ⟨rfl, hb⟩
    go_simp
    refine hK.out _ _ ⟨hS.1.keep hb, hS.2.1.keep hb, hS.2.2.trans (hb.mono hS.2.2.size)⟩ (fun hS => ?_)
    clear hK K
    try simp only [Act.put, List.setIfInBounds_toArray, List.set_cons_zero, List.set_cons_succ]
    refine wpAnyH_ready (rs := [3]) (by kernel_rfl) (by simp) (AllReadyH.cons rfl (fun K hK => ?_) AllReadyH.nil)
    go_simp
    with_reducible refine (HB.out _).mono ?_
    rintro e v2 ⟨rfl, hb⟩
    go_simp
    refine hK.out _ _ ⟨hS.1.keep hb, hS.2.1.keep hb, hS.2.2.trans (hb.mono hS.2.2.size)⟩ (fun hS => ?_)
    clear hK K
    try simp only [Act.put, List.setIfInBounds_toArray, List.set_cons_zero, List.set_cons_succ]
    refine wpAnyH_ready (rs := [4]) (by kernel_rfl) (by simp) (AllReadyH.cons rfl (fun K hK => ?_) AllReadyH.nil)
    go_simp
    with_reducible refine (HC.out _).mono ?_
    rintro e v3 ⟨rfl, hb⟩
    go_simp
    refine hK.out _ _ ⟨hS.1.keep hb, hS.2.1.keep hb, hS.2.2.trans (hb.mono hS.2.2.size)⟩ (fun hS => ?_)
    clear hK K
    try simp only [Act.put, List.setIfInBounds_toArray, List.set_cons_zero, List.set_cons_succ]
    refine takeA (i := 5) (d := some 9) (v := .tuple #[.float .f32 X, .int .i64 C]) rfl rfl (by kernel_rfl) (by kernel_rfl) (by kernel_rfl) (fun _ _ _ h => nomatch h.1) (Or.inl ⟨by rfl, fun x hx => by go_simp⟩) (by assumption) ?_
    try simp only [Act.put, List.setIfInBounds_toArray, List.set_cons_zero, List.set_cons_succ]
    refine takeA (i := 6) (d := some 15) (v := .float .f32 X) rfl rfl (by kernel_rfl) (by kernel_rfl) (by kernel_rfl) (fun _ _ _ h => nomatch h.1) (Or.inl ⟨by rfl, fun x hx => by go_simp⟩) (by assumption) ?_
    try simp only [Act.put, List.setIfInBounds_toArray, List.set_cons_zero, List.set_cons_succ]
    refine takeA (i := 7) (d := some 16) (v := .int .i64 C) rfl rfl (by kernel_rfl) (by kernel_rfl) (by kernel_rfl) (fun _ _ _ h => nomatch h.1) (Or.inl ⟨by rfl, fun x hx => by go_simp⟩) (by assumption) ?_
    try simp only [Act.put, List.setIfInBounds_toArray, List.set_cons_zero, List.set_cons_succ]
    refine takeA (i := 8) (d := some 5) (v := .float .f32 X) rfl rfl (by kernel_rfl) (by kernel_rfl) (by kernel_rfl) (fun _ _ _ h => nomatch h.1) (Or.inl ⟨by rfl, fun x hx => by go_simp⟩) (by assumption) ?_
    try simp only [Act.put, List.setIfInBounds_toArray, List.set_cons_zero, List.set_cons_succ]
    refine takeA (i := 9) (d := some 6) (v := .int .i64 C) rfl rfl (by kernel_rfl) (by kernel_rfl) (by kernel_rfl) (fun _ _ _ h => nomatch h.1) (Or.inl ⟨by rfl, fun x hx => by go_simp⟩) (by assumption) ?_
    try simp only [Act.put, List.setIfInBounds_toArray, List.set_cons_zero, List.set_cons_succ]
    refine wpAnyH_done (by kernel_rfl) ?_ _
    exact ⟨rfl, rfl, hS⟩
end Go.Proofs.Ytgjibocemffjhaa
