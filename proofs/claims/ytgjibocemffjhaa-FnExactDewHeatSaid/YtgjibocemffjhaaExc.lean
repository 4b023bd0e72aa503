/-
  Contracts and walks: excess, humidity.
-/
import Derived.Test.YtgjibocemffjhaaSat
namespace Go.Proofs.Ytgjibocemffjhaa
open Go.RowKit Fl
set_option maxRecDepth 20000
set_option maxHeartbeats 4000000
set_option linter.unusedSimpArgs false

theorem sub_two {a b : Nat} (ha : a < 2139095040) (hb : b < 2139095040) : fok .sub .f32 a b = true ∧ isfin (fv .sub .f32 a b) = true := by
  obtain ⟨r, h1, h2⟩ := add_spec D32 (fmt_ok .f32).1 false true a b ha hb
  have h3 := sub_add D32 a false b hb
  have e : D32.word false b = b := rfl
  have e' : D32.word false a = a := rfl
  rw [e] at h3
  rw [e'] at h1
  obtain ⟨h4, h5⟩ := fok_of (op := .sub) (k := .f32) (x := a) (y := b) (h3.trans h1)
  refine ⟨h4, ?_⟩
  rw [h5]
  refine word_fin _ _ ?_
  have hr : r ≤ max a b := by
    refine h2.mono (IsRnd.exact _ (max a b)) (cast_le ?_)
    have x := sv_mono D32 (Nat.le_max_left a b)
    have y := sv_mono D32 (Nat.le_max_right a b)
    have e1 : sgn D32 false a = (sv D32 a : Int) := rfl
    have e2 : sgn D32 true b = -(sv D32 b : Int) := rfl
    rw [e1, e2]
    generalize sv D32 a = A at *
    generalize sv D32 b = B at *
    generalize sv D32 (max a b) = M at *
    omega
  have : max a b < 2139095040 := by omega
  exact Nat.lt_of_le_of_lt (Nat.min_le_left _ _) (by omega)
theorem told_fin {x : Nat} (h : isfin x = true) : toldR x = .tuple #[.float .f32 x, .int .i64 0] := by simp [toldR, h]
theorem c_l02Excess (h v S : Nat) (hs : SatOk h S) (ho : fok .sub .f32 v S = true) (p1 : Nat) (t1 : TypeId) (w : World) (g0 : Holds w p1 t1 #[.float .f32 h, .float .f32 v]) : Calls Try.prog 50 #[.pointer (some ⟨p1, 0, none⟩)] w fun e w' => e = .returned (.float .f32 (fv .sub .f32 v S)) ∧ Drew w w' := by
  have HC := Lib.hid hs.spec
  have k0 := (g0.drew).cell 0
  have k1 := (g0.drew).cell 1
  clear hs g0
  go_enter Try.func50, Try.ntmps50
  go_wp2
  go_region_with ((go_at_call 47; with_reducible refine (HC.out _).mono ?_; rintro e w1 ⟨rfl, rfl⟩))
  all_goals go_wp2
  all_goals go_ret
  all_goals exact ⟨rfl, (Drew.refl _).drew⟩
theorem c_excess (h v S : Nat) (hs : SatOk h S) (ho : fok .sub .f32 v S = true) (w : World) : Calls Try.prog 51 #[.agg #[.float .f32 h, .float .f32 v]] w fun e w' => e = .returned (.float .f32 (fv .sub .f32 v S)) ∧ Below w.heap.size w w' := by
  have HC := Lib.hid hs.impl
  have g0 := Holds.new w 25 #[.float .f32 h, .float .f32 v]
  have b0 : Below w.heap.size w (w.alloc (.cells #[.float .f32 h, .float .f32 v] 25)) := (Below.refl _ _).alloc (by simp) _
  clear hs
  go_enter Try.func51, Try.ntmps51
  go_wp2
  refine Code.wp_mono (Q := fun e a' x => e = .normal ∧ a' = { tmps := #[.agg #[.float .f32 h, .float .f32 v], .pointer (some ⟨w.heap.size, 0, none⟩), .float .f32 (fv .sub .f32 v S), .pointer (some ⟨w.heap.size, 1, none⟩), .float .f32 v, .pointer (some ⟨w.heap.size, 0, none⟩), .float .f32 h, .float .f32 S, .float .f32 (fv .sub .f32 v S)], defers := [] } ∧ (fun x => Holds x w.heap.size 25 #[.float .f32 h, .float .f32 v] ∧ Below w.heap.size w x) x) ?_ ?_
  · rintro e a' x1 ⟨rfl, rfl, g0, b0⟩
    go_wp2
    go_ret
    exact ⟨rfl, b0⟩
  · refine wp_region_held_drew (S := fun x => Holds x w.heap.size 25 #[.float .f32 h, .float .f32 v] ∧ Below w.heap.size w x) (by kernel_rfl) ⟨g0.drew, b0.trans ((Below.refl _ _).drew)⟩ (fun hS => ?_)
    refine takeA (i := 0) (d := some 3) (v := .pointer (some ⟨w.heap.size, 1, none⟩)) rfl rfl (by kernel_rfl) (by kernel_rfl) (by kernel_rfl) (fun _ _ _ h => nomatch h.1) (Or.inl ⟨by rfl, fun x hx => by go_simp⟩) (by assumption) ?_
    try simp only [Act.put, List.setIfInBounds_toArray, List.set_cons_zero, List.set_cons_succ]
    refine takeA (i := 1) (d := some 4) (v := .float .f32 v) rfl rfl (by kernel_rfl) (by kernel_rfl) (by kernel_rfl) (fun _ _ _ h => nomatch h.1) (Or.inl ⟨by rfl, fun x hS => by have hcell := hS.1.cell 1; go_simp⟩) (by assumption) ?_
    try simp only [Act.put, List.setIfInBounds_toArray, List.set_cons_zero, List.set_cons_succ]
    refine takeA (i := 2) (d := some 5) (v := .pointer (some ⟨w.heap.size, 0, none⟩)) rfl rfl (by kernel_rfl) (by kernel_rfl) (by kernel_rfl) (fun _ _ _ h => nomatch h.1) (Or.inl ⟨by rfl, fun x hx => by go_simp⟩) (by assumption) ?_
    try simp only [Act.put, List.setIfInBounds_toArray, List.set_cons_zero, List.set_cons_succ]
    refine takeA (i := 3) (d := some 6) (v := .float .f32 h) rfl rfl (by kernel_rfl) (by kernel_rfl) (by kernel_rfl) (fun _ _ _ h => nomatch h.1) (Or.inl ⟨by rfl, fun x hS => by have hcell := hS.1.cell 0; go_simp⟩) (by assumption) ?_
    try simp only [Act.put, List.setIfInBounds_toArray, List.set_cons_zero, List.set_cons_succ]
    refine wpAnyH_ready (rs := [4]) (by kernel_rfl) (by simp) (AllReadyH.cons rfl (fun K hK => ?_) AllReadyH.nil)
    go_simp
    with_reducible refine (HC.out _).mono ?_
    rintro e v1 ⟨rfl, rfl⟩
    go_simp
    refine hK.out _ _ hS (fun hS => ?_)
    clear hK K
    try simp only [Act.put, List.setIfInBounds_toArray, List.set_cons_zero, List.set_cons_succ]
    refine takeA (i := 5) (d := some 8) (v := .float .f32 (fv .sub .f32 v S)) rfl rfl (by kernel_rfl) (by kernel_rfl) (by kernel_rfl) (fun _ _ _ h => nomatch h.1) (Or.inl ⟨by rfl, fun x hx => by go_simp⟩) (by assumption) ?_
    try simp only [Act.put, List.setIfInBounds_toArray, List.set_cons_zero, List.set_cons_succ]
    refine takeA (i := 6) (d := some 2) (v := .float .f32 (fv .sub .f32 v S)) rfl rfl (by kernel_rfl) (by kernel_rfl) (by kernel_rfl) (fun _ _ _ h => nomatch h.1) (Or.inl ⟨by rfl, fun x hx => by go_simp⟩) (by assumption) ?_
    try simp only [Act.put, List.setIfInBounds_toArray, List.set_cons_zero, List.set_cons_succ]
    refine wpAnyH_done (by kernel_rfl) ?_ _
    exact ⟨rfl, rfl, hS⟩
theorem c_specExcessOf (h v : Nat) (hv : v < 4294967296) (X : Nat) (C : Int) (hT : airB h v = true → ∃ S, SatOk h S ∧ fok .sub .f32 v S = true ∧ isfin X = true ∧ X = fv .sub .f32 v S ∧ C = 0) (hF : airB h v = false → X = 0 ∧ C = 1) (w : World) : Calls Try.prog 23 #[.agg #[.float .f32 h, .float .f32 v]] w fun e w' => e = .returned (.tuple #[.float .f32 X, .int .i64 C]) ∧ Below w.heap.size w w' := by
  have g0 := Holds.new w 25 #[.float .f32 h, .float .f32 v]
  have b0 : Below w.heap.size w (w.alloc (.cells #[.float .f32 h, .float .f32 v] 25)) := (Below.refl _ _).alloc (by simp) _
  cases hf1 : airB h v
  · obtain ⟨rfl, rfl⟩ := hF hf1
    clear hT hF
    go_enter Try.func23, Try.ntmps23
    go_wp2_with (first | (go_at_call 32; with_reducible refine (c_l02Ok h v hv _ _ _ g0).mono ?_; rw [hf1]; rintro e w1 ⟨rfl, hdr⟩; have hb := drew_below hdr; clear hdr; have g0 := g0.keep hb; have b0 := b0.trans (hb.mono b0.size); clear hb))
    go_ret2
    exact ⟨rfl, b0⟩
  obtain ⟨S, hs, ho, hfin, rfl, rfl⟩ := hT hf1
  clear hT hF
  have HE := Lib.hid (fun p1 t1 w g => c_l02Excess h v S hs ho p1 t1 w g)
  clear hs ho hfin
  generalize fv .sub .f32 v S = X at *
  go_enter Try.func23, Try.ntmps23
  go_wp2_with (first | (go_at_call 32; with_reducible refine (c_l02Ok h v hv _ _ _ g0).mono ?_; rw [hf1]; rintro e w1 ⟨rfl, hdr⟩; have hb := drew_below hdr; clear hdr; have g0 := g0.keep hb; have b0 := b0.trans (hb.mono b0.size); clear hb) | (go_at_call 50; with_reducible refine (HE.out _ _ _ g0).mono ?_; rintro e w1 ⟨rfl, hdr⟩; have hb := drew_below hdr; clear hdr; have g0 := g0.keep hb; have b0 := b0.trans (hb.mono b0.size); clear hb))
  go_ret2
  exact ⟨rfl, b0⟩
theorem c_implExcessOf (h v : Nat) (hv : v < 4294967296) (X : Nat) (C : Int) (hT : airB h v = true → ∃ S, SatOk h S ∧ fok .sub .f32 v S = true ∧ isfin X = true ∧ X = fv .sub .f32 v S ∧ C = 0) (hF : airB h v = false → X = 0 ∧ C = 1) (w : World) : Calls Try.prog 24 #[.agg #[.float .f32 h, .float .f32 v]] w fun e w' => e = .returned (.tuple #[.float .f32 X, .int .i64 C]) ∧ Below w.heap.size w w' := by
  have g0 := Holds.new w 25 #[.float .f32 h, .float .f32 v]
  have b0 : Below w.heap.size w (w.alloc (.cells #[.float .f32 h, .float .f32 v] 25)) := (Below.refl _ _).alloc (by simp) _
  cases hf1 : airB h v
  · obtain ⟨rfl, rfl⟩ := hF hf1
    clear hT hF
    go_enter Try.func24, Try.ntmps24
    go_wp2_with (first | (go_at_call 35; with_reducible refine (c_ValidAir h v hv _).mono ?_; rw [hf1]; rintro e w1 ⟨rfl, hb⟩; have g0 := g0.keep hb; have b0 := b0.trans (hb.mono b0.size); clear hb) | (refine wl_loadA 25 Try.underlying25 rfl #[.float .f32 h, .float .f32 v] info_air rfl _ rfl g0 rfl ?_))
    go_ret2
    exact ⟨rfl, b0⟩
  obtain ⟨S, hs, ho, hfin, rfl, rfl⟩ := hT hf1
  clear hT hF
  have HE := Lib.hid (fun w => c_excess h v S hs ho w)
  have HT := Lib.hid (fun w => (c_finite (fv .sub .f32 v S) (fv_lt ho) w).mono (fun e w' k => (⟨k.1.trans (by rw [told_fin hfin]), k.2⟩ : e = .returned (.tuple #[.float .f32 (fv .sub .f32 v S), .int .i64 0]) ∧ Below w.heap.size w w')))
  clear hs ho hfin
  generalize fv .sub .f32 v S = X at *
  go_enter Try.func24, Try.ntmps24
  go_wp2_with (first | (go_at_call 35; with_reducible refine (c_ValidAir h v hv _).mono ?_; rw [hf1]; rintro e w1 ⟨rfl, hb⟩; have g0 := g0.keep hb; have b0 := b0.trans (hb.mono b0.size); clear hb) | (refine wl_loadA 25 Try.underlying25 rfl #[.float .f32 h, .float .f32 v] info_air rfl _ rfl g0 rfl ?_) | (go_at_call 51; with_reducible refine (HE.out _).mono ?_; rintro e w1 ⟨rfl, hb⟩; have g0 := g0.keep hb; have b0 := b0.trans (hb.mono b0.size); clear hb) | (go_at_call 42; with_reducible refine (HT.out _).mono ?_; rintro e w1 ⟨rfl, hb⟩; have b0 := b0.trans (hb.mono b0.size); clear hb))
  go_ret2
  exact ⟨rfl, b0⟩
theorem c_specHumidityOf (h v : Nat) (hv : v < 4294967296) (X : Nat) (C : Int) (hT : airB h v = true → ∃ S, SatOk h S ∧ fok .quo .f32 v S = true ∧ toldR (fv .quo .f32 v S) = .tuple #[.float .f32 X, .int .i64 C]) (hF : airB h v = false → X = 0 ∧ C = 1) (w : World) : Calls Try.prog 27 #[.agg #[.float .f32 h, .float .f32 v]] w fun e w' => e = .returned (.tuple #[.float .f32 X, .int .i64 C]) ∧ Below w.heap.size w w' := by
  have g0 := Holds.new w 25 #[.float .f32 h, .float .f32 v]
  have b0 : Below w.heap.size w (w.alloc (.cells #[.float .f32 h, .float .f32 v] 25)) := (Below.refl _ _).alloc (by simp) _
  cases hf1 : airB h v
  · obtain ⟨rfl, rfl⟩ := hF hf1
    clear hT hF
    go_enter Try.func27, Try.ntmps27
    go_wp2_with (first | (go_at_call 32; with_reducible refine (c_l02Ok h v hv _ _ _ g0).mono ?_; rw [hf1]; rintro e w1 ⟨rfl, hdr⟩; have hb := drew_below hdr; clear hdr; have g0 := g0.keep hb; have b0 := b0.trans (hb.mono b0.size); clear hb))
    go_ret2
    exact ⟨rfl, b0⟩
  obtain ⟨S, hs, ho, ht⟩ := hT hf1
  clear hT hF
  have HC := Lib.hid hs.spec
  have HT := Lib.hid (fun w => (c_l01Told (fv .quo .f32 v S) (fv_lt ho) w).mono (fun e w' k => (⟨k.1.trans (by rw [ht]), k.2⟩ : e = .returned (.tuple #[.float .f32 X, .int .i64 C]) ∧ Drew w w')))
  clear hs ht
  generalize hQ : fv .quo .f32 v S = Q at *
  go_enter Try.func27, Try.ntmps27
  go_wp2_with (first | (go_at_call 32; with_reducible refine (c_l02Ok h v hv _ _ _ g0).mono ?_; rw [hf1]; rintro e w1 ⟨rfl, hdr⟩; have hb := drew_below hdr; clear hdr; have g0 := g0.keep hb; have b0 := b0.trans (hb.mono b0.size); clear hb))
  refine Code.wp_mono (Q := fun e a' x => e = .normal ∧ a' = { tmps := #[.agg #[.float .f32 h, .float .f32 v], .pointer (some ⟨w.heap.size, 0, none⟩), .float .f32 X, .int .i64 C, .bool true, .bool false, .pointer (some ⟨w.heap.size, 1, none⟩), .float .f32 v, .pointer (some ⟨w.heap.size, 0, none⟩), .float .f32 h, .float .f32 S, .float .f32 Q, .tuple #[.float .f32 X, .int .i64 C], .float .f32 X, .int .i64 C], defers := [] } ∧ (fun x => Holds x w.heap.size 25 #[.float .f32 h, .float .f32 v] ∧ Below w.heap.size w x) x) ?_ ?_
  · rintro e a' x1 ⟨rfl, rfl, g0, b0⟩
    go_wp2
    go_ret2
    exact ⟨rfl, b0⟩
  · refine wp_region_held_drew (S := fun x => Holds x w.heap.size 25 #[.float .f32 h, .float .f32 v] ∧ Below w.heap.size w x) (by kernel_rfl) ⟨g0.drew, b0.trans ((Below.refl _ _).drew)⟩ (fun hS => ?_)
    refine takeA (i := 0) (d := some 6) (v := .pointer (some ⟨w.heap.size, 1, none⟩)) rfl rfl (by kernel_rfl) (by kernel_rfl) (by kernel_rfl) (fun _ _ _ h => nomatch h.1) (Or.inl ⟨by rfl, fun x hx => by go_simp⟩) (by assumption) ?_
    try simp only [Act.put, List.setIfInBounds_toArray, List.set_cons_zero, List.set_cons_succ]
    refine takeA (i := 1) (d := some 7) (v := .float .f32 v) rfl rfl (by kernel_rfl) (by kernel_rfl) (by kernel_rfl) (fun _ _ _ h => nomatch h.1) (Or.inl ⟨by rfl, fun x hS => by have hcell := hS.1.cell 1; go_simp⟩) (by assumption) ?_
    try simp only [Act.put, List.setIfInBounds_toArray, List.set_cons_zero, List.set_cons_succ]
    refine takeA (i := 2) (d := some 8) (v := .pointer (some ⟨w.heap.size, 0, none⟩)) rfl rfl (by kernel_rfl) (by kernel_rfl) (by kernel_rfl) (fun _ _ _ h => nomatch h.1) (Or.inl ⟨by rfl, fun x hx => by go_simp⟩) (by assumption) ?_
    try simp only [Act.put, List.setIfInBounds_toArray, List.set_cons_zero, List.set_cons_succ]
    refine takeA (i := 3) (d := some 9) (v := .float .f32 h) rfl rfl (by kernel_rfl) (by kernel_rfl) (by kernel_rfl) (fun _ _ _ h => nomatch h.1) (Or.inl ⟨by rfl, fun x hS => by have hcell := hS.1.cell 0; go_simp⟩) (by assumption) ?_
    try simp only [Act.put, List.setIfInBounds_toArray, List.set_cons_zero, List.set_cons_succ]
    refine wpAnyH_ready (rs := [4]) (by kernel_rfl) (by simp) (AllReadyH.cons rfl (fun K hK => ?_) AllReadyH.nil)
    go_simp
    with_reducible refine (HC.out _).mono ?_
    rintro e v1 ⟨rfl, rfl⟩
    go_simp
    refine hK.out _ _ hS (fun hS => ?_)
    clear hK K
    try simp only [Act.put, List.setIfInBounds_toArray, List.set_cons_zero, List.set_cons_succ]
    refine takeA (i := 5) (d := some 11) (v := .float .f32 Q) rfl rfl (by kernel_rfl) (by kernel_rfl) (by kernel_rfl) (fun _ _ _ h => nomatch h.1) (Or.inl ⟨by rfl, fun x hx => by go_simp⟩) (by assumption) ?_
    try simp only [Act.put, List.setIfInBounds_toArray, List.set_cons_zero, List.set_cons_succ]
    refine wpAnyH_ready (rs := [6]) (by kernel_rfl) (by simp) (AllReadyH.cons rfl (fun K hK => ?_) AllReadyH.nil)
    go_simp
    with_reducible refine (HT.out _).mono ?_
    rintro e v2 ⟨rfl, hdr⟩
    have hb := drew_below hdr
    clear hdr
    go_simp
    refine hK.out _ _ ⟨hS.1.keep hb, hS.2.trans (hb.mono hS.2.size)⟩ (fun hS => ?_)
    clear hK K
    try simp only [Act.put, List.setIfInBounds_toArray, List.set_cons_zero, List.set_cons_succ]
    refine takeA (i := 7) (d := some 13) (v := .float .f32 X) rfl rfl (by kernel_rfl) (by kernel_rfl) (by kernel_rfl) (fun _ _ _ h => nomatch h.1) (Or.inl ⟨by rfl, fun x hx => by go_simp⟩) (by assumption) ?_
    try simp only [Act.put, List.setIfInBounds_toArray, List.set_cons_zero, List.set_cons_succ]
    refine takeA (i := 8) (d := some 14) (v := .int .i64 C) rfl rfl (by kernel_rfl) (by kernel_rfl) (by kernel_rfl) (fun _ _ _ h => nomatch h.1) (Or.inl ⟨by rfl, fun x hx => by go_simp⟩) (by assumption) ?_
    try simp only [Act.put, List.setIfInBounds_toArray, List.set_cons_zero, List.set_cons_succ]
    refine takeA (i := 9) (d := some 2) (v := .float .f32 X) rfl rfl (by kernel_rfl) (by kernel_rfl) (by kernel_rfl) (fun _ _ _ h => nomatch h.1) (Or.inl ⟨by rfl, fun x hx => by go_simp⟩) (by assumption) ?_
    try simp only [Act.put, List.setIfInBounds_toArray, List.set_cons_zero, List.set_cons_succ]
    refine takeA (i := 10) (d := some 3) (v := .int .i64 C) rfl rfl (by kernel_rfl) (by kernel_rfl) (by kernel_rfl) (fun _ _ _ h => nomatch h.1) (Or.inl ⟨by rfl, fun x hx => by go_simp⟩) (by assumption) ?_
    try simp only [Act.put, List.setIfInBounds_toArray, List.set_cons_zero, List.set_cons_succ]
    refine wpAnyH_done (by kernel_rfl) ?_ _
    exact ⟨rfl, rfl, hS⟩
theorem c_implHumidityOf (h v : Nat) (hv : v < 4294967296) (X : Nat) (C : Int) (hT : airB h v = true → ∃ S, SatOk h S ∧ fok .quo .f32 v S = true ∧ toldR (fv .quo .f32 v S) = .tuple #[.float .f32 X, .int .i64 C]) (hF : airB h v = false → X = 0 ∧ C = 1) (w : World) : Calls Try.prog 28 #[.agg #[.float .f32 h, .float .f32 v]] w fun e w' => e = .returned (.tuple #[.float .f32 X, .int .i64 C]) ∧ Below w.heap.size w w' := by
  have g0 := Holds.new w 25 #[.float .f32 h, .float .f32 v]
  have b0 : Below w.heap.size w (w.alloc (.cells #[.float .f32 h, .float .f32 v] 25)) := (Below.refl _ _).alloc (by simp) _
  cases hf1 : airB h v
  · obtain ⟨rfl, rfl⟩ := hF hf1
    clear hT hF
    go_enter Try.func28, Try.ntmps28
    go_wp2_with (first | (go_at_call 35; with_reducible refine (c_ValidAir h v hv _).mono ?_; rw [hf1]; rintro e w1 ⟨rfl, hb⟩; have g0 := g0.keep hb; have b0 := b0.trans (hb.mono b0.size); clear hb) | (refine wl_loadA 25 Try.underlying25 rfl #[.float .f32 h, .float .f32 v] info_air rfl _ rfl g0 rfl ?_))
    go_ret2
    exact ⟨rfl, b0⟩
  obtain ⟨S, hs, ho, ht⟩ := hT hf1
  clear hT hF
  have HC := Lib.hid hs.impl
  have HT := Lib.hid (fun w => (c_finite (fv .quo .f32 v S) (fv_lt ho) w).mono (fun e w' k => (⟨k.1.trans (by rw [ht]), k.2⟩ : e = .returned (.tuple #[.float .f32 X, .int .i64 C]) ∧ Below w.heap.size w w')))
  clear hs ht
  generalize hQ : fv .quo .f32 v S = Q at *
  go_enter Try.func28, Try.ntmps28
  go_wp2_with (first | (go_at_call 35; with_reducible refine (c_ValidAir h v hv _).mono ?_; rw [hf1]; rintro e w1 ⟨rfl, hb⟩; have g0 := g0.keep hb; have b0 := b0.trans (hb.mono b0.size); clear hb) | (refine wl_loadA 25 Try.underlying25 rfl #[.float .f32 h, .float .f32 v] info_air rfl _ rfl g0 rfl ?_))
  refine Code.wp_mono (Q := fun e a' x => e = .normal ∧ a' = { tmps := #[.agg #[.float .f32 h, .float .f32 v], .pointer (some ⟨w.heap.size, 0, none⟩), .float .f32 X, .int .i64 C, .agg #[.float .f32 h, .float .f32 v], .bool true, .bool false, .pointer (some ⟨w.heap.size, 1, none⟩), .float .f32 v, .pointer (some ⟨w.heap.size, 0, none⟩), .float .f32 h, .float .f32 S, .float .f32 Q, .tuple #[.float .f32 X, .int .i64 C], .float .f32 X, .int .i64 C], defers := [] } ∧ (fun x => Holds x w.heap.size 25 #[.float .f32 h, .float .f32 v] ∧ Below w.heap.size w x) x) ?_ ?_
  · rintro e a' x1 ⟨rfl, rfl, g0, b0⟩
    go_wp2
    go_ret2
    exact ⟨rfl, b0⟩
  · refine wp_region_held_drew (S := fun x => Holds x w.heap.size 25 #[.float .f32 h, .float .f32 v] ∧ Below w.heap.size w x) (by kernel_rfl) ⟨g0.drew, b0.trans ((Below.refl _ _).drew)⟩ (fun hS => ?_)
    refine takeA (i := 0) (d := some 7) (v := .pointer (some ⟨w.heap.size, 1, none⟩)) rfl rfl (by kernel_rfl) (by kernel_rfl) (by kernel_rfl) (fun _ _ _ h => nomatch h.1) (Or.inl ⟨by rfl, fun x hx => by go_simp⟩) (by assumption) ?_
    try simp only [Act.put, List.setIfInBounds_toArray, List.set_cons_zero, List.set_cons_succ]
    refine takeA (i := 1) (d := some 8) (v := .float .f32 v) rfl rfl (by kernel_rfl) (by kernel_rfl) (by kernel_rfl) (fun _ _ _ h => nomatch h.1) (Or.inl ⟨by rfl, fun x hS => by have hcell := hS.1.cell 1; go_simp⟩) (by assumption) ?_
    try simp only [Act.put, List.setIfInBounds_toArray, List.set_cons_zero, List.set_cons_succ]
    refine takeA (i := 2) (d := some 9) (v := .pointer (some ⟨w.heap.size, 0, none⟩)) rfl rfl (by kernel_rfl) (by kernel_rfl) (by kernel_rfl) (fun _ _ _ h => nomatch h.1) (Or.inl ⟨by rfl, fun x hx => by go_simp⟩) (by assumption) ?_
    try simp only [Act.put, List.setIfInBounds_toArray, List.set_cons_zero, List.set_cons_succ]
    refine takeA (i := 3) (d := some 10) (v := .float .f32 h) rfl rfl (by kernel_rfl) (by kernel_rfl) (by kernel_rfl) (fun _ _ _ h => nomatch h.1) (Or.inl ⟨by rfl, fun x hS => by have hcell := hS.1.cell 0; go_simp⟩) (by assumption) ?_
    try simp only [Act.put, List.setIfInBounds_toArray, List.set_cons_zero, List.set_cons_succ]
    refine wpAnyH_ready (rs := [4]) (by kernel_rfl) (by simp) (AllReadyH.cons rfl (fun K hK => ?_) AllReadyH.nil)
    go_simp
    with_reducible refine (HC.out _).mono ?_
    rintro e v1 ⟨rfl, rfl⟩
    go_simp
    refine hK.out _ _ hS (fun hS => ?_)
    clear hK K
    try simp only [Act.put, List.setIfInBounds_toArray, List.set_cons_zero, List.set_cons_succ]
    refine takeA (i := 5) (d := some 12) (v := .float .f32 Q) rfl rfl (by kernel_rfl) (by kernel_rfl) (by kernel_rfl) (fun _ _ _ h => nomatch h.1) (Or.inl ⟨by rfl, fun x hx => by go_simp⟩) (by assumption) ?_
    try simp only [Act.put, List.setIfInBounds_toArray, List.set_cons_zero, List.set_cons_succ]
    refine wpAnyH_ready (rs := [6]) (by kernel_rfl) (by simp) (AllReadyH.cons rfl (fun K hK => ?_) AllReadyH.nil)
    go_simp
    with_reducible refine (HT.out _).mono ?_
    rintro e v2 ⟨rfl, hb⟩
    go_simp
    refine hK.out _ _ ⟨hS.1.keep hb, hS.2.trans (hb.mono hS.2.size)⟩ (fun hS => ?_)
    clear hK K
    try simp only [Act.put, List.setIfInBounds_toArray, List.set_cons_zero, List.set_cons_succ]
    refine takeA (i := 7) (d := some 14) (v := .float .f32 X) rfl rfl (by kernel_rfl) (by kernel_rfl) (by kernel_rfl) (fun _ _ _ h => nomatch h.1) (Or.inl ⟨by rfl, fun x hx => by go_simp⟩) (by assumption) ?_
    try simp only [Act.put, List.setIfInBounds_toArray, List.set_cons_zero, List.set_cons_succ]
    refine takeA (i := 8) (d := some 15) (v := .int .i64 C) rfl rfl (by kernel_rfl) (by kernel_rfl) (by kernel_rfl) (fun _ _ _ h => nomatch h.1) (Or.inl ⟨by rfl, fun x hx => by go_simp⟩) (by assumption) ?_
    try simp only [Act.put, List.setIfInBounds_toArray, List.set_cons_zero, List.set_cons_succ]
    refine takeA (i := 9) (d := some 2) (v := .float .f32 X) rfl rfl (by kernel_rfl) (by kernel_rfl) (by kernel_rfl) (fun _ _ _ h => nomatch h.1) (Or.inl ⟨by rfl, fun x hx => by go_simp⟩) (by assumption) ?_
    try simp only [Act.put, List.setIfInBounds_toArray, List.set_cons_zero, List.set_cons_succ]
    refine takeA (i := 10) (d := some 3) (v := .int .i64 C) rfl rfl (by kernel_rfl) (by kernel_rfl) (by kernel_rfl) (fun _ _ _ h => nomatch h.1) (Or.inl ⟨by rfl, fun x hx => by go_simp⟩) (by assumption) ?_
    try simp only [Act.put, List.setIfInBounds_toArray, List.set_cons_zero, List.set_cons_succ]
    refine wpAnyH_done (by kernel_rfl) ?_ _
    exact ⟨rfl, rfl, hS⟩
theorem walk_FnExactExcessOf (h v : Nat) (hh : h < 4294967296) (hv : v < 4294967296) (w : World) : Calls Try.prog 7 #[.agg #[.float .f32 h, .float .f32 v]] w fun e w' => e = .returned (.bool true) ∧ Below w.heap.size w w' := by
  have hcv := fun (x : Nat) (h : cvok x = true) (w : World) => run_cv (P := Try.prog) w 22 37 (by kernel_rfl) Try.underlying37 x h
  obtain ⟨X, C, h1, h2, hS, hI⟩ : ∃ (X : Nat) (C : Int), cvok X = true ∧ num FloatKind.f64.format (cv X) ∧ (∀ w, Calls Try.prog 23 #[.agg #[.float .f32 h, .float .f32 v]] w fun e w' => e = .returned (.tuple #[.float .f32 X, .int .i64 C]) ∧ Below w.heap.size w w') ∧ (∀ w, Calls Try.prog 24 #[.agg #[.float .f32 h, .float .f32 v]] w fun e w' => e = .returned (.tuple #[.float .f32 X, .int .i64 C]) ∧ Below w.heap.size w w') := by
    cases ha : airB h v
    · have z : cvok 0 = true := (cvle (x := 0) (by omega)).1
      exact ⟨0, 1, z, cv_f64 z, c_specExcessOf h v hv 0 1 (fun q => by rw [ha] at q; cases q) (fun _ => ⟨rfl, rfl⟩), c_implExcessOf h v hv 0 1 (fun q => by rw [ha] at q; cases q) (fun _ => ⟨rfl, rfl⟩)⟩
    · obtain ⟨S, hs⟩ := sat_both hh (air_heat ha)
      have hv1 := amt_lt (air_amt ha)
      have hS1 : S < 2139095040 := Nat.lt_of_le_of_lt hs.hi (by decide)
      obtain ⟨o1, o2⟩ := sub_two hv1 hS1
      have z := cvok_fin (fv_lt o1) o2
      exact ⟨_, 0, z, cv_f64 z, c_specExcessOf h v hv _ 0 (fun _ => ⟨S, hs, o1, o2, rfl, rfl⟩) (fun q => by rw [ha] at q; cases q), c_implExcessOf h v hv _ 0 (fun _ => ⟨S, hs, o1, o2, rfl, rfl⟩) (fun q => by rw [ha] at q; cases q)⟩
  have HS := Lib.hid hS
  have HI := Lib.hid hI
  have H2 := Lib.hid h2
  have HA := Lib.hid (fun w => c_toAir h v w)
  clear hS hI h2
  have g0 := Holds.new w 24 #[.float .f32 h, .float .f32 v]
  have b0 : Below w.heap.size w (w.alloc (.cells #[.float .f32 h, .float .f32 v] 24)) := (Below.refl _ _).alloc (by simp) _
  go_enter Try.func7, Try.ntmps7
  go_wp2_with (first | (refine wl_loadA 24 Try.underlying24 rfl #[.float .f32 h, .float .f32 v] info_lair rfl _ rfl g0 rfl ?_) | (go_at_call 12; with_reducible refine (HA.out _).mono ?_; rintro e w1 ⟨rfl, hb⟩; have g0 := g0.keep hb; have b0 := b0.trans (hb.mono b0.size); clear hb) | (go_at_call 23; with_reducible refine (HS.out _).mono ?_; rintro e w1 ⟨rfl, hb⟩; have g0 := g0.keep hb; have b0 := b0.trans (hb.mono b0.size); clear hb) | (go_at_call 24; with_reducible refine (HI.out _).mono ?_; rintro e w1 ⟨rfl, hb⟩; have g0 := g0.keep hb; have b0 := b0.trans (hb.mono b0.size); clear hb) | (go_at_call 18; refine (c_sameFloat _ H2.out _).mono ?_; rintro e w1 ⟨rfl, rfl⟩))
  go_ret
  exact ⟨rfl, b0⟩
theorem walk_FnExactHumidityOf (h v : Nat) (hh : h < 4294967296) (hv : v < 4294967296) (w : World) : Calls Try.prog 9 #[.agg #[.float .f32 h, .float .f32 v]] w fun e w' => e = .returned (.bool true) ∧ Below w.heap.size w w' := by
  have hcv := fun (x : Nat) (h : cvok x = true) (w : World) => run_cv (P := Try.prog) w 22 37 (by kernel_rfl) Try.underlying37 x h
  obtain ⟨X, C, h1, h2, hS, hI⟩ : ∃ (X : Nat) (C : Int), cvok X = true ∧ num FloatKind.f64.format (cv X) ∧ (∀ w, Calls Try.prog 27 #[.agg #[.float .f32 h, .float .f32 v]] w fun e w' => e = .returned (.tuple #[.float .f32 X, .int .i64 C]) ∧ Below w.heap.size w w') ∧ (∀ w, Calls Try.prog 28 #[.agg #[.float .f32 h, .float .f32 v]] w fun e w' => e = .returned (.tuple #[.float .f32 X, .int .i64 C]) ∧ Below w.heap.size w w') := by
    cases ha : airB h v
    · have z : cvok 0 = true := (cvle (x := 0) (by omega)).1
      exact ⟨0, 1, z, cv_f64 z, c_specHumidityOf h v hv 0 1 (fun q => by rw [ha] at q; cases q) (fun _ => ⟨rfl, rfl⟩), c_implHumidityOf h v hv 0 1 (fun q => by rw [ha] at q; cases q) (fun _ => ⟨rfl, rfl⟩)⟩
    · obtain ⟨S, hs⟩ := sat_both hh (air_heat ha)
      have hv1 := amt_lt (air_amt ha)
      have hS1 : S < 2139095040 := Nat.lt_of_le_of_lt hs.hi (by decide)
      have hS0 : 0 < S := Nat.lt_of_lt_of_le (by decide) hs.lo
      obtain ⟨o1, o2⟩ := quo_nn (Nat.le_of_lt hv1) hS1 hS0
      obtain ⟨X, C, hT, z1, z2⟩ := toldR_form _ (le_inf _ o2)
      exact ⟨X, C, z1, z2, c_specHumidityOf h v hv X C (fun _ => ⟨S, hs, o1, hT⟩) (fun q => by rw [ha] at q; cases q), c_implHumidityOf h v hv X C (fun _ => ⟨S, hs, o1, hT⟩) (fun q => by rw [ha] at q; cases q)⟩
  have HS := Lib.hid hS
  have HI := Lib.hid hI
  have H2 := Lib.hid h2
  have HA := Lib.hid (fun w => c_toAir h v w)
  clear hS hI h2
  have g0 := Holds.new w 24 #[.float .f32 h, .float .f32 v]
  have b0 : Below w.heap.size w (w.alloc (.cells #[.float .f32 h, .float .f32 v] 24)) := (Below.refl _ _).alloc (by simp) _
  go_enter Try.func9, Try.ntmps9
  go_wp2_with (first | (refine wl_loadA 24 Try.underlying24 rfl #[.float .f32 h, .float .f32 v] info_lair rfl _ rfl g0 rfl ?_) | (go_at_call 12; with_reducible refine (HA.out _).mono ?_; rintro e w1 ⟨rfl, hb⟩; have g0 := g0.keep hb; have b0 := b0.trans (hb.mono b0.size); clear hb) | (go_at_call 27; with_reducible refine (HS.out _).mono ?_; rintro e w1 ⟨rfl, hb⟩; have g0 := g0.keep hb; have b0 := b0.trans (hb.mono b0.size); clear hb) | (go_at_call 28; with_reducible refine (HI.out _).mono ?_; rintro e w1 ⟨rfl, hb⟩; have g0 := g0.keep hb; have b0 := b0.trans (hb.mono b0.size); clear hb) | (go_at_call 18; refine (c_sameFloat _ H2.out _).mono ?_; rintro e w1 ⟨rfl, rfl⟩))
  go_ret
  exact ⟨rfl, b0⟩
end Go.Proofs.Ytgjibocemffjhaa
