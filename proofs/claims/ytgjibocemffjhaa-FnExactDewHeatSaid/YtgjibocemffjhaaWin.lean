/-
  Contracts and the walk: the water of droplets and air.
-/
import Derived.Test.YtgjibocemffjhaaReg
import Derived.Test.YtgjibocemffjhaaBox
namespace Go.Proofs.Ytgjibocemffjhaa
open Go.RowKit Fl
set_option maxRecDepth 20000
set_option maxHeartbeats 4000000
set_option linter.unusedSimpArgs false

theorem info_air : (Try.prog.info? 25).map (·.size) = some 2 := by kernel_rfl
theorem info_lair : (Try.prog.info? 24).map (·.size) = some 2 := by kernel_rfl
theorem div_inf (b : Nat) (hb : b < 2139095040) (_h0 : 0 < b) : FloatKind.f32.format.div 2139095040 b = some 2139095040 := by
  unfold Ieee.Format.div
  have e := read_inf FloatKind.f32.format (fmt_ok .f32).2
  have e' : FloatKind.f32.format.infRung = 2139095040 := rfl
  rw [e'] at e
  rw [e, read_pos FloatKind.f32.format b hb]
  rfl
theorem quo_nn {a b : Nat} (ha : a ≤ 2139095040) (hb : b < 2139095040) (h0 : 0 < b) : fok .quo .f32 a b = true ∧ fv .quo .f32 a b ≤ 2139095040 := by
  rcases Nat.lt_or_ge a 2139095040 with h | h
  · obtain ⟨r, h1, _⟩ := div_spec FloatKind.f32.format (fmt_ok .f32).1 false false a b h hb h0
    obtain ⟨h3, h4⟩ := fok_of (op := .quo) (k := .f32) (x := a) (y := b) h1
    refine ⟨h3, ?_⟩
    rw [h4]
    have e : FloatKind.f32.format.word (false ^^ false) (min r FloatKind.f32.format.infRung) = min r FloatKind.f32.format.infRung := rfl
    rw [e]
    exact Nat.min_le_right _ _
  · obtain rfl : a = 2139095040 := by omega
    obtain ⟨h3, h4⟩ := fok_of (op := .quo) (k := .f32) (x := 2139095040) (y := b) (div_inf b hb h0)
    exact ⟨h3, by rw [h4]; omega⟩
/-- the water of the air and the droplets -/
def wqV (f : Nat → Nat) : Nat := fv .quo .f32 (wat f 0 19) 1199570944
def winV (f : Nat → Nat) (v : Nat) : Nat := fv .add .f32 v (wqV f)
def winR (f : Nat → Nat) (h v : Nat) : Value := if okB f then (if airB h v then toldR (winV f v) else .tuple #[.float .f32 0, .int .i64 1]) else .tuple #[.float .f32 0, .int .i64 1]
theorem air_amt {h v : Nat} (ha : airB h v = true) : amtB v = true := by
  unfold airB at ha
  rw [Bool.and_eq_true, Bool.and_eq_true] at ha
  exact ha.1.2
theorem win_ok {f : Nat → Nat} (hf : okB f = true) {v : Nat} (hv : amtB v = true) : fok .quo .f32 (wat f 0 19) 1199570944 = true ∧ fok .add .f32 v (wqV f) = true ∧ winV f v ≤ 2139095040 := by
  obtain ⟨h1, h2⟩ := quo_nn (wat_ok hf 0 19 (by omega)) (show 1199570944 < 2139095040 by omega) (by omega)
  obtain ⟨h3, h4⟩ := add_nn (Nat.le_of_lt (amt_lt hv)) h2
  exact ⟨h1, h3, h4⟩
theorem win_form (f : Nat → Nat) (h v : Nat) : ∃ (x : Nat) (c : Int), winR f h v = .tuple #[.float .f32 x, .int .i64 c] ∧ cvok x = true ∧ num FloatKind.f64.format (cv x) := by
  unfold winR
  split
  · rename_i h1; split
    · rename_i h2
      exact toldR_form _ (le_inf _ (win_ok h1 (air_amt h2)).2.2)
    · exact pairF_form 0 1 (by omega)
  · exact pairF_form 0 1 (by omega)
theorem c_areGrown (f : Nat → Nat) (hf : ∀ j, f j < 4294967296) (h v : Nat) (hv : v < 4294967296) (w : World) : Calls Try.prog 41 #[.agg (row 20 fun j => .float .f32 (f j)), .agg #[.float .f32 h, .float .f32 v]] w fun e w' => e = .returned (.bool (okB f && airB h v)) ∧ Below w.heap.size w w' := by
  have g0 : Holds ((w.alloc (.cells (row 20 fun j => .float .f32 (f j)) 34)).alloc (.cells #[.float .f32 h, .float .f32 v] 25)) w.heap.size 34 (row 20 fun j => .float .f32 (f j)) := (Holds.new _ _ _).alloc _
  have g1 : Holds ((w.alloc (.cells (row 20 fun j => .float .f32 (f j)) 34)).alloc (.cells #[.float .f32 h, .float .f32 v] 25)) (w.heap.size + 1) 25 #[.float .f32 h, .float .f32 v] := Holds.new' _ _ _ (by simp)
  have b0 : Below w.heap.size w ((w.alloc (.cells (row 20 fun j => .float .f32 (f j)) 34)).alloc (.cells #[.float .f32 h, .float .f32 v] 25)) := ((Below.refl _ _).alloc (by simp) _).alloc (by simp) _
  cases hf1 : okB f
  all_goals
    go_enter Try.func41, Try.ntmps41
    go_wp2_with (first | (refine wl_loadA 34 Try.underlying34 rfl (row 20 fun j => .float .f32 (f j)) (by rw [row_size]; exact info_sizes) rfl _ rfl g0 rfl ?_) | (refine wl_loadA 25 Try.underlying25 rfl #[.float .f32 h, .float .f32 v] info_air rfl _ rfl g1 rfl ?_) | (go_at_call 61; with_reducible refine (c_ValidSizes f hf _).mono ?_; rw [hf1]; rintro e w1 ⟨rfl, hb⟩; have g0 := g0.keep hb; have g1 := g1.keep hb; have b0 := b0.trans (hb.mono b0.size); clear hb) | (go_at_call 35; with_reducible refine (c_ValidAir h v hv _).mono ?_; rintro e w1 ⟨rfl, hb⟩; have g0 := g0.keep hb; have g1 := g1.keep hb; have b0 := b0.trans (hb.mono b0.size); clear hb))
    go_ret
    exact ⟨ret_bool (by simp), b0⟩
theorem c_specWaterIn (f : Nat → Nat) (hf : ∀ j, f j < 4294967296) (h v : Nat) (hv : v < 4294967296) (w : World) : Calls Try.prog 15 #[.agg (row 20 fun j => .float .f32 (f j)), .agg #[.float .f32 h, .float .f32 v]] w fun e w' => e = .returned (winR f h v) ∧ Below w.heap.size w w' := by
  have g0 : Holds ((w.alloc (.cells (row 20 fun j => .float .f32 (f j)) 34)).alloc (.cells #[.float .f32 h, .float .f32 v] 25)) w.heap.size 34 (row 20 fun j => .float .f32 (f j)) := (Holds.new _ _ _).alloc _
  have g1 : Holds ((w.alloc (.cells (row 20 fun j => .float .f32 (f j)) 34)).alloc (.cells #[.float .f32 h, .float .f32 v] 25)) (w.heap.size + 1) 25 #[.float .f32 h, .float .f32 v] := Holds.new' _ _ _ (by simp)
  have b0 : Below w.heap.size w ((w.alloc (.cells (row 20 fun j => .float .f32 (f j)) 34)).alloc (.cells #[.float .f32 h, .float .f32 v] 25)) := ((Below.refl _ _).alloc (by simp) _).alloc (by simp) _
  cases hf1 : okB f
  · have hR := Lib.hid (show winR f h v = .tuple #[.float .f32 0, .int .i64 1] by simp [winR, hf1])
    go_enter Try.func15, Try.ntmps15
    go_wp2_with (first | (go_at_call 38; with_reducible refine (c_l01Ok f hf _ _ _ g0).mono ?_; rw [hf1]; rintro e w1 ⟨rfl, hdr⟩; have hb := drew_below hdr; clear hdr; have g0 := g0.keep hb; have g1 := g1.keep hb; have b0 := b0.trans (hb.mono b0.size); clear hb) | (go_at_call 32; with_reducible refine (c_l02Ok h v hv _ _ _ g1).mono ?_; rw [hf2]; rintro e w1 ⟨rfl, hdr⟩; have hb := drew_below hdr; clear hdr; have g0 := g0.keep hb; have g1 := g1.keep hb; have b0 := b0.trans (hb.mono b0.size); clear hb))
    go_ret2
    exact ⟨by rw [hR.out]; rfl, b0⟩
  cases hf2 : airB h v
  · have hR := Lib.hid (show winR f h v = .tuple #[.float .f32 0, .int .i64 1] by simp [winR, hf1, hf2])
    go_enter Try.func15, Try.ntmps15
    go_wp2_with (first | (go_at_call 38; with_reducible refine (c_l01Ok f hf _ _ _ g0).mono ?_; rw [hf1]; rintro e w1 ⟨rfl, hdr⟩; have hb := drew_below hdr; clear hdr; have g0 := g0.keep hb; have g1 := g1.keep hb; have b0 := b0.trans (hb.mono b0.size); clear hb) | (go_at_call 32; with_reducible refine (c_l02Ok h v hv _ _ _ g1).mono ?_; rw [hf2]; rintro e w1 ⟨rfl, hdr⟩; have hb := drew_below hdr; clear hdr; have g0 := g0.keep hb; have g1 := g1.keep hb; have b0 := b0.trans (hb.mono b0.size); clear hb))
    go_ret2
    exact ⟨by rw [hR.out]; rfl, b0⟩
  obtain ⟨q1, q2, q3⟩ := win_ok hf1 (air_amt hf2)
  obtain ⟨X, C, hT, _, _⟩ := toldR_form _ (le_inf _ q3)
  have hR := Lib.hid (show winR f h v = .tuple #[.float .f32 X, .int .i64 C] by simp only [winR, hf1, hf2, if_true, hT])
  have HT := Lib.hid (fun w => (c_l01Told _ (le_inf _ q3) w).mono (fun e w' h => (⟨h.1.trans (by rw [hT]), h.2⟩ : e = .returned (.tuple #[.float .f32 X, .int .i64 C]) ∧ Drew w w')))
  have HW : Hid (∀ g t w, Holds w g t (row 20 fun j => .float .f32 (f j)) → Calls Try.prog 40 #[.pointer (some ⟨g, 0, none⟩), .int .i64 0] w fun e w' => e = .returned (.float .f32 (wat f 0 19)) ∧ Drew w w') := Lib.hid (fun g t w hg => c_l01Water f hf1 0 (by omega) g t w hg)
  clear hT q3
  generalize hV : winV f v = V at *
  have e1 : fv .quo .f32 (wat f 0 19) 1199570944 = wqV f := rfl
  have e2 : fv .add .f32 v (wqV f) = V := hV
  generalize wqV f = Q at *
  generalize wat f 0 19 = W at *
  clear hV
  generalize winR f h v = WR at *
  go_enter Try.func15, Try.ntmps15
  go_wp2_with (first | (go_at_call 38; with_reducible refine (c_l01Ok f hf _ _ _ g0).mono ?_; rw [hf1]; rintro e w1 ⟨rfl, hdr⟩; have hb := drew_below hdr; clear hdr; have g0 := g0.keep hb; have g1 := g1.keep hb; have b0 := b0.trans (hb.mono b0.size); clear hb) | (go_at_call 32; with_reducible refine (c_l02Ok h v hv _ _ _ g1).mono ?_; rw [hf2]; rintro e w1 ⟨rfl, hdr⟩; have hb := drew_below hdr; clear hdr; have g0 := g0.keep hb; have g1 := g1.keep hb; have b0 := b0.trans (hb.mono b0.size); clear hb))
  refine Code.wp_mono (Q := fun e a' x => e = .normal ∧ a' = { tmps := #[.agg (row 20 fun j => .float .f32 (f j)), .agg #[.float .f32 h, .float .f32 v], .pointer (some ⟨w.heap.size, 0, none⟩), .pointer (some ⟨(w.heap.size + 1), 0, none⟩), .float .f32 X, .int .i64 C, .bool true, .bool false, .bool false, .bool true, .bool false, .bool false, .pointer (some ⟨(w.heap.size + 1), 1, none⟩), .float .f32 v, .float .f32 W, .float .f32 Q, .float .f32 V, .tuple #[.float .f32 X, .int .i64 C], .float .f32 X, .int .i64 C], defers := [] } ∧ (fun x => Holds x w.heap.size 34 (row 20 fun j => .float .f32 (f j)) ∧ Holds x (w.heap.size + 1) 25 #[.float .f32 h, .float .f32 v] ∧ Below w.heap.size w x) x) ?_ ?_
  · rintro e a' x1 ⟨rfl, rfl, g0, g1, b0⟩
    go_wp2
    go_ret2
    exact ⟨by rw [hR.out]; rfl, b0⟩
  · refine wp_region_held_drew (S := fun x => Holds x w.heap.size 34 (row 20 fun j => .float .f32 (f j)) ∧ Holds x (w.heap.size + 1) 25 #[.float .f32 h, .float .f32 v] ∧ Below w.heap.size w x) (by kernel_rfl) ⟨g0.drew, g1.drew, b0.trans ((Below.refl _ _).drew)⟩ (fun hS => ?_)
    refine takeA (i := 0) (d := some 12) (v := .pointer (some ⟨(w.heap.size + 1), 1, none⟩)) rfl rfl (by kernel_rfl) (by kernel_rfl) (by kernel_rfl) (fun _ _ _ h => nomatch h.1) (Or.inl ⟨by rfl, fun x hx => by go_simp⟩) (by assumption) ?_
    try simp only [Act.put, List.setIfInBounds_toArray, List.set_cons_zero, List.set_cons_succ]
    refine takeA (i := 1) (d := some 13) (v := .float .f32 v) rfl rfl (by kernel_rfl) (by kernel_rfl) (by kernel_rfl) (fun _ _ _ h => nomatch h.1) (Or.inl ⟨by rfl, fun x hS => by have hcell := hS.2.1.cell 1; go_simp⟩) (by assumption) ?_
    try simp only [Act.put, List.setIfInBounds_toArray, List.set_cons_zero, List.set_cons_succ]
    refine wpAnyH_ready (rs := [2]) (by kernel_rfl) (by simp) (AllReadyH.cons rfl (fun K hK => ?_) AllReadyH.nil)
    go_simp
    with_reducible refine (HW.out _ _ _ hS.1).mono ?_
    rintro e v1 ⟨rfl, hdr⟩
    have hb := drew_below hdr
    clear hdr
    go_simp
    refine hK.out _ _ ⟨hS.1.keep hb, hS.2.1.keep hb, hS.2.2.trans (hb.mono hS.2.2.size)⟩ (fun hS => ?_)
    clear hK K
    try simp only [Act.put, List.setIfInBounds_toArray, List.set_cons_zero, List.set_cons_succ]
    refine takeA (i := 3) (d := some 15) (v := .float .f32 Q) rfl rfl (by kernel_rfl) (by kernel_rfl) (by kernel_rfl) (fun _ _ _ h => nomatch h.1) (Or.inl ⟨by rfl, fun x hx => by go_simp⟩) (by assumption) ?_
    try simp only [Act.put, List.setIfInBounds_toArray, List.set_cons_zero, List.set_cons_succ]
    refine takeA (i := 4) (d := some 16) (v := .float .f32 V) rfl rfl (by kernel_rfl) (by kernel_rfl) (by kernel_rfl) (fun _ _ _ h => nomatch h.1) (Or.inl ⟨by rfl, fun x hx => by go_simp⟩) (by assumption) ?_
    try simp only [Act.put, List.setIfInBounds_toArray, List.set_cons_zero, List.set_cons_succ]
    refine wpAnyH_ready (rs := [5]) (by kernel_rfl) (by simp) (AllReadyH.cons rfl (fun K hK => ?_) AllReadyH.nil)
    go_simp
    with_reducible refine (HT.out _).mono ?_
    rintro e v2 ⟨rfl, hdr⟩
    have hb := drew_below hdr
    clear hdr
    go_simp
    refine hK.out _ _ ⟨hS.1.keep hb, hS.2.1.keep hb, hS.2.2.trans (hb.mono hS.2.2.size)⟩ (fun hS => ?_)
    clear hK K
    try simp only [Act.put, List.setIfInBounds_toArray, List.set_cons_zero, List.set_cons_succ]
    refine takeA (i := 6) (d := some 18) (v := .float .f32 X) rfl rfl (by kernel_rfl) (by kernel_rfl) (by kernel_rfl) (fun _ _ _ h => nomatch h.1) (Or.inl ⟨by rfl, fun x hx => by go_simp⟩) (by assumption) ?_
    try simp only [Act.put, List.setIfInBounds_toArray, List.set_cons_zero, List.set_cons_succ]
    refine takeA (i := 7) (d := some 19) (v := .int .i64 C) rfl rfl (by kernel_rfl) (by kernel_rfl) (by kernel_rfl) (fun _ _ _ h => nomatch h.1) (Or.inl ⟨by rfl, fun x hx => by go_simp⟩) (by assumption) ?_
    try simp only [Act.put, List.setIfInBounds_toArray, List.set_cons_zero, List.set_cons_succ]
    refine takeA (i := 8) (d := some 4) (v := .float .f32 X) rfl rfl (by kernel_rfl) (by kernel_rfl) (by kernel_rfl) (fun _ _ _ h => nomatch h.1) (Or.inl ⟨by rfl, fun x hx => by go_simp⟩) (by assumption) ?_
    try simp only [Act.put, List.setIfInBounds_toArray, List.set_cons_zero, List.set_cons_succ]
    refine takeA (i := 9) (d := some 5) (v := .int .i64 C) rfl rfl (by kernel_rfl) (by kernel_rfl) (by kernel_rfl) (fun _ _ _ h => nomatch h.1) (Or.inl ⟨by rfl, fun x hx => by go_simp⟩) (by assumption) ?_
    try simp only [Act.put, List.setIfInBounds_toArray, List.set_cons_zero, List.set_cons_succ]
    refine wpAnyH_done (by kernel_rfl) ?_ _
    exact ⟨rfl, rfl, hS⟩
theorem c_implWaterIn (f : Nat → Nat) (hf : ∀ j, f j < 4294967296) (h v : Nat) (hv : v < 4294967296) (w : World) : Calls Try.prog 17 #[.agg (row 20 fun j => .float .f32 (f j)), .agg #[.float .f32 h, .float .f32 v]] w fun e w' => e = .returned (winR f h v) ∧ Below w.heap.size w w' := by
  have g0 : Holds ((w.alloc (.cells (row 20 fun j => .float .f32 (f j)) 34)).alloc (.cells #[.float .f32 h, .float .f32 v] 25)) w.heap.size 34 (row 20 fun j => .float .f32 (f j)) := (Holds.new _ _ _).alloc _
  have g1 : Holds ((w.alloc (.cells (row 20 fun j => .float .f32 (f j)) 34)).alloc (.cells #[.float .f32 h, .float .f32 v] 25)) (w.heap.size + 1) 25 #[.float .f32 h, .float .f32 v] := Holds.new' _ _ _ (by simp)
  have b0 : Below w.heap.size w ((w.alloc (.cells (row 20 fun j => .float .f32 (f j)) 34)).alloc (.cells #[.float .f32 h, .float .f32 v] 25)) := ((Below.refl _ _).alloc (by simp) _).alloc (by simp) _
  cases hf1 : okB f
  · have hR := Lib.hid (show winR f h v = .tuple #[.float .f32 0, .int .i64 1] by simp [winR, hf1])
    go_enter Try.func17, Try.ntmps17
    go_wp2_with (first | (refine wl_loadA 34 Try.underlying34 rfl (row 20 fun j => .float .f32 (f j)) (by rw [row_size]; exact info_sizes) rfl _ rfl g0 rfl ?_) | (refine wl_loadA 25 Try.underlying25 rfl #[.float .f32 h, .float .f32 v] info_air rfl _ rfl g1 rfl ?_) | (go_at_call 41; with_reducible refine (c_areGrown f hf h v hv _).mono ?_; rw [hf1]; rintro e w1 ⟨rfl, hb⟩; have g0 := g0.keep hb; have g1 := g1.keep hb; have b0 := b0.trans (hb.mono b0.size); clear hb))
    go_ret2
    exact ⟨by rw [hR.out]; rfl, b0⟩
  cases hf2 : airB h v
  · have hR := Lib.hid (show winR f h v = .tuple #[.float .f32 0, .int .i64 1] by simp [winR, hf1, hf2])
    go_enter Try.func17, Try.ntmps17
    go_wp2_with (first | (refine wl_loadA 34 Try.underlying34 rfl (row 20 fun j => .float .f32 (f j)) (by rw [row_size]; exact info_sizes) rfl _ rfl g0 rfl ?_) | (refine wl_loadA 25 Try.underlying25 rfl #[.float .f32 h, .float .f32 v] info_air rfl _ rfl g1 rfl ?_) | (go_at_call 41; with_reducible refine (c_areGrown f hf h v hv _).mono ?_; rw [hf1, hf2]; rintro e w1 ⟨rfl, hb⟩; have g0 := g0.keep hb; have g1 := g1.keep hb; have b0 := b0.trans (hb.mono b0.size); clear hb))
    go_ret2
    exact ⟨by rw [hR.out]; rfl, b0⟩
  obtain ⟨q1, q2, q3⟩ := win_ok hf1 (air_amt hf2)
  obtain ⟨X, C, hT, _, _⟩ := toldR_form _ (le_inf _ q3)
  have hR := Lib.hid (show winR f h v = .tuple #[.float .f32 X, .int .i64 C] by simp only [winR, hf1, hf2, if_true, hT])
  have HT := Lib.hid (fun w => (c_finite _ (le_inf _ q3) w).mono (fun e w' h => (⟨h.1.trans (by rw [hT]), h.2⟩ : e = .returned (.tuple #[.float .f32 X, .int .i64 C]) ∧ Below w.heap.size w w')))
  have HW := Lib.hid (fun w => c_water f hf1 w)
  clear hT q3
  generalize hV : winV f v = V at *
  have e1 : fv .quo .f32 (wat f 0 19) 1199570944 = wqV f := rfl
  have e2 : fv .add .f32 v (wqV f) = V := hV
  generalize wqV f = Q at *
  generalize wat f 0 19 = W at *
  clear hV
  generalize winR f h v = WR at *
  go_enter Try.func17, Try.ntmps17
  go_wp2_with (first | (refine wl_loadA 34 Try.underlying34 rfl (row 20 fun j => .float .f32 (f j)) (by rw [row_size]; exact info_sizes) rfl _ rfl g0 rfl ?_) | (refine wl_loadA 25 Try.underlying25 rfl #[.float .f32 h, .float .f32 v] info_air rfl _ rfl g1 rfl ?_) | (go_at_call 41; with_reducible refine (c_areGrown f hf h v hv _).mono ?_; rw [hf1, hf2]; rintro e w1 ⟨rfl, hb⟩; have g0 := g0.keep hb; have g1 := g1.keep hb; have b0 := b0.trans (hb.mono b0.size); clear hb))
  refine Code.wp_mono (Q := fun e a' x => e = .normal ∧ a' = { tmps := #[.agg (row 20 fun j => .float .f32 (f j)), .agg #[.float .f32 h, .float .f32 v], .pointer (some ⟨w.heap.size, 0, none⟩), .pointer (some ⟨(w.heap.size + 1), 0, none⟩), .float .f32 X, .int .i64 C, .agg (row 20 fun j => .float .f32 (f j)), .agg #[.float .f32 h, .float .f32 v], .bool true, .bool false, .pointer (some ⟨(w.heap.size + 1), 1, none⟩), .float .f32 v, .agg (row 20 fun j => .float .f32 (f j)), .float .f32 W, .float .f32 Q, .float .f32 V, .tuple #[.float .f32 X, .int .i64 C], .float .f32 X, .int .i64 C], defers := [] } ∧ (fun x => Holds x w.heap.size 34 (row 20 fun j => .float .f32 (f j)) ∧ Holds x (w.heap.size + 1) 25 #[.float .f32 h, .float .f32 v] ∧ Below w.heap.size w x) x) ?_ ?_
  · rintro e a' x1 ⟨rfl, rfl, g0, g1, b0⟩
    go_wp2
    go_ret2
    exact ⟨by rw [hR.out]; rfl, b0⟩
  · refine wp_region_held_drew (S := fun x => Holds x w.heap.size 34 (row 20 fun j => .float .f32 (f j)) ∧ Holds x (w.heap.size + 1) 25 #[.float .f32 h, .float .f32 v] ∧ Below w.heap.size w x) (by kernel_rfl) ⟨g0.drew, g1.drew, b0.trans ((Below.refl _ _).drew)⟩ (fun hS => ?_)
    refine takeA (i := 0) (d := some 10) (v := .pointer (some ⟨(w.heap.size + 1), 1, none⟩)) rfl rfl (by kernel_rfl) (by kernel_rfl) (by kernel_rfl) (fun _ _ _ h => nomatch h.1) (Or.inl ⟨by rfl, fun x hx => by go_simp⟩) (by assumption) ?_
    try simp only [Act.put, List.setIfInBounds_toArray, List.set_cons_zero, List.set_cons_succ]
    refine takeA (i := 1) (d := some 11) (v := .float .f32 v) rfl rfl (by kernel_rfl) (by kernel_rfl) (by kernel_rfl) (fun _ _ _ h => nomatch h.1) (Or.inl ⟨by rfl, fun x hS => by have hcell := hS.2.1.cell 1; go_simp⟩) (by assumption) ?_
    try simp only [Act.put, List.setIfInBounds_toArray, List.set_cons_zero, List.set_cons_succ]
    refine takeA (i := 2) (d := some 12) (v := .agg (row 20 fun j => .float .f32 (f j))) rfl rfl (by kernel_rfl) (by kernel_rfl) (by kernel_rfl) (fun _ _ _ h => nomatch h.1) (y_loadA 34 Try.underlying34 rfl (row 20 fun j => .float .f32 (f j)) (by rw [row_size]; exact info_sizes) (by rfl) _ rfl rfl (fun x hS => hS.1)) (by assumption) ?_
    try simp only [Act.put, List.setIfInBounds_toArray, List.set_cons_zero, List.set_cons_succ]
    refine wpAnyH_ready (rs := [3]) (by kernel_rfl) (by simp) (AllReadyH.cons rfl (fun K hK => ?_) AllReadyH.nil)
    go_simp
    with_reducible refine (HW.out _).mono ?_
    rintro e v1 ⟨rfl, hb⟩
    go_simp
    refine hK.out _ _ ⟨hS.1.keep hb, hS.2.1.keep hb, hS.2.2.trans (hb.mono hS.2.2.size)⟩ (fun hS => ?_)
    clear hK K
    try simp only [Act.put, List.setIfInBounds_toArray, List.set_cons_zero, List.set_cons_succ]
    refine takeA (i := 4) (d := some 14) (v := .float .f32 Q) rfl rfl (by kernel_rfl) (by kernel_rfl) (by kernel_rfl) (fun _ _ _ h => nomatch h.1) (Or.inl ⟨by rfl, fun x hx => by go_simp⟩) (by assumption) ?_
    try simp only [Act.put, List.setIfInBounds_toArray, List.set_cons_zero, List.set_cons_succ]
    refine takeA (i := 5) (d := some 15) (v := .float .f32 V) rfl rfl (by kernel_rfl) (by kernel_rfl) (by kernel_rfl) (fun _ _ _ h => nomatch h.1) (Or.inl ⟨by rfl, fun x hx => by go_simp⟩) (by assumption) ?_
    try simp only [Act.put, List.setIfInBounds_toArray, List.set_cons_zero, List.set_cons_succ]
    refine wpAnyH_ready (rs := [6]) (by kernel_rfl) (by simp) (AllReadyH.cons rfl (fun K hK => ?_) AllReadyH.nil)
    go_simp
    with_reducible refine (HT.out _).mono ?_
    rintro e v2 ⟨rfl, hb⟩
    go_simp
    refine hK.out _ _ ⟨hS.1.keep hb, hS.2.1.keep hb, hS.2.2.trans (hb.mono hS.2.2.size)⟩ (fun hS => ?_)
    clear hK K
    try simp only [Act.put, List.setIfInBounds_toArray, List.set_cons_zero, List.set_cons_succ]
    refine takeA (i := 7) (d := some 17) (v := .float .f32 X) rfl rfl (by kernel_rfl) (by kernel_rfl) (by kernel_rfl) (fun _ _ _ h => nomatch h.1) (Or.inl ⟨by rfl, fun x hx => by go_simp⟩) (by assumption) ?_
    try simp only [Act.put, List.setIfInBounds_toArray, List.set_cons_zero, List.set_cons_succ]
    refine takeA (i := 8) (d := some 18) (v := .int .i64 C) rfl rfl (by kernel_rfl) (by kernel_rfl) (by kernel_rfl) (fun _ _ _ h => nomatch h.1) (Or.inl ⟨by rfl, fun x hx => by go_simp⟩) (by assumption) ?_
    try simp only [Act.put, List.setIfInBounds_toArray, List.set_cons_zero, List.set_cons_succ]
    refine takeA (i := 9) (d := some 4) (v := .float .f32 X) rfl rfl (by kernel_rfl) (by kernel_rfl) (by kernel_rfl) (fun _ _ _ h => nomatch h.1) (Or.inl ⟨by rfl, fun x hx => by go_simp⟩) (by assumption) ?_
    try simp only [Act.put, List.setIfInBounds_toArray, List.set_cons_zero, List.set_cons_succ]
    refine takeA (i := 10) (d := some 5) (v := .int .i64 C) rfl rfl (by kernel_rfl) (by kernel_rfl) (by kernel_rfl) (fun _ _ _ h => nomatch h.1) (Or.inl ⟨by rfl, fun x hx => by go_simp⟩) (by assumption) ?_
    try simp only [Act.put, List.setIfInBounds_toArray, List.set_cons_zero, List.set_cons_succ]
    refine wpAnyH_done (by kernel_rfl) ?_ _
    exact ⟨rfl, rfl, hS⟩
end Go.Proofs.Ytgjibocemffjhaa
