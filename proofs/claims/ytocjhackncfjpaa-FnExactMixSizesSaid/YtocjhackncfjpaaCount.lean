/-
  Contracts and walks: counts, waters, means.
-/
import Derived.Test.YtocjhackncfjpaaSum
import Derived.Deep.RegionHeld3
namespace Go.Proofs.Ytocjhackncfjpaa
open Go.RowKit Fl
set_option maxRecDepth 20000

theorem cvle {x : Nat} (h : x ≤ 2139095040) : cvok x = true ∧ num FloatKind.f64.format (cv x) := ⟨cvok_of (by omega) (isnum_of_le h), (cv_num (by omega) (isnum_of_le h)).2⟩
theorem drew_below {w w' : World} (h : Drew w w') : Below w.heap.size w w' := Drew.below h
theorem fv_lt {op : BinOp} {x y : Nat} (h : fok op .f32 x y = true) : fv op .f32 x y < 4294967296 := by
  have := floatBits_wf (fv_some h)
  simpa [Lit.wf] using this
theorem nb_lt (t : Nat) : nb .f32 t < 4294967296 := by
  show (t % 2) * 2 ^ 31 + 0x7f800000 + 1 + (t / 2) % (2 ^ 23 - 1) < 4294967296
  have h := Nat.mod_lt (t / 2) (show 0 < 2 ^ 23 - 1 by omega)
  omega
theorem nb_fin (t : Nat) : isfin (nb .f32 t) = false := by
  have := nb_nan .f32 t
  apply decide_eq_false
  have e : FloatKind.f32.format.infRung = 2139095040 := rfl
  have e2 : FloatKind.f32.format.signWeight = 2147483648 := rfl
  rw [e, e2] at this
  omega
theorem toldR_nan (t : Nat) : toldR (nb .f32 t) = .tuple #[.float .f32 0, .int .i64 4] := by simp [toldR, nb_fin]
/-- what is told has a number that can be made wide -/
theorem toldR_form (a : Nat) (ha : a < 4294967296) : ∃ (x : Nat) (c : Int), toldR a = .tuple #[.float .f32 x, .int .i64 c] ∧ cvok x = true ∧ num FloatKind.f64.format (cv x) := by
  unfold toldR
  cases h : isfin a
  · exact ⟨0, 4, by simp, (cvle (by omega)).1, (cvle (by omega)).2⟩
  · exact ⟨a, 0, by simp, cvok_of ha (isnum_of_fin h), (cv_num ha (isnum_of_fin h)).2⟩
theorem pairF_form (x : Nat) (c : Int) (hx : x ≤ 2139095040) : ∃ (x' : Nat) (c' : Int), Value.tuple #[.float .f32 x, .int .i64 c] = .tuple #[.float .f32 x', .int .i64 c'] ∧ cvok x' = true ∧ num FloatKind.f64.format (cv x') :=
  ⟨x, c, rfl, (cvle hx).1, (cvle hx).2⟩
theorem le_inf (a : Nat) (h : a ≤ 2139095040) : a < 4294967296 := by omega

def countOfR (f : Nat → Nat) : Value := if okB f then toldR (cnt f 19) else .tuple #[.float .f32 0, .int .i64 1]
theorem c_specCountOf (f : Nat → Nat) (hf : ∀ j, f j < 4294967296) (w : World) : Calls Try.prog 16 #[.agg (row 20 fun j => .float .f32 (f j))] w fun e w' => e = .returned (countOfR f) ∧ Below w.heap.size w w' := by
  have g0 := Holds.new w 24 (row 20 fun j => .float .f32 (f j))
  have b0 : Below w.heap.size w (w.alloc (.cells (row 20 fun j => .float .f32 (f j)) 24)) := (Below.refl _ _).alloc (by simp) _
  cases hf1 : okB f
  · have hR := Lib.hid (show countOfR f = .tuple #[.float .f32 0, .int .i64 1] by simp [countOfR, hf1])
    go_enter Try.func16, Try.ntmps16
    go_wp2_with (first | (refine wl_load 24 Try.underlying24 info_sizes rfl _ rfl g0 rfl ?_) | (go_at_call 30; refine (c_l01Ok f hf _ _ _ g0).mono ?_; rw [hf1]; rintro e w1 ⟨rfl, hdr⟩; have hb := drew_below hdr; clear hdr; have g0 := g0.keep hb; have b0 := b0.trans (hb.mono b0.size); clear hb))
    go_ret2
    exact ⟨by rw [hR.out]; rfl, b0⟩
  · have hR := Lib.hid (show countOfR f = toldR (cnt f 19) by simp [countOfR, hf1])
    obtain ⟨x, c, hx, _, _⟩ := toldR_form (cnt f 19) (le_inf _ (cnt_ok hf1 19 (by omega)))
    have HT := Lib.hid hx
    clear hx
    go_enter Try.func16, Try.ntmps16
    go_wp2_with (first | (refine wl_load 24 Try.underlying24 info_sizes rfl _ rfl g0 rfl ?_) | (go_at_call 30; refine (c_l01Ok f hf _ _ _ g0).mono ?_; rw [hf1]; rintro e w1 ⟨rfl, hdr⟩; have hb := drew_below hdr; clear hdr; have g0 := g0.keep hb; have b0 := b0.trans (hb.mono b0.size); clear hb) | (go_at_call 37; refine (c_l01Count f hf1 _ _ _ g0).mono ?_; rintro e w1 ⟨rfl, rfl⟩) | (go_at_call 36; refine (c_l01Told _ (le_inf _ (cnt_ok hf1 19 (by omega))) _).mono ?_; rw [HT.out]; rintro e w1 ⟨rfl, hdr⟩; have hb := drew_below hdr; clear hdr; have g0 := g0.keep hb; have b0 := b0.trans (hb.mono b0.size); clear hb))
    go_ret2
    exact ⟨by rw [hR.out, HT.out]; rfl, b0⟩
theorem c_implCountOf (f : Nat → Nat) (hf : ∀ j, f j < 4294967296) (w : World) : Calls Try.prog 17 #[.agg (row 20 fun j => .float .f32 (f j))] w fun e w' => e = .returned (countOfR f) ∧ Below w.heap.size w w' := by
  have g0 := Holds.new w 24 (row 20 fun j => .float .f32 (f j))
  have b0 : Below w.heap.size w (w.alloc (.cells (row 20 fun j => .float .f32 (f j)) 24)) := (Below.refl _ _).alloc (by simp) _
  cases hf1 : okB f
  · have hR := Lib.hid (show countOfR f = .tuple #[.float .f32 0, .int .i64 1] by simp [countOfR, hf1])
    go_enter Try.func17, Try.ntmps17
    go_wp2_with (first | (refine wl_load 24 Try.underlying24 info_sizes rfl _ rfl g0 rfl ?_) | (go_at_call 33; refine (c_ValidSizes f hf _).mono ?_; rw [hf1]; rintro e w1 ⟨rfl, hb⟩; have g0 := g0.keep hb; have b0 := b0.trans (hb.mono b0.size); clear hb))
    go_ret2
    exact ⟨by rw [hR.out]; rfl, b0⟩
  · have hR := Lib.hid (show countOfR f = toldR (cnt f 19) by simp [countOfR, hf1])
    obtain ⟨x, c, hx, _, _⟩ := toldR_form (cnt f 19) (le_inf _ (cnt_ok hf1 19 (by omega)))
    have HT := Lib.hid hx
    clear hx
    go_enter Try.func17, Try.ntmps17
    go_wp2_with (first | (refine wl_load 24 Try.underlying24 info_sizes rfl _ rfl g0 rfl ?_) | (go_at_call 33; refine (c_ValidSizes f hf _).mono ?_; rw [hf1]; rintro e w1 ⟨rfl, hb⟩; have g0 := g0.keep hb; have b0 := b0.trans (hb.mono b0.size); clear hb) | (go_at_call 39; refine (c_count f hf1 _).mono ?_; rintro e w1 ⟨rfl, hb⟩; have g0 := g0.keep hb; have b0 := b0.trans (hb.mono b0.size); clear hb) | (go_at_call 38; refine (c_finite _ (le_inf _ (cnt_ok hf1 19 (by omega))) _).mono ?_; rw [HT.out]; rintro e w1 ⟨rfl, hb⟩; have g0 := g0.keep hb; have b0 := b0.trans (hb.mono b0.size); clear hb))
    go_ret2
    exact ⟨by rw [hR.out, HT.out]; rfl, b0⟩
theorem walk_FnExactCountOf (f : Nat → Nat) (hf : ∀ j, f j < 4294967296) (w : World) : Calls Try.prog 4 #[.agg (row 20 fun j => .float .f32 (f j))] w fun e w' => e = .returned (.bool true) ∧ Below w.heap.size w w' := by
  have hcv := fun (x : Nat) (h : cvok x = true) (w : World) => run_cv (P := Try.prog) w 22 30 (by kernel_rfl) Try.underlying30 x h
  obtain ⟨x, c, hR, h1, h2⟩ : ∃ (x : Nat) (c : Int), countOfR f = .tuple #[.float .f32 x, .int .i64 c] ∧ cvok x = true ∧ num FloatKind.f64.format (cv x) := by
    unfold countOfR
    split
    · rename_i hf1; exact toldR_form _ (le_inf _ (cnt_ok hf1 19 (by omega)))
    · exact pairF_form _ _ (by omega)
  have HR := Lib.hid hR
  have H2 := Lib.hid h2
  clear hR h2
  have g0 := Holds.new w 23 (row 20 fun j => .float .f32 (f j))
  have b0 : Below w.heap.size w (w.alloc (.cells (row 20 fun j => .float .f32 (f j)) 23)) := (Below.refl _ _).alloc (by simp) _
  go_enter Try.func4, Try.ntmps4
  go_wp2_with (first | (refine wl_load 23 Try.underlying23 info_a20 rfl _ rfl g0 rfl ?_) | (go_at_call 12; refine (c_toSizes f _).mono ?_; rintro e w1 ⟨rfl, hb⟩; have g0 := g0.keep hb; have b0 := b0.trans (hb.mono b0.size); clear hb) | (go_at_call 16; refine (c_specCountOf f hf _).mono ?_; rw [HR.out]; rintro e w1 ⟨rfl, hb⟩; have g0 := g0.keep hb; have b0 := b0.trans (hb.mono b0.size); clear hb) | (go_at_call 17; refine (c_implCountOf f hf _).mono ?_; rw [HR.out]; rintro e w1 ⟨rfl, hb⟩; have g0 := g0.keep hb; have b0 := b0.trans (hb.mono b0.size); clear hb) | (go_at_call 15; refine (c_sameFloat _ H2.out _).mono ?_; rintro e w1 ⟨rfl, rfl⟩))
  go_ret
  exact ⟨rfl, b0⟩
def waterOfR (f : Nat → Nat) : Value := if okB f then toldR (wat f 0 19) else .tuple #[.float .f32 0, .int .i64 1]
theorem c_specWaterOf (f : Nat → Nat) (hf : ∀ j, f j < 4294967296) (w : World) : Calls Try.prog 20 #[.agg (row 20 fun j => .float .f32 (f j))] w fun e w' => e = .returned (waterOfR f) ∧ Below w.heap.size w w' := by
  have g0 := Holds.new w 24 (row 20 fun j => .float .f32 (f j))
  have b0 : Below w.heap.size w (w.alloc (.cells (row 20 fun j => .float .f32 (f j)) 24)) := (Below.refl _ _).alloc (by simp) _
  cases hf1 : okB f
  · have hR := Lib.hid (show waterOfR f = .tuple #[.float .f32 0, .int .i64 1] by simp [waterOfR, hf1])
    go_enter Try.func20, Try.ntmps20
    go_wp2_with (first | (refine wl_load 24 Try.underlying24 info_sizes rfl _ rfl g0 rfl ?_) | (go_at_call 30; refine (c_l01Ok f hf _ _ _ g0).mono ?_; rw [hf1]; rintro e w1 ⟨rfl, hdr⟩; have hb := drew_below hdr; clear hdr; have g0 := g0.keep hb; have b0 := b0.trans (hb.mono b0.size); clear hb))
    go_ret2
    exact ⟨by rw [hR.out]; rfl, b0⟩
  · have hR := Lib.hid (show waterOfR f = toldR (wat f 0 19) by simp [waterOfR, hf1])
    obtain ⟨x, c, hx, _, _⟩ := toldR_form (wat f 0 19) (le_inf _ (wat_ok hf1 0 19 (by omega)))
    have HT := Lib.hid hx
    clear hx
    go_enter Try.func20, Try.ntmps20
    go_wp2_with (first | (refine wl_load 24 Try.underlying24 info_sizes rfl _ rfl g0 rfl ?_) | (go_at_call 30; refine (c_l01Ok f hf _ _ _ g0).mono ?_; rw [hf1]; rintro e w1 ⟨rfl, hdr⟩; have hb := drew_below hdr; clear hdr; have g0 := g0.keep hb; have b0 := b0.trans (hb.mono b0.size); clear hb) | (go_at_call 42; refine (c_l01Water f hf1 0 (by omega) _ _ _ g0).mono ?_; rintro e w1 ⟨rfl, hdr⟩; have hb := drew_below hdr; clear hdr; have g0 := g0.keep hb; have b0 := b0.trans (hb.mono b0.size); clear hb) | (go_at_call 36; refine (c_l01Told _ (le_inf _ (wat_ok hf1 0 19 (by omega))) _).mono ?_; rw [HT.out]; rintro e w1 ⟨rfl, hdr⟩; have hb := drew_below hdr; clear hdr; have g0 := g0.keep hb; have b0 := b0.trans (hb.mono b0.size); clear hb))
    go_ret2
    exact ⟨by rw [hR.out, HT.out]; rfl, b0⟩
theorem c_implWaterOf (f : Nat → Nat) (hf : ∀ j, f j < 4294967296) (w : World) : Calls Try.prog 21 #[.agg (row 20 fun j => .float .f32 (f j))] w fun e w' => e = .returned (waterOfR f) ∧ Below w.heap.size w w' := by
  have g0 := Holds.new w 24 (row 20 fun j => .float .f32 (f j))
  have b0 : Below w.heap.size w (w.alloc (.cells (row 20 fun j => .float .f32 (f j)) 24)) := (Below.refl _ _).alloc (by simp) _
  cases hf1 : okB f
  · have hR := Lib.hid (show waterOfR f = .tuple #[.float .f32 0, .int .i64 1] by simp [waterOfR, hf1])
    go_enter Try.func21, Try.ntmps21
    go_wp2_with (first | (refine wl_load 24 Try.underlying24 info_sizes rfl _ rfl g0 rfl ?_) | (go_at_call 33; refine (c_ValidSizes f hf _).mono ?_; rw [hf1]; rintro e w1 ⟨rfl, hb⟩; have g0 := g0.keep hb; have b0 := b0.trans (hb.mono b0.size); clear hb))
    go_ret2
    exact ⟨by rw [hR.out]; rfl, b0⟩
  · have hR := Lib.hid (show waterOfR f = toldR (wat f 0 19) by simp [waterOfR, hf1])
    obtain ⟨x, c, hx, _, _⟩ := toldR_form (wat f 0 19) (le_inf _ (wat_ok hf1 0 19 (by omega)))
    have HT := Lib.hid hx
    clear hx
    go_enter Try.func21, Try.ntmps21
    go_wp2_with (first | (refine wl_load 24 Try.underlying24 info_sizes rfl _ rfl g0 rfl ?_) | (go_at_call 33; refine (c_ValidSizes f hf _).mono ?_; rw [hf1]; rintro e w1 ⟨rfl, hb⟩; have g0 := g0.keep hb; have b0 := b0.trans (hb.mono b0.size); clear hb) | (go_at_call 43; refine (c_water f hf1 _).mono ?_; rintro e w1 ⟨rfl, hb⟩; have g0 := g0.keep hb; have b0 := b0.trans (hb.mono b0.size); clear hb) | (go_at_call 38; refine (c_finite _ (le_inf _ (wat_ok hf1 0 19 (by omega))) _).mono ?_; rw [HT.out]; rintro e w1 ⟨rfl, hb⟩; have g0 := g0.keep hb; have b0 := b0.trans (hb.mono b0.size); clear hb))
    go_ret2
    exact ⟨by rw [hR.out, HT.out]; rfl, b0⟩
theorem walk_FnExactWaterOf (f : Nat → Nat) (hf : ∀ j, f j < 4294967296) (w : World) : Calls Try.prog 6 #[.agg (row 20 fun j => .float .f32 (f j))] w fun e w' => e = .returned (.bool true) ∧ Below w.heap.size w w' := by
  have hcv := fun (x : Nat) (h : cvok x = true) (w : World) => run_cv (P := Try.prog) w 22 30 (by kernel_rfl) Try.underlying30 x h
  obtain ⟨x, c, hR, h1, h2⟩ : ∃ (x : Nat) (c : Int), waterOfR f = .tuple #[.float .f32 x, .int .i64 c] ∧ cvok x = true ∧ num FloatKind.f64.format (cv x) := by
    unfold waterOfR
    split
    · rename_i hf1; exact toldR_form _ (le_inf _ (wat_ok hf1 0 19 (by omega)))
    · exact pairF_form _ _ (by omega)
  have HR := Lib.hid hR
  have H2 := Lib.hid h2
  clear hR h2
  have g0 := Holds.new w 23 (row 20 fun j => .float .f32 (f j))
  have b0 : Below w.heap.size w (w.alloc (.cells (row 20 fun j => .float .f32 (f j)) 23)) := (Below.refl _ _).alloc (by simp) _
  go_enter Try.func6, Try.ntmps6
  go_wp2_with (first | (refine wl_load 23 Try.underlying23 info_a20 rfl _ rfl g0 rfl ?_) | (go_at_call 12; refine (c_toSizes f _).mono ?_; rintro e w1 ⟨rfl, hb⟩; have g0 := g0.keep hb; have b0 := b0.trans (hb.mono b0.size); clear hb) | (go_at_call 20; refine (c_specWaterOf f hf _).mono ?_; rw [HR.out]; rintro e w1 ⟨rfl, hb⟩; have g0 := g0.keep hb; have b0 := b0.trans (hb.mono b0.size); clear hb) | (go_at_call 21; refine (c_implWaterOf f hf _).mono ?_; rw [HR.out]; rintro e w1 ⟨rfl, hb⟩; have g0 := g0.keep hb; have b0 := b0.trans (hb.mono b0.size); clear hb) | (go_at_call 15; refine (c_sameFloat _ H2.out _).mono ?_; rintro e w1 ⟨rfl, rfl⟩))
  go_ret
  exact ⟨rfl, b0⟩
end Go.Proofs.Ytocjhackncfjpaa
