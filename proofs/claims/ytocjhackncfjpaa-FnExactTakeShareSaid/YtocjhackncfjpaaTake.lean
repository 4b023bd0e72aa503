/-
  Contracts and walks: a share that is taken; the water of the greater classes; the mean mass.
-/
import Derived.Test.YtocjhackncfjpaaMore
import Derived.Laws.CopyOwn
import Derived.Deep.RegionHeld3
namespace Go.Proofs.Ytocjhackncfjpaa
open Go.RowKit Fl
set_option maxRecDepth 20000
set_option maxHeartbeats 4000000

theorem sub_pp {a b : Nat} (ha : a < 2139095040) (hb : b < 2139095040) : fok .sub .f32 a b = true ∧ isnum (fv .sub .f32 a b) = true ∧ fv .sub .f32 a b < 4294967296 := by
  obtain ⟨r, h1, h2⟩ := add_spec FloatKind.f32.format (fmt_ok .f32).1 false true a b ha hb
  have h3 := sub_add FloatKind.f32.format a false b hb
  have e : FloatKind.f32.format.word false b = b := rfl
  have e' : FloatKind.f32.format.word false a = a := rfl
  rw [e] at h3
  rw [e'] at h1
  obtain ⟨h4, h5⟩ := fok_of (op := .sub) (k := .f32) (x := a) (y := b) (h3.trans h1)
  have hn := num_word FloatKind.f32.format (if sgn FloatKind.f32.format false a + sgn FloatKind.f32.format true b = 0 then false && true else decide (sgn FloatKind.f32.format false a + sgn FloatKind.f32.format true b < 0)) (min r FloatKind.f32.format.infRung) (Nat.min_le_right _ _)
  rw [← h5] at hn
  exact ⟨h4, decide_eq_true hn.1, hn.2⟩

/-- the row with one number turned -/
def setF (f : Nat → Nat) (k v : Nat) : Nat → Nat := fun j => if j = k then v else f j
theorem setF_row (f : Nat → Nat) (k v : Nat) (j : Nat) : (if j = k then Value.float .f32 v else Value.float .f32 (f j)) = Value.float .f32 (setF f k v j) := by unfold setF; split <;> rfl
def takeR (f : Nat → Nat) (n : Int) (x : Nat) : Value :=
  if okB f then (if inB n 0 19 && shareB x then .tuple #[.agg (row 20 fun j => .float .f32 (setF f n.toNat (fv .sub .f32 (f n.toNat) (fv .mul .f32 x (f n.toNat))) j)), .float .f32 (fv .mul .f32 x (f n.toNat)), .int .i64 0]
    else .tuple #[.agg (row 20 fun _ => .float .f32 0), .float .f32 0, .int .i64 2])
  else .tuple #[.agg (row 20 fun _ => .float .f32 0), .float .f32 0, .int .i64 1]

theorem take_ok {f : Nat → Nat} (h : okB f = true) {x : Nat} (hx : shareB x = true) {k : Nat} (hk : k < 20) :
    fok .mul .f32 x (f k) = true ∧ fv .mul .f32 x (f k) < 2139095040 ∧ fok .sub .f32 (f k) (fv .mul .f32 x (f k)) = true ∧ cvok (fv .sub .f32 (f k) (fv .mul .f32 x (f k))) = true ∧ cvok (fv .mul .f32 x (f k)) = true := by
  have hx1 := shareB_iff hx
  have hf := amt_lt (of_okB h k hk)
  obtain ⟨r, h1, h2⟩ := mul_pos FloatKind.f32.format (fmt_ok .f32).1 x (f k) (by show x < 2139095040; omega) hf
  obtain ⟨h3, h4⟩ := fok_of (op := .mul) (k := .f32) (x := x) (y := f k) h1
  have hr : r ≤ f k := by
    refine h2.mono (IsRnd.exact _ (f k)) ?_
    have e : sv FloatKind.f32.format 1065353216 = 8388608 * 2 ^ 126 := sv_at FloatKind.f32.format 126 8388608 (Nat.le_refl _) (by show (8388608 : Nat) ≤ 2 * 8388608; omega)
    have e2 : ((8388608 * 2 ^ 126 : Nat) : Rat) * 2 ^ FloatKind.f32.format.leastPlace = 1 := by
      have : FloatKind.f32.format.leastPlace = -149 := rfl
      rw [this, show (8388608 * 2 ^ 126 : Nat) = 2 ^ 149 by decide, Rat.natCast_pow]
      exact zpow_split 149
    have hs : (sv FloatKind.f32.format x : Rat) ≤ ((8388608 * 2 ^ 126 : Nat) : Rat) := by rw [← e]; exact cast_le (sv_mono _ hx1)
    have hz : (0 : Rat) ≤ 2 ^ FloatKind.f32.format.leastPlace := Rat.le_of_lt (zp_pos _)
    have hs2 := Rat.mul_le_mul_of_nonneg_right hs hz
    rw [e2] at hs2
    have hk0 : (0 : Rat) ≤ (sv FloatKind.f32.format (f k) : Rat) := by have := cast_le (Nat.zero_le (sv FloatKind.f32.format (f k))); simpa using this
    have hs3 := Rat.mul_le_mul_of_nonneg_left hs2 hk0
    rw [Rat.mul_one] at hs3
    have e3 : (sv FloatKind.f32.format x : Rat) * sv FloatKind.f32.format (f k) * 2 ^ FloatKind.f32.format.leastPlace = (sv FloatKind.f32.format (f k) : Rat) * ((sv FloatKind.f32.format x : Rat) * 2 ^ FloatKind.f32.format.leastPlace) := by grind
    rw [e3]; exact hs3
  have hlt : fv .mul .f32 x (f k) < 2139095040 := by
    rw [h4]; have := Nat.min_le_left r FloatKind.f32.format.infRung; omega
  have hs := sub_pp hf hlt
  exact ⟨h3, hlt, hs.1, cvok_of hs.2.2 hs.2.1, (cvle (by omega)).1⟩
theorem take_form (f : Nat → Nat) (n : Int) (x : Nat) : ∃ (G : Nat → Nat) (t : Nat) (c' : Int), takeR f n x = .tuple #[.agg (row 20 fun j => .float .f32 (G j)), .float .f32 t, .int .i64 c'] ∧ (∀ j, j < 20 → cvok (G j) = true) ∧ cvok t = true := by
  unfold takeR
  split
  · rename_i h1; split
    · rename_i h2
      rw [Bool.and_eq_true] at h2
      obtain ⟨k, rfl, hk⟩ := inB19 h2.1
      obtain ⟨t1, t2, t3, t4, t5⟩ := take_ok h1 h2.2 hk
      refine ⟨_, _, _, rfl, fun j hj => ?_, t5⟩
      show cvok (setF f k _ j) = true
      unfold setF
      split
      · exact t4
      · have := amt_lt (of_okB h1 j hj); exact (cvle (by omega)).1
    · exact ⟨fun _ => 0, 0, 2, rfl, fun _ _ => (cvle (x := 0) (by omega)).1, (cvle (x := 0) (by omega)).1⟩
  · exact ⟨fun _ => 0, 0, 1, rfl, fun _ _ => (cvle (x := 0) (by omega)).1, (cvle (x := 0) (by omega)).1⟩
theorem c_specTakeShare (f : Nat → Nat) (hf : ∀ j, f j < 4294967296) (n : Int) (x : Nat) (hx : x < 4294967296) (w : World) : Calls Try.prog 11 #[.agg (row 20 fun j => .float .f32 (f j)), .int .i64 n, .float .f32 x] w fun e w' => e = .returned (takeR f n x) ∧ Below w.heap.size w w' := by
  have g0 : Holds ((w.alloc (.cells (row 20 fun j => .float .f32 (f j)) 24)).alloc (.cells #[.float .f32 0, .float .f32 0, .float .f32 0, .float .f32 0, .float .f32 0, .float .f32 0, .float .f32 0, .float .f32 0, .float .f32 0, .float .f32 0, .float .f32 0, .float .f32 0, .float .f32 0, .float .f32 0, .float .f32 0, .float .f32 0, .float .f32 0, .float .f32 0, .float .f32 0, .float .f32 0] 24)) w.heap.size 24 (row 20 fun j => .float .f32 (f j)) := (Holds.new _ _ _).alloc _
  have g1 : Holds ((w.alloc (.cells (row 20 fun j => .float .f32 (f j)) 24)).alloc (.cells #[.float .f32 0, .float .f32 0, .float .f32 0, .float .f32 0, .float .f32 0, .float .f32 0, .float .f32 0, .float .f32 0, .float .f32 0, .float .f32 0, .float .f32 0, .float .f32 0, .float .f32 0, .float .f32 0, .float .f32 0, .float .f32 0, .float .f32 0, .float .f32 0, .float .f32 0, .float .f32 0] 24)) (w.heap.size + 1) 24 (row 20 fun _ => .float .f32 0) := by rw [zrow_eq]; exact Holds.new' _ _ _ (by simp)
  have b0 : Below w.heap.size w ((w.alloc (.cells (row 20 fun j => .float .f32 (f j)) 24)).alloc (.cells #[.float .f32 0, .float .f32 0, .float .f32 0, .float .f32 0, .float .f32 0, .float .f32 0, .float .f32 0, .float .f32 0, .float .f32 0, .float .f32 0, .float .f32 0, .float .f32 0, .float .f32 0, .float .f32 0, .float .f32 0, .float .f32 0, .float .f32 0, .float .f32 0, .float .f32 0, .float .f32 0] 24)) := ((Below.refl _ _).alloc (by simp) _).alloc (by simp) _
  cases hf1 : okB f
  · have hR := Lib.hid (show takeR f n x = .tuple #[.agg (row 20 fun _ => .float .f32 0), .float .f32 0, .int .i64 1] by simp [takeR, hf1])
    go_enter Try.func11, Try.ntmps11
    go_wp2_with (first | (refine wl_load 24 Try.underlying24 info_sizes rfl _ rfl g0 rfl ?_) | (go_at_call 30; refine (c_l01Ok f hf _ _ _ g0).mono ?_; rw [hf1]; rintro e w1 ⟨rfl, hdr⟩; have hb := drew_below hdr; clear hdr; have g0 := g0.keep hb; have g1 := g1.keep hb; have b0 := b0.trans (hb.mono b0.size); clear hb) | (refine wl_store 24 info_sizes rfl _ _ rfl g1 (row_size _ _) rfl (congrArg Value.agg zrow_eq) (fun _ => rfl) ?_))
    exact ret_row3 rfl Try.underlying24 info_sizes (g1.row_ _) rfl rfl ⟨by rw [hR.out]; rfl, below_setRow b0 (by omega) _⟩
  cases hf2 : inB n 0 19
  · have hR := Lib.hid (show takeR f n x = .tuple #[.agg (row 20 fun _ => .float .f32 0), .float .f32 0, .int .i64 2] by simp [takeR, hf1, hf2])
    go_enter Try.func11, Try.ntmps11
    go_wp2_with (first | (refine wl_load 24 Try.underlying24 info_sizes rfl _ rfl g0 rfl ?_) | (go_at_call 30; refine (c_l01Ok f hf _ _ _ g0).mono ?_; rw [hf1]; rintro e w1 ⟨rfl, hdr⟩; have hb := drew_below hdr; clear hdr; have g0 := g0.keep hb; have g1 := g1.keep hb; have b0 := b0.trans (hb.mono b0.size); clear hb) | (go_at_call 31; refine (c_l01Class _ _).mono ?_; rw [hf2]; rintro e w1 ⟨rfl, rfl⟩) | (refine wl_store 24 info_sizes rfl _ _ rfl g1 (row_size _ _) rfl (congrArg Value.agg zrow_eq) (fun _ => rfl) ?_))
    exact ret_row3 rfl Try.underlying24 info_sizes (g1.row_ _) rfl rfl ⟨by rw [hR.out]; rfl, below_setRow b0 (by omega) _⟩
  cases hf3 : shareB x
  · have hR := Lib.hid (show takeR f n x = .tuple #[.agg (row 20 fun _ => .float .f32 0), .float .f32 0, .int .i64 2] by simp [takeR, hf1, hf2, hf3])
    go_enter Try.func11, Try.ntmps11
    go_wp2_with (first | (refine wl_load 24 Try.underlying24 info_sizes rfl _ rfl g0 rfl ?_) | (go_at_call 30; refine (c_l01Ok f hf _ _ _ g0).mono ?_; rw [hf1]; rintro e w1 ⟨rfl, hdr⟩; have hb := drew_below hdr; clear hdr; have g0 := g0.keep hb; have g1 := g1.keep hb; have b0 := b0.trans (hb.mono b0.size); clear hb) | (go_at_call 31; refine (c_l01Class _ _).mono ?_; rw [hf2]; rintro e w1 ⟨rfl, rfl⟩) | (go_at_call 32; refine (c_l01Share x hx _).mono ?_; rw [hf3]; rintro e w1 ⟨rfl, hdr⟩; have hb := drew_below hdr; clear hdr; have g0 := g0.keep hb; have g1 := g1.keep hb; have b0 := b0.trans (hb.mono b0.size); clear hb) | (refine wl_store 24 info_sizes rfl _ _ rfl g1 (row_size _ _) rfl (congrArg Value.agg zrow_eq) (fun _ => rfl) ?_))
    exact ret_row3 rfl Try.underlying24 info_sizes (g1.row_ _) rfl rfl ⟨by rw [hR.out]; rfl, below_setRow b0 (by omega) _⟩
  obtain ⟨k, rfl, hk⟩ := inB19 hf2
  obtain ⟨t1, _, t2, _, _⟩ := take_ok hf1 hf3 hk
  have hR := Lib.hid (show takeR f k x = .tuple #[.agg (row 20 fun j => .float .f32 (setF f k (fv .sub .f32 (f k) (fv .mul .f32 x (f k))) j)), .float .f32 (fv .mul .f32 x (f k)), .int .i64 0] by simp [takeR, hf1, hf2, hf3])
  have hi0 : (0 : Int) ≤ (k : Int) := by omega
  have hi1 : (k : Int) < 20 := by omega
  go_enter Try.func11, Try.ntmps11
  go_wp2_with (first | (refine wl_load 24 Try.underlying24 info_sizes rfl _ rfl ((g0.set_row k _).to (fun j _ => setF_row f k _ j)) rfl ?_) | (refine wl_load 24 Try.underlying24 info_sizes rfl _ rfl g0 rfl ?_) | (go_at_call 30; refine (c_l01Ok f hf _ _ _ g0).mono ?_; rw [hf1]; rintro e w1 ⟨rfl, hdr⟩; have hb := drew_below hdr; clear hdr; have g0 := g0.keep hb; have g1 := g1.keep hb; have b0 := b0.trans (hb.mono b0.size); clear hb) | (go_at_call 31; refine (c_l01Class _ _).mono ?_; rw [hf2]; rintro e w1 ⟨rfl, rfl⟩) | (go_at_call 32; refine (c_l01Share x hx _).mono ?_; rw [hf3]; rintro e w1 ⟨rfl, hdr⟩; have hb := drew_below hdr; clear hdr; have g0 := g0.keep hb; have g1 := g1.keep hb; have b0 := b0.trans (hb.mono b0.size); clear hb; have hc := g0.at_ hk; have hfz := g0.free k) | (refine wl_store 24 info_sizes rfl _ _ rfl (g1.far (by simp) _) (row_size _ _) rfl rfl (fun _ => rfl) ?_))
  exact ret_row3 rfl Try.underlying24 info_sizes ((g1.far (by simp) _).row_ _) rfl rfl ⟨by rw [hR.out]; rfl, below_setRow (b0.setCell (by simp) _) (by omega) _⟩
theorem c_implTakeShare (f : Nat → Nat) (hf : ∀ j, f j < 4294967296) (n : Int) (x : Nat) (hx : x < 4294967296) (w : World) : Calls Try.prog 13 #[.agg (row 20 fun j => .float .f32 (f j)), .int .i64 n, .float .f32 x] w fun e w' => e = .returned (takeR f n x) ∧ Below w.heap.size w w' := by
  have g0 : Holds ((w.alloc (.cells (row 20 fun j => .float .f32 (f j)) 24)).alloc (.cells #[.float .f32 0, .float .f32 0, .float .f32 0, .float .f32 0, .float .f32 0, .float .f32 0, .float .f32 0, .float .f32 0, .float .f32 0, .float .f32 0, .float .f32 0, .float .f32 0, .float .f32 0, .float .f32 0, .float .f32 0, .float .f32 0, .float .f32 0, .float .f32 0, .float .f32 0, .float .f32 0] 24)) w.heap.size 24 (row 20 fun j => .float .f32 (f j)) := (Holds.new _ _ _).alloc _
  have g1 : Holds ((w.alloc (.cells (row 20 fun j => .float .f32 (f j)) 24)).alloc (.cells #[.float .f32 0, .float .f32 0, .float .f32 0, .float .f32 0, .float .f32 0, .float .f32 0, .float .f32 0, .float .f32 0, .float .f32 0, .float .f32 0, .float .f32 0, .float .f32 0, .float .f32 0, .float .f32 0, .float .f32 0, .float .f32 0, .float .f32 0, .float .f32 0, .float .f32 0, .float .f32 0] 24)) (w.heap.size + 1) 24 (row 20 fun _ => .float .f32 0) := by rw [zrow_eq]; exact Holds.new' _ _ _ (by simp)
  have b0 : Below w.heap.size w ((w.alloc (.cells (row 20 fun j => .float .f32 (f j)) 24)).alloc (.cells #[.float .f32 0, .float .f32 0, .float .f32 0, .float .f32 0, .float .f32 0, .float .f32 0, .float .f32 0, .float .f32 0, .float .f32 0, .float .f32 0, .float .f32 0, .float .f32 0, .float .f32 0, .float .f32 0, .float .f32 0, .float .f32 0, .float .f32 0, .float .f32 0, .float .f32 0, .float .f32 0] 24)) := ((Below.refl _ _).alloc (by simp) _).alloc (by simp) _
  cases hf1 : okB f
  · have hR := Lib.hid (show takeR f n x = .tuple #[.agg (row 20 fun _ => .float .f32 0), .float .f32 0, .int .i64 1] by simp [takeR, hf1])
    go_enter Try.func13, Try.ntmps13
    go_wp2_with (first | (refine wl_load 24 Try.underlying24 info_sizes rfl _ rfl g0 rfl ?_) | (go_at_call 33; refine (c_ValidSizes f hf _).mono ?_; rw [hf1]; rintro e w1 ⟨rfl, hb⟩; have g0 := g0.keep hb; have g1 := g1.keep hb; have b0 := b0.trans (hb.mono b0.size); clear hb) | (refine wl_store 24 info_sizes rfl _ _ rfl g1 (row_size _ _) rfl (congrArg Value.agg zrow_eq) (fun _ => rfl) ?_))
    exact ret_row3 rfl Try.underlying24 info_sizes (g1.row_ _) rfl rfl ⟨by rw [hR.out]; rfl, below_setRow b0 (by omega) _⟩
  cases hf2 : inB n 0 19
  · have hR := Lib.hid (show takeR f n x = .tuple #[.agg (row 20 fun _ => .float .f32 0), .float .f32 0, .int .i64 2] by simp [takeR, hf1, hf2])
    go_enter Try.func13, Try.ntmps13
    go_wp2_with (first | (refine wl_load 24 Try.underlying24 info_sizes rfl _ rfl g0 rfl ?_) | (go_at_call 33; refine (c_ValidSizes f hf _).mono ?_; rw [hf1]; rintro e w1 ⟨rfl, hb⟩; have g0 := g0.keep hb; have g1 := g1.keep hb; have b0 := b0.trans (hb.mono b0.size); clear hb) | (go_at_call 34; refine (c_isClass _ _).mono ?_; rw [hf2]; rintro e w1 ⟨rfl, rfl⟩) | (refine wl_store 24 info_sizes rfl _ _ rfl g1 (row_size _ _) rfl (congrArg Value.agg zrow_eq) (fun _ => rfl) ?_))
    exact ret_row3 rfl Try.underlying24 info_sizes (g1.row_ _) rfl rfl ⟨by rw [hR.out]; rfl, below_setRow b0 (by omega) _⟩
  cases hf3 : shareB x
  · have hR := Lib.hid (show takeR f n x = .tuple #[.agg (row 20 fun _ => .float .f32 0), .float .f32 0, .int .i64 2] by simp [takeR, hf1, hf2, hf3])
    go_enter Try.func13, Try.ntmps13
    go_wp2_with (first | (refine wl_load 24 Try.underlying24 info_sizes rfl _ rfl g0 rfl ?_) | (go_at_call 33; refine (c_ValidSizes f hf _).mono ?_; rw [hf1]; rintro e w1 ⟨rfl, hb⟩; have g0 := g0.keep hb; have g1 := g1.keep hb; have b0 := b0.trans (hb.mono b0.size); clear hb) | (go_at_call 34; refine (c_isClass _ _).mono ?_; rw [hf2]; rintro e w1 ⟨rfl, rfl⟩) | (go_at_call 35; refine (c_isPart x hx _).mono ?_; rw [hf3]; rintro e w1 ⟨rfl, hb⟩; have g0 := g0.keep hb; have g1 := g1.keep hb; have b0 := b0.trans (hb.mono b0.size); clear hb) | (refine wl_store 24 info_sizes rfl _ _ rfl g1 (row_size _ _) rfl (congrArg Value.agg zrow_eq) (fun _ => rfl) ?_))
    exact ret_row3 rfl Try.underlying24 info_sizes (g1.row_ _) rfl rfl ⟨by rw [hR.out]; rfl, below_setRow b0 (by omega) _⟩
  obtain ⟨k, rfl, hk⟩ := inB19 hf2
  obtain ⟨t1, _, t2, _, _⟩ := take_ok hf1 hf3 hk
  have hR := Lib.hid (show takeR f k x = .tuple #[.agg (row 20 fun j => .float .f32 (setF f k (fv .sub .f32 (f k) (fv .mul .f32 x (f k))) j)), .float .f32 (fv .mul .f32 x (f k)), .int .i64 0] by simp [takeR, hf1, hf2, hf3])
  have hi0 : (0 : Int) ≤ (k : Int) := by omega
  have hi1 : (k : Int) < 20 := by omega
  go_enter Try.func13, Try.ntmps13
  go_wp2_with (first | (refine wl_load 24 Try.underlying24 info_sizes rfl _ rfl ((g0.set_row k _).to (fun j _ => setF_row f k _ j)) rfl ?_) | (refine wl_load 24 Try.underlying24 info_sizes rfl _ rfl g0 rfl ?_) | (go_at_call 33; refine (c_ValidSizes f hf _).mono ?_; rw [hf1]; rintro e w1 ⟨rfl, hb⟩; have g0 := g0.keep hb; have g1 := g1.keep hb; have b0 := b0.trans (hb.mono b0.size); clear hb) | (go_at_call 34; refine (c_isClass _ _).mono ?_; rw [hf2]; rintro e w1 ⟨rfl, rfl⟩) | (go_at_call 35; refine (c_isPart x hx _).mono ?_; rw [hf3]; rintro e w1 ⟨rfl, hb⟩; have g0 := g0.keep hb; have g1 := g1.keep hb; have b0 := b0.trans (hb.mono b0.size); clear hb; have hc := g0.at_ hk; have hfz := g0.free k) | (refine wl_store 24 info_sizes rfl _ _ rfl (g1.far (by simp) _) (row_size _ _) rfl rfl (fun _ => rfl) ?_))
  exact ret_row3 rfl Try.underlying24 info_sizes ((g1.far (by simp) _).row_ _) rfl rfl ⟨by rw [hR.out]; rfl, below_setRow (b0.setCell (by simp) _) (by omega) _⟩
theorem walk_FnExactTakeShare (f : Nat → Nat) (hf : ∀ j, f j < 4294967296) (n : Int) (_hn : -9223372036854775808 ≤ n ∧ n ≤ 9223372036854775807) (x : Nat) (hx : x < 4294967296) (w : World) : Calls Try.prog 3 #[.agg (row 20 fun j => .float .f32 (f j)), .int .i64 n, .float .f32 x] w fun e w' => e = .returned (.bool true) ∧ Below w.heap.size w w' := by
  have hcv := fun (x : Nat) (h : cvok x = true) (w : World) => run_cv (P := Try.prog) w 22 30 (by kernel_rfl) Try.underlying30 x h
  obtain ⟨G, t, c, hR, h1, ht⟩ := take_form f n x
  have HR := Lib.hid hR
  have H1 := Lib.hid h1
  have H2 := Lib.hid (cv_f64 ht)
  clear hR h1
  have g0 := Holds.new w 23 (row 20 fun j => .float .f32 (f j))
  have b0 : Below w.heap.size w (w.alloc (.cells (row 20 fun j => .float .f32 (f j)) 23)) := (Below.refl _ _).alloc (by simp) _
  go_enter Try.func3, Try.ntmps3
  go_wp2_with (first | (refine wl_load 23 Try.underlying23 info_a20 rfl _ rfl g0 rfl ?_) | (refine wl_load 24 Try.underlying24 info_sizes rfl _ rfl r2 rfl ?_) | (refine wl_load 24 Try.underlying24 info_sizes rfl _ rfl r1 rfl ?_) | (go_at_call 12; refine (c_toSizes f _).mono ?_; rintro e w1 ⟨rfl, hb⟩; have g0 := g0.keep hb; have r1 := r1.keep hb; have b0 := b0.trans (hb.mono b0.size); clear hb) | (go_at_call 12; refine (c_toSizes f _).mono ?_; rintro e w1 ⟨rfl, hb⟩; have g0 := g0.keep hb; have b0 := b0.trans (hb.mono b0.size); clear hb) | (go_at_call 11; refine (c_specTakeShare f hf n x hx _).mono ?_; rw [HR.out]; rintro e w1 ⟨rfl, hb⟩; have g0 := g0.keep hb; have b0 := b0.trans (hb.mono b0.size); clear hb) | (go_at_call 13; refine (c_implTakeShare f hf n x hx _).mono ?_; rw [HR.out]; rintro e w1 ⟨rfl, hb⟩; have g0 := g0.keep hb; have r1 := r1.keep hb; have b0 := b0.trans (hb.mono b0.size); clear hb) | (refine wl_new 24 info_sizes rfl _ _ rfl rfl rfl rfl (fun _ => rfl) ?_; intro w2 hb r2; have g0 := g0.keep hb; have r1 := r1.keep hb; have b0 := b0.trans (hb.mono b0.size); clear hb) | (refine wl_new 24 info_sizes rfl _ _ rfl rfl rfl rfl (fun _ => rfl) ?_; intro w2 hb r1; have g0 := g0.keep hb; have b0 := b0.trans (hb.mono b0.size); clear hb) | (go_at_call 14; refine (c_eqSizes G H1.out _).mono ?_; rintro e w1 ⟨rfl, hb⟩; skip; have b0 := b0.trans (hb.mono b0.size); clear hb) | (go_at_call 15; refine (c_sameFloat _ H2.out _).mono ?_; rintro e w1 ⟨rfl, rfl⟩))
  go_ret
  exact ⟨rfl, b0⟩
end Go.Proofs.Ytocjhackncfjpaa
