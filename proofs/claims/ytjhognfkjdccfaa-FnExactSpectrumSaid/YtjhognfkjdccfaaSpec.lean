/-
  Contracts and the walk: a spectrum of droplets.
-/
import Derived.Test.YtjhognfkjdccfaaMore
import Derived.Test.YtjhognfkjdccfaaAir
import Derived.Test.YtjhognfkjdccfaaReg
namespace Go.Proofs.Ytjhognfkjdccfaa
open Go.RowKit Fl
set_option maxRecDepth 20000
set_option maxHeartbeats 4000000
set_option linter.unusedSimpArgs false

theorem div_inf32 (b : Nat) (hb : b < 2139095040) : FloatKind.f32.format.div 2139095040 b = some 2139095040 := by
  unfold Ieee.Format.div
  have e := read_inf FloatKind.f32.format (fmt_ok .f32).2
  have e' : FloatKind.f32.format.infRung = 2139095040 := rfl
  rw [e'] at e
  rw [e, read_pos FloatKind.f32.format b hb]
  rfl
theorem quo_inf {a b : Nat} (ha : a ≤ 2139095040) (hb : b < 2139095040) (h0 : 0 < b) : fok .quo .f32 a b = true ∧ fv .quo .f32 a b ≤ 2139095040 := by
  rcases Nat.lt_or_ge a 2139095040 with h | h
  · obtain ⟨r, h1, _⟩ := div_spec FloatKind.f32.format (fmt_ok .f32).1 false false a b h hb h0
    obtain ⟨h3, h4⟩ := fok_of (op := .quo) (k := .f32) (x := a) (y := b) h1
    refine ⟨h3, ?_⟩
    rw [h4]
    have e : FloatKind.f32.format.word (false ^^ false) (min r FloatKind.f32.format.infRung) = min r FloatKind.f32.format.infRung := rfl
    rw [e]
    exact Nat.min_le_right _ _
  · obtain rfl : a = 2139095040 := by omega
    obtain ⟨h3, h4⟩ := fok_of (op := .quo) (k := .f32) (x := 2139095040) (y := b) (div_inf32 b hb)
    exact ⟨h3, by rw [h4]; omega⟩
def wy (m k : Nat) : Nat := fv .quo .f32 (floatOfInt .f32 ((k : Int) - (m : Int))) 1073741824
def wz (m k : Nat) : Nat := fv .add .f32 1065353216 (fv .mul .f32 (wy m k) (wy m k))
/-- the weight of a class, around a class -/
def wt (m : Nat) : Nat → Nat := fun k => fv .quo .f32 1065353216 (fv .mul .f32 (wz m k) (wz m k))
def wtB (m k : Nat) : Bool := fok .quo .f32 (floatOfInt .f32 ((k : Int) - (m : Int))) 1073741824 && fok .mul .f32 (wy m k) (wy m k) && fok .add .f32 1065353216 (fv .mul .f32 (wy m k) (wy m k)) && fok .mul .f32 (wz m k) (wz m k) && fok .quo .f32 1065353216 (fv .mul .f32 (wz m k) (wz m k)) && amtB (wt m k)
def wsB (m : Nat) : Bool := (List.range 20).all (wtB m) && decide (0 < cnt (wt m) 19) && decide (cnt (wt m) 19 < 2139095040)
theorem ws_all : (List.range 20).all wsB = true := by kernel_rfl
structure WtOk (m k : Nat) : Prop where
  o1 : fok .quo .f32 (floatOfInt .f32 ((k : Int) - (m : Int))) 1073741824 = true
  o2 : fok .mul .f32 (wy m k) (wy m k) = true
  o3 : fok .add .f32 1065353216 (fv .mul .f32 (wy m k) (wy m k)) = true
  o4 : fok .mul .f32 (wz m k) (wz m k) = true
  o5 : fok .quo .f32 1065353216 (fv .mul .f32 (wz m k) (wz m k)) = true
  o6 : amtB (wt m k) = true
theorem wt_ok {m k : Nat} (hm : m ≤ 19) (hk : k < 20) : WtOk m k := by
  have h := List.all_eq_true.1 ws_all m (List.mem_range.2 (by omega))
  unfold wsB at h
  simp only [Bool.and_eq_true] at h
  have h := List.all_eq_true.1 h.1.1 k (List.mem_range.2 hk)
  unfold wtB at h
  simp only [Bool.and_eq_true] at h
  exact ⟨h.1.1.1.1.1, h.1.1.1.1.2, h.1.1.1.2, h.1.1.2, h.1.2, h.2⟩
theorem ws_ok {m : Nat} (hm : m ≤ 19) : 0 < cnt (wt m) 19 ∧ cnt (wt m) 19 < 2139095040 := by
  have h := List.all_eq_true.1 ws_all m (List.mem_range.2 (by omega))
  unfold wsB at h
  simp only [Bool.and_eq_true, decide_eq_true_eq] at h
  exact ⟨h.1.2, h.2⟩
theorem wt_okB {m : Nat} (hm : m ≤ 19) : okB (wt m) = true := okB_true fun _ hj => (wt_ok hm hj).o6
/-- the droplets -/
def spF (c m : Nat) : Nat → Nat := fun k => fv .quo .f32 (fv .mul .f32 c (wt m k)) (cnt (wt m) 19)
theorem sp_ok {c m k : Nat} (hc : amtB c = true) (hm : m ≤ 19) (hk : k < 20) : fok .mul .f32 c (wt m k) = true ∧ fok .quo .f32 (fv .mul .f32 c (wt m k)) (cnt (wt m) 19) = true ∧ spF c m k ≤ 2139095040 := by
  obtain ⟨h1, h2⟩ := mul_ff (amt_lt hc) (amt_lt (wt_ok hm hk).o6)
  obtain ⟨h3, h4⟩ := quo_inf h2 (ws_ok hm).2 (ws_ok hm).1
  exact ⟨h1, h3, h4⟩
def spX (c m : Nat) : Nat → Nat := fun k => if k < 20 then spF c m k else 0
theorem spX_le {c m : Nat} (hc : amtB c = true) (hm : m ≤ 19) : ∀ k, spX c m k ≤ 2139095040 := by
  intro k; unfold spX; split
  · rename_i h; exact (sp_ok hc hm h).2.2
  · omega
def spR (c x : Nat) : Value := if amtB c then (if isfin x then (if ge1 x then madeR (spX c (cf x)) else noR 2) else noR 2) else noR 2
theorem spR_form (c x : Nat) : ∃ (G : Nat → Nat) (c' : Int), spR c x = .tuple #[.agg (row 20 fun j => .float .f32 (G j)), .int .i64 c'] ∧ ∀ j, j < 20 → cvok (G j) = true := by
  unfold spR
  split
  · rename_i h; split
    · split
      · exact madeR_form _ (spX_le h (cf_le x))
      · exact noR_form 2
    · exact noR_form 2
  · exact noR_form 2
theorem c_l01Spectrum (c x : Nat) (hc : amtB c = true) (w : World) : Calls Try.prog 39 #[.float .f32 c, .float .f32 x] w fun e w' => e = .returned (.agg (row 20 fun j => .float .f32 (spX c (cf x) j))) ∧ Below w.heap.size w w' := by
  have HC := Lib.hid (fun w => c_l01For x w)
  have hm := cf_le x
  generalize cf x = m at *
  have HW := Lib.hid (fun k (hk : k < 20) => wt_ok hm hk)
  have HS := Lib.hid (fun k (hk : k < 20) => sp_ok hc hm hk)
  have HN := Lib.hid (fun g t w (hg : Holds w g t (row 20 fun j => .float .f32 (wt m j))) => c_l01Count (wt m) (wt_okB hm) g t w hg)
  have EY := Lib.hid (fun (k : Nat) => show fv .quo .f32 (floatOfInt .f32 ((k : Int) - (m : Int))) 1073741824 = wy m k from rfl)
  have EZ := Lib.hid (fun k => show fv .add .f32 1065353216 (fv .mul .f32 (wy m k) (wy m k)) = wz m k from rfl)
  have EW := Lib.hid (fun k => show fv .quo .f32 1065353216 (fv .mul .f32 (wz m k) (wz m k)) = wt m k from rfl)
  have ES := Lib.hid (fun k => show fv .quo .f32 (fv .mul .f32 c (wt m k)) (cnt (wt m) 19) = spF c m k from rfl)
  have EX := Lib.hid (fun k (hk : k < 20) => show spF c m k = spX c m k by unfold spX; rw [if_pos hk])
  have hmi : (m : Int) ≤ 19 := by omega
  have hm0 : (0 : Int) ≤ (m : Int) := by omega
  generalize cnt (wt m) 19 = N at *
  clear hc
  have b0 : Below w.heap.size w (w.alloc (.cells #[.float .f32 0, .float .f32 0, .float .f32 0, .float .f32 0, .float .f32 0, .float .f32 0, .float .f32 0, .float .f32 0, .float .f32 0, .float .f32 0, .float .f32 0, .float .f32 0, .float .f32 0, .float .f32 0, .float .f32 0, .float .f32 0, .float .f32 0, .float .f32 0, .float .f32 0, .float .f32 0] 31)) := (Below.refl _ _).alloc (by simp) _
  have g0 : Holds (w.alloc (.cells #[.float .f32 0, .float .f32 0, .float .f32 0, .float .f32 0, .float .f32 0, .float .f32 0, .float .f32 0, .float .f32 0, .float .f32 0, .float .f32 0, .float .f32 0, .float .f32 0, .float .f32 0, .float .f32 0, .float .f32 0, .float .f32 0, .float .f32 0, .float .f32 0, .float .f32 0, .float .f32 0] 31)) w.heap.size 31 (row 20 fun _ => .float .f32 0) := by rw [zrow_eq]; exact Holds.new _ _ _
  go_enter Try.func39, Try.ntmps39
  go_wp2_with (first | (go_at_call 60; with_reducible refine (HC.out _).mono ?_; rintro e w1 ⟨rfl, rfl⟩) | (refine wl_newh 31 rfl (.tmp 5) (.tmp 13) rfl (row 20 fun _ => .float .f32 0) (by rw [row_size]; exact info_sizes) (by rw [row_size]; rfl) rfl (by simp) (congrArg Value.agg zrow_eq) (rowf_one _) ?_; intro w2 hb2 g1; have g0 := g0.keep hb2; have b0 := b0.trans (hb2.mono b0.size); clear hb2))
  go_loopw [7] (fun i wr => ∃ k : Nat, k ≤ 20 ∧ i = .int .i64 k ∧ Below w.heap.size w wr ∧ Holds wr w.heap.size 31 (row 20 fun _ => .float .f32 0) ∧ Holds wr (w.heap.size + 1) 31 (row 20 fun j => .float .f32 (upto k (wt m) (fun _ => 0) j))) (fun i _ => 20 - (intOf i).toNat)
  case atStart => exact ⟨0, by omega, rfl, b0, g0, g1.to (fun j _ => upto_zero (wt m) (fun _ => 0) j)⟩
  case round =>
    clear g0 b0 g1
    obtain ⟨k, hk, rfl, b0, g0, g1⟩ := hrel
    by_cases hlt : k < 20
    · have hw := HW.out k hlt
      have o1 := hw.o1
      have o2 := hw.o2
      have o3 := hw.o3
      have o4 := hw.o4
      have o5 := hw.o5
      have ey := EY.out k
      have ez := EZ.out k
      have ew := EW.out k
      have HWK := Lib.hid ew
      clear hw
      generalize wy m k = y at *
      generalize wz m k = z at *
      have hfz := g1.free k
      have hcw := g1.at_ hlt
      have hi0 : (0 : Int) ≤ (k : Int) := by omega
      have hi1 : (k : Int) < 20 := by omega
      go_wp2
      go_roundw
      case rel => exact ⟨k + 1, by omega, by go_num, b0.setCell (by first | (simp; done) | (simp; omega)) _, g0.far (by first | (simp; done) | (simp; omega)) _, (g1.set_row k _).to (fun j _ => upto_step (wt m) (fun _ => 0) k j)⟩
      case measure => simp [intOf]; omega
    · have g1 := g1.to (upto_full (wt m) (fun _ => 0) k hlt)
      go_wp2_with (first | (go_at_call 61; with_reducible refine (HN.out _ _ _ g1).mono ?_; rintro e w1 ⟨rfl, rfl⟩) | (refine wl_newh 31 rfl (.tmp 11) (.tmp 36) rfl (row 20 fun _ => .float .f32 0) (by rw [row_size]; exact info_sizes) (by rw [row_size]; rfl) rfl (by simp) (congrArg Value.agg zrow_eq) (rowf_one _) ?_; intro w2 hb2 g2; have hl2 : w.heap.size + 1 < wr.heap.size := g1.lt; have g0 := g0.keep hb2; have g1 := g1.keep hb2; have b0 := b0.trans (hb2.mono b0.size); clear hb2))
      have HL2 := Lib.hid hl2
      go_loopw [12] (fun i wx => ∃ k : Nat, k ≤ 20 ∧ i = .int .i64 k ∧ Below w.heap.size w wx ∧ Holds wx w.heap.size 31 (row 20 fun _ => .float .f32 0) ∧ Holds wx (w.heap.size + 1) 31 (row 20 fun j => .float .f32 (wt m j)) ∧ Holds wx wr.heap.size 31 (row 20 fun j => .float .f32 (upto k (spF c m) (fun _ => 0) j))) (fun i _ => 20 - (intOf i).toNat)
      case atStart => exact ⟨0, by omega, rfl, b0, g0, g1, g2.to (fun j _ => upto_zero (spF c m) (fun _ => 0) j)⟩
      case round =>
        clear g0 b0 g1 g2
        obtain ⟨k, hk, rfl, b0, g0, g1, g2⟩ := hrel
        by_cases hlt : k < 20
        · obtain ⟨s1, s2, _⟩ := HS.out k hlt
          have es := ES.out k
          have hl2 := HL2.out
          have hc1 := g1.at_ hlt
          have hcw := g2.at_ hlt
          have hfz := g2.free k
          have hi0 : (0 : Int) ≤ (k : Int) := by omega
          have hi1 : (k : Int) < 20 := by omega
          go_wp2
          go_roundw
          case rel => exact ⟨k + 1, by omega, by go_num, b0.setCell (by simp; omega) _, g0.far (by simp; omega) _, g1.far (by simp; omega) _, (g2.set_row k _).to (fun j _ => upto_step (spF c m) (fun _ => 0) k j)⟩
          case measure => simp [intOf]; omega
        · have g2 := (g2.to (upto_full (spF c m) (fun _ => 0) k hlt)).to (fun j hj => congrArg (Value.float .f32) (EX.out j hj))
          go_wp2_with (first | (refine wl_load 31 Try.underlying31 info_sizes rfl _ rfl g2 rfl ?_) | (refine wl_store 31 info_sizes rfl _ _ rfl g0 (row_size _ _) rfl rfl (fun _ => rfl) ?_))
          exact ret_row rfl Try.underlying31 info_sizes (g0.row_ _) rfl rfl ⟨rfl, below_setRow b0 (Nat.le_refl _) _⟩
theorem c_spectrum (c x : Nat) (hc : amtB c = true) (w : World) : Calls Try.prog 42 #[.float .f32 c, .float .f32 x] w fun e w' => e = .returned (.agg (row 20 fun j => .float .f32 (spX c (cf x) j))) ∧ Below w.heap.size w w' := by
  have HC := Lib.hid (fun w => c_classFor x w)
  have hm := cf_le x
  generalize cf x = m at *
  have HW := Lib.hid (fun k (hk : k < 20) => wt_ok hm hk)
  have HS := Lib.hid (fun k (hk : k < 20) => sp_ok hc hm hk)
  have HN := Lib.hid (fun w => c_count (wt m) (wt_okB hm) w)
  have EY := Lib.hid (fun (k : Nat) => show fv .quo .f32 (floatOfInt .f32 ((k : Int) - (m : Int))) 1073741824 = wy m k from rfl)
  have EZ := Lib.hid (fun k => show fv .add .f32 1065353216 (fv .mul .f32 (wy m k) (wy m k)) = wz m k from rfl)
  have EW := Lib.hid (fun k => show fv .quo .f32 1065353216 (fv .mul .f32 (wz m k) (wz m k)) = wt m k from rfl)
  have ES := Lib.hid (fun k => show fv .quo .f32 (fv .mul .f32 c (wt m k)) (cnt (wt m) 19) = spF c m k from rfl)
  have EX := Lib.hid (fun k (hk : k < 20) => show spF c m k = spX c m k by unfold spX; rw [if_pos hk])
  have hmi : (m : Int) ≤ 19 := by omega
  have hm0 : (0 : Int) ≤ (m : Int) := by omega
  generalize cnt (wt m) 19 = N at *
  clear hc
  have b0 : Below w.heap.size w (w.alloc (.cells #[.float .f32 0, .float .f32 0, .float .f32 0, .float .f32 0, .float .f32 0, .float .f32 0, .float .f32 0, .float .f32 0, .float .f32 0, .float .f32 0, .float .f32 0, .float .f32 0, .float .f32 0, .float .f32 0, .float .f32 0, .float .f32 0, .float .f32 0, .float .f32 0, .float .f32 0, .float .f32 0] 31)) := (Below.refl _ _).alloc (by simp) _
  have g0 : Holds (w.alloc (.cells #[.float .f32 0, .float .f32 0, .float .f32 0, .float .f32 0, .float .f32 0, .float .f32 0, .float .f32 0, .float .f32 0, .float .f32 0, .float .f32 0, .float .f32 0, .float .f32 0, .float .f32 0, .float .f32 0, .float .f32 0, .float .f32 0, .float .f32 0, .float .f32 0, .float .f32 0, .float .f32 0] 31)) w.heap.size 31 (row 20 fun _ => .float .f32 0) := by rw [zrow_eq]; exact Holds.new _ _ _
  go_enter Try.func42, Try.ntmps42
  go_wp2_with (first | (go_at_call 62; with_reducible refine (HC.out _).mono ?_; rintro e w1 ⟨rfl, rfl⟩) | (refine wl_newh 31 rfl (.tmp 5) (.tmp 14) rfl (row 20 fun _ => .float .f32 0) (by rw [row_size]; exact info_sizes) (by rw [row_size]; rfl) rfl (by simp) (congrArg Value.agg zrow_eq) (rowf_one _) ?_; intro w2 hb2 g1; have g0 := g0.keep hb2; have b0 := b0.trans (hb2.mono b0.size); clear hb2))
  go_loopw [17] (fun i wr => ∃ k : Nat, k ≤ 20 ∧ i = .int .i64 k ∧ Below w.heap.size w wr ∧ Holds wr w.heap.size 31 (row 20 fun _ => .float .f32 0) ∧ Holds wr (w.heap.size + 1) 31 (row 20 fun j => .float .f32 (upto k (wt m) (fun _ => 0) j))) (fun i _ => 20 - (intOf i).toNat)
  case atStart => exact ⟨0, by omega, rfl, b0, g0, g1.to (fun j _ => upto_zero (wt m) (fun _ => 0) j)⟩
  case round =>
    clear g0 b0 g1
    obtain ⟨k, hk, rfl, b0, g0, g1⟩ := hrel
    by_cases hlt : k < 20
    · have hw := HW.out k hlt
      have o1 := hw.o1
      have o2 := hw.o2
      have o3 := hw.o3
      have o4 := hw.o4
      have o5 := hw.o5
      have ey := EY.out k
      have ez := EZ.out k
      have ew := EW.out k
      have HWK := Lib.hid ew
      clear hw
      generalize wy m k = y at *
      generalize wz m k = z at *
      have hfz := g1.free k
      have hcw := g1.at_ hlt
      have hi0 : (0 : Int) ≤ (k : Int) := by omega
      have hi1 : (k : Int) < 20 := by omega
      go_wp2
      go_roundw
      case rel => exact ⟨k + 1, by omega, by go_num, b0.setCell (by first | (simp; done) | (simp; omega)) _, g0.far (by first | (simp; done) | (simp; omega)) _, (g1.set_row k _).to (fun j _ => upto_step (wt m) (fun _ => 0) k j)⟩
      case measure => simp [intOf]; omega
    · have g1 := g1.to (upto_full (wt m) (fun _ => 0) k hlt)
      go_wp2_with (first | (refine wl_load 31 Try.underlying31 info_sizes rfl _ rfl g1 rfl ?_) | (go_at_call 63; with_reducible refine (HN.out _).mono ?_; rintro e w1 ⟨rfl, hb⟩; have g0 := g0.keep hb; have g1 := g1.keep hb; have b0 := b0.trans (hb.mono b0.size); clear hb) | (refine wl_newh 31 rfl (.tmp 10) (.tmp 36) rfl (row 20 fun _ => .float .f32 0) (by rw [row_size]; exact info_sizes) (by rw [row_size]; rfl) rfl (by simp) (congrArg Value.agg zrow_eq) (rowf_one _) ?_; intro w2 hb2 g2; have hl2 : w.heap.size + 1 < w1.heap.size := g1.lt; have g0 := g0.keep hb2; have g1 := g1.keep hb2; have b0 := b0.trans (hb2.mono b0.size); clear hb2))
      have HL2 := Lib.hid hl2
      go_loopw [40] (fun i wx => ∃ k : Nat, k ≤ 20 ∧ i = .int .i64 k ∧ Below w.heap.size w wx ∧ Holds wx w.heap.size 31 (row 20 fun _ => .float .f32 0) ∧ Holds wx (w.heap.size + 1) 31 (row 20 fun j => .float .f32 (wt m j)) ∧ Holds wx w1.heap.size 31 (row 20 fun j => .float .f32 (upto k (spF c m) (fun _ => 0) j))) (fun i _ => 20 - (intOf i).toNat)
      case atStart => exact ⟨0, by omega, rfl, b0, g0, g1, g2.to (fun j _ => upto_zero (spF c m) (fun _ => 0) j)⟩
      case round =>
        clear g0 b0 g1 g2
        obtain ⟨k, hk, rfl, b0, g0, g1, g2⟩ := hrel
        by_cases hlt : k < 20
        · obtain ⟨s1, s2, _⟩ := HS.out k hlt
          have es := ES.out k
          have hl2 := HL2.out
          have hix := fun w => run_index_row (P := Try.prog) 31 22 20 (fun j => .float .f32 (wt m j)) k w Try.underlying31 (by kernel_rfl) (by kernel_rfl) hlt
          have hcw := g2.at_ hlt
          have hfz := g2.free k
          have hi0 : (0 : Int) ≤ (k : Int) := by omega
          have hi1 : (k : Int) < 20 := by omega
          go_wp2
          go_roundw
          case rel => exact ⟨k + 1, by omega, by go_num, b0.setCell (by simp; omega) _, g0.far (by simp; omega) _, g1.far (by simp; omega) _, (g2.set_row k _).to (fun j _ => upto_step (spF c m) (fun _ => 0) k j)⟩
          case measure => simp [intOf]; omega
        · have g2 := (g2.to (upto_full (spF c m) (fun _ => 0) k hlt)).to (fun j hj => congrArg (Value.float .f32) (EX.out j hj))
          go_wp2_with (first | (refine wl_load 31 Try.underlying31 info_sizes rfl _ rfl g2 rfl ?_) | (refine wl_store 31 info_sizes rfl _ _ rfl g0 (row_size _ _) rfl rfl (fun _ => rfl) ?_))
          exact ret_row rfl Try.underlying31 info_sizes (g0.row_ _) rfl rfl ⟨rfl, below_setRow b0 (Nat.le_refl _) _⟩
theorem c_specSpectrum (c : Nat) (hc : c < 4294967296) (x : Nat) (hx : x < 4294967296) (w : World) : Calls Try.prog 15 #[.float .f32 c, .float .f32 x] w fun e w' => e = .returned (spR c x) ∧ Below w.heap.size w w' := by
  have b0 : Below w.heap.size w (w.alloc (.cells #[.float .f32 0, .float .f32 0, .float .f32 0, .float .f32 0, .float .f32 0, .float .f32 0, .float .f32 0, .float .f32 0, .float .f32 0, .float .f32 0, .float .f32 0, .float .f32 0, .float .f32 0, .float .f32 0, .float .f32 0, .float .f32 0, .float .f32 0, .float .f32 0, .float .f32 0, .float .f32 0] 31)) := (Below.refl _ _).alloc (by simp) _
  have g1 : Holds (w.alloc (.cells #[.float .f32 0, .float .f32 0, .float .f32 0, .float .f32 0, .float .f32 0, .float .f32 0, .float .f32 0, .float .f32 0, .float .f32 0, .float .f32 0, .float .f32 0, .float .f32 0, .float .f32 0, .float .f32 0, .float .f32 0, .float .f32 0, .float .f32 0, .float .f32 0, .float .f32 0, .float .f32 0] 31)) w.heap.size 31 (row 20 fun _ => .float .f32 0) := by rw [zrow_eq]; exact Holds.new _ _ _
  cases hf1 : amtB c
  · have hR := Lib.hid (show spR c x = noR 2 by simp [spR, hf1])
    go_enter Try.func15, Try.ntmps15
    go_wp2_with (first | (go_at_call 33; with_reducible refine (c_l01Amount c hc _).mono ?_; rw [hf1]; rintro e w1 ⟨rfl, hdr⟩; have hb := drew_below hdr; clear hdr; have g1 := g1.keep hb; have b0 := b0.trans (hb.mono b0.size); clear hb) | (refine wl_store 31 info_sizes rfl _ _ rfl g1 (row_size _ _) rfl (congrArg Value.agg zrow_eq) (fun _ => rfl) ?_))
    exact ret_row2 rfl Try.underlying31 info_sizes (g1.row_ _) rfl rfl ⟨by rw [hR.out]; rfl, below_setRow b0 (Nat.le_refl _) _⟩
  cases hf2 : isfin x
  · have hR := Lib.hid (show spR c x = noR 2 by simp [spR, hf1, hf2])
    go_enter Try.func15, Try.ntmps15
    go_wp2_with (first | (go_at_call 33; with_reducible refine (c_l01Amount c hc _).mono ?_; rw [hf1]; rintro e w1 ⟨rfl, hdr⟩; have hb := drew_below hdr; clear hdr; have g1 := g1.keep hb; have b0 := b0.trans (hb.mono b0.size); clear hb) | (go_at_call 37; with_reducible refine (c_l01Finite x hx _).mono ?_; rw [hf2]; rintro e w1 ⟨rfl, hdr⟩; have hb := drew_below hdr; clear hdr; have g1 := g1.keep hb; have b0 := b0.trans (hb.mono b0.size); clear hb) | (refine wl_store 31 info_sizes rfl _ _ rfl g1 (row_size _ _) rfl (congrArg Value.agg zrow_eq) (fun _ => rfl) ?_))
    exact ret_row2 rfl Try.underlying31 info_sizes (g1.row_ _) rfl rfl ⟨by rw [hR.out]; rfl, below_setRow b0 (Nat.le_refl _) _⟩
  cases hf3 : ge1 x
  · have hR := Lib.hid (show spR c x = noR 2 by simp [spR, hf1, hf2, hf3])
    unfold ge1 at hf3
    go_enter Try.func15, Try.ntmps15
    go_wp2_with (first | (go_at_call 33; with_reducible refine (c_l01Amount c hc _).mono ?_; rw [hf1]; rintro e w1 ⟨rfl, hdr⟩; have hb := drew_below hdr; clear hdr; have g1 := g1.keep hb; have b0 := b0.trans (hb.mono b0.size); clear hb) | (go_at_call 37; with_reducible refine (c_l01Finite x hx _).mono ?_; rw [hf2]; rintro e w1 ⟨rfl, hdr⟩; have hb := drew_below hdr; clear hdr; have g1 := g1.keep hb; have b0 := b0.trans (hb.mono b0.size); clear hb) | (refine wl_store 31 info_sizes rfl _ _ rfl g1 (row_size _ _) rfl (congrArg Value.agg zrow_eq) (fun _ => rfl) ?_))
    exact ret_row2 rfl Try.underlying31 info_sizes (g1.row_ _) rfl rfl ⟨by rw [hR.out]; rfl, below_setRow b0 (Nat.le_refl _) _⟩
  have hR := Lib.hid (show spR c x = madeR (spX c (cf x)) by simp [spR, hf1, hf2, hf3])
  unfold ge1 at hf3
  obtain ⟨G, c', hG, _⟩ := madeR_form _ (spX_le hf1 (cf_le x))
  have HG := Lib.hid hG
  clear hG
  have HM := Lib.hid (fun w => c_l01Made (spX c (cf x)) (fun j => le_inf _ (spX_le hf1 (cf_le x) j)) w)
  have HP := Lib.hid (fun w => c_l01Spectrum c x hf1 w)
  go_enter Try.func15, Try.ntmps15
  go_wp2_with (first | (go_at_call 33; with_reducible refine (c_l01Amount c hc _).mono ?_; rw [hf1]; rintro e w1 ⟨rfl, hdr⟩; have hb := drew_below hdr; clear hdr; have g1 := g1.keep hb; have b0 := b0.trans (hb.mono b0.size); clear hb) | (go_at_call 37; with_reducible refine (c_l01Finite x hx _).mono ?_; rw [hf2]; rintro e w1 ⟨rfl, hdr⟩; have hb := drew_below hdr; clear hdr; have g1 := g1.keep hb; have b0 := b0.trans (hb.mono b0.size); clear hb) | (go_at_call 39; with_reducible refine (HP.out _).mono ?_; rintro e w1 ⟨rfl, hb⟩; have g1 := g1.keep hb; have b0 := b0.trans (hb.mono b0.size); clear hb) | (go_at_call 38; refine (HM.out _).mono ?_; rw [HG.out]; rintro e w1 ⟨rfl, hb⟩; have g1 := g1.keep hb; have b0 := b0.trans (hb.mono b0.size); clear hb) | (refine wl_store 31 info_sizes rfl _ _ rfl g1 (row_size _ _) rfl rfl (fun _ => rfl) ?_))
  exact ret_row2 rfl Try.underlying31 info_sizes (g1.row_ _) rfl rfl ⟨by rw [hR.out, HG.out]; rfl, below_setRow b0 (Nat.le_refl _) _⟩
theorem c_implSpectrum (c : Nat) (hc : c < 4294967296) (x : Nat) (hx : x < 4294967296) (w : World) : Calls Try.prog 16 #[.float .f32 c, .float .f32 x] w fun e w' => e = .returned (spR c x) ∧ Below w.heap.size w w' := by
  have b0 : Below w.heap.size w (w.alloc (.cells #[.float .f32 0, .float .f32 0, .float .f32 0, .float .f32 0, .float .f32 0, .float .f32 0, .float .f32 0, .float .f32 0, .float .f32 0, .float .f32 0, .float .f32 0, .float .f32 0, .float .f32 0, .float .f32 0, .float .f32 0, .float .f32 0, .float .f32 0, .float .f32 0, .float .f32 0, .float .f32 0] 31)) := (Below.refl _ _).alloc (by simp) _
  have g1 : Holds (w.alloc (.cells #[.float .f32 0, .float .f32 0, .float .f32 0, .float .f32 0, .float .f32 0, .float .f32 0, .float .f32 0, .float .f32 0, .float .f32 0, .float .f32 0, .float .f32 0, .float .f32 0, .float .f32 0, .float .f32 0, .float .f32 0, .float .f32 0, .float .f32 0, .float .f32 0, .float .f32 0, .float .f32 0] 31)) w.heap.size 31 (row 20 fun _ => .float .f32 0) := by rw [zrow_eq]; exact Holds.new _ _ _
  cases hf1 : amtB c
  · have hR := Lib.hid (show spR c x = noR 2 by simp [spR, hf1])
    go_enter Try.func16, Try.ntmps16
    go_wp2_with (first | (go_at_call 35; with_reducible refine (c_isAmount c hc _).mono ?_; rw [hf1]; rintro e w1 ⟨rfl, hb⟩; have g1 := g1.keep hb; have b0 := b0.trans (hb.mono b0.size); clear hb) | (refine wl_store 31 info_sizes rfl _ _ rfl g1 (row_size _ _) rfl (congrArg Value.agg zrow_eq) (fun _ => rfl) ?_))
    exact ret_row2 rfl Try.underlying31 info_sizes (g1.row_ _) rfl rfl ⟨by rw [hR.out]; rfl, below_setRow b0 (Nat.le_refl _) _⟩
  cases hf2 : isfin x && ge1 x
  · have hR := Lib.hid (show spR c x = noR 2 by rw [Bool.and_eq_false_iff] at hf2; rcases hf2 with q | q <;> simp [spR, hf1, q])
    go_enter Try.func16, Try.ntmps16
    go_wp2_with (first | (go_at_call 35; with_reducible refine (c_isAmount c hc _).mono ?_; rw [hf1]; rintro e w1 ⟨rfl, hb⟩; have g1 := g1.keep hb; have b0 := b0.trans (hb.mono b0.size); clear hb) | (go_at_call 40; with_reducible refine (c_isMean x hx _).mono ?_; rw [hf2]; rintro e w1 ⟨rfl, hb⟩; have g1 := g1.keep hb; have b0 := b0.trans (hb.mono b0.size); clear hb) | (refine wl_store 31 info_sizes rfl _ _ rfl g1 (row_size _ _) rfl (congrArg Value.agg zrow_eq) (fun _ => rfl) ?_))
    exact ret_row2 rfl Try.underlying31 info_sizes (g1.row_ _) rfl rfl ⟨by rw [hR.out]; rfl, below_setRow b0 (Nat.le_refl _) _⟩
  have hR := Lib.hid (show spR c x = madeR (spX c (cf x)) by rw [Bool.and_eq_true] at hf2; simp [spR, hf1, hf2.1, hf2.2])
  obtain ⟨G, c', hG, _⟩ := madeR_form _ (spX_le hf1 (cf_le x))
  have HG := Lib.hid hG
  clear hG
  have HM := Lib.hid (fun w => c_checked (spX c (cf x)) (fun j => le_inf _ (spX_le hf1 (cf_le x) j)) w)
  have HP := Lib.hid (fun w => c_spectrum c x hf1 w)
  go_enter Try.func16, Try.ntmps16
  go_wp2_with (first | (go_at_call 35; with_reducible refine (c_isAmount c hc _).mono ?_; rw [hf1]; rintro e w1 ⟨rfl, hb⟩; have g1 := g1.keep hb; have b0 := b0.trans (hb.mono b0.size); clear hb) | (go_at_call 40; with_reducible refine (c_isMean x hx _).mono ?_; rw [hf2]; rintro e w1 ⟨rfl, hb⟩; have g1 := g1.keep hb; have b0 := b0.trans (hb.mono b0.size); clear hb) | (go_at_call 42; with_reducible refine (HP.out _).mono ?_; rintro e w1 ⟨rfl, hb⟩; have g1 := g1.keep hb; have b0 := b0.trans (hb.mono b0.size); clear hb) | (go_at_call 41; refine (HM.out _).mono ?_; rw [HG.out]; rintro e w1 ⟨rfl, hb⟩; have g1 := g1.keep hb; have b0 := b0.trans (hb.mono b0.size); clear hb) | (refine wl_store 31 info_sizes rfl _ _ rfl g1 (row_size _ _) rfl rfl (fun _ => rfl) ?_))
  exact ret_row2 rfl Try.underlying31 info_sizes (g1.row_ _) rfl rfl ⟨by rw [hR.out, HG.out]; rfl, below_setRow b0 (Nat.le_refl _) _⟩
theorem walk_FnExactSpectrum (c : Nat) (hc : c < 4294967296) (x : Nat) (hx : x < 4294967296) (w : World) : Calls Try.prog 5 #[.float .f32 c, .float .f32 x] w fun e w' => e = .returned (.bool true) ∧ Below w.heap.size w w' := by
  obtain ⟨G, C, hR, h1⟩ := spR_form c x
  have HR := Lib.hid hR
  have H1 := Lib.hid h1
  clear hR h1
  have b0 : Below w.heap.size w w := Below.refl _ _
  go_enter Try.func5, Try.ntmps5
  go_wp2_with (first | (refine wl_load 31 Try.underlying31 info_sizes rfl _ rfl r2 rfl ?_) | (refine wl_load 31 Try.underlying31 info_sizes rfl _ rfl r1 rfl ?_) | (go_at_call 15; with_reducible refine (c_specSpectrum c hc x hx _).mono ?_; rw [HR.out]; rintro e w1 ⟨rfl, hb⟩; skip; have b0 := b0.trans (hb.mono b0.size); clear hb) | (go_at_call 16; with_reducible refine (c_implSpectrum c hc x hx _).mono ?_; rw [HR.out]; rintro e w1 ⟨rfl, hb⟩; have r1 := r1.keep hb; have b0 := b0.trans (hb.mono b0.size); clear hb) | (refine wl_new 31 info_sizes rfl _ _ rfl rfl rfl rfl (fun _ => rfl) ?_; intro w2 hb r2; have r1 := r1.keep hb; have b0 := b0.trans (hb.mono b0.size); clear hb) | (refine wl_new 31 info_sizes rfl _ _ rfl rfl rfl rfl (fun _ => rfl) ?_; intro w2 hb r1; have b0 := b0.trans (hb.mono b0.size); clear hb) | (go_at_call 17; with_reducible refine (c_eqSizes G H1.out _).mono ?_; rintro e w1 ⟨rfl, hb⟩; skip; have b0 := b0.trans (hb.mono b0.size); clear hb))
  go_ret
  exact ⟨rfl, b0⟩
end Go.Proofs.Ytjhognfkjdccfaa
