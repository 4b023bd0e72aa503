/-
  Contracts and the walk: the sizes of a box.
-/
import Derived.Test.YtomebnplmoflbaaBx
import Derived.Test.YtomebnplmoflbaaMore
namespace Go.Proofs.Ytomebnplmoflbaa
open Go.RowKit Fl
set_option maxRecDepth 20000
set_option maxHeartbeats 4000000
set_option linter.unusedSimpArgs false

theorem ofInt_ok (n : Int) : cvok (floatOfInt .f32 n) = true := by
  obtain ⟨r, h1, _⟩ := nearest_spec FloatKind.f32.format (fmt_ok .f32).1 (decide (n < 0)) n.natAbs 0
  have e : floatOfInt .f32 n = FloatKind.f32.format.nearest (decide (n < 0)) n.natAbs 0 := rfl
  have hn := num_word FloatKind.f32.format (decide (n < 0)) (min r FloatKind.f32.format.infRung) (Nat.min_le_right _ _)
  rw [← h1, ← e] at hn
  exact cvok_of hn.2 (decide_eq_true hn.1)
def sobF (f : Nat → Int) : Nat → Nat := fun j => floatOfInt .f32 (f j)
def sobR (f : Nat → Int) : Value := if boxB f then .tuple #[.agg (row 20 fun j => .float .f32 (sobF f j)), .int .i64 0] else noR 1
theorem sob_form (f : Nat → Int) : ∃ (G : Nat → Nat) (c' : Int), sobR f = .tuple #[.agg (row 20 fun j => .float .f32 (G j)), .int .i64 c'] ∧ ∀ j, j < 20 → cvok (G j) = true := by
  unfold sobR
  split
  · exact ⟨sobF f, 0, rfl, fun j _ => ofInt_ok _⟩
  · exact noR_form 1
theorem wl_newg (P : Program) {ops : Array Oper} {rest : List Oper} {o : Oper} {a : Act} {Q : Exit → Act → World → Prop} (T : TypeId) {n : Nat} (hi : (P.info? T).map (·.size) = some n) (hgd : o.guard = none) (x y : Operand) (ho : o.op = .store T x y) {w1 : World} {t : TypeId} {z : Array Value} {F : Nat → Value} {g : Nat} (hn : z.size = n)
    (hx : a.eval x = .pointer (some ⟨g, 0, none⟩)) (hg : g = w1.heap.size) (hy : a.eval y = .agg (row n F)) (h1 : ∀ j, (F j).oneCell' = true)
    (h : ∀ w2, Below w1.heap.size w1 w2 → Holds w2 g t (row n F) → wpList P ops Q rest (a.put o.dst undef) w2) : wpList P ops Q (o :: rest) a (w1.alloc (.cells z t)) := by
  subst hg
  exact wl_new T hi hgd x y ho hn hx hy h1 h
theorem c_specSizesOfBox (f : Nat → Int) (w : World) : Calls Try.prog 12 #[.agg (row 21 fun j => .int .i64 (f j))] w fun e w' => e = .returned (sobR f) ∧ Below w.heap.size w w' := by
  have g0 : Holds ((w.alloc (.cells (row 21 fun j => .int .i64 (f j)) 39)).alloc (.cells #[.float .f32 0, .float .f32 0, .float .f32 0, .float .f32 0, .float .f32 0, .float .f32 0, .float .f32 0, .float .f32 0, .float .f32 0, .float .f32 0, .float .f32 0, .float .f32 0, .float .f32 0, .float .f32 0, .float .f32 0, .float .f32 0, .float .f32 0, .float .f32 0, .float .f32 0, .float .f32 0] 34)) w.heap.size 39 (row 21 fun j => .int .i64 (f j)) := (Holds.new _ _ _).alloc _
  have g1 : Holds ((w.alloc (.cells (row 21 fun j => .int .i64 (f j)) 39)).alloc (.cells #[.float .f32 0, .float .f32 0, .float .f32 0, .float .f32 0, .float .f32 0, .float .f32 0, .float .f32 0, .float .f32 0, .float .f32 0, .float .f32 0, .float .f32 0, .float .f32 0, .float .f32 0, .float .f32 0, .float .f32 0, .float .f32 0, .float .f32 0, .float .f32 0, .float .f32 0, .float .f32 0] 34)) (w.heap.size + 1) 34 (row 20 fun _ => .float .f32 0) := by rw [zrow_eq]; exact Holds.new' _ _ _ (by simp)
  have b0 : Below w.heap.size w ((w.alloc (.cells (row 21 fun j => .int .i64 (f j)) 39)).alloc (.cells #[.float .f32 0, .float .f32 0, .float .f32 0, .float .f32 0, .float .f32 0, .float .f32 0, .float .f32 0, .float .f32 0, .float .f32 0, .float .f32 0, .float .f32 0, .float .f32 0, .float .f32 0, .float .f32 0, .float .f32 0, .float .f32 0, .float .f32 0, .float .f32 0, .float .f32 0, .float .f32 0] 34)) := ((Below.refl _ _).alloc (by simp) _).alloc (by simp) _
  cases hf1 : boxB f
  · have hR := Lib.hid (show sobR f = noR 1 by simp [sobR, hf1])
    go_enter Try.func12, Try.ntmps12
    go_wp2_with (first | (go_at_call 25; refine (c_l03Box f _ _ _ g0).mono ?_; rw [hf1]; rintro e w1 ⟨rfl, rfl⟩) | (refine wl_store 34 info_sizes rfl _ _ rfl g1 (row_size _ _) rfl (congrArg Value.agg zrow_eq) (fun _ => rfl) ?_))
    exact ret_row2 rfl Try.underlying34 info_sizes (g1.row_ _) rfl rfl ⟨by rw [hR.out]; rfl, below_setRow b0 (by omega) _⟩
  have hR := Lib.hid (show sobR f = .tuple #[.agg (row 20 fun j => .float .f32 (sobF f j)), .int .i64 0] by simp [sobR, hf1])
  go_enter Try.func12, Try.ntmps12
  go_wp2_with (first | (go_at_call 25; refine (c_l03Box f _ _ _ g0).mono ?_; rw [hf1]; rintro e w1 ⟨rfl, rfl⟩) | (refine wl_newg Try.prog 34 info_sizes rfl (.tmp 4) (.tmp 9) rfl rfl rfl (by simp) (congrArg Value.agg zrow_eq) (fun _ => rfl) ?_; intro w2 hb2 g2; have hl := g1.lt; have g0 := g0.keep hb2; have g1 := g1.keep hb2; have b0 := b0.trans (hb2.mono b0.size); clear hb2))
  clear hl
  go_loopw [5] (fun i wr => ∃ k : Nat, k ≤ 20 ∧ i = .int .i64 k ∧ Below w.heap.size w wr ∧ Holds wr w.heap.size 39 (row 21 fun j => .int .i64 (f j)) ∧ Holds wr (w.heap.size + 1) 34 (row 20 fun _ => .float .f32 0) ∧ Holds wr (w.heap.size + 1 + 1) 34 (row 20 fun j => .float .f32 (upto k (sobF f) (fun _ => 0) j))) (fun i _ => 20 - (intOf i).toNat)
  case atStart => exact ⟨0, by omega, rfl, b0, g0, g1, g2.to (fun j _ => upto_zero _ (fun _ => 0) j)⟩
  case round =>
    obtain ⟨k, hk, rfl, b0, g0, g1, g2⟩ := hrel
    by_cases hlt : k < 20
    · have hc2 := g2.at_ hlt
      have hfz := g2.free k
      have hc := g0.at_ (i := k) (by omega)
      go_wp2
      go_roundw
      case rel => exact ⟨k + 1, by omega, by go_num, b0.setCell (by first | (simp; done) | (simp; omega)) _, g0.far (by first | (simp; done) | (simp; omega)) _, g1.far (by first | (simp; done) | (simp; omega)) _, (g2.set_row k _).to (fun j _ => upto_step (sobF f) (fun _ => 0) k j)⟩
      case measure => simp [intOf]; omega
    · have g2 := g2.to (upto_full (sobF f) (fun _ => 0) k hlt)
      go_wp2_with (first | (refine wl_load 34 Try.underlying34 info_sizes rfl _ rfl g2 rfl ?_) | (refine wl_store 34 info_sizes rfl _ _ rfl g1 (row_size _ _) rfl rfl (fun _ => rfl) ?_))
      exact ret_row2 rfl Try.underlying34 info_sizes (g1.row_ _) rfl rfl ⟨by rw [hR.out]; rfl, below_setRow b0 (by omega) _⟩
theorem c_implSizesOfBox (f : Nat → Int) (w : World) : Calls Try.prog 14 #[.agg (row 21 fun j => .int .i64 (f j))] w fun e w' => e = .returned (sobR f) ∧ Below w.heap.size w w' := by
  have g0 : Holds ((w.alloc (.cells (row 21 fun j => .int .i64 (f j)) 39)).alloc (.cells #[.float .f32 0, .float .f32 0, .float .f32 0, .float .f32 0, .float .f32 0, .float .f32 0, .float .f32 0, .float .f32 0, .float .f32 0, .float .f32 0, .float .f32 0, .float .f32 0, .float .f32 0, .float .f32 0, .float .f32 0, .float .f32 0, .float .f32 0, .float .f32 0, .float .f32 0, .float .f32 0] 34)) w.heap.size 39 (row 21 fun j => .int .i64 (f j)) := (Holds.new _ _ _).alloc _
  have g1 : Holds ((w.alloc (.cells (row 21 fun j => .int .i64 (f j)) 39)).alloc (.cells #[.float .f32 0, .float .f32 0, .float .f32 0, .float .f32 0, .float .f32 0, .float .f32 0, .float .f32 0, .float .f32 0, .float .f32 0, .float .f32 0, .float .f32 0, .float .f32 0, .float .f32 0, .float .f32 0, .float .f32 0, .float .f32 0, .float .f32 0, .float .f32 0, .float .f32 0, .float .f32 0] 34)) (w.heap.size + 1) 34 (row 20 fun _ => .float .f32 0) := by rw [zrow_eq]; exact Holds.new' _ _ _ (by simp)
  have b0 : Below w.heap.size w ((w.alloc (.cells (row 21 fun j => .int .i64 (f j)) 39)).alloc (.cells #[.float .f32 0, .float .f32 0, .float .f32 0, .float .f32 0, .float .f32 0, .float .f32 0, .float .f32 0, .float .f32 0, .float .f32 0, .float .f32 0, .float .f32 0, .float .f32 0, .float .f32 0, .float .f32 0, .float .f32 0, .float .f32 0, .float .f32 0, .float .f32 0, .float .f32 0, .float .f32 0] 34)) := ((Below.refl _ _).alloc (by simp) _).alloc (by simp) _
  cases hf1 : boxB f
  · have hR := Lib.hid (show sobR f = noR 1 by simp [sobR, hf1])
    go_enter Try.func14, Try.ntmps14
    go_wp2_with (first | (refine wl_load_part 39 Try.underlying39 rfl info_box rfl _ rfl g0 (by omega) rfl ?_) | (refine wl_load_part 37 Try.underlying37 rfl info_counts rfl _ rfl g0 (by omega) rfl ?_) | (go_at_call 27; with_reducible refine (c_ValidBox f _).mono ?_; rw [hf1]; rintro e w1 ⟨rfl, hb⟩; have g0 := g0.keep hb; have g1 := g1.keep hb; have b0 := b0.trans (hb.mono b0.size); clear hb) | (refine wl_store 34 info_sizes rfl _ _ rfl g1 (row_size _ _) rfl (congrArg Value.agg zrow_eq) (fun _ => rfl) ?_))
    exact ret_row2 rfl Try.underlying34 info_sizes (g1.row_ _) rfl rfl ⟨by rw [hR.out]; rfl, below_setRow b0 (by omega) _⟩
  have hR := Lib.hid (show sobR f = .tuple #[.agg (row 20 fun j => .float .f32 (sobF f j)), .int .i64 0] by simp [sobR, hf1])
  go_enter Try.func14, Try.ntmps14
  go_wp2_with (first | (refine wl_load_part 39 Try.underlying39 rfl info_box rfl _ rfl g0 (by omega) rfl ?_) | (refine wl_load_part 37 Try.underlying37 rfl info_counts rfl _ rfl g0 (by omega) rfl ?_) | (go_at_call 27; with_reducible refine (c_ValidBox f _).mono ?_; rw [hf1]; rintro e w1 ⟨rfl, hb⟩; have g0 := g0.keep hb; have g1 := g1.keep hb; have b0 := b0.trans (hb.mono b0.size); clear hb) | (refine wl_newg Try.prog 34 info_sizes rfl (.tmp 4) (.tmp 11) rfl rfl rfl (by simp) (congrArg Value.agg zrow_eq) (fun _ => rfl) ?_; intro w2 hb2 g2; have hl := g1.lt; have g0 := g0.keep hb2; have g1 := g1.keep hb2; have b0 := b0.trans (hb2.mono b0.size); clear hb2))
  go_loopw [14] (fun i wr => ∃ k : Nat, k ≤ 20 ∧ i = .int .i64 k ∧ Below w.heap.size w wr ∧ Holds wr w.heap.size 39 (row 21 fun j => .int .i64 (f j)) ∧ Holds wr (w.heap.size + 1) 34 (row 20 fun _ => .float .f32 0) ∧ Holds wr w1.heap.size 34 (row 20 fun j => .float .f32 (upto k (sobF f) (fun _ => 0) j))) (fun i _ => 20 - (intOf i).toNat)
  case atStart => exact ⟨0, by omega, rfl, b0, g0, g1, g2.to (fun j _ => upto_zero _ (fun _ => 0) j)⟩
  case round =>
    obtain ⟨k, hk, rfl, b0, g0, g1, g2⟩ := hrel
    by_cases hlt : k < 20
    · have hc2 := g2.at_ hlt
      have hfz := g2.free k
      have hx := fun w => run_index_row (P := Try.prog) 37 2 20 (fun j => .int .i64 (f j)) k w Try.underlying37 (by kernel_rfl) (by kernel_rfl) hlt
      go_wp2
      go_roundw
      case rel => exact ⟨k + 1, by omega, by go_num, b0.setCell (by first | (simp; done) | (simp; omega)) _, g0.far (by first | (simp; done) | (simp; omega)) _, g1.far (by first | (simp; done) | (simp; omega)) _, (g2.set_row k _).to (fun j _ => upto_step (sobF f) (fun _ => 0) k j)⟩
      case measure => simp [intOf]; omega
    · have g2 := g2.to (upto_full (sobF f) (fun _ => 0) k hlt)
      go_wp2_with (first | (refine wl_load 34 Try.underlying34 info_sizes rfl _ rfl g2 rfl ?_) | (refine wl_store 34 info_sizes rfl _ _ rfl g1 (row_size _ _) rfl rfl (fun _ => rfl) ?_))
      exact ret_row2 rfl Try.underlying34 info_sizes (g1.row_ _) rfl rfl ⟨by rw [hR.out]; rfl, below_setRow b0 (by omega) _⟩
theorem walk_FnExactSizesOfBox (f : Nat → Int) (_hf : ∀ j, -9223372036854775808 ≤ f j ∧ f j ≤ 9223372036854775807) (w : World) : Calls Try.prog 5 #[.agg (row 21 fun j => .int .i64 (f j))] w fun e w' => e = .returned (.bool true) ∧ Below w.heap.size w w' := by
  obtain ⟨G, c, hR, h1⟩ := sob_form f
  have HR := Lib.hid hR
  have H1 := Lib.hid h1
  clear hR h1
  have g0 := Holds.new w 33 (row 21 fun j => .int .i64 (f j))
  have b0 : Below w.heap.size w (w.alloc (.cells (row 21 fun j => .int .i64 (f j)) 33)) := (Below.refl _ _).alloc (by simp) _
  go_enter Try.func5, Try.ntmps5
  go_wp2_with (first | (refine wl_load_part 33 Try.underlying33 rfl info_lbox rfl _ rfl g0 (by omega) rfl ?_) | (refine wl_load 34 Try.underlying34 info_sizes rfl _ rfl r2 rfl ?_) | (refine wl_load 34 Try.underlying34 info_sizes rfl _ rfl r1 rfl ?_) | (go_at_call 13; with_reducible refine (c_toBox f _).mono ?_; rintro e w1 ⟨rfl, hb⟩; have g0 := g0.keep hb; have r1 := r1.keep hb; have b0 := b0.trans (hb.mono b0.size); clear hb) | (go_at_call 13; with_reducible refine (c_toBox f _).mono ?_; rintro e w1 ⟨rfl, hb⟩; have g0 := g0.keep hb; have b0 := b0.trans (hb.mono b0.size); clear hb) | (go_at_call 12; with_reducible refine (c_specSizesOfBox f _).mono ?_; rw [HR.out]; rintro e w1 ⟨rfl, hb⟩; have g0 := g0.keep hb; have b0 := b0.trans (hb.mono b0.size); clear hb) | (go_at_call 14; with_reducible refine (c_implSizesOfBox f _).mono ?_; rw [HR.out]; rintro e w1 ⟨rfl, hb⟩; have g0 := g0.keep hb; have r1 := r1.keep hb; have b0 := b0.trans (hb.mono b0.size); clear hb) | (refine wl_new 34 info_sizes rfl _ _ rfl rfl rfl rfl (fun _ => rfl) ?_; intro w2 hb r2; have g0 := g0.keep hb; have r1 := r1.keep hb; have b0 := b0.trans (hb.mono b0.size); clear hb) | (refine wl_new 34 info_sizes rfl _ _ rfl rfl rfl rfl (fun _ => rfl) ?_; intro w2 hb r1; have g0 := g0.keep hb; have b0 := b0.trans (hb.mono b0.size); clear hb) | (go_at_call 15; with_reducible refine (c_eqSizes G H1.out _).mono ?_; rintro e w1 ⟨rfl, hb⟩; skip; have b0 := b0.trans (hb.mono b0.size); clear hb))
  go_ret
  exact ⟨rfl, b0⟩
end Go.Proofs.Ytomebnplmoflbaa
