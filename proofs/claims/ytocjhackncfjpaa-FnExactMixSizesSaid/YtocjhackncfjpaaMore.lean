/-
  Contracts and walks: sizes that are scaled, shares that are taken.
-/
import Derived.Test.YtocjhackncfjpaaMade
namespace Go.Proofs.Ytocjhackncfjpaa
open Go.RowKit Fl
set_option maxRecDepth 20000

section
variable {P : Program} {ops : Array Oper} {rest : List Oper} {o : Oper} {a : Act} {Q : Exit → Act → World → Prop}
theorem wl_new (T : TypeId) {n : Nat} (hi : (P.info? T).map (·.size) = some n) (hgd : o.guard = none) (x y : Operand) (ho : o.op = .store T x y) {w1 : World} {t : TypeId} {z : Array Value} {F : Nat → Value} (hn : z.size = n)
    (hx : a.eval x = .pointer (some ⟨w1.heap.size, 0, none⟩)) (hy : a.eval y = .agg (row n F)) (h1 : ∀ j, (F j).oneCell' = true)
    (h : ∀ w2, Below w1.heap.size w1 w2 → Holds w2 w1.heap.size t (row n F) → wpList P ops Q rest (a.put o.dst undef) w2) : wpList P ops Q (o :: rest) a (w1.alloc (.cells z t)) :=
  wl_store T hi hgd x y ho (Holds.new w1 t z) hn hx hy h1 (h _ (below_setRow ((Below.refl _ _).alloc (Nat.le_refl _) _) (Nat.le_refl _) _) ((Holds.new w1 t z).row_ _))
end
theorem shareB_false {x : Nat} (h : amtB x = false) (b : Bool) : (amtB x && b) = false := by rw [h]; rfl
def le1 (v : Nat) : Bool := FloatKind.f32.format.order v 1065353216 == some .lt || FloatKind.f32.format.order v 1065353216 == some .eq
/-- a share -/
def shareB (v : Nat) : Bool := amtB v && le1 v
theorem shareB_iff {v : Nat} (h : shareB v = true) : v ≤ 1065353216 := by
  unfold shareB at h
  rw [Bool.and_eq_true] at h
  have h1 := amt_lt h.1
  have h2 := h.2
  unfold le1 at h2
  rw [ord_pos (by omega) (by omega)] at h2
  rcases Int.lt_trichotomy (v : Int) 1065353216 with q | q | q
  · omega
  · omega
  · exfalso
    have hc : compare (v : Int) ((1065353216 : Nat) : Int) = .gt := by simp only [compare, compareOfLessAndEq]; rw [if_neg (by omega), if_neg (by omega)]
    rw [hc] at h2; simp at h2
/-- no sizes, and a code -/
def noR (c : Int) : Value := .tuple #[.agg (row 20 fun _ => .float .f32 0), .int .i64 c]
theorem noR_form (c : Int) : ∃ (G : Nat → Nat) (c' : Int), noR c = .tuple #[.agg (row 20 fun j => .float .f32 (G j)), .int .i64 c'] ∧ ∀ j, j < 20 → cvok (G j) = true :=
  ⟨fun _ => 0, c, rfl, fun _ _ => (cvle (x := 0) (by omega)).1⟩
theorem madeR_form (F : Nat → Nat) (hF : ∀ j, F j ≤ 2139095040) : ∃ (G : Nat → Nat) (c' : Int), madeR F = .tuple #[.agg (row 20 fun j => .float .f32 (G j)), .int .i64 c'] ∧ ∀ j, j < 20 → cvok (G j) = true := by
  unfold madeR
  split
  · exact ⟨F, 0, rfl, fun j _ => (cvle (hF j)).1⟩
  · exact ⟨fun _ => 0, 4, rfl, fun _ _ => (cvle (x := 0) (by omega)).1⟩
/-- the first k numbers are done -/
def upto (k : Nat) (F f : Nat → Nat) : Nat → Nat := fun j => if j < k then F j else f j
theorem upto_zero (F f : Nat → Nat) (j : Nat) : Value.float .f32 (f j) = .float .f32 (upto 0 F f j) := by simp [upto]
theorem upto_at (F f : Nat → Nat) (k : Nat) : upto k F f k = f k := by simp [upto]
theorem upto_step (F f : Nat → Nat) (k j : Nat) : (if j = k then Value.float .f32 (F k) else Value.float .f32 (upto k F f j)) = Value.float .f32 (upto (k + 1) F f j) := by
  unfold upto
  by_cases e : j = k
  · subst e; simp
  · simp only [e, if_false]; congr 1
    rcases Nat.lt_or_ge j k with q | q
    · rw [if_pos q, if_pos (by omega)]
    · rw [if_neg (by omega), if_neg (by omega)]
theorem upto_full (F f : Nat → Nat) (k : Nat) (hk : ¬ k < 20) (j : Nat) (hj : j < 20) : Value.float .f32 (upto k F f j) = Value.float .f32 (F j) := by unfold upto; rw [if_pos (by omega)]
theorem c_l01Share (x : Nat) (hx : x < 4294967296) (w : World) : Calls Try.prog 32 #[.float .f32 x] w fun e w' => e = .returned (.bool (shareB x)) ∧ Drew w w' := by
  cases h : amtB x
  · have hR := Lib.hid (show shareB x = false by simp only [shareB, h, Bool.false_and])
    have HC := Lib.hid (fun w => c_l01Amount x hx w)
    rw [h] at HC
    clear h hx
    go_enter Try.func32, Try.ntmps32
    go_wp2_with (go_at_call 44; refine (HC.out _).mono ?_; rintro e w' ⟨rfl, hd⟩)
    go_ret
    exact ⟨ret_bool hR.out, hd⟩
  · have hR := Lib.hid (show shareB x = (FloatKind.f32.format.order x 1065353216 == some .lt || FloatKind.f32.format.order x 1065353216 == some .eq) by simp only [shareB, h, Bool.true_and, le1])
    have HC := Lib.hid (fun w => c_l01Amount x hx w)
    rw [h] at HC
    clear h hx
    go_enter Try.func32, Try.ntmps32
    go_wp2_with (go_at_call 44; refine (HC.out _).mono ?_; rintro e w' ⟨rfl, hd⟩)
    go_ret
    exact ⟨ret_bool hR.out, hd⟩
theorem c_isPart (x : Nat) (hx : x < 4294967296) (w : World) : Calls Try.prog 35 #[.float .f32 x] w fun e w' => e = .returned (.bool (shareB x)) ∧ Below w.heap.size w w' := by
  cases h : amtB x
  · have hR := Lib.hid (show shareB x = false by simp only [shareB, h, Bool.false_and])
    have HC := Lib.hid (fun w => c_isAmount x hx w)
    rw [h] at HC
    clear h hx
    go_enter Try.func35, Try.ntmps35
    go_wp2_with (go_at_call 45; refine (HC.out _).mono ?_; rintro e w' ⟨rfl, hd⟩)
    go_ret
    exact ⟨ret_bool hR.out, hd⟩
  · have hR := Lib.hid (show shareB x = (FloatKind.f32.format.order x 1065353216 == some .lt || FloatKind.f32.format.order x 1065353216 == some .eq) by simp only [shareB, h, Bool.true_and, le1])
    have HC := Lib.hid (fun w => c_isAmount x hx w)
    rw [h] at HC
    clear h hx
    go_enter Try.func35, Try.ntmps35
    go_wp2_with (go_at_call 45; refine (HC.out _).mono ?_; rintro e w' ⟨rfl, hd⟩)
    go_ret
    exact ⟨ret_bool hR.out, hd⟩

def sclF (f : Nat → Nat) (by_ : Nat) : Nat → Nat := fun j => fv .mul .f32 (f j) by_
def sclR (f : Nat → Nat) (by_ : Nat) : Value := if okB f then (if amtB by_ then madeR (fun j => if j < 20 then sclF f by_ j else 0) else noR 2) else noR 1
theorem scl_ok {f : Nat → Nat} {b : Nat} (h : okB f = true) (hb : amtB b = true) (j : Nat) (hj : j < 20) : fok .mul .f32 (f j) b = true ∧ sclF f b j ≤ 2139095040 := mul_ff (amt_lt (of_okB h j hj)) (amt_lt hb)
theorem scl_le {f : Nat → Nat} {b : Nat} (h : okB f = true) (hb : amtB b = true) (j : Nat) : (if j < 20 then sclF f b j else 0) ≤ 2139095040 := by
  split
  · rename_i hj; exact (scl_ok h hb j hj).2
  · omega
theorem scl_form (f : Nat → Nat) (b : Nat) : ∃ (G : Nat → Nat) (c' : Int), sclR f b = .tuple #[.agg (row 20 fun j => .float .f32 (G j)), .int .i64 c'] ∧ ∀ j, j < 20 → cvok (G j) = true := by
  unfold sclR
  split
  · rename_i h1; split
    · rename_i h2; exact madeR_form _ (scl_le h1 h2)
    · exact noR_form 2
  · exact noR_form 1
theorem c_specScaleSizes (f : Nat → Nat) (hf : ∀ j, f j < 4294967296) (b : Nat) (hb0 : b < 4294967296) (w : World) : Calls Try.prog 22 #[.agg (row 20 fun j => .float .f32 (f j)), .float .f32 b] w fun e w' => e = .returned (sclR f b) ∧ Below w.heap.size w w' := by
  have g0 : Holds ((w.alloc (.cells (row 20 fun j => .float .f32 (f j)) 24)).alloc (.cells #[.float .f32 0, .float .f32 0, .float .f32 0, .float .f32 0, .float .f32 0, .float .f32 0, .float .f32 0, .float .f32 0, .float .f32 0, .float .f32 0, .float .f32 0, .float .f32 0, .float .f32 0, .float .f32 0, .float .f32 0, .float .f32 0, .float .f32 0, .float .f32 0, .float .f32 0, .float .f32 0] 24)) w.heap.size 24 (row 20 fun j => .float .f32 (f j)) := (Holds.new _ _ _).alloc _
  have g1 : Holds ((w.alloc (.cells (row 20 fun j => .float .f32 (f j)) 24)).alloc (.cells #[.float .f32 0, .float .f32 0, .float .f32 0, .float .f32 0, .float .f32 0, .float .f32 0, .float .f32 0, .float .f32 0, .float .f32 0, .float .f32 0, .float .f32 0, .float .f32 0, .float .f32 0, .float .f32 0, .float .f32 0, .float .f32 0, .float .f32 0, .float .f32 0, .float .f32 0, .float .f32 0] 24)) (w.heap.size + 1) 24 (row 20 fun _ => .float .f32 0) := by rw [zrow_eq]; exact Holds.new' _ _ _ (by simp)
  have b0 : Below w.heap.size w ((w.alloc (.cells (row 20 fun j => .float .f32 (f j)) 24)).alloc (.cells #[.float .f32 0, .float .f32 0, .float .f32 0, .float .f32 0, .float .f32 0, .float .f32 0, .float .f32 0, .float .f32 0, .float .f32 0, .float .f32 0, .float .f32 0, .float .f32 0, .float .f32 0, .float .f32 0, .float .f32 0, .float .f32 0, .float .f32 0, .float .f32 0, .float .f32 0, .float .f32 0] 24)) := ((Below.refl _ _).alloc (by simp) _).alloc (by simp) _
  cases hf1 : okB f
  · have hR := Lib.hid (show sclR f b = noR 1 by simp [sclR, hf1])
    go_enter Try.func22, Try.ntmps22
    go_wp2_with (first | (refine wl_load 24 Try.underlying24 info_sizes rfl _ rfl g0 rfl ?_) | (go_at_call 30; refine (c_l01Ok f hf _ _ _ g0).mono ?_; rw [hf1]; rintro e w1 ⟨rfl, hdr⟩; have hb := drew_below hdr; clear hdr; have g0 := g0.keep hb; have g1 := g1.keep hb; have b0 := b0.trans (hb.mono b0.size); clear hb) | (refine wl_store 24 info_sizes rfl _ _ rfl g1 (row_size _ _) rfl (congrArg Value.agg zrow_eq) (fun _ => rfl) ?_))
    exact ret_row2 rfl Try.underlying24 info_sizes (g1.row_ _) rfl rfl ⟨by rw [hR.out]; rfl, below_setRow b0 (by omega) _⟩
  cases hf2 : amtB b
  · have hR := Lib.hid (show sclR f b = noR 2 by simp [sclR, hf1, hf2])
    go_enter Try.func22, Try.ntmps22
    go_wp2_with (first | (refine wl_load 24 Try.underlying24 info_sizes rfl _ rfl g0 rfl ?_) | (go_at_call 30; refine (c_l01Ok f hf _ _ _ g0).mono ?_; rw [hf1]; rintro e w1 ⟨rfl, hdr⟩; have hb := drew_below hdr; clear hdr; have g0 := g0.keep hb; have g1 := g1.keep hb; have b0 := b0.trans (hb.mono b0.size); clear hb) | (go_at_call 44; refine (c_l01Amount b hb0 _).mono ?_; rw [hf2]; rintro e w1 ⟨rfl, hdr⟩; have hb := drew_below hdr; clear hdr; have g0 := g0.keep hb; have g1 := g1.keep hb; have b0 := b0.trans (hb.mono b0.size); clear hb) | (refine wl_store 24 info_sizes rfl _ _ rfl g1 (row_size _ _) rfl (congrArg Value.agg zrow_eq) (fun _ => rfl) ?_))
    exact ret_row2 rfl Try.underlying24 info_sizes (g1.row_ _) rfl rfl ⟨by rw [hR.out]; rfl, below_setRow b0 (by omega) _⟩
  have hR := Lib.hid (show sclR f b = madeR (fun j => if j < 20 then sclF f b j else 0) by simp [sclR, hf1, hf2])
  obtain ⟨G, c, hG, _⟩ := madeR_form _ (scl_le hf1 hf2)
  have HG := Lib.hid hG
  clear hG
  have HM := Lib.hid (fun w => c_l01Made (fun j => if j < 20 then sclF f b j else 0) (fun j => le_inf _ (scl_le hf1 hf2 j)) w)
  have HO := Lib.hid (scl_ok hf1 hf2)
  go_enter Try.func22, Try.ntmps22
  go_wp2_with (first | (refine wl_load 24 Try.underlying24 info_sizes rfl _ rfl g0 rfl ?_) | (go_at_call 30; refine (c_l01Ok f hf _ _ _ g0).mono ?_; rw [hf1]; rintro e w1 ⟨rfl, hdr⟩; have hb := drew_below hdr; clear hdr; have g0 := g0.keep hb; have g1 := g1.keep hb; have b0 := b0.trans (hb.mono b0.size); clear hb) | (go_at_call 44; refine (c_l01Amount b hb0 _).mono ?_; rw [hf2]; rintro e w1 ⟨rfl, hdr⟩; have hb := drew_below hdr; clear hdr; have g0 := g0.keep hb; have g1 := g1.keep hb; have b0 := b0.trans (hb.mono b0.size); clear hb))
  clear hf2
  go_loopw [6] (fun i wr => ∃ k : Nat, k ≤ 20 ∧ i = .int .i64 k ∧ Below w.heap.size w wr ∧ Holds wr w.heap.size 24 (row 20 fun j => .float .f32 (upto k (sclF f b) f j)) ∧ Holds wr (w.heap.size + 1) 24 (row 20 fun _ => .float .f32 0)) (fun i _ => 20 - (intOf i).toNat)
  case atStart => exact ⟨0, by omega, rfl, b0, g0.to (fun j _ => upto_zero _ f j), g1⟩
  case round =>
    obtain ⟨k, hk, rfl, b0, g0, g1⟩ := hrel
    by_cases hlt : k < 20
    · have hc := g0.at_ hlt
      rw [upto_at] at hc
      have hfz := g0.free k
      have ho := (HO.out k hlt).1
      go_wp2
      go_roundw
      case rel => exact ⟨k + 1, by omega, by go_num, b0.setCell (by simp) _, (g0.set_row k _).to (fun j _ => upto_step (sclF f b) f k j), g1.far (by simp) _⟩
      case measure => simp [intOf]; omega
    · have g0 : Holds wr w.heap.size 24 (row 20 fun j => .float .f32 (if j < 20 then sclF f b j else 0)) := g0.to (fun j hj => (upto_full (sclF f b) f k hlt j hj).trans (by rw [if_pos hj]))
      go_wp2_with (first | (refine wl_load 24 Try.underlying24 info_sizes rfl _ rfl g0 rfl ?_) | (go_at_call 40; refine (HM.out _).mono ?_; rw [HG.out]; rintro e w1 ⟨rfl, hb⟩; have g0 := g0.keep hb; have g1 := g1.keep hb; have b0 := b0.trans (hb.mono b0.size); clear hb) | (refine wl_store 24 info_sizes rfl _ _ rfl g1 (row_size _ _) rfl rfl (fun _ => rfl) ?_))
      exact ret_row2 rfl Try.underlying24 info_sizes (g1.row_ _) rfl rfl ⟨by rw [hR.out, HG.out]; rfl, below_setRow b0 (by omega) _⟩
theorem c_implScaleSizes (f : Nat → Nat) (hf : ∀ j, f j < 4294967296) (b : Nat) (hb0 : b < 4294967296) (w : World) : Calls Try.prog 23 #[.agg (row 20 fun j => .float .f32 (f j)), .float .f32 b] w fun e w' => e = .returned (sclR f b) ∧ Below w.heap.size w w' := by
  have g0 : Holds ((w.alloc (.cells (row 20 fun j => .float .f32 (f j)) 24)).alloc (.cells #[.float .f32 0, .float .f32 0, .float .f32 0, .float .f32 0, .float .f32 0, .float .f32 0, .float .f32 0, .float .f32 0, .float .f32 0, .float .f32 0, .float .f32 0, .float .f32 0, .float .f32 0, .float .f32 0, .float .f32 0, .float .f32 0, .float .f32 0, .float .f32 0, .float .f32 0, .float .f32 0] 24)) w.heap.size 24 (row 20 fun j => .float .f32 (f j)) := (Holds.new _ _ _).alloc _
  have g1 : Holds ((w.alloc (.cells (row 20 fun j => .float .f32 (f j)) 24)).alloc (.cells #[.float .f32 0, .float .f32 0, .float .f32 0, .float .f32 0, .float .f32 0, .float .f32 0, .float .f32 0, .float .f32 0, .float .f32 0, .float .f32 0, .float .f32 0, .float .f32 0, .float .f32 0, .float .f32 0, .float .f32 0, .float .f32 0, .float .f32 0, .float .f32 0, .float .f32 0, .float .f32 0] 24)) (w.heap.size + 1) 24 (row 20 fun _ => .float .f32 0) := by rw [zrow_eq]; exact Holds.new' _ _ _ (by simp)
  have b0 : Below w.heap.size w ((w.alloc (.cells (row 20 fun j => .float .f32 (f j)) 24)).alloc (.cells #[.float .f32 0, .float .f32 0, .float .f32 0, .float .f32 0, .float .f32 0, .float .f32 0, .float .f32 0, .float .f32 0, .float .f32 0, .float .f32 0, .float .f32 0, .float .f32 0, .float .f32 0, .float .f32 0, .float .f32 0, .float .f32 0, .float .f32 0, .float .f32 0, .float .f32 0, .float .f32 0] 24)) := ((Below.refl _ _).alloc (by simp) _).alloc (by simp) _
  cases hf1 : okB f
  · have hR := Lib.hid (show sclR f b = noR 1 by simp [sclR, hf1])
    go_enter Try.func23, Try.ntmps23
    go_wp2_with (first | (refine wl_load 24 Try.underlying24 info_sizes rfl _ rfl g0 rfl ?_) | (go_at_call 33; refine (c_ValidSizes f hf _).mono ?_; rw [hf1]; rintro e w1 ⟨rfl, hb⟩; have g0 := g0.keep hb; have g1 := g1.keep hb; have b0 := b0.trans (hb.mono b0.size); clear hb) | (refine wl_store 24 info_sizes rfl _ _ rfl g1 (row_size _ _) rfl (congrArg Value.agg zrow_eq) (fun _ => rfl) ?_))
    exact ret_row2 rfl Try.underlying24 info_sizes (g1.row_ _) rfl rfl ⟨by rw [hR.out]; rfl, below_setRow b0 (by omega) _⟩
  cases hf2 : amtB b
  · have hR := Lib.hid (show sclR f b = noR 2 by simp [sclR, hf1, hf2])
    go_enter Try.func23, Try.ntmps23
    go_wp2_with (first | (refine wl_load 24 Try.underlying24 info_sizes rfl _ rfl g0 rfl ?_) | (go_at_call 33; refine (c_ValidSizes f hf _).mono ?_; rw [hf1]; rintro e w1 ⟨rfl, hb⟩; have g0 := g0.keep hb; have g1 := g1.keep hb; have b0 := b0.trans (hb.mono b0.size); clear hb) | (go_at_call 45; refine (c_isAmount b hb0 _).mono ?_; rw [hf2]; rintro e w1 ⟨rfl, hb⟩; have g0 := g0.keep hb; have g1 := g1.keep hb; have b0 := b0.trans (hb.mono b0.size); clear hb) | (refine wl_store 24 info_sizes rfl _ _ rfl g1 (row_size _ _) rfl (congrArg Value.agg zrow_eq) (fun _ => rfl) ?_))
    exact ret_row2 rfl Try.underlying24 info_sizes (g1.row_ _) rfl rfl ⟨by rw [hR.out]; rfl, below_setRow b0 (by omega) _⟩
  have hR := Lib.hid (show sclR f b = madeR (fun j => if j < 20 then sclF f b j else 0) by simp [sclR, hf1, hf2])
  obtain ⟨G, c, hG, _⟩ := madeR_form _ (scl_le hf1 hf2)
  have HG := Lib.hid hG
  clear hG
  have HM := Lib.hid (fun w => c_checked (fun j => if j < 20 then sclF f b j else 0) (fun j => le_inf _ (scl_le hf1 hf2 j)) w)
  have HO := Lib.hid (scl_ok hf1 hf2)
  go_enter Try.func23, Try.ntmps23
  go_wp2_with (first | (refine wl_load 24 Try.underlying24 info_sizes rfl _ rfl g0 rfl ?_) | (go_at_call 33; refine (c_ValidSizes f hf _).mono ?_; rw [hf1]; rintro e w1 ⟨rfl, hb⟩; have g0 := g0.keep hb; have g1 := g1.keep hb; have b0 := b0.trans (hb.mono b0.size); clear hb) | (go_at_call 45; refine (c_isAmount b hb0 _).mono ?_; rw [hf2]; rintro e w1 ⟨rfl, hb⟩; have g0 := g0.keep hb; have g1 := g1.keep hb; have b0 := b0.trans (hb.mono b0.size); clear hb))
  clear hf2
  go_loopw [17] (fun i wr => ∃ k : Nat, k ≤ 20 ∧ i = .int .i64 k ∧ Below w.heap.size w wr ∧ Holds wr w.heap.size 24 (row 20 fun j => .float .f32 (upto k (sclF f b) f j)) ∧ Holds wr (w.heap.size + 1) 24 (row 20 fun _ => .float .f32 0)) (fun i _ => 20 - (intOf i).toNat)
  case atStart => exact ⟨0, by omega, rfl, b0, g0.to (fun j _ => upto_zero _ f j), g1⟩
  case round =>
    obtain ⟨k, hk, rfl, b0, g0, g1⟩ := hrel
    by_cases hlt : k < 20
    · have hc := g0.at_ hlt
      rw [upto_at] at hc
      have hfz := g0.free k
      have ho := (HO.out k hlt).1
      go_wp2
      go_roundw
      case rel => exact ⟨k + 1, by omega, by go_num, b0.setCell (by simp) _, (g0.set_row k _).to (fun j _ => upto_step (sclF f b) f k j), g1.far (by simp) _⟩
      case measure => simp [intOf]; omega
    · have g0 : Holds wr w.heap.size 24 (row 20 fun j => .float .f32 (if j < 20 then sclF f b j else 0)) := g0.to (fun j hj => (upto_full (sclF f b) f k hlt j hj).trans (by rw [if_pos hj]))
      go_wp2_with (first | (refine wl_load 24 Try.underlying24 info_sizes rfl _ rfl g0 rfl ?_) | (go_at_call 41; refine (HM.out _).mono ?_; rw [HG.out]; rintro e w1 ⟨rfl, hb⟩; have g0 := g0.keep hb; have g1 := g1.keep hb; have b0 := b0.trans (hb.mono b0.size); clear hb) | (refine wl_store 24 info_sizes rfl _ _ rfl g1 (row_size _ _) rfl rfl (fun _ => rfl) ?_))
      exact ret_row2 rfl Try.underlying24 info_sizes (g1.row_ _) rfl rfl ⟨by rw [hR.out, HG.out]; rfl, below_setRow b0 (by omega) _⟩
theorem walk_FnExactScaleSizes (f : Nat → Nat) (hf : ∀ j, f j < 4294967296) (b : Nat) (hb0 : b < 4294967296) (w : World) : Calls Try.prog 7 #[.agg (row 20 fun j => .float .f32 (f j)), .float .f32 b] w fun e w' => e = .returned (.bool true) ∧ Below w.heap.size w w' := by
  obtain ⟨G, c, hR, h1⟩ := scl_form f b
  have HR := Lib.hid hR
  have H1 := Lib.hid h1
  clear hR h1
  have g0 := Holds.new w 23 (row 20 fun j => .float .f32 (f j))
  have b0 : Below w.heap.size w (w.alloc (.cells (row 20 fun j => .float .f32 (f j)) 23)) := (Below.refl _ _).alloc (by simp) _
  go_enter Try.func7, Try.ntmps7
  go_wp2_with (first | (refine wl_load 23 Try.underlying23 info_a20 rfl _ rfl g0 rfl ?_) | (refine wl_load 24 Try.underlying24 info_sizes rfl _ rfl r2 rfl ?_) | (refine wl_load 24 Try.underlying24 info_sizes rfl _ rfl r1 rfl ?_) | (go_at_call 12; refine (c_toSizes f _).mono ?_; rintro e w1 ⟨rfl, hb⟩; have g0 := g0.keep hb; have r1 := r1.keep hb; have b0 := b0.trans (hb.mono b0.size); clear hb) | (go_at_call 12; refine (c_toSizes f _).mono ?_; rintro e w1 ⟨rfl, hb⟩; have g0 := g0.keep hb; have b0 := b0.trans (hb.mono b0.size); clear hb) | (go_at_call 22; refine (c_specScaleSizes f hf b hb0 _).mono ?_; rw [HR.out]; rintro e w1 ⟨rfl, hb⟩; have g0 := g0.keep hb; have b0 := b0.trans (hb.mono b0.size); clear hb) | (go_at_call 23; refine (c_implScaleSizes f hf b hb0 _).mono ?_; rw [HR.out]; rintro e w1 ⟨rfl, hb⟩; have g0 := g0.keep hb; have r1 := r1.keep hb; have b0 := b0.trans (hb.mono b0.size); clear hb) | (refine wl_new 24 info_sizes rfl _ _ rfl rfl rfl rfl (fun _ => rfl) ?_; intro w2 hb r2; have g0 := g0.keep hb; have r1 := r1.keep hb; have b0 := b0.trans (hb.mono b0.size); clear hb) | (refine wl_new 24 info_sizes rfl _ _ rfl rfl rfl rfl (fun _ => rfl) ?_; intro w2 hb r1; have g0 := g0.keep hb; have b0 := b0.trans (hb.mono b0.size); clear hb) | (go_at_call 14; refine (c_eqSizes G H1.out _).mono ?_; rintro e w1 ⟨rfl, hb⟩; skip; have b0 := b0.trans (hb.mono b0.size); clear hb))
  go_ret
  exact ⟨rfl, b0⟩
end Go.Proofs.Ytocjhackncfjpaa
