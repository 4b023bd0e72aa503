/-
  Contracts: sizes that are added.
-/
import Derived.Test.YtocjhackncfjpaaMore
import Derived.Deep.RegionHeld3
namespace Go.Proofs.Ytocjhackncfjpaa
open Go.RowKit Fl
set_option maxRecDepth 20000
set_option maxHeartbeats 4000000
set_option linter.unusedSimpArgs false

section
variable {P : Program} {ops : Array Oper} {rest : List Oper} {o : Oper} {a : Act} {w : World} {Q : Exit → Act → World → Prop}
/-- a whole array read, under a guard that lets it through -/
theorem wl_loadW (T : TypeId) {n : Nat} {e : TypeId} (hT : P.underlying T = some (.array n e)) (hi : (P.info? T).map (·.size) = some n) (hw : Region.wanted o (yielded ops a.tmps) = true) (x : Operand) (ho : o.op = .load T x)
    {g : Nat} {t : TypeId} {F : Nat → Value} (hg : Holds w g t (row n F)) (hx : a.eval x = .pointer (some ⟨g, 0, none⟩))
    (h : wpList P ops Q rest (a.put o.dst (.agg (row n F))) w) : wpList P ops Q (o :: rest) a w :=
  wpList_step fun K hK => by
    rw [if_pos hw]
    exact wp_load_row T x ho g hx t (row n F) (0, 0) _ hg hT rfl (by rw [hi, row_size]) (hK _ _ h)
end
section
variable {P : Program} {ops : Array Oper} {S : World → Prop} {op : Oper} {a : Act}
/-- in a region that draws its order: a whole array read may be taken first -/
theorem y_load (T : TypeId) {n : Nat} {e : TypeId} (hT : P.underlying T = some (.array n e)) (hi : (P.info? T).map (·.size) = some n) (hw : Region.wanted op (yielded ops a.tmps) = true) (x : Operand) (ho : op.op = .load T x)
    {g : Nat} {t : TypeId} {F : Nat → Value} (hx : a.eval x = .pointer (some ⟨g, 0, none⟩)) (hS : ∀ w, S w → Holds w g t (row n F)) : YieldsIf P ops S op (.agg (row n F)) a :=
  .inl ⟨hw, fun w h => by
    unfold execOp
    simp only [ho, hx, Instr.loadAt, Instr.sureAddr, Sem.run_bind, Sem.run_pure, Result.andThen_ok, run_loadVar_row w g t T (row n F) (0, 0) _ (hS w h) hT rfl (by rw [hi, row_size])]⟩
theorem take_ {md : Region.Mode} {Q : Exit → Act → World → Prop} {i : Nat} {oi : Oper} {d : Option Tmp} {v : Value} {fuel : Nat} {listed : Array Bool} {w : World} (hi : ops[i]? = some oi) (hd : oi.dst = d)
    (hs : Region.noSelect ops = true) (hf : Region.free md ops listed i = true) (hr : (Region.ready md ops listed).contains i = true)
    (hQ : ∀ c a w, Q (.panic c) (a.put oi.dst v) w → Q (.panic c) a w) (hy : YieldsIf P ops S oi v a) (hS : S w)
    (h : wpAnyH P md ops Q S fuel (listed.setIfInBounds i true) (a.put d v) w) : wpAnyH P md ops Q S (fuel + 1) listed a w :=
  wpAnyH_take hi hs hf hr hQ hy hS (by rw [hd]; exact h)
theorem wp_store_ {w : World} {K : Act → World → Prop} {Q : Exit → Act → World → Prop} (T : TypeId) {n : Nat} (hi : (P.info? T).map (·.size) = some n) (x y : Operand) (ho : op.op = .store T x y)
    {g : Nat} {t : TypeId} {old : Array Value} {F : Nat → Value} (hg : Holds w g t old) (hn : old.size = n) (hx : a.eval x = .pointer (some ⟨g, 0, none⟩)) (hy : a.eval y = .agg (row n F)) (h1 : ∀ j, (F j).oneCell' = true)
    (h : K (a.put op.dst undef) (w.setRow g (row n F))) : op.wp P a w K Q :=
  wp_store_row T x y ho g (row n F) hx hy t old hg (by rw [hi, row_size]) (by rw [hn, row_size]) (by
    rw [Array.all_eq_true_iff_forall_mem]
    intro v hv
    simp only [row, Array.mem_map] at hv
    obtain ⟨j, _, rfl⟩ := hv
    exact h1 j) h
end
def addF (f g : Nat → Nat) : Nat → Nat := fun j => fv .add .f32 (f j) (g j)
def addR (f g : Nat → Nat) : Value := if okB f && okB g then madeR (fun j => if j < 20 then addF f g j else 0) else noR 1
theorem addF_ok {f g : Nat → Nat} (h : okB f = true) (h' : okB g = true) (j : Nat) (hj : j < 20) : fok .add .f32 (f j) (g j) = true ∧ addF f g j ≤ 2139095040 :=
  add_nn (Nat.le_of_lt (amt_lt (of_okB h j hj))) (Nat.le_of_lt (amt_lt (of_okB h' j hj)))
theorem addF_le {f g : Nat → Nat} (h : okB f = true) (h' : okB g = true) (j : Nat) : (if j < 20 then addF f g j else 0) ≤ 2139095040 := by
  split
  · rename_i hj; exact (addF_ok h h' j hj).2
  · omega
theorem addR_form (f g : Nat → Nat) : ∃ (G : Nat → Nat) (c' : Int), addR f g = .tuple #[.agg (row 20 fun j => .float .f32 (G j)), .int .i64 c'] ∧ ∀ j, j < 20 → cvok (G j) = true := by
  unfold addR
  split
  · rename_i h; rw [Bool.and_eq_true] at h; exact madeR_form _ (addF_le h.1 h.2)
  · exact noR_form 1
theorem c_specAddSizes (f : Nat → Nat) (hf : ∀ j, f j < 4294967296) (g : Nat → Nat) (hg : ∀ j, g j < 4294967296) (w : World) : Calls Try.prog 18 #[.agg (row 20 fun j => .float .f32 (f j)), .agg (row 20 fun j => .float .f32 (g j))] w fun e w' => e = .returned (addR f g) ∧ Below w.heap.size w w' := by
  have g0 : Holds (((w.alloc (.cells (row 20 fun j => .float .f32 (f j)) 24)).alloc (.cells (row 20 fun j => .float .f32 (g j)) 24)).alloc (.cells #[.float .f32 0, .float .f32 0, .float .f32 0, .float .f32 0, .float .f32 0, .float .f32 0, .float .f32 0, .float .f32 0, .float .f32 0, .float .f32 0, .float .f32 0, .float .f32 0, .float .f32 0, .float .f32 0, .float .f32 0, .float .f32 0, .float .f32 0, .float .f32 0, .float .f32 0, .float .f32 0] 24)) w.heap.size 24 (row 20 fun j => .float .f32 (f j)) := ((Holds.new _ _ _).alloc _).alloc _
  have g1 : Holds (((w.alloc (.cells (row 20 fun j => .float .f32 (f j)) 24)).alloc (.cells (row 20 fun j => .float .f32 (g j)) 24)).alloc (.cells #[.float .f32 0, .float .f32 0, .float .f32 0, .float .f32 0, .float .f32 0, .float .f32 0, .float .f32 0, .float .f32 0, .float .f32 0, .float .f32 0, .float .f32 0, .float .f32 0, .float .f32 0, .float .f32 0, .float .f32 0, .float .f32 0, .float .f32 0, .float .f32 0, .float .f32 0, .float .f32 0] 24)) (w.heap.size + 1) 24 (row 20 fun j => .float .f32 (g j)) := (Holds.new' _ _ _ (by simp)).alloc _
  have g2 : Holds (((w.alloc (.cells (row 20 fun j => .float .f32 (f j)) 24)).alloc (.cells (row 20 fun j => .float .f32 (g j)) 24)).alloc (.cells #[.float .f32 0, .float .f32 0, .float .f32 0, .float .f32 0, .float .f32 0, .float .f32 0, .float .f32 0, .float .f32 0, .float .f32 0, .float .f32 0, .float .f32 0, .float .f32 0, .float .f32 0, .float .f32 0, .float .f32 0, .float .f32 0, .float .f32 0, .float .f32 0, .float .f32 0, .float .f32 0] 24)) (w.heap.size + 1 + 1) 24 (row 20 fun _ => .float .f32 0) := by rw [zrow_eq]; exact Holds.new' _ _ _ (by simp)
  have b0 : Below w.heap.size w (((w.alloc (.cells (row 20 fun j => .float .f32 (f j)) 24)).alloc (.cells (row 20 fun j => .float .f32 (g j)) 24)).alloc (.cells #[.float .f32 0, .float .f32 0, .float .f32 0, .float .f32 0, .float .f32 0, .float .f32 0, .float .f32 0, .float .f32 0, .float .f32 0, .float .f32 0, .float .f32 0, .float .f32 0, .float .f32 0, .float .f32 0, .float .f32 0, .float .f32 0, .float .f32 0, .float .f32 0, .float .f32 0, .float .f32 0] 24)) := (((Below.refl _ _).alloc (by simp) _).alloc (by simp) _).alloc (by simp; omega) _
  cases hf1 : okB f
  · have hR := Lib.hid (show addR f g = noR 1 by simp [addR, hf1])
    go_enter Try.func18, Try.ntmps18
    go_wp2_with (first | (refine wl_loadW 24 Try.underlying24 info_sizes rfl _ rfl g1 rfl ?_) | (refine wl_load 24 Try.underlying24 info_sizes rfl _ rfl g0 rfl ?_) | (refine wl_load 24 Try.underlying24 info_sizes rfl _ rfl g1 rfl ?_) | (go_at_call 30; with_reducible refine (c_l01Ok f hf _ _ _ g0).mono ?_; rw [hf1]; rintro e w1 ⟨rfl, hdr⟩; have hb := drew_below hdr; clear hdr; have g0 := g0.keep hb; have g1 := g1.keep hb; have g2 := g2.keep hb; have b0 := b0.trans (hb.mono b0.size); clear hb) | (refine wl_store 24 info_sizes rfl _ _ rfl g2 (row_size _ _) rfl (congrArg Value.agg zrow_eq) (fun _ => rfl) ?_))
    exact ret_row2 rfl Try.underlying24 info_sizes (g2.row_ _) rfl rfl ⟨by rw [hR.out]; rfl, below_setRow b0 (by omega) _⟩
  cases hf2 : okB g
  · have hR := Lib.hid (show addR f g = noR 1 by simp [addR, hf1, hf2])
    go_enter Try.func18, Try.ntmps18
    go_wp2_with (first | (refine wl_loadW 24 Try.underlying24 info_sizes rfl _ rfl g1 rfl ?_) | (refine wl_load 24 Try.underlying24 info_sizes rfl _ rfl g0 rfl ?_) | (refine wl_load 24 Try.underlying24 info_sizes rfl _ rfl g1 rfl ?_) | (go_at_call 30; with_reducible refine (c_l01Ok f hf _ _ _ g0).mono ?_; rw [hf1]; rintro e w1 ⟨rfl, hdr⟩; have hb := drew_below hdr; clear hdr; have g0 := g0.keep hb; have g1 := g1.keep hb; have g2 := g2.keep hb; have b0 := b0.trans (hb.mono b0.size); clear hb) | (go_at_call 30; with_reducible refine (c_l01Ok g hg _ _ _ g1).mono ?_; rw [hf2]; rintro e w1 ⟨rfl, hdr⟩; have hb := drew_below hdr; clear hdr; have g0 := g0.keep hb; have g1 := g1.keep hb; have g2 := g2.keep hb; have b0 := b0.trans (hb.mono b0.size); clear hb) | (refine wl_store 24 info_sizes rfl _ _ rfl g2 (row_size _ _) rfl (congrArg Value.agg zrow_eq) (fun _ => rfl) ?_))
    exact ret_row2 rfl Try.underlying24 info_sizes (g2.row_ _) rfl rfl ⟨by rw [hR.out]; rfl, below_setRow b0 (by omega) _⟩
  have hR := Lib.hid (show addR f g = madeR (fun j => if j < 20 then addF f g j else 0) by simp [addR, hf1, hf2])
  obtain ⟨G, c, hG, _⟩ := madeR_form _ (addF_le hf1 hf2)
  have HG := Lib.hid hG
  clear hG
  have HM := Lib.hid (fun w => c_l01Made (fun j => if j < 20 then addF f g j else 0) (fun j => le_inf _ (addF_le hf1 hf2 j)) w)
  have HO := Lib.hid (addF_ok hf1 hf2)
  go_enter Try.func18, Try.ntmps18
  go_wp2_with (first | (refine wl_loadW 24 Try.underlying24 info_sizes rfl _ rfl g1 rfl ?_) | (refine wl_load 24 Try.underlying24 info_sizes rfl _ rfl g0 rfl ?_) | (refine wl_load 24 Try.underlying24 info_sizes rfl _ rfl g1 rfl ?_) | (go_at_call 30; with_reducible refine (c_l01Ok f hf _ _ _ g0).mono ?_; rw [hf1]; rintro e w1 ⟨rfl, hdr⟩; have hb := drew_below hdr; clear hdr; have g0 := g0.keep hb; have g1 := g1.keep hb; have g2 := g2.keep hb; have b0 := b0.trans (hb.mono b0.size); clear hb) | (go_at_call 30; with_reducible refine (c_l01Ok g hg _ _ _ g1).mono ?_; rw [hf2]; rintro e w1 ⟨rfl, hdr⟩; have hb := drew_below hdr; clear hdr; have g0 := g0.keep hb; have g1 := g1.keep hb; have g2 := g2.keep hb; have b0 := b0.trans (hb.mono b0.size); clear hb))
  clear hf2 hf1
  go_loopw [6] (fun i wr => ∃ k : Nat, k ≤ 20 ∧ i = .int .i64 k ∧ Below w.heap.size w wr ∧ Holds wr w.heap.size 24 (row 20 fun j => .float .f32 (upto k (addF f g) f j)) ∧ Holds wr (w.heap.size + 1) 24 (row 20 fun j => .float .f32 (g j)) ∧ Holds wr (w.heap.size + 1 + 1) 24 (row 20 fun _ => .float .f32 0)) (fun i _ => 20 - (intOf i).toNat)
  case atStart => exact ⟨0, by omega, rfl, b0, g0.to (fun j _ => upto_zero _ f j), g1, g2⟩
  case round =>
    obtain ⟨k, hk, rfl, b0, g0, g1, g2⟩ := hrel
    by_cases hlt : k < 20
    · have hc := g0.drew.at_ hlt
      rw [upto_at] at hc
      have hc1 := g1.drew.at_ hlt
      have hfz := g0.drew.free k
      have ho := (HO.out k hlt).1
      have hi0 : (0 : Int) ≤ (k : Int) := by omega
      have hi1 : (k : Int) < 20 := by omega
      go_wp2
      go_region
      go_wp2
      go_roundw
      case rel => exact ⟨k + 1, by omega, by go_num, (b0.trans ((Below.refl _ _).drew)).setCell (by simp) _, (g0.drew.set_row k _).to (fun j _ => upto_step (addF f g) f k j), g1.drew.far (by simp) _, g2.drew.far (by simp; omega) _⟩
      case measure => simp [intOf]; omega
    · have g0 : Holds wr w.heap.size 24 (row 20 fun j => .float .f32 (if j < 20 then addF f g j else 0)) := g0.to (fun j hj => (upto_full (addF f g) f k hlt j hj).trans (by rw [if_pos hj]))
      go_wp2_with (first | (refine wl_load 24 Try.underlying24 info_sizes rfl _ rfl g0 rfl ?_) | (go_at_call 40; refine (HM.out _).mono ?_; rw [HG.out]; rintro e w1 ⟨rfl, hb⟩; have g2 := g2.keep hb; have b0 := b0.trans (hb.mono b0.size); clear hb) | (refine wl_store 24 info_sizes rfl _ _ rfl g2 (row_size _ _) rfl rfl (fun _ => rfl) ?_))
      exact ret_row2 rfl Try.underlying24 info_sizes (g2.row_ _) rfl rfl ⟨by rw [hR.out, HG.out]; rfl, below_setRow b0 (by omega) _⟩
theorem c_implAddSizes (f : Nat → Nat) (hf : ∀ j, f j < 4294967296) (g : Nat → Nat) (hg : ∀ j, g j < 4294967296) (w : World) : Calls Try.prog 19 #[.agg (row 20 fun j => .float .f32 (f j)), .agg (row 20 fun j => .float .f32 (g j))] w fun e w' => e = .returned (addR f g) ∧ Below w.heap.size w w' := by
  have g0 : Holds (((w.alloc (.cells (row 20 fun j => .float .f32 (f j)) 24)).alloc (.cells (row 20 fun j => .float .f32 (g j)) 24)).alloc (.cells #[.float .f32 0, .float .f32 0, .float .f32 0, .float .f32 0, .float .f32 0, .float .f32 0, .float .f32 0, .float .f32 0, .float .f32 0, .float .f32 0, .float .f32 0, .float .f32 0, .float .f32 0, .float .f32 0, .float .f32 0, .float .f32 0, .float .f32 0, .float .f32 0, .float .f32 0, .float .f32 0] 24)) w.heap.size 24 (row 20 fun j => .float .f32 (f j)) := ((Holds.new _ _ _).alloc _).alloc _
  have g1 : Holds (((w.alloc (.cells (row 20 fun j => .float .f32 (f j)) 24)).alloc (.cells (row 20 fun j => .float .f32 (g j)) 24)).alloc (.cells #[.float .f32 0, .float .f32 0, .float .f32 0, .float .f32 0, .float .f32 0, .float .f32 0, .float .f32 0, .float .f32 0, .float .f32 0, .float .f32 0, .float .f32 0, .float .f32 0, .float .f32 0, .float .f32 0, .float .f32 0, .float .f32 0, .float .f32 0, .float .f32 0, .float .f32 0, .float .f32 0] 24)) (w.heap.size + 1) 24 (row 20 fun j => .float .f32 (g j)) := (Holds.new' _ _ _ (by simp)).alloc _
  have g2 : Holds (((w.alloc (.cells (row 20 fun j => .float .f32 (f j)) 24)).alloc (.cells (row 20 fun j => .float .f32 (g j)) 24)).alloc (.cells #[.float .f32 0, .float .f32 0, .float .f32 0, .float .f32 0, .float .f32 0, .float .f32 0, .float .f32 0, .float .f32 0, .float .f32 0, .float .f32 0, .float .f32 0, .float .f32 0, .float .f32 0, .float .f32 0, .float .f32 0, .float .f32 0, .float .f32 0, .float .f32 0, .float .f32 0, .float .f32 0] 24)) (w.heap.size + 1 + 1) 24 (row 20 fun _ => .float .f32 0) := by rw [zrow_eq]; exact Holds.new' _ _ _ (by simp)
  have b0 : Below w.heap.size w (((w.alloc (.cells (row 20 fun j => .float .f32 (f j)) 24)).alloc (.cells (row 20 fun j => .float .f32 (g j)) 24)).alloc (.cells #[.float .f32 0, .float .f32 0, .float .f32 0, .float .f32 0, .float .f32 0, .float .f32 0, .float .f32 0, .float .f32 0, .float .f32 0, .float .f32 0, .float .f32 0, .float .f32 0, .float .f32 0, .float .f32 0, .float .f32 0, .float .f32 0, .float .f32 0, .float .f32 0, .float .f32 0, .float .f32 0] 24)) := (((Below.refl _ _).alloc (by simp) _).alloc (by simp) _).alloc (by simp; omega) _
  cases hf1 : okB f
  · have hR := Lib.hid (show addR f g = noR 1 by simp [addR, hf1])
    go_enter Try.func19, Try.ntmps19
    go_wp2_with (first | (refine wl_loadW 24 Try.underlying24 info_sizes rfl _ rfl g1 rfl ?_) | (refine wl_load 24 Try.underlying24 info_sizes rfl _ rfl g0 rfl ?_) | (refine wl_load 24 Try.underlying24 info_sizes rfl _ rfl g1 rfl ?_) | (go_at_call 33; with_reducible refine (c_ValidSizes f hf _).mono ?_; rw [hf1]; rintro e w1 ⟨rfl, hb⟩; have g0 := g0.keep hb; have g1 := g1.keep hb; have g2 := g2.keep hb; have b0 := b0.trans (hb.mono b0.size); clear hb) | (refine wl_store 24 info_sizes rfl _ _ rfl g2 (row_size _ _) rfl (congrArg Value.agg zrow_eq) (fun _ => rfl) ?_))
    exact ret_row2 rfl Try.underlying24 info_sizes (g2.row_ _) rfl rfl ⟨by rw [hR.out]; rfl, below_setRow b0 (by omega) _⟩
  cases hf2 : okB g
  · have hR := Lib.hid (show addR f g = noR 1 by simp [addR, hf1, hf2])
    go_enter Try.func19, Try.ntmps19
    go_wp2_with (first | (refine wl_loadW 24 Try.underlying24 info_sizes rfl _ rfl g1 rfl ?_) | (refine wl_load 24 Try.underlying24 info_sizes rfl _ rfl g0 rfl ?_) | (refine wl_load 24 Try.underlying24 info_sizes rfl _ rfl g1 rfl ?_) | (go_at_call 33; with_reducible refine (c_ValidSizes f hf _).mono ?_; rw [hf1]; rintro e w1 ⟨rfl, hb⟩; have g0 := g0.keep hb; have g1 := g1.keep hb; have g2 := g2.keep hb; have b0 := b0.trans (hb.mono b0.size); clear hb) | (go_at_call 33; with_reducible refine (c_ValidSizes g hg _).mono ?_; rw [hf2]; rintro e w1 ⟨rfl, hb⟩; have g0 := g0.keep hb; have g1 := g1.keep hb; have g2 := g2.keep hb; have b0 := b0.trans (hb.mono b0.size); clear hb) | (refine wl_store 24 info_sizes rfl _ _ rfl g2 (row_size _ _) rfl (congrArg Value.agg zrow_eq) (fun _ => rfl) ?_))
    exact ret_row2 rfl Try.underlying24 info_sizes (g2.row_ _) rfl rfl ⟨by rw [hR.out]; rfl, below_setRow b0 (by omega) _⟩
  have hR := Lib.hid (show addR f g = madeR (fun j => if j < 20 then addF f g j else 0) by simp [addR, hf1, hf2])
  obtain ⟨G, c, hG, _⟩ := madeR_form _ (addF_le hf1 hf2)
  have HG := Lib.hid hG
  clear hG
  have HM := Lib.hid (fun w => c_checked (fun j => if j < 20 then addF f g j else 0) (fun j => le_inf _ (addF_le hf1 hf2 j)) w)
  have HO := Lib.hid (addF_ok hf1 hf2)
  go_enter Try.func19, Try.ntmps19
  go_wp2_with (first | (refine wl_loadW 24 Try.underlying24 info_sizes rfl _ rfl g1 rfl ?_) | (refine wl_load 24 Try.underlying24 info_sizes rfl _ rfl g0 rfl ?_) | (refine wl_load 24 Try.underlying24 info_sizes rfl _ rfl g1 rfl ?_) | (go_at_call 33; with_reducible refine (c_ValidSizes f hf _).mono ?_; rw [hf1]; rintro e w1 ⟨rfl, hb⟩; have g0 := g0.keep hb; have g1 := g1.keep hb; have g2 := g2.keep hb; have b0 := b0.trans (hb.mono b0.size); clear hb) | (go_at_call 33; with_reducible refine (c_ValidSizes g hg _).mono ?_; rw [hf2]; rintro e w1 ⟨rfl, hb⟩; have g0 := g0.keep hb; have g1 := g1.keep hb; have g2 := g2.keep hb; have b0 := b0.trans (hb.mono b0.size); clear hb))
  clear hf2 hf1
  go_loopw [16] (fun i wr => ∃ k : Nat, k ≤ 20 ∧ i = .int .i64 k ∧ Below w.heap.size w wr ∧ Holds wr w.heap.size 24 (row 20 fun j => .float .f32 (upto k (addF f g) f j)) ∧ Holds wr (w.heap.size + 1) 24 (row 20 fun j => .float .f32 (g j)) ∧ Holds wr (w.heap.size + 1 + 1) 24 (row 20 fun _ => .float .f32 0)) (fun i _ => 20 - (intOf i).toNat)
  case atStart => exact ⟨0, by omega, rfl, b0, g0.to (fun j _ => upto_zero _ f j), g1, g2⟩
  case round =>
    obtain ⟨k, hk, rfl, b0, g0, g1, g2⟩ := hrel
    by_cases hlt : k < 20
    · have hc := g0.drew.at_ hlt
      rw [upto_at] at hc
      have hc1 := g1.drew.at_ hlt
      have hfz := g0.drew.free k
      have ho := (HO.out k hlt).1
      have hi0 : (0 : Int) ≤ (k : Int) := by omega
      have hi1 : (k : Int) < 20 := by omega
      go_wp2
      go_region
      go_wp2
      go_roundw
      case rel => exact ⟨k + 1, by omega, by go_num, (b0.trans ((Below.refl _ _).drew)).setCell (by simp) _, (g0.drew.set_row k _).to (fun j _ => upto_step (addF f g) f k j), g1.drew.far (by simp) _, g2.drew.far (by simp; omega) _⟩
      case measure => simp [intOf]; omega
    · have g0 : Holds wr w.heap.size 24 (row 20 fun j => .float .f32 (if j < 20 then addF f g j else 0)) := g0.to (fun j hj => (upto_full (addF f g) f k hlt j hj).trans (by rw [if_pos hj]))
      go_wp2_with (first | (refine wl_load 24 Try.underlying24 info_sizes rfl _ rfl g0 rfl ?_) | (go_at_call 41; refine (HM.out _).mono ?_; rw [HG.out]; rintro e w1 ⟨rfl, hb⟩; have g2 := g2.keep hb; have b0 := b0.trans (hb.mono b0.size); clear hb) | (refine wl_store 24 info_sizes rfl _ _ rfl g2 (row_size _ _) rfl rfl (fun _ => rfl) ?_))
      exact ret_row2 rfl Try.underlying24 info_sizes (g2.row_ _) rfl rfl ⟨by rw [hR.out, HG.out]; rfl, below_setRow b0 (by omega) _⟩
theorem walk_FnExactAddSizes (f : Nat → Nat) (hf : ∀ j, f j < 4294967296) (g : Nat → Nat) (hg : ∀ j, g j < 4294967296) (w : World) : Calls Try.prog 5 #[.agg (row 20 fun j => .float .f32 (f j)), .agg (row 20 fun j => .float .f32 (g j))] w fun e w' => e = .returned (.bool true) ∧ Below w.heap.size w w' := by
  obtain ⟨G, c, hR, h1⟩ := addR_form f g
  have HR := Lib.hid hR
  have H1 := Lib.hid h1
  clear hR h1
  have g0 : Holds ((w.alloc (.cells (row 20 fun j => .float .f32 (f j)) 23)).alloc (.cells (row 20 fun j => .float .f32 (g j)) 23)) w.heap.size 23 (row 20 fun j => .float .f32 (f j)) := (Holds.new _ _ _).alloc _
  have g1 : Holds ((w.alloc (.cells (row 20 fun j => .float .f32 (f j)) 23)).alloc (.cells (row 20 fun j => .float .f32 (g j)) 23)) (w.heap.size + 1) 23 (row 20 fun j => .float .f32 (g j)) := Holds.new' _ _ _ (by simp)
  have b0 : Below w.heap.size w ((w.alloc (.cells (row 20 fun j => .float .f32 (f j)) 23)).alloc (.cells (row 20 fun j => .float .f32 (g j)) 23)) := ((Below.refl _ _).alloc (by simp) _).alloc (by simp) _
  have HA := Lib.hid (fun w => c_toSizes f w)
  have HB := Lib.hid (fun w => c_toSizes g w)
  have HC := Lib.hid (fun w => c_specAddSizes f hf g hg w)
  have HD := Lib.hid (fun w => c_implAddSizes f hf g hg w)
  go_enter Try.func5, Try.ntmps5
  go_wp2
  obtain ⟨u0, hu0⟩ : ∃ u0, u0 = ((w.alloc (.cells (row 20 fun j => .float .f32 (f j)) 23)).alloc (.cells (row 20 fun j => .float .f32 (g j)) 23)) := ⟨_, rfl⟩
  rw [← hu0] at g0 g1 b0 ⊢
  clear hu0
  refine Code.wp_mono (Q := fun e a' x => e = .normal ∧ ∃ r : Nat, a' = { tmps := #[.agg (row 20 fun j => .float .f32 (f j)), .agg (row 20 fun j => .float .f32 (g j)), .pointer (some ⟨w.heap.size, 0, none⟩), .pointer (some ⟨w.heap.size + 1, 0, none⟩), .bool false, .pointer (some ⟨r, 0, none⟩), .int .i64 c, undef, undef, .tuple #[.agg (row 20 fun j => .float .f32 (G j)), .int .i64 c], .agg (row 20 fun j => .float .f32 (f j)), .agg (row 20 fun j => .float .f32 (f j)), .agg (row 20 fun j => .float .f32 (g j)), .agg (row 20 fun j => .float .f32 (g j)), .tuple #[.agg (row 20 fun j => .float .f32 (G j)), .int .i64 c], .agg (row 20 fun j => .float .f32 (G j)), .int .i64 c, undef, undef, undef, undef, undef, undef, undef, undef, undef, undef, undef, undef, undef, undef, undef, undef, undef], defers := [] } ∧ Holds x r 24 (row 20 fun j => .float .f32 (G j)) ∧ (fun x => Holds x w.heap.size 23 (row 20 fun j => .float .f32 (f j)) ∧ Holds x (w.heap.size + 1) 23 (row 20 fun j => .float .f32 (g j)) ∧ Below w.heap.size w x) x) ?_ ?_
  · rintro e a' x1 ⟨rfl, r1, rfl, q1, hS1⟩
    obtain ⟨g0, g1, b0⟩ := hS1
    go_wp2
    refine Code.wp_mono (Q := fun e a' x => e = .normal ∧ ∃ r : Nat, a' = { tmps := #[.agg (row 20 fun j => .float .f32 (f j)), .agg (row 20 fun j => .float .f32 (g j)), .pointer (some ⟨w.heap.size, 0, none⟩), .pointer (some ⟨w.heap.size + 1, 0, none⟩), .bool false, .pointer (some ⟨r1, 0, none⟩), .int .i64 c, .pointer (some ⟨r, 0, none⟩), .int .i64 c, .tuple #[.agg (row 20 fun j => .float .f32 (G j)), .int .i64 c], .agg (row 20 fun j => .float .f32 (f j)), .agg (row 20 fun j => .float .f32 (f j)), .agg (row 20 fun j => .float .f32 (g j)), .agg (row 20 fun j => .float .f32 (g j)), .tuple #[.agg (row 20 fun j => .float .f32 (G j)), .int .i64 c], .agg (row 20 fun j => .float .f32 (G j)), .int .i64 c, .tuple #[.agg (row 20 fun j => .float .f32 (G j)), .int .i64 c], .agg (row 20 fun j => .float .f32 (f j)), .agg (row 20 fun j => .float .f32 (f j)), .agg (row 20 fun j => .float .f32 (g j)), .agg (row 20 fun j => .float .f32 (g j)), .tuple #[.agg (row 20 fun j => .float .f32 (G j)), .int .i64 c], .agg (row 20 fun j => .float .f32 (G j)), .int .i64 c, undef, undef, undef, undef, undef, undef, undef, undef, undef], defers := [] } ∧ Holds x r 24 (row 20 fun j => .float .f32 (G j)) ∧ (fun x => Holds x w.heap.size 23 (row 20 fun j => .float .f32 (f j)) ∧ Holds x (w.heap.size + 1) 23 (row 20 fun j => .float .f32 (g j)) ∧ Below w.heap.size w x ∧ Holds x r1 24 (row 20 fun j => .float .f32 (G j))) x) ?_ ?_
    · rintro e a' x2 ⟨rfl, r2, rfl, q2, hS2⟩
      obtain ⟨_, _, b0, q1⟩ := hS2
      go_wp2_with (first | (refine wl_load 24 Try.underlying24 info_sizes rfl _ rfl q2 rfl ?_) | (refine wl_load 24 Try.underlying24 info_sizes rfl _ rfl q1 rfl ?_) | (go_at_call 14; with_reducible refine (c_eqSizes G H1.out _).mono ?_; rintro e w1 ⟨rfl, hb⟩; skip; have b0 := b0.trans (hb.mono b0.size); clear hb))
      go_ret
      exact ⟨rfl, b0⟩
    · refine wp_region_held_drew (S := fun x => Holds x w.heap.size 23 (row 20 fun j => .float .f32 (f j)) ∧ Holds x (w.heap.size + 1) 23 (row 20 fun j => .float .f32 (g j)) ∧ Below w.heap.size w x ∧ Holds x r1 24 (row 20 fun j => .float .f32 (G j))) (by kernel_rfl) (⟨g0.drew, g1.drew, b0.trans ((Below.refl _ _).drew), q1.drew⟩) (fun hS => ?_)
      refine take_ (i := 0) (d := some 18) (v := .agg (row 20 fun j => .float .f32 (f j))) rfl rfl (by kernel_rfl) (by kernel_rfl) (by kernel_rfl) (fun _ _ _ h => nomatch h.1) (y_load 23 Try.underlying23 info_a20 (by rfl) _ rfl rfl (fun x hx => hx.1)) (by assumption) ?_
      try simp only [Act.put, List.setIfInBounds_toArray, List.set_cons_zero, List.set_cons_succ]
      refine take_ (i := 2) (d := some 20) (v := .agg (row 20 fun j => .float .f32 (g j))) rfl rfl (by kernel_rfl) (by kernel_rfl) (by kernel_rfl) (fun _ _ _ h => nomatch h.1) (y_load 23 Try.underlying23 info_a20 (by rfl) _ rfl rfl (fun x hx => hx.2.1)) (by assumption) ?_
      try simp only [Act.put, List.setIfInBounds_toArray, List.set_cons_zero, List.set_cons_succ]
      refine wpAnyH_ready (rs := [1, 8]) (by kernel_rfl) (by simp) (AllReadyH.cons rfl (fun K hK => ?_) (AllReadyH.cons rfl (fun K hK => ?_) AllReadyH.nil))
      · go_simp
        with_reducible refine (HA.out _).mono ?_
        rintro e v1 ⟨rfl, hb⟩
        go_simp
        refine hK.out _ _ ⟨hS.1.keep hb, hS.2.1.keep hb, hS.2.2.1.trans (hb.mono hS.2.2.1.size), hS.2.2.2.keep hb⟩ (fun hS => ?_)
        clear hK K
        try simp only [Act.put, List.setIfInBounds_toArray, List.set_cons_zero, List.set_cons_succ]
        refine wpAnyH_ready (rs := [3, 8]) (by kernel_rfl) (by simp) (AllReadyH.cons rfl (fun K hK => ?_) (AllReadyH.cons rfl (fun K hK => ?_) AllReadyH.nil))
        · go_simp
          with_reducible refine (HB.out _).mono ?_
          rintro e v2 ⟨rfl, hb⟩
          go_simp
          refine hK.out _ _ ⟨hS.1.keep hb, hS.2.1.keep hb, hS.2.2.1.trans (hb.mono hS.2.2.1.size), hS.2.2.2.keep hb⟩ (fun hS => ?_)
          clear hK K
          try simp only [Act.put, List.setIfInBounds_toArray, List.set_cons_zero, List.set_cons_succ]
          refine wpAnyH_ready (rs := [4, 8]) (by kernel_rfl) (by simp) (AllReadyH.cons rfl (fun K hK => ?_) (AllReadyH.cons rfl (fun K hK => ?_) AllReadyH.nil))
          · go_simp
            with_reducible refine (HD.out _).mono ?_
            rw [HR.out]
            rintro e v3 ⟨rfl, hb⟩
            go_simp
            refine hK.out _ _ ⟨hS.1.keep hb, hS.2.1.keep hb, hS.2.2.1.trans (hb.mono hS.2.2.1.size), hS.2.2.2.keep hb⟩ (fun hS => ?_)
            clear hK K
            try simp only [Act.put, List.setIfInBounds_toArray, List.set_cons_zero, List.set_cons_succ]
            refine take_ (i := 5) (d := some 17) (v := .tuple #[.agg (row 20 fun j => .float .f32 (G j)), .int .i64 c]) rfl rfl (by kernel_rfl) (by kernel_rfl) (by kernel_rfl) (fun _ _ _ h => nomatch h.1) (Or.inl ⟨by rfl, fun x hx => by go_simp⟩) (by assumption) ?_
            try simp only [Act.put, List.setIfInBounds_toArray, List.set_cons_zero, List.set_cons_succ]
            refine take_ (i := 6) (d := some 23) (v := .agg (row 20 fun j => .float .f32 (G j))) rfl rfl (by kernel_rfl) (by kernel_rfl) (by kernel_rfl) (fun _ _ _ h => nomatch h.1) (Or.inl ⟨by rfl, fun x hx => by go_simp⟩) (by assumption) ?_
            try simp only [Act.put, List.setIfInBounds_toArray, List.set_cons_zero, List.set_cons_succ]
            refine take_ (i := 7) (d := some 24) (v := .int .i64 c) rfl rfl (by kernel_rfl) (by kernel_rfl) (by kernel_rfl) (fun _ _ _ h => nomatch h.1) (Or.inl ⟨by rfl, fun x hx => by go_simp⟩) (by assumption) ?_
            try simp only [Act.put, List.setIfInBounds_toArray, List.set_cons_zero, List.set_cons_succ]
            refine wpAnyH_ready (rs := [8]) (by kernel_rfl) (by simp) (AllReadyH.cons rfl (fun K hK => ?_) AllReadyH.nil)
            obtain ⟨r, hr⟩ : ∃ r, r = v3.heap.size := ⟨_, rfl⟩
            have z0 : Holds (v3.alloc (.cells #[.float .f32 0, .float .f32 0, .float .f32 0, .float .f32 0, .float .f32 0, .float .f32 0, .float .f32 0, .float .f32 0, .float .f32 0, .float .f32 0, .float .f32 0, .float .f32 0, .float .f32 0, .float .f32 0, .float .f32 0, .float .f32 0, .float .f32 0, .float .f32 0, .float .f32 0, .float .f32 0] 24)) r 24 #[.float .f32 0, .float .f32 0, .float .f32 0, .float .f32 0, .float .f32 0, .float .f32 0, .float .f32 0, .float .f32 0, .float .f32 0, .float .f32 0, .float .f32 0, .float .f32 0, .float .f32 0, .float .f32 0, .float .f32 0, .float .f32 0, .float .f32 0, .float .f32 0, .float .f32 0, .float .f32 0] := Holds.new' _ _ _ hr
            have hw : v3.heap.size = r := hr.symm
            have hn0 : w.heap.size < r := by have h := hS.1.lt; omega
            have hn1 : w.heap.size + 1 < r := by have h := hS.2.1.lt; omega
            have hn2 : r1 < r := by have h := hS.2.2.2.lt; omega
            clear hw
            have hr2 := Lib.hid hr
            clear hr
            go_simp
            rw [← hr2.out]
            clear hr2
            refine hK.out _ _ ⟨hS.1.alloc _, hS.2.1.alloc _, hS.2.2.1.alloc hS.2.2.1.size _, hS.2.2.2.alloc _⟩ (fun hS => ?_)
            clear hK K
            try simp only [Act.put, List.setIfInBounds_toArray, List.set_cons_zero, List.set_cons_succ]
            refine wpAnyH_ready (rs := [9]) (by kernel_rfl) (by simp) (AllReadyH.cons rfl (fun K hK => ?_) AllReadyH.nil)
            rw [if_pos (by rfl)]
            refine wp_store_ 24 info_sizes (.tmp 7) (.tmp 23) rfl z0 rfl rfl rfl (fun _ => rfl) ?_
            have r1 := z0.row_ (row 20 fun j => .float .f32 (G j))
            refine hK.out _ _ ⟨hS.1.farRow (by omega) _, hS.2.1.farRow (by omega) _, below_setRow hS.2.2.1 (by omega) _, hS.2.2.2.farRow (by omega) _⟩ (fun hS => ?_)
            clear hK K
            try simp only [Act.put, List.setIfInBounds_toArray, List.set_cons_zero, List.set_cons_succ]
            refine take_ (i := 10) (d := some 8) (v := .int .i64 c) rfl rfl (by kernel_rfl) (by kernel_rfl) (by kernel_rfl) (fun _ _ _ h => nomatch h.1) (Or.inl ⟨by rfl, fun x hx => by go_simp⟩) (by assumption) ?_
            try simp only [Act.put, List.setIfInBounds_toArray, List.set_cons_zero, List.set_cons_succ]
            refine wpAnyH_done (by kernel_rfl) ?_ _
            exact ⟨rfl, r, rfl, r1, hS⟩
          · obtain ⟨r, hr⟩ : ∃ r, r = v2.heap.size := ⟨_, rfl⟩
            have z0 : Holds (v2.alloc (.cells #[.float .f32 0, .float .f32 0, .float .f32 0, .float .f32 0, .float .f32 0, .float .f32 0, .float .f32 0, .float .f32 0, .float .f32 0, .float .f32 0, .float .f32 0, .float .f32 0, .float .f32 0, .float .f32 0, .float .f32 0, .float .f32 0, .float .f32 0, .float .f32 0, .float .f32 0, .float .f32 0] 24)) r 24 #[.float .f32 0, .float .f32 0, .float .f32 0, .float .f32 0, .float .f32 0, .float .f32 0, .float .f32 0, .float .f32 0, .float .f32 0, .float .f32 0, .float .f32 0, .float .f32 0, .float .f32 0, .float .f32 0, .float .f32 0, .float .f32 0, .float .f32 0, .float .f32 0, .float .f32 0, .float .f32 0] := Holds.new' _ _ _ hr
            have hw : v2.heap.size = r := hr.symm
            have hn0 : w.heap.size < r := by have h := hS.1.lt; omega
            have hn1 : w.heap.size + 1 < r := by have h := hS.2.1.lt; omega
            have hn2 : r1 < r := by have h := hS.2.2.2.lt; omega
            clear hw
            have hr2 := Lib.hid hr
            clear hr
            go_simp
            rw [← hr2.out]
            clear hr2
            refine hK.out _ _ ⟨hS.1.alloc _, hS.2.1.alloc _, hS.2.2.1.alloc hS.2.2.1.size _, hS.2.2.2.alloc _⟩ (fun hS => ?_)
            clear hK K
            try simp only [Act.put, List.setIfInBounds_toArray, List.set_cons_zero, List.set_cons_succ]
            refine wpAnyH_ready (rs := [4]) (by kernel_rfl) (by simp) (AllReadyH.cons rfl (fun K hK => ?_) AllReadyH.nil)
            go_simp
            with_reducible refine (HD.out _).mono ?_
            rw [HR.out]
            rintro e v4 ⟨rfl, hb⟩
            go_simp
            have z0 := z0.keep hb
            refine hK.out _ _ ⟨hS.1.keep hb, hS.2.1.keep hb, hS.2.2.1.trans (hb.mono hS.2.2.1.size), hS.2.2.2.keep hb⟩ (fun hS => ?_)
            clear hK K
            try simp only [Act.put, List.setIfInBounds_toArray, List.set_cons_zero, List.set_cons_succ]
            refine take_ (i := 5) (d := some 17) (v := .tuple #[.agg (row 20 fun j => .float .f32 (G j)), .int .i64 c]) rfl rfl (by kernel_rfl) (by kernel_rfl) (by kernel_rfl) (fun _ _ _ h => nomatch h.1) (Or.inl ⟨by rfl, fun x hx => by go_simp⟩) (by assumption) ?_
            try simp only [Act.put, List.setIfInBounds_toArray, List.set_cons_zero, List.set_cons_succ]
            refine take_ (i := 6) (d := some 23) (v := .agg (row 20 fun j => .float .f32 (G j))) rfl rfl (by kernel_rfl) (by kernel_rfl) (by kernel_rfl) (fun _ _ _ h => nomatch h.1) (Or.inl ⟨by rfl, fun x hx => by go_simp⟩) (by assumption) ?_
            try simp only [Act.put, List.setIfInBounds_toArray, List.set_cons_zero, List.set_cons_succ]
            refine take_ (i := 7) (d := some 24) (v := .int .i64 c) rfl rfl (by kernel_rfl) (by kernel_rfl) (by kernel_rfl) (fun _ _ _ h => nomatch h.1) (Or.inl ⟨by rfl, fun x hx => by go_simp⟩) (by assumption) ?_
            try simp only [Act.put, List.setIfInBounds_toArray, List.set_cons_zero, List.set_cons_succ]
            refine wpAnyH_ready (rs := [9]) (by kernel_rfl) (by simp) (AllReadyH.cons rfl (fun K hK => ?_) AllReadyH.nil)
            rw [if_pos (by rfl)]
            refine wp_store_ 24 info_sizes (.tmp 7) (.tmp 23) rfl z0 rfl rfl rfl (fun _ => rfl) ?_
            have r1 := z0.row_ (row 20 fun j => .float .f32 (G j))
            refine hK.out _ _ ⟨hS.1.farRow (by omega) _, hS.2.1.farRow (by omega) _, below_setRow hS.2.2.1 (by omega) _, hS.2.2.2.farRow (by omega) _⟩ (fun hS => ?_)
            clear hK K
            try simp only [Act.put, List.setIfInBounds_toArray, List.set_cons_zero, List.set_cons_succ]
            refine take_ (i := 10) (d := some 8) (v := .int .i64 c) rfl rfl (by kernel_rfl) (by kernel_rfl) (by kernel_rfl) (fun _ _ _ h => nomatch h.1) (Or.inl ⟨by rfl, fun x hx => by go_simp⟩) (by assumption) ?_
            try simp only [Act.put, List.setIfInBounds_toArray, List.set_cons_zero, List.set_cons_succ]
            refine wpAnyH_done (by kernel_rfl) ?_ _
            exact ⟨rfl, r, rfl, r1, hS⟩
        · obtain ⟨r, hr⟩ : ∃ r, r = v1.heap.size := ⟨_, rfl⟩
          have z0 : Holds (v1.alloc (.cells #[.float .f32 0, .float .f32 0, .float .f32 0, .float .f32 0, .float .f32 0, .float .f32 0, .float .f32 0, .float .f32 0, .float .f32 0, .float .f32 0, .float .f32 0, .float .f32 0, .float .f32 0, .float .f32 0, .float .f32 0, .float .f32 0, .float .f32 0, .float .f32 0, .float .f32 0, .float .f32 0] 24)) r 24 #[.float .f32 0, .float .f32 0, .float .f32 0, .float .f32 0, .float .f32 0, .float .f32 0, .float .f32 0, .float .f32 0, .float .f32 0, .float .f32 0, .float .f32 0, .float .f32 0, .float .f32 0, .float .f32 0, .float .f32 0, .float .f32 0, .float .f32 0, .float .f32 0, .float .f32 0, .float .f32 0] := Holds.new' _ _ _ hr
          have hw : v1.heap.size = r := hr.symm
          have hn0 : w.heap.size < r := by have h := hS.1.lt; omega
          have hn1 : w.heap.size + 1 < r := by have h := hS.2.1.lt; omega
          have hn2 : r1 < r := by have h := hS.2.2.2.lt; omega
          clear hw
          have hr2 := Lib.hid hr
          clear hr
          go_simp
          rw [← hr2.out]
          clear hr2
          refine hK.out _ _ ⟨hS.1.alloc _, hS.2.1.alloc _, hS.2.2.1.alloc hS.2.2.1.size _, hS.2.2.2.alloc _⟩ (fun hS => ?_)
          clear hK K
          try simp only [Act.put, List.setIfInBounds_toArray, List.set_cons_zero, List.set_cons_succ]
          refine wpAnyH_ready (rs := [3]) (by kernel_rfl) (by simp) (AllReadyH.cons rfl (fun K hK => ?_) AllReadyH.nil)
          go_simp
          with_reducible refine (HB.out _).mono ?_
          rintro e v5 ⟨rfl, hb⟩
          go_simp
          have z0 := z0.keep hb
          refine hK.out _ _ ⟨hS.1.keep hb, hS.2.1.keep hb, hS.2.2.1.trans (hb.mono hS.2.2.1.size), hS.2.2.2.keep hb⟩ (fun hS => ?_)
          clear hK K
          try simp only [Act.put, List.setIfInBounds_toArray, List.set_cons_zero, List.set_cons_succ]
          refine wpAnyH_ready (rs := [4]) (by kernel_rfl) (by simp) (AllReadyH.cons rfl (fun K hK => ?_) AllReadyH.nil)
          go_simp
          with_reducible refine (HD.out _).mono ?_
          rw [HR.out]
          rintro e v6 ⟨rfl, hb⟩
          go_simp
          have z0 := z0.keep hb
          refine hK.out _ _ ⟨hS.1.keep hb, hS.2.1.keep hb, hS.2.2.1.trans (hb.mono hS.2.2.1.size), hS.2.2.2.keep hb⟩ (fun hS => ?_)
          clear hK K
          try simp only [Act.put, List.setIfInBounds_toArray, List.set_cons_zero, List.set_cons_succ]
          refine take_ (i := 5) (d := some 17) (v := .tuple #[.agg (row 20 fun j => .float .f32 (G j)), .int .i64 c]) rfl rfl (by kernel_rfl) (by kernel_rfl) (by kernel_rfl) (fun _ _ _ h => nomatch h.1) (Or.inl ⟨by rfl, fun x hx => by go_simp⟩) (by assumption) ?_
          try simp only [Act.put, List.setIfInBounds_toArray, List.set_cons_zero, List.set_cons_succ]
          refine take_ (i := 6) (d := some 23) (v := .agg (row 20 fun j => .float .f32 (G j))) rfl rfl (by kernel_rfl) (by kernel_rfl) (by kernel_rfl) (fun _ _ _ h => nomatch h.1) (Or.inl ⟨by rfl, fun x hx => by go_simp⟩) (by assumption) ?_
          try simp only [Act.put, List.setIfInBounds_toArray, List.set_cons_zero, List.set_cons_succ]
          refine take_ (i := 7) (d := some 24) (v := .int .i64 c) rfl rfl (by kernel_rfl) (by kernel_rfl) (by kernel_rfl) (fun _ _ _ h => nomatch h.1) (Or.inl ⟨by rfl, fun x hx => by go_simp⟩) (by assumption) ?_
          try simp only [Act.put, List.setIfInBounds_toArray, List.set_cons_zero, List.set_cons_succ]
          refine wpAnyH_ready (rs := [9]) (by kernel_rfl) (by simp) (AllReadyH.cons rfl (fun K hK => ?_) AllReadyH.nil)
          rw [if_pos (by rfl)]
          refine wp_store_ 24 info_sizes (.tmp 7) (.tmp 23) rfl z0 rfl rfl rfl (fun _ => rfl) ?_
          have r1 := z0.row_ (row 20 fun j => .float .f32 (G j))
          refine hK.out _ _ ⟨hS.1.farRow (by omega) _, hS.2.1.farRow (by omega) _, below_setRow hS.2.2.1 (by omega) _, hS.2.2.2.farRow (by omega) _⟩ (fun hS => ?_)
          clear hK K
          try simp only [Act.put, List.setIfInBounds_toArray, List.set_cons_zero, List.set_cons_succ]
          refine take_ (i := 10) (d := some 8) (v := .int .i64 c) rfl rfl (by kernel_rfl) (by kernel_rfl) (by kernel_rfl) (fun _ _ _ h => nomatch h.1) (Or.inl ⟨by rfl, fun x hx => by go_simp⟩) (by assumption) ?_
          try simp only [Act.put, List.setIfInBounds_toArray, List.set_cons_zero, List.set_cons_succ]
          refine wpAnyH_done (by kernel_rfl) ?_ _
          exact ⟨rfl, r, rfl, r1, hS⟩
      · obtain ⟨r, hr⟩ : ∃ r, r = x1.heap.size := ⟨_, rfl⟩
        have z0 : Holds (x1.drew.alloc (.cells #[.float .f32 0, .float .f32 0, .float .f32 0, .float .f32 0, .float .f32 0, .float .f32 0, .float .f32 0, .float .f32 0, .float .f32 0, .float .f32 0, .float .f32 0, .float .f32 0, .float .f32 0, .float .f32 0, .float .f32 0, .float .f32 0, .float .f32 0, .float .f32 0, .float .f32 0, .float .f32 0] 24)) r 24 #[.float .f32 0, .float .f32 0, .float .f32 0, .float .f32 0, .float .f32 0, .float .f32 0, .float .f32 0, .float .f32 0, .float .f32 0, .float .f32 0, .float .f32 0, .float .f32 0, .float .f32 0, .float .f32 0, .float .f32 0, .float .f32 0, .float .f32 0, .float .f32 0, .float .f32 0, .float .f32 0] := Holds.new' _ _ _ hr
        have hw : x1.drew.heap.size = r := hr.symm
        have hn0 : w.heap.size < r := by have h := hS.1.lt; omega
        have hn1 : w.heap.size + 1 < r := by have h := hS.2.1.lt; omega
        have hn2 : r1 < r := by have h := hS.2.2.2.lt; omega
        clear hw
        have hr2 := Lib.hid hr
        clear hr
        go_simp
        rw [← hr2.out]
        clear hr2
        refine hK.out _ _ ⟨hS.1.alloc _, hS.2.1.alloc _, hS.2.2.1.alloc hS.2.2.1.size _, hS.2.2.2.alloc _⟩ (fun hS => ?_)
        clear hK K
        try simp only [Act.put, List.setIfInBounds_toArray, List.set_cons_zero, List.set_cons_succ]
        refine wpAnyH_ready (rs := [1]) (by kernel_rfl) (by simp) (AllReadyH.cons rfl (fun K hK => ?_) AllReadyH.nil)
        go_simp
        with_reducible refine (HA.out _).mono ?_
        rintro e v7 ⟨rfl, hb⟩
        go_simp
        have z0 := z0.keep hb
        refine hK.out _ _ ⟨hS.1.keep hb, hS.2.1.keep hb, hS.2.2.1.trans (hb.mono hS.2.2.1.size), hS.2.2.2.keep hb⟩ (fun hS => ?_)
        clear hK K
        try simp only [Act.put, List.setIfInBounds_toArray, List.set_cons_zero, List.set_cons_succ]
        refine wpAnyH_ready (rs := [3]) (by kernel_rfl) (by simp) (AllReadyH.cons rfl (fun K hK => ?_) AllReadyH.nil)
        go_simp
        with_reducible refine (HB.out _).mono ?_
        rintro e v8 ⟨rfl, hb⟩
        go_simp
        have z0 := z0.keep hb
        refine hK.out _ _ ⟨hS.1.keep hb, hS.2.1.keep hb, hS.2.2.1.trans (hb.mono hS.2.2.1.size), hS.2.2.2.keep hb⟩ (fun hS => ?_)
        clear hK K
        try simp only [Act.put, List.setIfInBounds_toArray, List.set_cons_zero, List.set_cons_succ]
        refine wpAnyH_ready (rs := [4]) (by kernel_rfl) (by simp) (AllReadyH.cons rfl (fun K hK => ?_) AllReadyH.nil)
        go_simp
        with_reducible refine (HD.out _).mono ?_
        rw [HR.out]
        rintro e v9 ⟨rfl, hb⟩
        go_simp
        have z0 := z0.keep hb
        refine hK.out _ _ ⟨hS.1.keep hb, hS.2.1.keep hb, hS.2.2.1.trans (hb.mono hS.2.2.1.size), hS.2.2.2.keep hb⟩ (fun hS => ?_)
        clear hK K
        try simp only [Act.put, List.setIfInBounds_toArray, List.set_cons_zero, List.set_cons_succ]
        refine take_ (i := 5) (d := some 17) (v := .tuple #[.agg (row 20 fun j => .float .f32 (G j)), .int .i64 c]) rfl rfl (by kernel_rfl) (by kernel_rfl) (by kernel_rfl) (fun _ _ _ h => nomatch h.1) (Or.inl ⟨by rfl, fun x hx => by go_simp⟩) (by assumption) ?_
        try simp only [Act.put, List.setIfInBounds_toArray, List.set_cons_zero, List.set_cons_succ]
        refine take_ (i := 6) (d := some 23) (v := .agg (row 20 fun j => .float .f32 (G j))) rfl rfl (by kernel_rfl) (by kernel_rfl) (by kernel_rfl) (fun _ _ _ h => nomatch h.1) (Or.inl ⟨by rfl, fun x hx => by go_simp⟩) (by assumption) ?_
        try simp only [Act.put, List.setIfInBounds_toArray, List.set_cons_zero, List.set_cons_succ]
        refine take_ (i := 7) (d := some 24) (v := .int .i64 c) rfl rfl (by kernel_rfl) (by kernel_rfl) (by kernel_rfl) (fun _ _ _ h => nomatch h.1) (Or.inl ⟨by rfl, fun x hx => by go_simp⟩) (by assumption) ?_
        try simp only [Act.put, List.setIfInBounds_toArray, List.set_cons_zero, List.set_cons_succ]
        refine wpAnyH_ready (rs := [9]) (by kernel_rfl) (by simp) (AllReadyH.cons rfl (fun K hK => ?_) AllReadyH.nil)
        rw [if_pos (by rfl)]
        refine wp_store_ 24 info_sizes (.tmp 7) (.tmp 23) rfl z0 rfl rfl rfl (fun _ => rfl) ?_
        have r1 := z0.row_ (row 20 fun j => .float .f32 (G j))
        refine hK.out _ _ ⟨hS.1.farRow (by omega) _, hS.2.1.farRow (by omega) _, below_setRow hS.2.2.1 (by omega) _, hS.2.2.2.farRow (by omega) _⟩ (fun hS => ?_)
        clear hK K
        try simp only [Act.put, List.setIfInBounds_toArray, List.set_cons_zero, List.set_cons_succ]
        refine take_ (i := 10) (d := some 8) (v := .int .i64 c) rfl rfl (by kernel_rfl) (by kernel_rfl) (by kernel_rfl) (fun _ _ _ h => nomatch h.1) (Or.inl ⟨by rfl, fun x hx => by go_simp⟩) (by assumption) ?_
        try simp only [Act.put, List.setIfInBounds_toArray, List.set_cons_zero, List.set_cons_succ]
        refine wpAnyH_done (by kernel_rfl) ?_ _
        exact ⟨rfl, r, rfl, r1, hS⟩
  · refine wp_region_held_drew (S := fun x => Holds x w.heap.size 23 (row 20 fun j => .float .f32 (f j)) ∧ Holds x (w.heap.size + 1) 23 (row 20 fun j => .float .f32 (g j)) ∧ Below w.heap.size w x) (by kernel_rfl) (⟨g0.drew, g1.drew, b0.trans ((Below.refl _ _).drew)⟩) (fun hS => ?_)
    refine take_ (i := 0) (d := some 10) (v := .agg (row 20 fun j => .float .f32 (f j))) rfl rfl (by kernel_rfl) (by kernel_rfl) (by kernel_rfl) (fun _ _ _ h => nomatch h.1) (y_load 23 Try.underlying23 info_a20 (by rfl) _ rfl rfl (fun x hx => hx.1)) (by assumption) ?_
    try simp only [Act.put, List.setIfInBounds_toArray, List.set_cons_zero, List.set_cons_succ]
    refine take_ (i := 2) (d := some 12) (v := .agg (row 20 fun j => .float .f32 (g j))) rfl rfl (by kernel_rfl) (by kernel_rfl) (by kernel_rfl) (fun _ _ _ h => nomatch h.1) (y_load 23 Try.underlying23 info_a20 (by rfl) _ rfl rfl (fun x hx => hx.2.1)) (by assumption) ?_
    try simp only [Act.put, List.setIfInBounds_toArray, List.set_cons_zero, List.set_cons_succ]
    refine wpAnyH_ready (rs := [1, 8]) (by kernel_rfl) (by simp) (AllReadyH.cons rfl (fun K hK => ?_) (AllReadyH.cons rfl (fun K hK => ?_) AllReadyH.nil))
    · go_simp
      with_reducible refine (HA.out _).mono ?_
      rintro e v1 ⟨rfl, hb⟩
      go_simp
      refine hK.out _ _ ⟨hS.1.keep hb, hS.2.1.keep hb, hS.2.2.trans (hb.mono hS.2.2.size)⟩ (fun hS => ?_)
      clear hK K
      try simp only [Act.put, List.setIfInBounds_toArray, List.set_cons_zero, List.set_cons_succ]
      refine wpAnyH_ready (rs := [3, 8]) (by kernel_rfl) (by simp) (AllReadyH.cons rfl (fun K hK => ?_) (AllReadyH.cons rfl (fun K hK => ?_) AllReadyH.nil))
      · go_simp
        with_reducible refine (HB.out _).mono ?_
        rintro e v2 ⟨rfl, hb⟩
        go_simp
        refine hK.out _ _ ⟨hS.1.keep hb, hS.2.1.keep hb, hS.2.2.trans (hb.mono hS.2.2.size)⟩ (fun hS => ?_)
        clear hK K
        try simp only [Act.put, List.setIfInBounds_toArray, List.set_cons_zero, List.set_cons_succ]
        refine wpAnyH_ready (rs := [4, 8]) (by kernel_rfl) (by simp) (AllReadyH.cons rfl (fun K hK => ?_) (AllReadyH.cons rfl (fun K hK => ?_) AllReadyH.nil))
        · go_simp
          with_reducible refine (HC.out _).mono ?_
          rw [HR.out]
          rintro e v3 ⟨rfl, hb⟩
          go_simp
          refine hK.out _ _ ⟨hS.1.keep hb, hS.2.1.keep hb, hS.2.2.trans (hb.mono hS.2.2.size)⟩ (fun hS => ?_)
          clear hK K
          try simp only [Act.put, List.setIfInBounds_toArray, List.set_cons_zero, List.set_cons_succ]
          refine take_ (i := 5) (d := some 9) (v := .tuple #[.agg (row 20 fun j => .float .f32 (G j)), .int .i64 c]) rfl rfl (by kernel_rfl) (by kernel_rfl) (by kernel_rfl) (fun _ _ _ h => nomatch h.1) (Or.inl ⟨by rfl, fun x hx => by go_simp⟩) (by assumption) ?_
          try simp only [Act.put, List.setIfInBounds_toArray, List.set_cons_zero, List.set_cons_succ]
          refine take_ (i := 6) (d := some 15) (v := .agg (row 20 fun j => .float .f32 (G j))) rfl rfl (by kernel_rfl) (by kernel_rfl) (by kernel_rfl) (fun _ _ _ h => nomatch h.1) (Or.inl ⟨by rfl, fun x hx => by go_simp⟩) (by assumption) ?_
          try simp only [Act.put, List.setIfInBounds_toArray, List.set_cons_zero, List.set_cons_succ]
          refine take_ (i := 7) (d := some 16) (v := .int .i64 c) rfl rfl (by kernel_rfl) (by kernel_rfl) (by kernel_rfl) (fun _ _ _ h => nomatch h.1) (Or.inl ⟨by rfl, fun x hx => by go_simp⟩) (by assumption) ?_
          try simp only [Act.put, List.setIfInBounds_toArray, List.set_cons_zero, List.set_cons_succ]
          refine wpAnyH_ready (rs := [8]) (by kernel_rfl) (by simp) (AllReadyH.cons rfl (fun K hK => ?_) AllReadyH.nil)
          obtain ⟨r, hr⟩ : ∃ r, r = v3.heap.size := ⟨_, rfl⟩
          have z0 : Holds (v3.alloc (.cells #[.float .f32 0, .float .f32 0, .float .f32 0, .float .f32 0, .float .f32 0, .float .f32 0, .float .f32 0, .float .f32 0, .float .f32 0, .float .f32 0, .float .f32 0, .float .f32 0, .float .f32 0, .float .f32 0, .float .f32 0, .float .f32 0, .float .f32 0, .float .f32 0, .float .f32 0, .float .f32 0] 24)) r 24 #[.float .f32 0, .float .f32 0, .float .f32 0, .float .f32 0, .float .f32 0, .float .f32 0, .float .f32 0, .float .f32 0, .float .f32 0, .float .f32 0, .float .f32 0, .float .f32 0, .float .f32 0, .float .f32 0, .float .f32 0, .float .f32 0, .float .f32 0, .float .f32 0, .float .f32 0, .float .f32 0] := Holds.new' _ _ _ hr
          have hw : v3.heap.size = r := hr.symm
          have hn0 : w.heap.size < r := by have h := hS.1.lt; omega
          have hn1 : w.heap.size + 1 < r := by have h := hS.2.1.lt; omega
          clear hw
          have hr2 := Lib.hid hr
          clear hr
          go_simp
          rw [← hr2.out]
          clear hr2
          refine hK.out _ _ ⟨hS.1.alloc _, hS.2.1.alloc _, hS.2.2.alloc hS.2.2.size _⟩ (fun hS => ?_)
          clear hK K
          try simp only [Act.put, List.setIfInBounds_toArray, List.set_cons_zero, List.set_cons_succ]
          refine wpAnyH_ready (rs := [9]) (by kernel_rfl) (by simp) (AllReadyH.cons rfl (fun K hK => ?_) AllReadyH.nil)
          rw [if_pos (by rfl)]
          refine wp_store_ 24 info_sizes (.tmp 5) (.tmp 15) rfl z0 rfl rfl rfl (fun _ => rfl) ?_
          have r1 := z0.row_ (row 20 fun j => .float .f32 (G j))
          refine hK.out _ _ ⟨hS.1.farRow (by omega) _, hS.2.1.farRow (by omega) _, below_setRow hS.2.2 (by omega) _⟩ (fun hS => ?_)
          clear hK K
          try simp only [Act.put, List.setIfInBounds_toArray, List.set_cons_zero, List.set_cons_succ]
          refine take_ (i := 10) (d := some 6) (v := .int .i64 c) rfl rfl (by kernel_rfl) (by kernel_rfl) (by kernel_rfl) (fun _ _ _ h => nomatch h.1) (Or.inl ⟨by rfl, fun x hx => by go_simp⟩) (by assumption) ?_
          try simp only [Act.put, List.setIfInBounds_toArray, List.set_cons_zero, List.set_cons_succ]
          refine wpAnyH_done (by kernel_rfl) ?_ _
          exact ⟨rfl, r, rfl, r1, hS⟩
        · obtain ⟨r, hr⟩ : ∃ r, r = v2.heap.size := ⟨_, rfl⟩
          have z0 : Holds (v2.alloc (.cells #[.float .f32 0, .float .f32 0, .float .f32 0, .float .f32 0, .float .f32 0, .float .f32 0, .float .f32 0, .float .f32 0, .float .f32 0, .float .f32 0, .float .f32 0, .float .f32 0, .float .f32 0, .float .f32 0, .float .f32 0, .float .f32 0, .float .f32 0, .float .f32 0, .float .f32 0, .float .f32 0] 24)) r 24 #[.float .f32 0, .float .f32 0, .float .f32 0, .float .f32 0, .float .f32 0, .float .f32 0, .float .f32 0, .float .f32 0, .float .f32 0, .float .f32 0, .float .f32 0, .float .f32 0, .float .f32 0, .float .f32 0, .float .f32 0, .float .f32 0, .float .f32 0, .float .f32 0, .float .f32 0, .float .f32 0] := Holds.new' _ _ _ hr
          have hw : v2.heap.size = r := hr.symm
          have hn0 : w.heap.size < r := by have h := hS.1.lt; omega
          have hn1 : w.heap.size + 1 < r := by have h := hS.2.1.lt; omega
          clear hw
          have hr2 := Lib.hid hr
          clear hr
          go_simp
          rw [← hr2.out]
          clear hr2
          refine hK.out _ _ ⟨hS.1.alloc _, hS.2.1.alloc _, hS.2.2.alloc hS.2.2.size _⟩ (fun hS => ?_)
          clear hK K
          try simp only [Act.put, List.setIfInBounds_toArray, List.set_cons_zero, List.set_cons_succ]
          refine wpAnyH_ready (rs := [4]) (by kernel_rfl) (by simp) (AllReadyH.cons rfl (fun K hK => ?_) AllReadyH.nil)
          go_simp
          with_reducible refine (HC.out _).mono ?_
          rw [HR.out]
          rintro e v4 ⟨rfl, hb⟩
          go_simp
          have z0 := z0.keep hb
          refine hK.out _ _ ⟨hS.1.keep hb, hS.2.1.keep hb, hS.2.2.trans (hb.mono hS.2.2.size)⟩ (fun hS => ?_)
          clear hK K
          try simp only [Act.put, List.setIfInBounds_toArray, List.set_cons_zero, List.set_cons_succ]
          refine take_ (i := 5) (d := some 9) (v := .tuple #[.agg (row 20 fun j => .float .f32 (G j)), .int .i64 c]) rfl rfl (by kernel_rfl) (by kernel_rfl) (by kernel_rfl) (fun _ _ _ h => nomatch h.1) (Or.inl ⟨by rfl, fun x hx => by go_simp⟩) (by assumption) ?_
          try simp only [Act.put, List.setIfInBounds_toArray, List.set_cons_zero, List.set_cons_succ]
          refine take_ (i := 6) (d := some 15) (v := .agg (row 20 fun j => .float .f32 (G j))) rfl rfl (by kernel_rfl) (by kernel_rfl) (by kernel_rfl) (fun _ _ _ h => nomatch h.1) (Or.inl ⟨by rfl, fun x hx => by go_simp⟩) (by assumption) ?_
          try simp only [Act.put, List.setIfInBounds_toArray, List.set_cons_zero, List.set_cons_succ]
          refine take_ (i := 7) (d := some 16) (v := .int .i64 c) rfl rfl (by kernel_rfl) (by kernel_rfl) (by kernel_rfl) (fun _ _ _ h => nomatch h.1) (Or.inl ⟨by rfl, fun x hx => by go_simp⟩) (by assumption) ?_
          try simp only [Act.put, List.setIfInBounds_toArray, List.set_cons_zero, List.set_cons_succ]
          refine wpAnyH_ready (rs := [9]) (by kernel_rfl) (by simp) (AllReadyH.cons rfl (fun K hK => ?_) AllReadyH.nil)
          rw [if_pos (by rfl)]
          refine wp_store_ 24 info_sizes (.tmp 5) (.tmp 15) rfl z0 rfl rfl rfl (fun _ => rfl) ?_
          have r1 := z0.row_ (row 20 fun j => .float .f32 (G j))
          refine hK.out _ _ ⟨hS.1.farRow (by omega) _, hS.2.1.farRow (by omega) _, below_setRow hS.2.2 (by omega) _⟩ (fun hS => ?_)
          clear hK K
          try simp only [Act.put, List.setIfInBounds_toArray, List.set_cons_zero, List.set_cons_succ]
          refine take_ (i := 10) (d := some 6) (v := .int .i64 c) rfl rfl (by kernel_rfl) (by kernel_rfl) (by kernel_rfl) (fun _ _ _ h => nomatch h.1) (Or.inl ⟨by rfl, fun x hx => by go_simp⟩) (by assumption) ?_
          try simp only [Act.put, List.setIfInBounds_toArray, List.set_cons_zero, List.set_cons_succ]
          refine wpAnyH_done (by kernel_rfl) ?_ _
          exact ⟨rfl, r, rfl, r1, hS⟩
      · obtain ⟨r, hr⟩ : ∃ r, r = v1.heap.size := ⟨_, rfl⟩
        have z0 : Holds (v1.alloc (.cells #[.float .f32 0, .float .f32 0, .float .f32 0, .float .f32 0, .float .f32 0, .float .f32 0, .float .f32 0, .float .f32 0, .float .f32 0, .float .f32 0, .float .f32 0, .float .f32 0, .float .f32 0, .float .f32 0, .float .f32 0, .float .f32 0, .float .f32 0, .float .f32 0, .float .f32 0, .float .f32 0] 24)) r 24 #[.float .f32 0, .float .f32 0, .float .f32 0, .float .f32 0, .float .f32 0, .float .f32 0, .float .f32 0, .float .f32 0, .float .f32 0, .float .f32 0, .float .f32 0, .float .f32 0, .float .f32 0, .float .f32 0, .float .f32 0, .float .f32 0, .float .f32 0, .float .f32 0, .float .f32 0, .float .f32 0] := Holds.new' _ _ _ hr
        have hw : v1.heap.size = r := hr.symm
        have hn0 : w.heap.size < r := by have h := hS.1.lt; omega
        have hn1 : w.heap.size + 1 < r := by have h := hS.2.1.lt; omega
        clear hw
        have hr2 := Lib.hid hr
        clear hr
        go_simp
        rw [← hr2.out]
        clear hr2
        refine hK.out _ _ ⟨hS.1.alloc _, hS.2.1.alloc _, hS.2.2.alloc hS.2.2.size _⟩ (fun hS => ?_)
        clear hK K
        try simp only [Act.put, List.setIfInBounds_toArray, List.set_cons_zero, List.set_cons_succ]
        refine wpAnyH_ready (rs := [3]) (by kernel_rfl) (by simp) (AllReadyH.cons rfl (fun K hK => ?_) AllReadyH.nil)
        go_simp
        with_reducible refine (HB.out _).mono ?_
        rintro e v5 ⟨rfl, hb⟩
        go_simp
        have z0 := z0.keep hb
        refine hK.out _ _ ⟨hS.1.keep hb, hS.2.1.keep hb, hS.2.2.trans (hb.mono hS.2.2.size)⟩ (fun hS => ?_)
        clear hK K
        try simp only [Act.put, List.setIfInBounds_toArray, List.set_cons_zero, List.set_cons_succ]
        refine wpAnyH_ready (rs := [4]) (by kernel_rfl) (by simp) (AllReadyH.cons rfl (fun K hK => ?_) AllReadyH.nil)
        go_simp
        with_reducible refine (HC.out _).mono ?_
        rw [HR.out]
        rintro e v6 ⟨rfl, hb⟩
        go_simp
        have z0 := z0.keep hb
        refine hK.out _ _ ⟨hS.1.keep hb, hS.2.1.keep hb, hS.2.2.trans (hb.mono hS.2.2.size)⟩ (fun hS => ?_)
        clear hK K
        try simp only [Act.put, List.setIfInBounds_toArray, List.set_cons_zero, List.set_cons_succ]
        refine take_ (i := 5) (d := some 9) (v := .tuple #[.agg (row 20 fun j => .float .f32 (G j)), .int .i64 c]) rfl rfl (by kernel_rfl) (by kernel_rfl) (by kernel_rfl) (fun _ _ _ h => nomatch h.1) (Or.inl ⟨by rfl, fun x hx => by go_simp⟩) (by assumption) ?_
        try simp only [Act.put, List.setIfInBounds_toArray, List.set_cons_zero, List.set_cons_succ]
        refine take_ (i := 6) (d := some 15) (v := .agg (row 20 fun j => .float .f32 (G j))) rfl rfl (by kernel_rfl) (by kernel_rfl) (by kernel_rfl) (fun _ _ _ h => nomatch h.1) (Or.inl ⟨by rfl, fun x hx => by go_simp⟩) (by assumption) ?_
        try simp only [Act.put, List.setIfInBounds_toArray, List.set_cons_zero, List.set_cons_succ]
        refine take_ (i := 7) (d := some 16) (v := .int .i64 c) rfl rfl (by kernel_rfl) (by kernel_rfl) (by kernel_rfl) (fun _ _ _ h => nomatch h.1) (Or.inl ⟨by rfl, fun x hx => by go_simp⟩) (by assumption) ?_
        try simp only [Act.put, List.setIfInBounds_toArray, List.set_cons_zero, List.set_cons_succ]
        refine wpAnyH_ready (rs := [9]) (by kernel_rfl) (by simp) (AllReadyH.cons rfl (fun K hK => ?_) AllReadyH.nil)
        rw [if_pos (by rfl)]
        refine wp_store_ 24 info_sizes (.tmp 5) (.tmp 15) rfl z0 rfl rfl rfl (fun _ => rfl) ?_
        have r1 := z0.row_ (row 20 fun j => .float .f32 (G j))
        refine hK.out _ _ ⟨hS.1.farRow (by omega) _, hS.2.1.farRow (by omega) _, below_setRow hS.2.2 (by omega) _⟩ (fun hS => ?_)
        clear hK K
        try simp only [Act.put, List.setIfInBounds_toArray, List.set_cons_zero, List.set_cons_succ]
        refine take_ (i := 10) (d := some 6) (v := .int .i64 c) rfl rfl (by kernel_rfl) (by kernel_rfl) (by kernel_rfl) (fun _ _ _ h => nomatch h.1) (Or.inl ⟨by rfl, fun x hx => by go_simp⟩) (by assumption) ?_
        try simp only [Act.put, List.setIfInBounds_toArray, List.set_cons_zero, List.set_cons_succ]
        refine wpAnyH_done (by kernel_rfl) ?_ _
        exact ⟨rfl, r, rfl, r1, hS⟩
    · obtain ⟨r, hr⟩ : ∃ r, r = u0.heap.size := ⟨_, rfl⟩
      have z0 : Holds (u0.drew.alloc (.cells #[.float .f32 0, .float .f32 0, .float .f32 0, .float .f32 0, .float .f32 0, .float .f32 0, .float .f32 0, .float .f32 0, .float .f32 0, .float .f32 0, .float .f32 0, .float .f32 0, .float .f32 0, .float .f32 0, .float .f32 0, .float .f32 0, .float .f32 0, .float .f32 0, .float .f32 0, .float .f32 0] 24)) r 24 #[.float .f32 0, .float .f32 0, .float .f32 0, .float .f32 0, .float .f32 0, .float .f32 0, .float .f32 0, .float .f32 0, .float .f32 0, .float .f32 0, .float .f32 0, .float .f32 0, .float .f32 0, .float .f32 0, .float .f32 0, .float .f32 0, .float .f32 0, .float .f32 0, .float .f32 0, .float .f32 0] := Holds.new' _ _ _ hr
      have hw : u0.drew.heap.size = r := hr.symm
      have hn0 : w.heap.size < r := by have h := hS.1.lt; omega
      have hn1 : w.heap.size + 1 < r := by have h := hS.2.1.lt; omega
      clear hw
      have hr2 := Lib.hid hr
      clear hr
      go_simp
      rw [← hr2.out]
      clear hr2
      refine hK.out _ _ ⟨hS.1.alloc _, hS.2.1.alloc _, hS.2.2.alloc hS.2.2.size _⟩ (fun hS => ?_)
      clear hK K
      try simp only [Act.put, List.setIfInBounds_toArray, List.set_cons_zero, List.set_cons_succ]
      refine wpAnyH_ready (rs := [1]) (by kernel_rfl) (by simp) (AllReadyH.cons rfl (fun K hK => ?_) AllReadyH.nil)
      go_simp
      with_reducible refine (HA.out _).mono ?_
      rintro e v7 ⟨rfl, hb⟩
      go_simp
      have z0 := z0.keep hb
      refine hK.out _ _ ⟨hS.1.keep hb, hS.2.1.keep hb, hS.2.2.trans (hb.mono hS.2.2.size)⟩ (fun hS => ?_)
      clear hK K
      try simp only [Act.put, List.setIfInBounds_toArray, List.set_cons_zero, List.set_cons_succ]
      refine wpAnyH_ready (rs := [3]) (by kernel_rfl) (by simp) (AllReadyH.cons rfl (fun K hK => ?_) AllReadyH.nil)
      go_simp
      with_reducible refine (HB.out _).mono ?_
      rintro e v8 ⟨rfl, hb⟩
      go_simp
      have z0 := z0.keep hb
      refine hK.out _ _ ⟨hS.1.keep hb, hS.2.1.keep hb, hS.2.2.trans (hb.mono hS.2.2.size)⟩ (fun hS => ?_)
      clear hK K
      try simp only [Act.put, List.setIfInBounds_toArray, List.set_cons_zero, List.set_cons_succ]
      refine wpAnyH_ready (rs := [4]) (by kernel_rfl) (by simp) (AllReadyH.cons rfl (fun K hK => ?_) AllReadyH.nil)
      go_simp
      with_reducible refine (HC.out _).mono ?_
      rw [HR.out]
      rintro e v9 ⟨rfl, hb⟩
      go_simp
      have z0 := z0.keep hb
      refine hK.out _ _ ⟨hS.1.keep hb, hS.2.1.keep hb, hS.2.2.trans (hb.mono hS.2.2.size)⟩ (fun hS => ?_)
      clear hK K
      try simp only [Act.put, List.setIfInBounds_toArray, List.set_cons_zero, List.set_cons_succ]
      refine take_ (i := 5) (d := some 9) (v := .tuple #[.agg (row 20 fun j => .float .f32 (G j)), .int .i64 c]) rfl rfl (by kernel_rfl) (by kernel_rfl) (by kernel_rfl) (fun _ _ _ h => nomatch h.1) (Or.inl ⟨by rfl, fun x hx => by go_simp⟩) (by assumption) ?_
      try simp only [Act.put, List.setIfInBounds_toArray, List.set_cons_zero, List.set_cons_succ]
      refine take_ (i := 6) (d := some 15) (v := .agg (row 20 fun j => .float .f32 (G j))) rfl rfl (by kernel_rfl) (by kernel_rfl) (by kernel_rfl) (fun _ _ _ h => nomatch h.1) (Or.inl ⟨by rfl, fun x hx => by go_simp⟩) (by assumption) ?_
      try simp only [Act.put, List.setIfInBounds_toArray, List.set_cons_zero, List.set_cons_succ]
      refine take_ (i := 7) (d := some 16) (v := .int .i64 c) rfl rfl (by kernel_rfl) (by kernel_rfl) (by kernel_rfl) (fun _ _ _ h => nomatch h.1) (Or.inl ⟨by rfl, fun x hx => by go_simp⟩) (by assumption) ?_
      try simp only [Act.put, List.setIfInBounds_toArray, List.set_cons_zero, List.set_cons_succ]
      refine wpAnyH_ready (rs := [9]) (by kernel_rfl) (by simp) (AllReadyH.cons rfl (fun K hK => ?_) AllReadyH.nil)
      rw [if_pos (by rfl)]
      refine wp_store_ 24 info_sizes (.tmp 5) (.tmp 15) rfl z0 rfl rfl rfl (fun _ => rfl) ?_
      have r1 := z0.row_ (row 20 fun j => .float .f32 (G j))
      refine hK.out _ _ ⟨hS.1.farRow (by omega) _, hS.2.1.farRow (by omega) _, below_setRow hS.2.2 (by omega) _⟩ (fun hS => ?_)
      clear hK K
      try simp only [Act.put, List.setIfInBounds_toArray, List.set_cons_zero, List.set_cons_succ]
      refine take_ (i := 10) (d := some 6) (v := .int .i64 c) rfl rfl (by kernel_rfl) (by kernel_rfl) (by kernel_rfl) (fun _ _ _ h => nomatch h.1) (Or.inl ⟨by rfl, fun x hx => by go_simp⟩) (by assumption) ?_
      try simp only [Act.put, List.setIfInBounds_toArray, List.set_cons_zero, List.set_cons_succ]
      refine wpAnyH_done (by kernel_rfl) ?_ _
      exact ⟨rfl, r, rfl, r1, hS⟩
end Go.Proofs.Ytocjhackncfjpaa
