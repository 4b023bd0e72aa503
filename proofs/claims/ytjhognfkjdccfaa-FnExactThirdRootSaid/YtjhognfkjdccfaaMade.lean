/-
  Contracts: sizes that are made; the same sizes; results that lie in cells.
-/
import Derived.Test.YtjhognfkjdccfaaCount
namespace Go.Proofs.Ytjhognfkjdccfaa
open Go.RowKit Fl
set_option maxRecDepth 20000

/-! ### a valid operation gives a number -/
theorem num_write (f : Ieee.Format) (d : Ieee.Datum) (h : d.isNaN = false) : num f (f.write d) := by
  cases d with
  | number s m p =>
    show num f (f.nearest s m p)
    unfold Ieee.Format.nearest
    dsimp only
    split
    · exact num_word f s 0 (Nat.zero_le _)
    · exact num_word f s _ (Nat.min_le_right _ _)
  | infinity s => exact num_word f s _ (Nat.le_refl _)
  | nan s t => cases h
theorem sum_num {d e x : Ieee.Datum} (h : Ieee.Datum.sum d e = some x) : x.isNaN = false := by
  cases d <;> cases e <;> simp [Ieee.Datum.sum] at h <;> first | (subst h; rfl) | (obtain ⟨_, rfl⟩ := h; rfl)
theorem product_num {d e x : Ieee.Datum} (h : Ieee.Datum.product d e = some x) : x.isNaN = false := by
  cases d <;> cases e <;> simp [Ieee.Datum.product] at h <;> first | (subst h; rfl) | (obtain ⟨_, rfl⟩ := h; rfl)
theorem quotient_num {n : Nat} {d e x : Ieee.Datum} (h : Ieee.Datum.quotient n d e = some x) : x.isNaN = false := by
  cases d <;> cases e <;> simp only [Ieee.Datum.quotient] at h <;> first | (cases h; done) | (cases h; rfl) | (split at h <;> first | (split at h <;> cases h; rfl) | (cases h; rfl))
theorem fv_num' {op : BinOp} {k : FloatKind} {x y : Nat} (h : fok op k x y = true) : num k.format (fv op k x y) := by
  have h := fv_some h
  unfold floatBits at h
  cases op <;> simp only at h <;> first | (cases h; done) | skip
  all_goals
    simp only [Ieee.Format.add, Ieee.Format.sub, Ieee.Format.mul, Ieee.Format.div, Option.map_eq_some_iff] at h
    obtain ⟨d, hd, he⟩ := h
    rw [← he]
    exact num_write _ _ (by first | exact sum_num hd | exact product_num hd | exact quotient_num hd)
theorem fv_num {op : BinOp} {x y : Nat} (h : fok op .f32 x y = true) : isnum (fv op .f32 x y) = true := by
  obtain ⟨h1, _⟩ := fv_num' h
  exact decide_eq_true h1
theorem fv_cv {op : BinOp} {x y : Nat} (h : fok op .f32 x y = true) : cvok (fv op .f32 x y) = true := cvok_of (fv_lt h) (fv_num h)

theorem cv_f64 {x : Nat} (h : cvok x = true) : num FloatKind.f64.format (cv x) := by
  simp only [cvok, Bool.and_eq_true, decide_eq_true_eq] at h
  exact (cv_num h.1 h.2).2
theorem cvok_fin {x : Nat} (hx : x < 4294967296) (h : isfin x = true) : cvok x = true := cvok_of hx (isnum_of_fin h)

/-! ### results -/
section
variable {P : Program} {a : Act} {w : World}
theorem run_results2 {fn : Func} {p t1 : Tmp} {ty : TypeId} (h : fn.results = #[.cell p ty, .tmp t1]) (tmps : Array Value) (w : World) (g : Nat) (t : TypeId) (cs : Array Value) (fr : Nat × Nat) (d : TypeDesc)
    (hp : tmps.getD p undef = .pointer (some ⟨g, 0, none⟩)) (hg : w.heap[g]? = some (.cells cs t fr))
    (hu : P.underlying ty = some d) (hd : (match d with | .struct _ | .array _ _ => true | _ => false) = true) (hi : (P.info? ty).map (·.size) = some cs.size) :
    (results fn tmps).run P w = .ok (.tuple #[.agg cs, tmps.getD t1 undef]) w := by
  have hp' : tmps[p]?.getD undef = .pointer (some ⟨g, 0, none⟩) := by simpa using hp
  simp [results, h, hp', asAddr, run_loadVar_row w g t ty cs fr d hg hu hd hi]
theorem run_results3 {fn : Func} {p t1 t2 : Tmp} {ty : TypeId} (h : fn.results = #[.cell p ty, .tmp t1, .tmp t2]) (tmps : Array Value) (w : World) (g : Nat) (t : TypeId) (cs : Array Value) (fr : Nat × Nat) (d : TypeDesc)
    (hp : tmps.getD p undef = .pointer (some ⟨g, 0, none⟩)) (hg : w.heap[g]? = some (.cells cs t fr))
    (hu : P.underlying ty = some d) (hd : (match d with | .struct _ | .array _ _ => true | _ => false) = true) (hi : (P.info? ty).map (·.size) = some cs.size) :
    (results fn tmps).run P w = .ok (.tuple #[.agg cs, tmps.getD t1 undef, tmps.getD t2 undef]) w := by
  have hp' : tmps[p]?.getD undef = .pointer (some ⟨g, 0, none⟩) := by simpa using hp
  simp [results, h, hp', asAddr, run_loadVar_row w g t ty cs fr d hg hu hd hi]
theorem ret_row2 {fn : Func} {p t1 : Tmp} {T : TypeId} {n : Nat} {e : TypeId} {R : Ending → World → Prop} (hr : fn.results = #[.cell p T, .tmp t1]) (hT : P.underlying T = some (.array n e)) (hi : (P.info? T).map (·.size) = some n)
    {g : Nat} {t : TypeId} {F : Nat → Value} (hg : Holds w g t (row n F)) (hp : a.tmps.getD p undef = .pointer (some ⟨g, 0, none⟩)) (hd : a.defers = []) (h : R (.returned (.tuple #[.agg (row n F), a.tmps.getD t1 undef])) w) : bodyPost P fn R .ret a w :=
  bodyPost_ret (run_results2 hr a.tmps w g t (row n F) (0, 0) _ hp hg hT rfl (by rw [hi, row_size])) hd h
theorem ret_row3 {fn : Func} {p t1 t2 : Tmp} {T : TypeId} {n : Nat} {e : TypeId} {R : Ending → World → Prop} (hr : fn.results = #[.cell p T, .tmp t1, .tmp t2]) (hT : P.underlying T = some (.array n e)) (hi : (P.info? T).map (·.size) = some n)
    {g : Nat} {t : TypeId} {F : Nat → Value} (hg : Holds w g t (row n F)) (hp : a.tmps.getD p undef = .pointer (some ⟨g, 0, none⟩)) (hd : a.defers = []) (h : R (.returned (.tuple #[.agg (row n F), a.tmps.getD t1 undef, a.tmps.getD t2 undef])) w) : bodyPost P fn R .ret a w :=
  bodyPost_ret (run_results3 hr a.tmps w g t (row n F) (0, 0) _ hp hg hT rfl (by rw [hi, row_size])) hd h
end
/-- no sizes -/
def zrow : Array Value := row 20 (fun _ => .float .f32 0)
theorem zrow_eq : #[Value.float .f32 0, .float .f32 0, .float .f32 0, .float .f32 0, .float .f32 0, .float .f32 0, .float .f32 0, .float .f32 0, .float .f32 0, .float .f32 0, .float .f32 0, .float .f32 0, .float .f32 0, .float .f32 0, .float .f32 0, .float .f32 0, .float .f32 0, .float .f32 0, .float .f32 0, .float .f32 0] = row 20 (fun _ => .float .f32 0) := z20 _
def madeR (f : Nat → Nat) : Value := if allfin 20 f then .tuple #[.agg (row 20 fun j => .float .f32 (f j)), .int .i64 0] else .tuple #[.agg (row 20 fun _ => .float .f32 0), .int .i64 4]

theorem c_l01Made (f : Nat → Nat) (hf : ∀ j, f j < 4294967296) (w : World) : Calls Try.prog 38 #[.agg (row 20 fun j => .float .f32 (f j))] w fun e w' => e = .returned (madeR f) ∧ Below w.heap.size w w' := by
  go_enter Try.func38, Try.ntmps38
  go_wp2
  rw [zrow_eq]
  go_loopw [4] (fun i wr => ∃ k : Nat, k ≤ 20 ∧ i = .int .i64 k ∧ (∀ j, j < k → isfin (f j) = true) ∧ Below w.heap.size w wr ∧ Holds wr w.heap.size 31 (row 20 fun j => .float .f32 (f j)) ∧ Holds wr (w.heap.size + 1) 31 (row 20 fun _ => .float .f32 0)) (fun i _ => 20 - (intOf i).toNat)
  case atStart => exact ⟨0, by omega, rfl, fun j hj => by omega, ((Below.refl _ _).alloc (by simp) _).alloc (by simp) _, (Holds.new _ _ _).alloc _, Holds.new' _ _ _ (by simp)⟩
  case round =>
    obtain ⟨k, hk, rfl, hall, hb, g0, g1⟩ := hrel
    have HA := Lib.hid hall
    clear hall
    by_cases hlt : k < 20
    · have hc := g0.at_ hlt
      cases h : isfin (f k)
      · have hR := Lib.hid (show madeR f = .tuple #[.agg (row 20 fun _ => .float .f32 0), .int .i64 4] by simp [madeR, allfin_false k hlt h])
        go_wp2_with (first | (go_at_call 37; refine (c_l01Finite _ (hf k) _).mono ?_; rintro e w1 ⟨rfl, n, rfl⟩) | (refine wl_store 31 info_sizes rfl _ _ rfl (g1.drewN _) (row_size _ _) rfl (congrArg Value.agg zrow_eq) (fun _ => rfl) ?_))
        refine ret_row2 rfl Try.underlying31 info_sizes ((g1.drewN _).row_ _) rfl rfl ⟨by rw [hR.out]; rfl, below_setRow (below_drewN hb _) (by omega) _⟩
      · have HF := Lib.hid h
        go_wp2_with (go_at_call 37; refine (c_l01Finite _ (hf k) _).mono ?_; rintro e w1 ⟨rfl, n, rfl⟩)
        go_roundw
        case rel => exact ⟨k + 1, by omega, by go_num, fun j hj => by
          rcases Nat.lt_or_ge j k with q | q
          · exact HA.out j q
          · have : j = k := by omega
            subst this; exact HF.out, below_drewN hb _, g0.drewN _, g1.drewN _⟩
        case measure => simp [intOf]; omega
    · have hR := Lib.hid (show madeR f = .tuple #[.agg (row 20 fun j => .float .f32 (f j)), .int .i64 0] by
        have ha : allfin 20 f = true := allfin_true (fun j hj => HA.out j (by omega))
        simp [madeR, ha])
      go_wp2_with (first | (refine wl_load 31 Try.underlying31 info_sizes rfl _ rfl g0 rfl ?_) | (refine wl_store 31 info_sizes rfl _ _ rfl g1 (row_size _ _) rfl rfl (fun _ => rfl) ?_))
      refine ret_row2 rfl Try.underlying31 info_sizes (g1.row_ _) rfl rfl ⟨by rw [hR.out]; rfl, below_setRow hb (by omega) _⟩
theorem c_checked (f : Nat → Nat) (hf : ∀ j, f j < 4294967296) (w : World) : Calls Try.prog 41 #[.agg (row 20 fun j => .float .f32 (f j))] w fun e w' => e = .returned (madeR f) ∧ Below w.heap.size w w' := by
  have g0 : Holds ((w.alloc (.cells (row 20 fun j => .float .f32 (f j)) 31)).alloc (.cells (row 20 fun _ => .float .f32 0) 31)) w.heap.size 31 (row 20 fun j => .float .f32 (f j)) := (Holds.new _ _ _).alloc _
  have g1 : Holds ((w.alloc (.cells (row 20 fun j => .float .f32 (f j)) 31)).alloc (.cells (row 20 fun _ => .float .f32 0) 31)) (w.heap.size + 1) 31 (row 20 fun _ => .float .f32 0) := Holds.new' _ _ _ (by simp)
  have b0 : Below w.heap.size w ((w.alloc (.cells (row 20 fun j => .float .f32 (f j)) 31)).alloc (.cells (row 20 fun _ => .float .f32 0) 31)) := ((Below.refl _ _).alloc (by simp) _).alloc (by simp) _
  cases h : allfin 20 f
  · have hR := Lib.hid (show madeR f = .tuple #[.agg (row 20 fun _ => .float .f32 0), .int .i64 4] by simp [madeR, h])
    go_enter Try.func41, Try.ntmps41
    go_wp2_with (first | (go_at_call 44; rw [zrow_eq]; refine (c_isFinite 20 (by omega) _ _ f (fun j _ => hf j) _ _ g0).mono ?_; rw [h]; rintro e w1 ⟨rfl, n, rfl⟩) | (refine wl_store 31 info_sizes rfl _ _ rfl (g1.drewN _) (row_size _ _) rfl (congrArg Value.agg zrow_eq) (fun _ => rfl) ?_))
    exact ret_row2 rfl Try.underlying31 info_sizes ((g1.drewN _).row_ _) rfl rfl ⟨by rw [hR.out]; rfl, below_setRow (below_drewN b0 _) (by omega) _⟩
  · have hR := Lib.hid (show madeR f = .tuple #[.agg (row 20 fun j => .float .f32 (f j)), .int .i64 0] by simp [madeR, h])
    go_enter Try.func41, Try.ntmps41
    go_wp2_with (first | (go_at_call 44; rw [zrow_eq]; refine (c_isFinite 20 (by omega) _ _ f (fun j _ => hf j) _ _ g0).mono ?_; rw [h]; rintro e w1 ⟨rfl, n, rfl⟩) | (refine wl_load 31 Try.underlying31 info_sizes rfl _ rfl (g0.drewN _) rfl ?_) | (refine wl_store 31 info_sizes rfl _ _ rfl (g1.drewN _) (row_size _ _) rfl rfl (fun _ => rfl) ?_))
    exact ret_row2 rfl Try.underlying31 info_sizes ((g1.drewN _).row_ _) rfl rfl ⟨by rw [hR.out]; rfl, below_setRow (below_drewN b0 _) (by omega) _⟩
theorem c_eqSizes (f : Nat → Nat) (hf : ∀ j, j < 20 → cvok (f j) = true) (w : World) : Calls Try.prog 17 #[.agg (row 20 fun j => .float .f32 (f j)), .agg (row 20 fun j => .float .f32 (f j))] w fun e w' => e = .returned (.bool true) ∧ Below w.heap.size w w' := by
  have hcv := fun (x : Nat) (h : cvok x = true) (w : World) => run_cv (P := Try.prog) w 22 26 (by kernel_rfl) Try.underlying26 x h
  go_enter Try.func17, Try.ntmps17
  go_wp2
  go_loopw [5] (fun i wr => ∃ k : Nat, k ≤ 20 ∧ i = .int .i64 k ∧ Below w.heap.size w wr ∧ Holds wr w.heap.size 31 (row 20 fun j => .float .f32 (f j)) ∧ Holds wr (w.heap.size + 1) 31 (row 20 fun j => .float .f32 (f j))) (fun i _ => 20 - (intOf i).toNat)
  case atStart => exact ⟨0, by omega, rfl, ((Below.refl _ _).alloc (by simp) _).alloc (by simp) _, (Holds.new _ _ _).alloc _, Holds.new' _ _ _ (by simp)⟩
  case round =>
    obtain ⟨k, hk, rfl, hb, g0, g1⟩ := hrel
    by_cases hlt : k < 20
    · have hc := g0.at_ hlt
      have hc' := g1.at_ hlt
      have hi0 : (0 : Int) ≤ (k : Int) := by omega
      have hi1 : (k : Int) < 20 := by omega
      have ho := hf k hlt
      have HS := Lib.hid (fun w => c_sameFloat _ (cv_f64 ho) w)
      go_wp2
      go_quiet ((go_at_call 12; exact q_left (HS.out _)))
      go_wp2
      go_roundw
      case rel => exact ⟨k + 1, by omega, by go_num, below_drewN hb _, g0.drewN _, g1.drewN _⟩
      case measure => simp [intOf]; omega
    · go_wp2
      go_ret
      exact ⟨rfl, hb⟩
end Go.Proofs.Ytjhognfkjdccfaa
