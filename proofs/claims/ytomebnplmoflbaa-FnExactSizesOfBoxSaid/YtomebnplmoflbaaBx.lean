/-
  Contracts and walks: boxes by value.
-/
import Derived.Test.YtomebnplmoflbaaSizes
import Derived.Deep.MidRow
namespace Go.Proofs.Ytomebnplmoflbaa
open Go.RowKit Fl
set_option maxRecDepth 20000
set_option maxHeartbeats 4000000
set_option linter.unusedSimpArgs false

theorem info_counts : (Try.prog.info? 37).map (·.size) = some 20 := by kernel_rfl
theorem info_i20 : (Try.prog.info? 31).map (·.size) = some 20 := by kernel_rfl
theorem info_box : (Try.prog.info? 39).map (·.size) = some 21 := by kernel_rfl
theorem info_lbox : (Try.prog.info? 33).map (·.size) = some 21 := by kernel_rfl
def ir (n : Nat) (f : Nat → Int) : Array Value := row n fun j => .int .i64 (f j)
section
variable {P : Program} {ops : Array Oper} {rest : List Oper} {o : Oper} {a : Act} {w : World} {Q : Exit → Act → World → Prop}
/-- the first cells of a row read -/
theorem wl_load_part (T : TypeId) {n m : Nat} {d : TypeDesc} (hT : P.underlying T = some d) (hd : d.isRow = true) (hi : (P.info? T).map (·.size) = some n) (hgd : o.guard = none) (x : Operand) (ho : o.op = .load T x)
    {g : Nat} {t : TypeId} {F : Nat → Value} (hg : Holds w g t (row m F)) (hnm : n ≤ m) (hx : a.eval x = .pointer (some ⟨g, 0, none⟩))
    (h : wpList P ops Q rest (a.put o.dst (.agg (row n F))) w) : wpList P ops Q (o :: rest) a w := by
  refine wpList_load_mid hgd T x ho g 0 hx (row n F).toList d (fun j v hv => ?_) hT hd (by rw [hi]; simp [row_size]) (by simpa using h)
  have hj : j < n := by
    rcases Nat.lt_or_ge j n with q | q
    · exact q
    · rw [List.getElem?_eq_none (by simp [row_size]; omega)] at hv; cases hv
  rw [Array.getElem?_toList, row_get F hj] at hv
  cases hv
  rw [Nat.zero_add]
  exact hg.at_ (by omega)
theorem Holds.cells_ {g : Nat} {t : TypeId} : ∀ (vs : List Value) (o : Nat) {w : World} {cs : Array Value}, Holds w g t cs →
    ∃ cs' : Array Value, Holds (w.setCells g o vs) g t cs' ∧ cs'.size = cs.size ∧ (∀ j, j < vs.length → o + j < cs.size → cs'[o + j]? = vs[j]?) ∧ (∀ j, j < o ∨ o + vs.length ≤ j → cs'[j]? = cs[j]?)
  | [], o, w, cs, h => ⟨cs, h, rfl, ⟨fun j hj => absurd hj (Nat.not_lt_zero j), fun j _ => rfl⟩⟩
  | v :: vs, o, w, cs, h => by
    obtain ⟨cs', h1, h2, h3, h4⟩ := Holds.cells_ vs (o + 1) (h.set_ o v)
    refine ⟨cs', h1, by simpa using h2, fun j hj hs => ?_, fun j hj => ?_⟩
    · rcases j with _ | j
      · rw [Nat.add_zero, h4 o (by omega), Array.getElem?_setIfInBounds_self_of_lt (by simpa using hs)]; rfl
      · have := h3 j (by simpa using hj) (by simp; omega)
        rw [show o + (j + 1) = o + 1 + j by omega, this]; simp
    · rw [h4 j (by simp at hj; omega)]
      rw [Array.getElem?_setIfInBounds]
      rw [if_neg (by simp at hj; omega)]
theorem below_cells {B g : Nat} (hg : B ≤ g) : ∀ (vs : List Value) (o : Nat) {a w : World}, Below B a w → Below B a (w.setCells g o vs)
  | [], _, _, _, h => h
  | v :: vs, o, _, _, h => below_cells hg vs (o + 1) (h.setCell hg v)
theorem far_cells {g g' : Nat} {t : TypeId} (hne : g ≠ g') : ∀ (vs : List Value) (o : Nat) {w : World} {cs : Array Value}, Holds w g t cs → Holds (w.setCells g' o vs) g t cs
  | [], _, _, _, h => h
  | v :: vs, o, _, _, h => far_cells hne vs (o + 1) (h.far (by simpa using hne) v)
/-- the first cells of a row written -/
theorem wl_store_part (T : TypeId) {n m : Nat} (hi : (P.info? T).map (·.size) = some n) (hgd : o.guard = none) (x y : Operand) (ho : o.op = .store T x y)
    {g : Nat} {t : TypeId} {F E : Nat → Value} (hg : Holds w g t (row m E)) (hnm : n ≤ m) (hx : a.eval x = .pointer (some ⟨g, 0, none⟩)) (hy : a.eval y = .agg (row n F)) (h1 : ∀ j, (F j).oneCell' = true)
    (h : ∀ w2, Holds w2 g t (row m fun j => if j < n then F j else E j) → (∀ B a, B ≤ g → Below B a w → Below B a w2) → (∀ g' t' cs, g' ≠ g → Holds w g' t' cs → Holds w2 g' t' cs) → wpList P ops Q rest (a.put o.dst undef) w2) : wpList P ops Q (o :: rest) a w := by
  refine wpList_store_mid hgd T x y ho g 0 (row n F) hx hy (fun j hj => ?_) (by rw [hi, row_size]) ?_ ?_
  · rw [row_size] at hj
    rw [Nat.zero_add]
    exact ⟨by rw [hg.at_ (i := j) (by omega)]; rfl, hg.free j⟩
  · rw [Array.all_eq_true_iff_forall_mem]
    intro v hv
    simp only [row, Array.mem_map] at hv
    obtain ⟨j, _, rfl⟩ := hv
    exact h1 j
  · obtain ⟨cs', c1, c2, c3, c4⟩ := hg.cells_ (row n F).toList 0
    rw [row_size] at c2
    have e : cs' = row m (fun j => if j < n then F j else E j) := by
      refine row_of cs' m c2 _ fun j hj => ?_
      have : cs'[j]? = some (if j < n then F j else E j) := by
        rcases Nat.lt_or_ge j n with q | q
        · have := c3 j (by simpa [row_size] using q) (by rw [row_size]; omega)
          rw [Nat.zero_add] at this
          rw [this, if_pos q, Array.getElem?_toList, row_get F q]
        · rw [c4 j (by right; simp [row_size]; omega), if_neg (by omega), row_get E hj]
      rw [Array.getElem?_eq_getElem (by omega)] at this
      exact Option.some.inj this
    rw [e] at c1
    exact h _ c1 (fun B a hB hb => below_cells hB _ _ hb) (fun g' t' cs hne hh => far_cells hne _ _ hh)
/-- a result that is a row in a cell, whatever its type -/
theorem ret_rowS {fn : Func} {p : Tmp} {T : TypeId} {n : Nat} {d : TypeDesc} {R : Ending → World → Prop} (hr : fn.results = #[.cell p T]) (hT : P.underlying T = some d) (hd' : (match d with | .struct _ | .array _ _ => true | _ => false) = true) (hi : (P.info? T).map (·.size) = some n)
    {g : Nat} {t : TypeId} {F : Nat → Value} (hg : Holds w g t (row n F)) (hp : a.tmps.getD p undef = .pointer (some ⟨g, 0, none⟩)) (hd : a.defers = []) (h : R (.returned (.agg (row n F))) w) : bodyPost P fn R .ret a w :=
  bodyPost_ret (results_cell_row hr a.tmps w g t (row n F) (0, 0) _ hp hg hT hd' (by rw [hi, row_size])) hd h
end
theorem box_step (f : Nat → Int) (j : Nat) (hj : j < 21) : (if j = 20 then Value.int .i64 (f 20) else if j < 20 then Value.int .i64 (f j) else Value.int .i64 0) = Value.int .i64 (f j) := by
  by_cases e : j = 20
  · subst e; simp
  · rw [if_neg e, if_pos (by omega)]
theorem zi20 : #[Value.int .i64 0, .int .i64 0, .int .i64 0, .int .i64 0, .int .i64 0, .int .i64 0, .int .i64 0, .int .i64 0, .int .i64 0, .int .i64 0, .int .i64 0, .int .i64 0, .int .i64 0, .int .i64 0, .int .i64 0, .int .i64 0, .int .i64 0, .int .i64 0, .int .i64 0, .int .i64 0] = row 20 (fun _ => .int .i64 0) := z20 _
theorem zi21 : #[Value.int .i64 0, .int .i64 0, .int .i64 0, .int .i64 0, .int .i64 0, .int .i64 0, .int .i64 0, .int .i64 0, .int .i64 0, .int .i64 0, .int .i64 0, .int .i64 0, .int .i64 0, .int .i64 0, .int .i64 0, .int .i64 0, .int .i64 0, .int .i64 0, .int .i64 0, .int .i64 0, .int .i64 0] = row 21 (fun _ => .int .i64 0) := by
  apply Array.ext
  · simp [row]
  · intro j h1 h2
    have h3 : j < 21 := by simpa using h1
    simp only [row, Array.getElem_map]
    rcases j with _ | _ | _ | _ | _ | _ | _ | _ | _ | _ | _ | _ | _ | _ | _ | _ | _ | _ | _ | _ | _ | j <;> first | rfl | omega
theorem ipart_zero (f : Nat → Int) : row 20 (fun j => Value.int .i64 (if j < 0 then f j else 0)) = row 20 (fun _ => Value.int .i64 0) := row_congr fun j _ => by simp
theorem ipart_full (f : Nat → Int) (k : Nat) (hk : ¬ k < 20) (j : Nat) (hj : j < 20) : Value.int .i64 (if j < k then f j else 0) = Value.int .i64 (f j) := by rw [if_pos (by omega)]
theorem ipart_step (f : Nat → Int) (k j : Nat) : (if j = k then Value.int .i64 (f k) else Value.int .i64 (if j < k then f j else 0)) = Value.int .i64 (if j < k + 1 then f j else 0) := by
  by_cases e : j = k
  · subst e; simp
  · simp only [e, if_false]; congr 1
    rcases Nat.lt_or_ge j k with q | q
    · rw [if_pos q, if_pos (by omega)]
    · rw [if_neg (by omega), if_neg (by omega)]
theorem c_toCounts (f : Nat → Int) (w : World) : Calls Try.prog 26 #[.agg (row 20 fun j => .int .i64 (f j))] w fun e w' => e = .returned (.agg (row 20 fun j => .int .i64 (f j))) ∧ Below w.heap.size w w' := by
  go_enter Try.func26, Try.ntmps26
  go_wp2
  go_loopw [4] (fun i wr => ∃ k : Nat, k ≤ 20 ∧ i = .int .i64 k ∧ Below w.heap.size w wr ∧ Holds wr w.heap.size 31 (row 20 fun j => .int .i64 (f j)) ∧ Holds wr (w.heap.size + 1) 37 (row 20 fun _ => .int .i64 0) ∧ Holds wr (w.heap.size + 1 + 1) 37 (row 20 fun j => .int .i64 (if j < k then f j else 0))) (fun i _ => 20 - (intOf i).toNat)
  case atStart =>
    rw [z20]
    refine ⟨0, by omega, rfl, (((Below.refl _ _).alloc (by simp) _).alloc (by simp) _).alloc (by simp; omega) _, ((Holds.new _ _ _).alloc _).alloc _, ?_, ?_⟩
    · exact (Holds.new' _ _ _ (by simp)).alloc _
    · rw [ipart_zero]; exact Holds.new' _ _ _ (by simp)
  case round =>
    obtain ⟨k, hk, rfl, hb, h0, h1, h2⟩ := hrel
    by_cases hlt : k < 20
    · have hc0 := h0.at_ hlt
      have hc2 := h2.at_ hlt
      have hf2 := h2.free k
      go_wp2
      go_roundw
      case rel => exact ⟨k + 1, by omega, by go_num, hb.setCell (by simp; omega) _, h0.far (by simp; omega) _, h1.far (by simp) _, (h2.set_row k _).to (fun j hj => ipart_step f k j)⟩
      case measure => simp [intOf]; omega
    · have h2' := h2.to (ipart_full f k hlt)
      go_wp2_with (first | (refine wl_load 37 Try.underlying37 info_counts rfl _ rfl h2' rfl ?_) | (refine wl_store 37 info_counts rfl _ _ rfl h1 (row_size _ _) rfl rfl (fun _ => rfl) ?_))
      exact ret_row rfl Try.underlying37 info_counts (h1.row_ _) rfl rfl ⟨rfl, below_setRow hb (by omega) _⟩
theorem c_toBox (f : Nat → Int) (w : World) : Calls Try.prog 13 #[.agg (row 21 fun j => .int .i64 (f j))] w fun e w' => e = .returned (.agg (row 21 fun j => .int .i64 (f j))) ∧ Below w.heap.size w w' := by
  have g0 : Holds (((w.alloc (.cells (row 21 fun j => .int .i64 (f j)) 33)).alloc (.cells #[.int .i64 0, .int .i64 0, .int .i64 0, .int .i64 0, .int .i64 0, .int .i64 0, .int .i64 0, .int .i64 0, .int .i64 0, .int .i64 0, .int .i64 0, .int .i64 0, .int .i64 0, .int .i64 0, .int .i64 0, .int .i64 0, .int .i64 0, .int .i64 0, .int .i64 0, .int .i64 0, .int .i64 0] 39)).alloc (.cells #[.int .i64 0, .int .i64 0, .int .i64 0, .int .i64 0, .int .i64 0, .int .i64 0, .int .i64 0, .int .i64 0, .int .i64 0, .int .i64 0, .int .i64 0, .int .i64 0, .int .i64 0, .int .i64 0, .int .i64 0, .int .i64 0, .int .i64 0, .int .i64 0, .int .i64 0, .int .i64 0, .int .i64 0] 39)) w.heap.size 33 (row 21 fun j => .int .i64 (f j)) := ((Holds.new _ _ _).alloc _).alloc _
  have g1 : Holds (((w.alloc (.cells (row 21 fun j => .int .i64 (f j)) 33)).alloc (.cells #[.int .i64 0, .int .i64 0, .int .i64 0, .int .i64 0, .int .i64 0, .int .i64 0, .int .i64 0, .int .i64 0, .int .i64 0, .int .i64 0, .int .i64 0, .int .i64 0, .int .i64 0, .int .i64 0, .int .i64 0, .int .i64 0, .int .i64 0, .int .i64 0, .int .i64 0, .int .i64 0, .int .i64 0] 39)).alloc (.cells #[.int .i64 0, .int .i64 0, .int .i64 0, .int .i64 0, .int .i64 0, .int .i64 0, .int .i64 0, .int .i64 0, .int .i64 0, .int .i64 0, .int .i64 0, .int .i64 0, .int .i64 0, .int .i64 0, .int .i64 0, .int .i64 0, .int .i64 0, .int .i64 0, .int .i64 0, .int .i64 0, .int .i64 0] 39)) (w.heap.size + 1) 39 (row 21 fun _ => .int .i64 0) := by rw [zi21]; exact (Holds.new' _ _ _ (by simp)).alloc _
  have g2 : Holds (((w.alloc (.cells (row 21 fun j => .int .i64 (f j)) 33)).alloc (.cells #[.int .i64 0, .int .i64 0, .int .i64 0, .int .i64 0, .int .i64 0, .int .i64 0, .int .i64 0, .int .i64 0, .int .i64 0, .int .i64 0, .int .i64 0, .int .i64 0, .int .i64 0, .int .i64 0, .int .i64 0, .int .i64 0, .int .i64 0, .int .i64 0, .int .i64 0, .int .i64 0, .int .i64 0] 39)).alloc (.cells #[.int .i64 0, .int .i64 0, .int .i64 0, .int .i64 0, .int .i64 0, .int .i64 0, .int .i64 0, .int .i64 0, .int .i64 0, .int .i64 0, .int .i64 0, .int .i64 0, .int .i64 0, .int .i64 0, .int .i64 0, .int .i64 0, .int .i64 0, .int .i64 0, .int .i64 0, .int .i64 0, .int .i64 0] 39)) (w.heap.size + 1 + 1) 39 (row 21 fun _ => .int .i64 0) := by rw [zi21]; exact Holds.new' _ _ _ (by simp)
  have b0 : Below w.heap.size w (((w.alloc (.cells (row 21 fun j => .int .i64 (f j)) 33)).alloc (.cells #[.int .i64 0, .int .i64 0, .int .i64 0, .int .i64 0, .int .i64 0, .int .i64 0, .int .i64 0, .int .i64 0, .int .i64 0, .int .i64 0, .int .i64 0, .int .i64 0, .int .i64 0, .int .i64 0, .int .i64 0, .int .i64 0, .int .i64 0, .int .i64 0, .int .i64 0, .int .i64 0, .int .i64 0] 39)).alloc (.cells #[.int .i64 0, .int .i64 0, .int .i64 0, .int .i64 0, .int .i64 0, .int .i64 0, .int .i64 0, .int .i64 0, .int .i64 0, .int .i64 0, .int .i64 0, .int .i64 0, .int .i64 0, .int .i64 0, .int .i64 0, .int .i64 0, .int .i64 0, .int .i64 0, .int .i64 0, .int .i64 0, .int .i64 0] 39)) := (((Below.refl _ _).alloc (by simp) _).alloc (by simp) _).alloc (by simp; omega) _
  go_enter Try.func13, Try.ntmps13
  go_wp2_with (first | (refine wl_load_part 31 Try.underlying31 rfl info_i20 rfl _ rfl g0 (by omega) rfl ?_) | (go_at_call 26; with_reducible refine (c_toCounts f _).mono ?_; rintro e w1 ⟨rfl, hb⟩; have g0 := g0.keep hb; have g1 := g1.keep hb; have g2 := g2.keep hb; have b0 := b0.trans (hb.mono b0.size); clear hb) | (refine wl_store_part 37 info_counts rfl _ _ rfl g2 (by omega) rfl rfl (fun _ => rfl) ?_; intro w2 G2 hbel hkeep; have g0 := hkeep _ _ _ (by omega) g0; have g1 := hkeep _ _ _ (by omega) g1; have b0 := hbel _ _ (by omega) b0; have k0 := g0.at_ (i := 20) (by omega); have k2 : w2.cell? ⟨w.heap.size + 1 + 1, 20, none⟩ = some (.int .i64 0) := (G2.at_ (i := 20) (by omega)).trans (by simp); have f2 := G2.free 20) | (refine wl_load_part 39 Try.underlying39 rfl info_box rfl _ rfl ((G2.set_row 20 _).to (fun j hj => box_step f j hj)) (by omega) rfl ?_) | (refine wl_store 39 info_box rfl _ _ rfl (g1.far (by simp) _) (row_size _ _) rfl rfl (fun _ => rfl) ?_))
  exact ret_rowS rfl Try.underlying39 rfl info_box ((g1.far (by simp) _).row_ _) rfl rfl ⟨rfl, below_setRow (b0.setCell (by simp; omega) _) (by omega) _⟩

def cntB (n : Int) : Bool := inB n 0 1000000000
def boxB (f : Nat → Int) : Bool := (List.range 21).all fun j => cntB (f j)
theorem boxB_false {f : Nat → Int} (k : Nat) (hk : k < 21) (h : cntB (f k) = false) : boxB f = false := by
  cases e : boxB f
  · rfl
  · simp [boxB] at e; rw [e k hk] at h; cases h
theorem boxB_last {f : Nat → Int} (h : ∀ j, j < 20 → cntB (f j) = true) : boxB f = cntB (f 20) := by
  cases e : cntB (f 20)
  · exact boxB_false 20 (by omega) e
  · simp only [boxB, List.all_eq_true, List.mem_range]
    intro j hj
    rcases Nat.lt_or_ge j 20 with q | q
    · exact h j q
    · have : j = 20 := by omega
      subst this; exact e
theorem of_boxB {f : Nat → Int} (h : boxB f = true) : ∀ j, j < 21 → cntB (f j) = true := by simpa [boxB] using h
theorem c_isCount (n : Int) (w : World) : Calls Try.prog 36 #[.int .i64 n] w fun e w' => e = .returned (.bool (cntB n)) ∧ w = w' := by
  go_enter Try.func36, Try.ntmps36
  go_wp2_with (go_at_call 39; refine (c_within _ _ _ _).mono ?_; rintro e w' ⟨rfl, rfl⟩)
  go_ret
  exact ⟨rfl, rfl⟩
theorem c_l03Box (f : Nat → Int) (g : Nat) (t : TypeId) (w : World) (hg : Holds w g t (row 21 fun j => .int .i64 (f j))) : Calls Try.prog 25 #[.pointer (some ⟨g, 0, none⟩)] w fun e w' => e = .returned (.bool (boxB f)) ∧ w = w' := by
  have hc20 := hg.at_ (i := 20) (by omega)
  go_enter Try.func25, Try.ntmps25
  go_wp2
  go_loop [3] (fun i => ∃ k : Nat, k ≤ 20 ∧ i = .int .i64 k ∧ (∀ j, j < k → cntB (f j) = true)) (fun i => 20 - (intOf i).toNat)
  case atStart => exact ⟨0, by omega, rfl, fun j hj => by omega⟩
  case round =>
    obtain ⟨k, hk, rfl, hall⟩ := hrel
    have HA := Lib.hid hall
    clear hall
    by_cases hlt : k < 20
    · have hc := hg.at_ (i := k) (by omega)
      cases h : cntB (f k)
      · have hR := Lib.hid (boxB_false k (by omega) h)
        have HC := Lib.hid (fun w => c_l00In (f k) 0 1000000000 w)
        unfold cntB at h
        rw [h] at HC
        clear h
        go_wp2_with (go_at_call 35; refine (HC.out _).mono ?_; rintro e w1 ⟨rfl, rfl⟩)
        go_ret
        exact ⟨ret_bool hR.out, rfl⟩
      · have HF := Lib.hid h
        have HC := Lib.hid (fun w => c_l00In (f k) 0 1000000000 w)
        unfold cntB at h
        rw [h] at HC
        clear h
        go_wp2_with (go_at_call 35; refine (HC.out _).mono ?_; rintro e w1 ⟨rfl, rfl⟩)
        go_round
        case rel => exact ⟨k + 1, by omega, by go_num, fun j hj => by
          rcases Nat.lt_or_ge j k with q | q
          · exact HA.out j q
          · have : j = k := by omega
            subst this; exact HF.out⟩
        case measure => simp [intOf]; omega
    · have hR := Lib.hid (boxB_last (f := f) (fun j hj => HA.out j (by omega)))
      go_wp2_with (go_at_call 35; refine (c_l00In _ _ _ _).mono ?_; rintro e w1 ⟨rfl, rfl⟩)
      go_ret
      exact ⟨ret_bool hR.out, rfl⟩
theorem c_ValidBox (f : Nat → Int) (w : World) : Calls Try.prog 27 #[.agg (row 21 fun j => .int .i64 (f j))] w fun e w' => e = .returned (.bool (boxB f)) ∧ Below w.heap.size w w' := by
  have g0 := Holds.new w 39 (row 21 fun j => .int .i64 (f j))
  have b0 : Below w.heap.size w (w.alloc (.cells (row 21 fun j => .int .i64 (f j)) 39)) := (Below.refl _ _).alloc (by simp) _
  have hc20 := g0.at_ (i := 20) (by omega)
  go_enter Try.func27, Try.ntmps27
  go_wp2_with (refine wl_load_part 37 Try.underlying37 rfl info_counts rfl _ rfl g0 (by omega) rfl ?_)
  go_loop [7] (fun i => ∃ k : Nat, k ≤ 20 ∧ i = .int .i64 k ∧ (∀ j, j < k → cntB (f j) = true)) (fun i => 20 - (intOf i).toNat)
  case atStart => exact ⟨0, by omega, rfl, fun j hj => by omega⟩
  case round =>
    obtain ⟨k, hk, rfl, hall⟩ := hrel
    have HA := Lib.hid hall
    clear hall
    by_cases hlt : k < 20
    · have hx := fun w => run_index_row (P := Try.prog) 37 2 20 (fun j => .int .i64 (f j)) k w Try.underlying37 (by kernel_rfl) (by kernel_rfl) hlt
      cases h : cntB (f k)
      · have hR := Lib.hid (boxB_false k (by omega) h)
        go_wp2_with (go_at_call 36; refine (c_isCount _ _).mono ?_; rw [h]; rintro e w1 ⟨rfl, rfl⟩)
        go_ret
        exact ⟨ret_bool hR.out, b0⟩
      · have HF := Lib.hid h
        go_wp2_with (go_at_call 36; refine (c_isCount _ _).mono ?_; rw [h]; rintro e w1 ⟨rfl, rfl⟩)
        go_round
        case rel => exact ⟨k + 1, by omega, by go_num, fun j hj => by
          rcases Nat.lt_or_ge j k with q | q
          · exact HA.out j q
          · have : j = k := by omega
            subst this; exact HF.out⟩
        case measure => simp [intOf]; omega
    · have hR := Lib.hid (boxB_last (f := f) (fun j hj => HA.out j (by omega)))
      go_wp2_with (go_at_call 36; refine (c_isCount _ _).mono ?_; rintro e w1 ⟨rfl, rfl⟩)
      go_ret
      exact ⟨ret_bool hR.out, b0⟩
end Go.Proofs.Ytomebnplmoflbaa
