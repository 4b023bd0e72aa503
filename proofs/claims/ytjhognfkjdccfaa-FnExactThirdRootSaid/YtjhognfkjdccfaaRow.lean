/-
  Rows of cells (arrays of one-cell elements) in a walk.
-/
import Derived.Test.YtjhognfkjdccfaaFw
namespace Go.Proofs.Ytjhognfkjdccfaa
open Go.RowKit Fl

/-- n cells -/
def row (n : Nat) (F : Nat → Value) : Array Value := (Array.range n).map F
@[go_sem] theorem row_size (n : Nat) (F : Nat → Value) : (row n F).size = n := by simp [row]
@[go_sem] theorem row_get {n i : Nat} (F : Nat → Value) (h : i < n) : (row n F)[i]? = some (F i) := by
  simp [row, h]
@[go_sem] theorem row_set (n i : Nat) (F : Nat → Value) (v : Value) : (row n F).setIfInBounds i v = row n (fun j => if j = i then v else F j) := by
  apply Array.ext
  · simp [row]
  · intro j h1 h2
    simp [row] at h1 h2
    rw [Array.getElem_setIfInBounds (by simpa [row] using h1)]
    by_cases h : j = i
    · subst h; simp [row]
    · rw [if_neg (by omega)]; simp [row, h]
theorem row_congr {n : Nat} {F G : Nat → Value} (h : ∀ j, j < n → F j = G j) : row n F = row n G := by
  apply Array.ext
  · simp [row]
  · intro j h1 h2
    simp [row] at h1 ⊢
    exact h j h1
theorem row_of (cs : Array Value) (n : Nat) (h : cs.size = n) (F : Nat → Value) (hF : ∀ j (hj : j < n), cs[j]'(by omega) = F j) : cs = row n F := by
  apply Array.ext
  · simp [row, h]
  · intro j h1 h2
    simp [row]
    exact hF j (by omega)

theorem z20 (v : Value) : #[v, v, v, v, v, v, v, v, v, v, v, v, v, v, v, v, v, v, v, v] = row 20 (fun _ => v) := by
  apply Array.ext
  · simp [row]
  · intro j h1 h2
    have h3 : j < 20 := by simpa using h1
    simp only [row, Array.getElem_map]
    rcases j with _ | _ | _ | _ | _ | _ | _ | _ | _ | _ | _ | _ | _ | _ | _ | _ | _ | _ | _ | _ | j <;> first | rfl | omega

/-- narrow numbers -/
def nf (f : Nat → Nat) : Nat → Value := fun j => .float .f32 (f j)
def ni (f : Nat → Int) : Nat → Value := fun j => .int .i64 (f j)

section
variable {P : Program}
/-- an element of an array by value -/
theorem run_index_row (t e : TypeId) (n : Nat) (F : Nat → Value) (i : Nat) (w : World) (ht : P.underlying t = some (.array n e)) (hs : (P.info? e).map (·.size) = some 1)
    (ha : (isAgg e).run P w = .ok false w) (hi : i < n) : (Instr.index t (.agg (row n F)) (.int .i64 i)).run P w = .ok (F i) w := by
  cases hq : P.info? e with
  | none => simp [hq] at hs
  | some x =>
    have hsz : x.size = 1 := by simpa [hq] using hs
    have h2 : (0 : Int) ≤ i ∧ (i : Int) < n := by omega
    simp [Instr.index, run_underlying ht, asIntOf, h2, go_sem, sizeOf, typeInfo, hq, hsz, part, ha, row_get F hi]
    intro h; omega
end
/-! ### a block known whole -/
/-- block g holds just these cells, none frozen -/
def Holds (w : World) (g : Nat) (t : TypeId) (cs : Array Value) : Prop := w.heap[g]? = some (.cells cs t (0, 0))

section
variable {w w' : World} {g : Nat} {t : TypeId} {cs : Array Value}
theorem Holds.lt (h : Holds w g t cs) : g < w.heap.size := by
  rcases Nat.lt_or_ge g w.heap.size with k | k
  · exact k
  · unfold Holds at h; rw [Array.getElem?_eq_none k] at h; cases h
theorem Holds.raw (h : Holds w g t cs) : w.heap[g]? = some (.cells cs t (0, 0)) := h
theorem Holds.cell (h : Holds w g t cs) (i : Nat) : w.cell? ⟨g, i, none⟩ = cs[i]? := cell_of_row w g i cs t (0, 0) h
theorem Holds.at_ {n : Nat} {F : Nat → Value} (h : Holds w g t (row n F)) {i : Nat} (hi : i < n) : w.cell? ⟨g, i, none⟩ = some (F i) := by rw [h.cell, row_get F hi]
theorem Holds.free (h : Holds w g t cs) (i : Nat) : w.frozen? ⟨g, i, none⟩ = false := frozen_of_row w g i cs t h
theorem Holds.new (w : World) (t : TypeId) (cs : Array Value) : Holds (w.alloc (.cells cs t)) w.heap.size t cs := heap_alloc_new w _
theorem Holds.new' (w : World) (t : TypeId) (cs : Array Value) (hg : g = w.heap.size) : Holds (w.alloc (.cells cs t)) g t cs := by subst hg; exact heap_alloc_new w _
theorem Holds.alloc (h : Holds w g t cs) (o : Obj) : Holds (w.alloc o) g t cs := (Below.heap_alloc w o g h.lt).trans h
theorem Holds.drewN (h : Holds w g t cs) (n : Nat) : Holds (w.drewN n) g t cs := h
theorem Holds.drew (h : Holds w g t cs) : Holds w.drew g t cs := h
theorem Holds.set_ (h : Holds w g t cs) (i : Nat) (v : Value) : Holds (w.setCell ⟨g, i, none⟩ v) g t (cs.setIfInBounds i v) := heap_setCell_same w g i cs t v h
theorem Holds.set_row {n : Nat} {F : Nat → Value} (h : Holds w g t (row n F)) (i : Nat) (v : Value) : Holds (w.setCell ⟨g, i, none⟩ v) g t (row n fun j => if j = i then v else F j) := by
  have := h.set_ i v
  rwa [row_set] at this
theorem Holds.far (h : Holds w g t cs) {a : Addr} (hne : g ≠ a.block) (v : Value) : Holds (w.setCell a v) g t cs := (Below.heap_setCell w a v g hne).trans h
theorem Holds.below {B : Nat} (h : Holds w g t cs) (hb : Below B w w') (hg : g < B) : Holds w' g t cs := (hb.block g hg).trans h
theorem Holds.keep (h : Holds w g t cs) (hb : Below w.heap.size w w') : Holds w' g t cs := h.below hb h.lt
theorem Holds.to {n : Nat} {F G : Nat → Value} (h : Holds w g t (row n F)) (hFG : ∀ j, j < n → F j = G j) : Holds w g t (row n G) := by rw [← row_congr hFG]; exact h
theorem Holds.row_ (h : Holds w g t cs) (cs' : Array Value) : Holds (w.setRow g cs') g t cs' := setRow_heap w g cs _ t _ h
theorem Holds.farRow (h : Holds w g t cs) {g' : Nat} (hne : g ≠ g') (cs' : Array Value) : Holds (w.setRow g' cs') g t cs := (setRow_other w g' g cs' hne).trans h
theorem below_setRow {B : Nat} {a w : World} (h : Below B a w) {g : Nat} (hg : B ≤ g) (cs : Array Value) : Below B a (w.setRow g cs) :=
  h.trans ⟨rfl, rfl, rfl, by simp, fun k hk => setRow_other w g k cs (by omega)⟩
end

@[go_sem] theorem run_store_float (P : Program) (w : World) (a : Addr) (m : Mode) (k : FloatKind) (n : Nat) : (store a (.float k n) m).run P w = stored P w a (.float k n) m := run_store P w a _ m rfl

section
variable {P : Program} {ops : Array Oper} {rest : List Oper} {o : Oper} {a : Act} {w : World} {Q : Exit → Act → World → Prop}
/-- a whole array read -/
theorem wl_load (T : TypeId) {n : Nat} {e : TypeId} (hT : P.underlying T = some (.array n e)) (hi : (P.info? T).map (·.size) = some n) (hgd : o.guard = none) (x : Operand) (ho : o.op = .load T x)
    {g : Nat} {t : TypeId} {F : Nat → Value} (hg : Holds w g t (row n F)) (hx : a.eval x = .pointer (some ⟨g, 0, none⟩))
    (h : wpList P ops Q rest (a.put o.dst (.agg (row n F))) w) : wpList P ops Q (o :: rest) a w :=
  wpList_load_row hgd T x ho g hx t (row n F) (0, 0) _ hg hT rfl (by rw [hi, row_size]) h
/-- a whole array written -/
theorem wl_store (T : TypeId) {n : Nat} (hi : (P.info? T).map (·.size) = some n) (hgd : o.guard = none) (x y : Operand) (ho : o.op = .store T x y)
    {g : Nat} {t : TypeId} {old : Array Value} {F : Nat → Value} (hg : Holds w g t old) (hn : old.size = n) (hx : a.eval x = .pointer (some ⟨g, 0, none⟩)) (hy : a.eval y = .agg (row n F)) (h1 : ∀ j, (F j).oneCell' = true)
    (h : wpList P ops Q rest (a.put o.dst undef) (w.setRow g (row n F))) : wpList P ops Q (o :: rest) a w :=
  wpList_store_row hgd T x y ho g (row n F) hx hy t old hg (by rw [hi, row_size]) (by rw [hn, row_size]) (by
    rw [Array.all_eq_true_iff_forall_mem]
    intro v hv
    simp only [row, Array.mem_map] at hv
    obtain ⟨j, _, rfl⟩ := hv
    exact h1 j) h
/-- a result that is an array in a cell -/
theorem ret_row {fn : Func} {p : Tmp} {T : TypeId} {n : Nat} {e : TypeId} {R : Ending → World → Prop} (hr : fn.results = #[.cell p T]) (hT : P.underlying T = some (.array n e)) (hi : (P.info? T).map (·.size) = some n)
    {g : Nat} {t : TypeId} {F : Nat → Value} (hg : Holds w g t (row n F)) (hp : a.tmps.getD p undef = .pointer (some ⟨g, 0, none⟩)) (hd : a.defers = []) (h : R (.returned (.agg (row n F))) w) : bodyPost P fn R .ret a w :=
  bodyPost_ret (results_cell_row hr a.tmps w g t (row n F) (0, 0) _ hp hg hT rfl (by rw [hi, row_size])) hd h
end
end Go.Proofs.Ytjhognfkjdccfaa
