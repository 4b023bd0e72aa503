/-
  Steps through regions that draw their order: whole loads, loads of a cell, stores to new cells.
-/
import Derived.Test.YtjhognfkjdccfaaMore
import Derived.Deep.RegionHeld3
namespace Go.Proofs.Ytjhognfkjdccfaa
open Go.RowKit Fl
set_option maxRecDepth 20000
section
variable {P : Program} {ops : Array Oper} {rest : List Oper} {o : Oper} {a : Act} {w : World} {Q : Exit → Act → World → Prop}
theorem wl_loadA (T : TypeId) {d : TypeDesc} (hT : P.underlying T = some d) (hd : (match d with | .struct _ | .array _ _ => true | _ => false) = true) (cs : Array Value) (hi : (P.info? T).map (·.size) = some cs.size) (hw : Region.wanted o (yielded ops a.tmps) = true) (x : Operand) (ho : o.op = .load T x)
    {g : Nat} {t : TypeId} (hg : Holds w g t cs) (hx : a.eval x = .pointer (some ⟨g, 0, none⟩))
    (h : wpList P ops Q rest (a.put o.dst (.agg cs)) w) : wpList P ops Q (o :: rest) a w :=
  wpList_step fun K hK => by
    rw [if_pos hw]
    exact wp_load_row T x ho g hx t cs (0, 0) _ hg hT hd hi (hK _ _ h)
theorem wl_storeA (T : TypeId) (hgd : o.guard = none) (x y : Operand) (ho : o.op = .store T x y) (cs : Array Value) (hi : (P.info? T).map (·.size) = some cs.size)
    {g : Nat} {t : TypeId} {old : Array Value} (hg : Holds w g t old) (hn : old.size = cs.size) (hx : a.eval x = .pointer (some ⟨g, 0, none⟩)) (hy : a.eval y = .agg cs) (h1 : cs.all (fun v => v.oneCell') = true)
    (h : wpList P ops Q rest (a.put o.dst undef) (w.setRow g cs)) : wpList P ops Q (o :: rest) a w :=
  wpList_store_row hgd T x y ho g cs hx hy t old hg hi hn h1 h
theorem wl_newA (T : TypeId) (hgd : o.guard = none) (x y : Operand) (ho : o.op = .store T x y) (cs : Array Value) (hi : (P.info? T).map (·.size) = some cs.size)
    {t : TypeId} {z : Array Value} (hn : z.size = cs.size) (hx : a.eval x = .pointer (some ⟨w.heap.size, 0, none⟩)) (hy : a.eval y = .agg cs) (h1 : cs.all (fun v => v.oneCell') = true)
    (h : ∀ w2, Below w.heap.size w w2 → Holds w2 w.heap.size t cs → wpList P ops Q rest (a.put o.dst undef) w2) : wpList P ops Q (o :: rest) a (w.alloc (.cells z t)) :=
  wl_storeA T hgd x y ho cs hi (Holds.new w t z) hn hx hy h1 (h _ (below_setRow ((Below.refl _ _).alloc (Nat.le_refl _) _) (Nat.le_refl _) _) ((Holds.new w t z).row_ _))
theorem wl_newh (T : TypeId) (hgd : o.guard = none) (x y : Operand) (ho : o.op = .store T x y) (cs : Array Value) (hi : (P.info? T).map (·.size) = some cs.size)
    {t : TypeId} {z : Array Value} {g : Nat} {w1 : World} (hn : z.size = cs.size) (hx : a.eval x = .pointer (some ⟨g, 0, none⟩)) (hg : g = w1.heap.size) (hy : a.eval y = .agg cs) (h1 : cs.all (fun v => v.oneCell') = true)
    (h : ∀ w2, Below w1.heap.size w1 w2 → Holds w2 g t cs → wpList P ops Q rest (a.put o.dst undef) w2) : wpList P ops Q (o :: rest) a (w1.alloc (.cells z t)) := by
  subst hg
  exact wl_newA T hgd x y ho cs hi hn hx hy h1 h
/-- results that lie in cells -/
theorem ret_A {fn : Func} {p : Tmp} {T : TypeId} {d : TypeDesc} {R : Ending → World → Prop} (hr : fn.results = #[.cell p T]) (hT : P.underlying T = some d) (hd' : (match d with | .struct _ | .array _ _ => true | _ => false) = true) (cs : Array Value) (hi : (P.info? T).map (·.size) = some cs.size)
    {g : Nat} {t : TypeId} (hg : Holds w g t cs) (hp : a.tmps.getD p undef = .pointer (some ⟨g, 0, none⟩)) (hd : a.defers = []) (h : R (.returned (.agg cs)) w) : bodyPost P fn R .ret a w :=
  bodyPost_ret (results_cell_row hr a.tmps w g t cs (0, 0) _ hp hg hT hd' hi) hd h
theorem ret_A2 {fn : Func} {p t1 : Tmp} {T : TypeId} {d : TypeDesc} {R : Ending → World → Prop} (hr : fn.results = #[.cell p T, .tmp t1]) (hT : P.underlying T = some d) (hd' : (match d with | .struct _ | .array _ _ => true | _ => false) = true) (cs : Array Value) (hi : (P.info? T).map (·.size) = some cs.size)
    {g : Nat} {t : TypeId} (hg : Holds w g t cs) (hp : a.tmps.getD p undef = .pointer (some ⟨g, 0, none⟩)) (hd : a.defers = []) (h : R (.returned (.tuple #[.agg cs, a.tmps.getD t1 undef])) w) : bodyPost P fn R .ret a w :=
  bodyPost_ret (run_results2 hr a.tmps w g t cs (0, 0) _ hp hg hT hd' hi) hd h
end
section
variable {P : Program} {ops : Array Oper} {S : World → Prop} {op : Oper} {a : Act}
theorem y_loadA (T : TypeId) {d : TypeDesc} (hT : P.underlying T = some d) (hd : (match d with | .struct _ | .array _ _ => true | _ => false) = true) (cs : Array Value) (hi : (P.info? T).map (·.size) = some cs.size) (hw : Region.wanted op (yielded ops a.tmps) = true) (x : Operand) (ho : op.op = .load T x)
    {g : Nat} {t : TypeId} (hx : a.eval x = .pointer (some ⟨g, 0, none⟩)) (hS : ∀ w, S w → Holds w g t cs) : YieldsIf P ops S op (.agg cs) a :=
  .inl ⟨hw, fun w h => by
    unfold execOp
    simp only [ho, hx, Instr.loadAt, Instr.sureAddr, Sem.run_bind, Sem.run_pure, Result.andThen_ok, run_loadVar_row w g t T cs (0, 0) _ (hS w h) hT hd hi]⟩
theorem takeA {md : Region.Mode} {Q : Exit → Act → World → Prop} {i : Nat} {oi : Oper} {d : Option Tmp} {v : Value} {fuel : Nat} {listed : Array Bool} {w : World} (hi : ops[i]? = some oi) (hd : oi.dst = d)
    (hs : Region.noSelect ops = true) (hf : Region.free md ops listed i = true) (hr : (Region.ready md ops listed).contains i = true)
    (hQ : ∀ c a w, Q (.panic c) (a.put oi.dst v) w → Q (.panic c) a w) (hy : YieldsIf P ops S oi v a) (hS : S w)
    (h : wpAnyH P md ops Q S fuel (listed.setIfInBounds i true) (a.put d v) w) : wpAnyH P md ops Q S (fuel + 1) listed a w :=
  wpAnyH_take hi hs hf hr hQ hy hS (by rw [hd]; exact h)
theorem wp_storeA {w : World} {K : Act → World → Prop} {Q : Exit → Act → World → Prop} (T : TypeId) (x y : Operand) (ho : op.op = .store T x y) (cs : Array Value) (hi : (P.info? T).map (·.size) = some cs.size)
    {g : Nat} {t : TypeId} {old : Array Value} (hg : Holds w g t old) (hn : old.size = cs.size) (hx : a.eval x = .pointer (some ⟨g, 0, none⟩)) (hy : a.eval y = .agg cs) (h1 : cs.all (fun v => v.oneCell') = true)
    (h : K (a.put op.dst undef) (w.setRow g cs)) : op.wp P a w K Q :=
  wp_store_row T x y ho g cs hx hy t old hg hi hn h1 h
end
theorem rowf_one (f : Nat → Nat) : (row 20 fun j => Value.float .f32 (f j)).all (fun v => v.oneCell') = true := by
  rw [Array.all_eq_true_iff_forall_mem]
  intro v hv
  simp only [row, Array.mem_map] at hv
  obtain ⟨j, _, rfl⟩ := hv
  rfl
end Go.Proofs.Ytjhognfkjdccfaa
