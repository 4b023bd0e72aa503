/-
  The walk over two sizes.
-/
import Derived.Test.YtlmkcppmmggjaaaSame
namespace Go.Proofs.Ytlmkcppmmggjaaa
open Go.RowKit Fl
set_option linter.unusedSimpArgs false
theorem row_list (F : Nat → Value) : ∃ L : List Value, row 20 F = L.toArray ∧ L.length = 20 := ⟨(row 20 F).toList, by simp, by simp [row_size]⟩
theorem walk_FnExactSameSizes (f : Nat → Nat) (hf : ∀ j, f j < 4294967296) (g : Nat → Nat) (hg : ∀ j, g j < 4294967296) (w : World) :
    Calls Try.prog 11 #[.agg (row 20 fun j => .float .f32 (f j)), .agg (row 20 fun j => .float .f32 (g j))] w fun e w' => e = .returned (.bool true) ∧ Below w.heap.size w w' := by
  have hs : (allSame 20 f g != allSame 20 f g) = false := by simp
  have HA := Lib.hid (fun w => c_toSizes f w)
  have HB := Lib.hid (fun w => c_toSizes g w)
  have HC := Lib.hid (fun w => c_specSameSizes f g hf hg w)
  have HD := Lib.hid (fun w => c_SameSizes f g hf hg w)
  obtain ⟨L1, hL1, hn1⟩ : ∃ L : List Value, row 20 (fun j => Value.float .f32 (f j)) = L.toArray ∧ L.length = 20 := row_list _
  obtain ⟨L2, hL2, hn2⟩ : ∃ L : List Value, row 20 (fun j => Value.float .f32 (g j)) = L.toArray ∧ L.length = 20 := row_list _
  rw [hL1] at HA HC HD ⊢
  rw [hL2] at HB HC HD ⊢
  have u := Try.underlying48
  have i1 : (Try.prog.info? 48).map (·.size) = some L1.length := by rw [hn1]; exact info_a20
  have i2 : (Try.prog.info? 48).map (·.size) = some L2.length := by rw [hn2]; exact info_a20
  clear hf hg hL1 hL2
  go_enter Try.func11, Try.ntmps11
  go_wp2
  obtain ⟨w0, hw0⟩ : ∃ w0 : World, w0 = (w.alloc (Obj.cells L1.toArray 48)).alloc (Obj.cells L2.toArray 48) := ⟨_, rfl⟩
  rw [← hw0]
  have S0 : (w0.drew.rangeAt w.heap.size 0 L1 ∧ w0.drew.rangeAt (w.heap.size + 1) 0 L2 ∧ w.heap.size + 1 < w0.drew.heap.size ∧ Below w.heap.size w w0.drew) := by
    rw [hw0]
    refine ⟨fun j v hv => ?_, fun j v hv => ?_, by simp, (((Below.refl _ _).alloc (by simp) _).alloc (by simp) _).drew⟩
    · rw [Nat.zero_add]; exact (((Holds.new w _ _).alloc _).cell j).trans (by simpa using hv)
    · rw [Nat.zero_add]; exact ((Holds.new' (g := w.heap.size + 1) _ _ _ (by simp)).cell j).trans (by simpa using hv)
  clear hw0
  have KEEP : ∀ x y : World, Below x.heap.size x y → (x.rangeAt w.heap.size 0 L1 ∧ x.rangeAt (w.heap.size + 1) 0 L2 ∧ w.heap.size + 1 < x.heap.size ∧ Below w.heap.size w x) → (y.rangeAt w.heap.size 0 L1 ∧ y.rangeAt (w.heap.size + 1) 0 L2 ∧ w.heap.size + 1 < y.heap.size ∧ Below w.heap.size w y) := by
    intro x y h ⟨e0, e1, z, b⟩
    exact ⟨fun j v hv => (h.cell (by simp; omega)).trans (e0 j v hv), fun j v hv => (h.cell (by simp; omega)).trans (e1 j v hv), by have := h.size; omega, b.trans (h.mono b.size)⟩
  have KEEP' := Lib.hid KEEP
  clear KEEP
  have FIN := Lib.hid (fun (x : World) (h : (x.rangeAt w.heap.size 0 L1 ∧ x.rangeAt (w.heap.size + 1) 0 L2 ∧ w.heap.size + 1 < x.heap.size ∧ Below w.heap.size w x)) => h.2.2.2)
  refine wp_region_held_drew (S := (fun x => x.rangeAt w.heap.size 0 L1 ∧ x.rangeAt (w.heap.size + 1) 0 L2 ∧ w.heap.size + 1 < x.heap.size ∧ Below w.heap.size w x)) (by kernel_rfl) (S0) (fun hH => ?_)
  refine wpAnyH_take (i := 0) (v := .agg L1.toArray) rfl (by kernel_rfl) (by kernel_rfl) (by kernel_rfl) (fun _ _ _ h => h) (yieldsIf_load_mid (by rfl) _ _ rfl _ 0 rfl L1 _ (fun x hx => hx.1) u rfl i1) (by assumption) ?_
  try simp only [Act.put, List.setIfInBounds_toArray, List.set_cons_zero, List.set_cons_succ]
  refine wpAnyH_take (i := 2) (v := .agg L2.toArray) rfl (by kernel_rfl) (by kernel_rfl) (by kernel_rfl) (fun _ _ _ h => h) (yieldsIf_load_mid (by rfl) _ _ rfl _ 0 rfl L2 _ (fun x hx => hx.2.1) u rfl i2) (by assumption) ?_
  try simp only [Act.put, List.setIfInBounds_toArray, List.set_cons_zero, List.set_cons_succ]
  refine wpAnyH_ready (rs := [1]) (by kernel_rfl) (by simp) (AllReadyH.cons rfl (fun K hK => ?_) AllReadyH.nil)
  go_simp
  (with_reducible refine (HA.out _).mono ?_)
  rintro e w1 ⟨rfl, hb1⟩
  go_simp
  refine hK.out _ _ (KEEP'.out _ _ hb1 hH) (fun hH => ?_)
  clear hK K
  try simp only [Act.put, List.setIfInBounds_toArray, List.set_cons_zero, List.set_cons_succ]
  refine wpAnyH_ready (rs := [3]) (by kernel_rfl) (by simp) (AllReadyH.cons rfl (fun K hK => ?_) AllReadyH.nil)
  go_simp
  (with_reducible refine (HB.out _).mono ?_)
  rintro e w1 ⟨rfl, hb1⟩
  go_simp
  refine hK.out _ _ (KEEP'.out _ _ hb1 hH) (fun hH => ?_)
  clear hK K
  try simp only [Act.put, List.setIfInBounds_toArray, List.set_cons_zero, List.set_cons_succ]
  refine wpAnyH_ready (rs := [4]) (by kernel_rfl) (by simp) (AllReadyH.cons rfl (fun K hK => ?_) AllReadyH.nil)
  go_simp
  (with_reducible refine (HC.out _).mono ?_)
  rintro e w1 ⟨rfl, hb1⟩
  go_simp
  refine hK.out _ _ (KEEP'.out _ _ hb1 hH) (fun hH => ?_)
  clear hK K
  try simp only [Act.put, List.setIfInBounds_toArray, List.set_cons_zero, List.set_cons_succ]
  refine wpAnyH_ready (rs := [5]) (by kernel_rfl) (by simp) (AllReadyH.cons rfl (fun K hK => ?_) AllReadyH.nil)
  go_simp
  refine hK.out _ _ hH (fun hH => ?_)
  clear hK K
  try simp only [Act.put, List.setIfInBounds_toArray, List.set_cons_zero, List.set_cons_succ]
  refine wpAnyH_done (by kernel_rfl) ?_ _
  go_wp2
  refine wp_region_held_drew (S := (fun x => x.rangeAt w.heap.size 0 L1 ∧ x.rangeAt (w.heap.size + 1) 0 L2 ∧ w.heap.size + 1 < x.heap.size ∧ Below w.heap.size w x)) (by kernel_rfl) (KEEP'.out _ _ ((Below.refl _ _).drew) hH) (fun hH => ?_)
  refine wpAnyH_take (i := 0) (v := .agg L1.toArray) rfl (by kernel_rfl) (by kernel_rfl) (by kernel_rfl) (fun _ _ _ h => h) (yieldsIf_load_mid (by rfl) _ _ rfl _ 0 rfl L1 _ (fun x hx => hx.1) u rfl i1) (by assumption) ?_
  try simp only [Act.put, List.setIfInBounds_toArray, List.set_cons_zero, List.set_cons_succ]
  refine wpAnyH_take (i := 2) (v := .agg L2.toArray) rfl (by kernel_rfl) (by kernel_rfl) (by kernel_rfl) (fun _ _ _ h => h) (yieldsIf_load_mid (by rfl) _ _ rfl _ 0 rfl L2 _ (fun x hx => hx.2.1) u rfl i2) (by assumption) ?_
  try simp only [Act.put, List.setIfInBounds_toArray, List.set_cons_zero, List.set_cons_succ]
  refine wpAnyH_ready (rs := [1]) (by kernel_rfl) (by simp) (AllReadyH.cons rfl (fun K hK => ?_) AllReadyH.nil)
  go_simp
  (with_reducible refine (HA.out _).mono ?_)
  rintro e w1 ⟨rfl, hb1⟩
  go_simp
  refine hK.out _ _ (KEEP'.out _ _ hb1 hH) (fun hH => ?_)
  clear hK K
  try simp only [Act.put, List.setIfInBounds_toArray, List.set_cons_zero, List.set_cons_succ]
  refine wpAnyH_ready (rs := [3]) (by kernel_rfl) (by simp) (AllReadyH.cons rfl (fun K hK => ?_) AllReadyH.nil)
  go_simp
  (with_reducible refine (HB.out _).mono ?_)
  rintro e w1 ⟨rfl, hb1⟩
  go_simp
  refine hK.out _ _ (KEEP'.out _ _ hb1 hH) (fun hH => ?_)
  clear hK K
  try simp only [Act.put, List.setIfInBounds_toArray, List.set_cons_zero, List.set_cons_succ]
  refine wpAnyH_ready (rs := [4]) (by kernel_rfl) (by simp) (AllReadyH.cons rfl (fun K hK => ?_) AllReadyH.nil)
  go_simp
  (with_reducible refine (HD.out _).mono ?_)
  rintro e w1 ⟨rfl, hb1⟩
  go_simp
  refine hK.out _ _ (KEEP'.out _ _ hb1 hH) (fun hH => ?_)
  clear hK K
  try simp only [Act.put, List.setIfInBounds_toArray, List.set_cons_zero, List.set_cons_succ]
  refine wpAnyH_ready (rs := [5]) (by kernel_rfl) (by simp) (AllReadyH.cons rfl (fun K hK => ?_) AllReadyH.nil)
  go_simp
  refine hK.out _ _ hH (fun hH => ?_)
  clear hK K
  try simp only [Act.put, List.setIfInBounds_toArray, List.set_cons_zero, List.set_cons_succ]
  refine wpAnyH_done (by kernel_rfl) ?_ _
  go_wp2
  go_ret
  exact ⟨rfl, FIN.out _ hH⟩
end Go.Proofs.Ytlmkcppmmggjaaa
