/-
  Contracts and walks: the water of the greater classes.
-/
import Derived.Test.YtocjhackncfjpaaMore
import Derived.Laws.CopyOwn
import Derived.Deep.RegionHeld3
namespace Go.Proofs.Ytocjhackncfjpaa
open Go.RowKit Fl
set_option maxRecDepth 20000
set_option maxHeartbeats 400000

section
variable {P : Program} {ops : Array Oper} {rest : List Oper} {o : Oper} {a : Act} {Q : Exit → Act → World → Prop}
theorem wl_newg (T : TypeId) {n : Nat} (hi : (P.info? T).map (·.size) = some n) (hgd : o.guard = none) (x y : Operand) (ho : o.op = .store T x y) {w1 : World} {t : TypeId} {z : Array Value} {F : Nat → Value} {g : Nat} (hn : z.size = n)
    (hx : a.eval x = .pointer (some ⟨g, 0, none⟩)) (hg : g = w1.heap.size) (hy : a.eval y = .agg (row n F)) (h1 : ∀ j, (F j).oneCell' = true)
    (h : ∀ w2, Below w1.heap.size w1 w2 → Holds w2 g t (row n F) → wpList P ops Q rest (a.put o.dst undef) w2) : wpList P ops Q (o :: rest) a (w1.alloc (.cells z t)) := by
  subst hg
  exact wl_new T hi hgd x y ho hn hx hy h1 h
end
/-- the numbers of some classes alone -/
def btw (f : Nat → Nat) (a b : Nat) : Nat → Nat := fun j => if a ≤ j ∧ j ≤ b then f j else 0
theorem zrow_list : (row 20 fun _ => Value.float .f32 0) = (List.replicate 20 (Value.float .f32 0)).toArray := by
  rw [← z20]; rfl
theorem btw_splice (f : Nat → Nat) (a b : Nat) (hab : a ≤ b) (hb : b < 20) : (splice (List.replicate 20 (Value.float .f32 0)) a ((List.range (b + 1 - a)).map fun j => Value.float .f32 (f (a + j)))).toArray = row 20 (fun j => .float .f32 (btw f a b j)) := by
  have hl : (splice (List.replicate 20 (Value.float .f32 0)) a ((List.range (b + 1 - a)).map fun j => Value.float .f32 (f (a + j)))).length = 20 := by
    rw [length_splice _ _ _ (by simp; omega)]; simp
  refine row_of _ 20 (by simpa using hl) _ fun j hj => ?_
  simp only [List.getElem_toArray, splice]
  unfold btw
  rcases Nat.lt_or_ge j a with q | q
  · rw [List.getElem_append_left (by simp; omega), if_neg (by omega)]; simp only [List.getElem_take, List.getElem_replicate]
  · rw [List.getElem_append_right (by simp; omega)]
    rcases Nat.lt_or_ge b j with q2 | q2
    · rw [List.getElem_append_right (by simp; omega), if_neg (by omega)]; simp only [List.getElem_drop, List.getElem_replicate]
    · rw [List.getElem_append_left (by simp; omega), if_pos (by omega)]
      simp only [List.getElem_map, List.getElem_range, List.length_take, List.length_replicate]
      congr 2; omega
theorem btw_ok {f : Nat → Nat} (h : okB f = true) (a b : Nat) : okB (btw f a b) = true := okB_true fun j hj => by
  unfold btw; split
  · exact of_okB h j hj
  · rfl
theorem pr_nil {f : Nat → Nat} (k : Nat) (hk : k < 20) (h0 : f k = 0) : pr f k = 0 := by
  obtain ⟨r, h1, h2⟩ := mul_pos FloatKind.f32.format (fmt_ok .f32).1 0 (mb k) (by decide) (mb_fin k hk).1
  obtain ⟨_, h4⟩ := fok_of (op := .mul) (k := .f32) (x := 0) (y := mb k) h1
  unfold pr
  rw [h0, h4]
  have e : r = 0 := by
    have h3 := IsRnd.exact FloatKind.f32.format 0
    rw [sv_zero] at h3 h2
    refine h2.unique ?_
    have : ((0 : Nat) : Rat) * (sv FloatKind.f32.format (mb k) : Rat) * 2 ^ FloatKind.f32.format.leastPlace = ((0 : Nat) : Rat) := by simp
    rw [this]; exact h3
  rw [e]; rfl
theorem wat_low {f : Nat → Nat} (a b : Nat) : ∀ j, j < a → j < 20 → wat (btw f a b) 0 j = 0
  | 0, h, _ => pr_nil 0 (by omega) (by unfold btw; rw [if_neg (by omega)])
  | j + 1, h, h2 => by
    show fv .add .f32 (wat (btw f a b) 0 j) (pr (btw f a b) (0 + (j + 1))) = 0
    rw [wat_low a b j (by omega) (by omega), pr_nil (0 + (j + 1)) (by omega) (by unfold btw; rw [if_neg (by omega)])]
    exact zero_add32 (by omega)
theorem pr_btw {f : Nat → Nat} (a k : Nat) (h1 : a ≤ k) (h2 : k ≤ 19) : pr (btw f a 19) k = pr f k := by
  unfold pr btw; rw [if_pos ⟨h1, h2⟩]
theorem wat_high {f : Nat → Nat} (hf : okB f = true) (a : Nat) (ha : a < 20) : ∀ j, a + j < 20 → wat (btw f a 19) 0 (a + j) = wat f a j
  | 0, h => by
    show wat (btw f a 19) 0 a = pr f a
    rcases a with _ | a
    · exact pr_btw 0 0 (by omega) (by omega)
    · show fv .add .f32 (wat (btw f (a + 1) 19) 0 a) (pr (btw f (a + 1) 19) (0 + (a + 1))) = _
      rw [wat_low (a + 1) 19 a (by omega) (by omega), show 0 + (a + 1) = a + 1 by omega, pr_btw (a + 1) (a + 1) (by omega) (by omega)]
      exact zero_add32 (pr_ok hf (a + 1) ha).2
  | j + 1, h => by
    show fv .add .f32 (wat (btw f a 19) 0 (a + j)) (pr (btw f a 19) (0 + (a + j + 1))) = fv .add .f32 (wat f a j) (pr f (a + (j + 1)))
    rw [wat_high hf a ha j (by omega), show 0 + (a + j + 1) = a + (j + 1) by omega, pr_btw a (a + (j + 1)) (by omega) (by omega)]
theorem wat_all {f : Nat → Nat} (hf : okB f = true) (a : Nat) (ha : a < 20) : wat (btw f a 19) 0 19 = wat f a (19 - a) := by
  have := wat_high hf a ha (19 - a) (by omega)
  rw [show a + (19 - a) = 19 by omega] at this; exact this
def leastR (f : Nat → Nat) (n : Int) : Value := if okB f then (if inB n 0 19 then toldR (wat f n.toNat (19 - n.toNat)) else .tuple #[.float .f32 0, .int .i64 2]) else .tuple #[.float .f32 0, .int .i64 1]
theorem least_form (f : Nat → Nat) (n : Int) : ∃ (x : Nat) (c : Int), leastR f n = .tuple #[.float .f32 x, .int .i64 c] ∧ cvok x = true ∧ num FloatKind.f64.format (cv x) := by
  unfold leastR
  split
  · rename_i h1; split
    · rename_i h2
      obtain ⟨k, rfl, hk⟩ := inB19 h2
      exact toldR_form _ (le_inf _ (wat_ok h1 k (19 - k) (by omega)))
    · exact pairF_form _ _ (by omega)
  · exact pairF_form _ _ (by omega)
theorem c_between (f : Nat → Nat) (a b : Nat) (hab : a ≤ b) (hb : b < 20) (w : World) : Calls Try.prog 47 #[.agg (row 20 fun j => .float .f32 (f j)), .int .i64 a, .int .i64 b] w fun e w' => e = .returned (.agg (row 20 fun j => .float .f32 (btw f a b j))) ∧ Below w.heap.size w w' := by
  have g0 : Holds ((w.alloc (.cells (row 20 fun j => .float .f32 (f j)) 24)).alloc (.cells #[.float .f32 0, .float .f32 0, .float .f32 0, .float .f32 0, .float .f32 0, .float .f32 0, .float .f32 0, .float .f32 0, .float .f32 0, .float .f32 0, .float .f32 0, .float .f32 0, .float .f32 0, .float .f32 0, .float .f32 0, .float .f32 0, .float .f32 0, .float .f32 0, .float .f32 0, .float .f32 0] 24)) w.heap.size 24 (row 20 fun j => .float .f32 (f j)) := (Holds.new _ _ _).alloc _
  have g1 : Holds ((w.alloc (.cells (row 20 fun j => .float .f32 (f j)) 24)).alloc (.cells #[.float .f32 0, .float .f32 0, .float .f32 0, .float .f32 0, .float .f32 0, .float .f32 0, .float .f32 0, .float .f32 0, .float .f32 0, .float .f32 0, .float .f32 0, .float .f32 0, .float .f32 0, .float .f32 0, .float .f32 0, .float .f32 0, .float .f32 0, .float .f32 0, .float .f32 0, .float .f32 0] 24)) (w.heap.size + 1) 24 (row 20 fun _ => .float .f32 0) := by rw [zrow_eq]; exact Holds.new' _ _ _ (by simp)
  have b0 : Below w.heap.size w ((w.alloc (.cells (row 20 fun j => .float .f32 (f j)) 24)).alloc (.cells #[.float .f32 0, .float .f32 0, .float .f32 0, .float .f32 0, .float .f32 0, .float .f32 0, .float .f32 0, .float .f32 0, .float .f32 0, .float .f32 0, .float .f32 0, .float .f32 0, .float .f32 0, .float .f32 0, .float .f32 0, .float .f32 0, .float .f32 0, .float .f32 0, .float .f32 0, .float .f32 0] 24)) := ((Below.refl _ _).alloc (by simp) _).alloc (by simp) _
  have hw1 : IntKind.i64.wrap ((b : Int) + 1) = (b : Int) + 1 := IntWalk.i64_in _ (by omega)
  have hi0 : (0 : Int) ≤ (a : Int) := by omega
  have hi1 : (a : Int) ≤ (b : Int) + 1 := by omega
  have hi2 : (b : Int) + 1 ≤ 20 := by omega
  have hi3 : (0 : Int) ≤ (b : Int) + 1 := by omega
  obtain ⟨cs, hcs⟩ : ∃ cs, cs = (List.range (b + 1 - a)).map fun j => Value.float .f32 (f (a + j)) := ⟨_, rfl⟩
  have hcl : cs.length = b + 1 - a := by rw [hcs]; simp
  have HCS := Lib.hid hcs
  have HCL := Lib.hid hcl
  clear hcs hcl
  go_enter Try.func47, Try.ntmps47
  go_wp2_with ((refine wl_newg 24 info_sizes rfl (.tmp 7) (.tmp 8) rfl rfl rfl (by simp) (congrArg Value.agg zrow_eq) (fun _ => rfl) ?_; intro w2 hb2 g2; have g0 := g0.keep hb2; have g1 := g1.keep hb2; have b0 := b0.trans (hb2.mono b0.size); clear hb2))
  rw [zrow_list] at g2
  have B1 := (Below.refl (w.heap.size + 1 + 1) w2).drew
  have HSRC := Lib.hid (show ∀ j v, cs[j]? = some v → w2.drew.cell? ((⟨w.heap.size, a, none⟩ : Addr).add j) = some v from fun j v hv => by
    rw [HCS.out] at hv
    have hj : j < b + 1 - a := by
      rcases Nat.lt_or_ge j (b + 1 - a) with q | q
      · exact q
      · rw [List.getElem?_eq_none (by simpa using q)] at hv; cases hv
    simp [hj] at hv
    subst hv
    have h := g0.drew.at_ (i := a + j) (by omega)
    rcases Nat.eq_zero_or_pos j with q | q
    · subst q; simpa [Addr.add] using h
    · have q2 : ¬ (j = 0) := by omega
      simpa [Addr.add, q2] using h)
  have H1C := Lib.hid (show ∀ v ∈ cs, v.oneCell' = true from fun v hv => by
    rw [HCS.out] at hv
    simp only [List.mem_map] at hv
    obtain ⟨i, _, rfl⟩ := hv
    rfl)
  have hne : ¬ (20 = a) := by omega
  go_region_law ((refine step_copy_splice rfl (.tmp 12) (.tmp 16) 58 58 rfl 22 Try.underlying58 info_f32 (some ⟨w.heap.size + 1 + 1, a, none⟩) (some ⟨w.heap.size, a, none⟩) (b + 1 - a) (20 - a) (b + 1 - a) (20 - a) (by simp [Act.eval, Act.put]) (by simp [Act.eval, Act.put]) (w.heap.size + 1 + 1) a (List.replicate 20 (Value.float .f32 0)) 24 g2 cs (by rw [HCL.out]; simp) (fun _ => ⟨rfl, ⟨w.heap.size, a, none⟩, rfl, HSRC.out⟩) (by rw [HCL.out]; simp; omega) H1C.out (w.heap.size + 1 + 1) w2 B1 (Nat.le_refl _) ?_; intro w4 hg4 hb4))
  have g2 : Holds w4 (w.heap.size + 1 + 1) 24 (row 20 fun j => .float .f32 (btw f a b j)) := by
    have h := hg4.out
    rw [HCS.out, btw_splice f a b hab hb] at h
    exact h
  have g1 := g1.below hb4 (by omega)
  have b0 := b0.trans (hb4.mono (by omega))
  go_wp2_with (first | (refine wl_load 24 Try.underlying24 info_sizes rfl _ rfl g2 rfl ?_) | (refine wl_store 24 info_sizes rfl _ _ rfl g1 (row_size _ _) rfl rfl (fun _ => rfl) ?_))
  exact ret_row rfl Try.underlying24 info_sizes (g1.row_ _) rfl rfl ⟨rfl, below_setRow b0 (by omega) _⟩
theorem c_specAtLeast (f : Nat → Nat) (hf : ∀ j, f j < 4294967296) (n : Int) (w : World) : Calls Try.prog 26 #[.agg (row 20 fun j => .float .f32 (f j)), .int .i64 n] w fun e w' => e = .returned (leastR f n) ∧ Below w.heap.size w w' := by
  have g0 := Holds.new w 24 (row 20 fun j => .float .f32 (f j))
  have b0 : Below w.heap.size w (w.alloc (.cells (row 20 fun j => .float .f32 (f j)) 24)) := (Below.refl _ _).alloc (by simp) _
  cases hf1 : okB f
  · have hR := Lib.hid (show leastR f n = .tuple #[.float .f32 0, .int .i64 1] by simp [leastR, hf1])
    go_enter Try.func26, Try.ntmps26
    go_wp2_with (first | (refine wl_load 24 Try.underlying24 info_sizes rfl _ rfl g0 rfl ?_) | (go_at_call 30; refine (c_l01Ok f hf _ _ _ g0).mono ?_; rw [hf1]; rintro e w1 ⟨rfl, hdr⟩; have hb := drew_below hdr; clear hdr; have g0 := g0.keep hb; have b0 := b0.trans (hb.mono b0.size); clear hb))
    go_ret2
    exact ⟨by rw [hR.out]; rfl, b0⟩
  cases hf2 : inB n 0 19
  · have hR := Lib.hid (show leastR f n = .tuple #[.float .f32 0, .int .i64 2] by simp [leastR, hf1, hf2])
    go_enter Try.func26, Try.ntmps26
    go_wp2_with (first | (refine wl_load 24 Try.underlying24 info_sizes rfl _ rfl g0 rfl ?_) | (go_at_call 30; refine (c_l01Ok f hf _ _ _ g0).mono ?_; rw [hf1]; rintro e w1 ⟨rfl, hdr⟩; have hb := drew_below hdr; clear hdr; have g0 := g0.keep hb; have b0 := b0.trans (hb.mono b0.size); clear hb) | (go_at_call 31; refine (c_l01Class _ _).mono ?_; rw [hf2]; rintro e w1 ⟨rfl, rfl⟩))
    go_ret2
    exact ⟨by rw [hR.out]; rfl, b0⟩
  obtain ⟨k, rfl, hk⟩ := inB19 hf2
  have hle := wat_ok hf1 k (19 - k) (by omega)
  have hR := Lib.hid (show leastR f k = toldR (wat f k (19 - k)) by simp [leastR, hf1, hf2])
  obtain ⟨x, c, hx, _, _⟩ := toldR_form (wat f k (19 - k)) (le_inf _ hle)
  have HT := Lib.hid hx
  clear hx
  go_enter Try.func26, Try.ntmps26
  go_wp2_with (first | (refine wl_load 24 Try.underlying24 info_sizes rfl _ rfl g0 rfl ?_) | (go_at_call 30; refine (c_l01Ok f hf _ _ _ g0).mono ?_; rw [hf1]; rintro e w1 ⟨rfl, hdr⟩; have hb := drew_below hdr; clear hdr; have g0 := g0.keep hb; have b0 := b0.trans (hb.mono b0.size); clear hb) | (go_at_call 31; refine (c_l01Class _ _).mono ?_; rw [hf2]; rintro e w1 ⟨rfl, rfl⟩) | (go_at_call 42; refine (c_l01Water f hf1 k hk _ _ _ g0).mono ?_; rintro e w1 ⟨rfl, hdr⟩; have hb := drew_below hdr; clear hdr; have g0 := g0.keep hb; have b0 := b0.trans (hb.mono b0.size); clear hb) | (go_at_call 36; refine (c_l01Told _ (le_inf _ hle) _).mono ?_; rw [HT.out]; rintro e w1 ⟨rfl, hdr⟩; have hb := drew_below hdr; clear hdr; have g0 := g0.keep hb; have b0 := b0.trans (hb.mono b0.size); clear hb))
  go_ret2
  exact ⟨by rw [hR.out, HT.out]; rfl, b0⟩
theorem c_implAtLeast (f : Nat → Nat) (hf : ∀ j, f j < 4294967296) (n : Int) (w : World) : Calls Try.prog 27 #[.agg (row 20 fun j => .float .f32 (f j)), .int .i64 n] w fun e w' => e = .returned (leastR f n) ∧ Below w.heap.size w w' := by
  have g0 := Holds.new w 24 (row 20 fun j => .float .f32 (f j))
  have b0 : Below w.heap.size w (w.alloc (.cells (row 20 fun j => .float .f32 (f j)) 24)) := (Below.refl _ _).alloc (by simp) _
  cases hf1 : okB f
  · have hR := Lib.hid (show leastR f n = .tuple #[.float .f32 0, .int .i64 1] by simp [leastR, hf1])
    go_enter Try.func27, Try.ntmps27
    go_wp2_with (first | (refine wl_load 24 Try.underlying24 info_sizes rfl _ rfl g0 rfl ?_) | (go_at_call 33; refine (c_ValidSizes f hf _).mono ?_; rw [hf1]; rintro e w1 ⟨rfl, hb⟩; have g0 := g0.keep hb; have b0 := b0.trans (hb.mono b0.size); clear hb))
    go_ret2
    exact ⟨by rw [hR.out]; rfl, b0⟩
  cases hf2 : inB n 0 19
  · have hR := Lib.hid (show leastR f n = .tuple #[.float .f32 0, .int .i64 2] by simp [leastR, hf1, hf2])
    go_enter Try.func27, Try.ntmps27
    go_wp2_with (first | (refine wl_load 24 Try.underlying24 info_sizes rfl _ rfl g0 rfl ?_) | (go_at_call 33; refine (c_ValidSizes f hf _).mono ?_; rw [hf1]; rintro e w1 ⟨rfl, hb⟩; have g0 := g0.keep hb; have b0 := b0.trans (hb.mono b0.size); clear hb) | (go_at_call 34; refine (c_isClass _ _).mono ?_; rw [hf2]; rintro e w1 ⟨rfl, rfl⟩))
    go_ret2
    exact ⟨by rw [hR.out]; rfl, b0⟩
  obtain ⟨k, rfl, hk⟩ := inB19 hf2
  have hle := wat_ok hf1 k (19 - k) (by omega)
  have hR := Lib.hid (show leastR f k = toldR (wat f k (19 - k)) by simp [leastR, hf1, hf2])
  obtain ⟨x, c, hx, _, _⟩ := toldR_form (wat f k (19 - k)) (le_inf _ hle)
  have HT := Lib.hid hx
  clear hx
  go_enter Try.func27, Try.ntmps27
  have hwa := wat_all hf1 k hk
  go_wp2_with (first | (refine wl_load 24 Try.underlying24 info_sizes rfl _ rfl g0 rfl ?_) | (go_at_call 33; refine (c_ValidSizes f hf _).mono ?_; rw [hf1]; rintro e w1 ⟨rfl, hb⟩; have g0 := g0.keep hb; have b0 := b0.trans (hb.mono b0.size); clear hb) | (go_at_call 34; refine (c_isClass _ _).mono ?_; rw [hf2]; rintro e w1 ⟨rfl, rfl⟩) | (go_at_call 47; refine (c_between f k 19 (by omega) (by omega) _).mono ?_; rintro e w1 ⟨rfl, hb⟩; have g0 := g0.keep hb; have b0 := b0.trans (hb.mono b0.size); clear hb) | (go_at_call 43; refine (c_water (btw f k 19) (btw_ok hf1 k 19) _).mono ?_; rw [hwa]; rintro e w1 ⟨rfl, hb⟩; have g0 := g0.keep hb; have b0 := b0.trans (hb.mono b0.size); clear hb) | (go_at_call 38; refine (c_finite _ (le_inf _ hle) _).mono ?_; rw [HT.out]; rintro e w1 ⟨rfl, hb⟩; have g0 := g0.keep hb; have b0 := b0.trans (hb.mono b0.size); clear hb))
  go_ret2
  exact ⟨by rw [hR.out, HT.out]; rfl, b0⟩
theorem walk_FnExactAtLeast (f : Nat → Nat) (hf : ∀ j, f j < 4294967296) (n : Int) (_hn : -9223372036854775808 ≤ n ∧ n ≤ 9223372036854775807) (w : World) : Calls Try.prog 9 #[.agg (row 20 fun j => .float .f32 (f j)), .int .i64 n] w fun e w' => e = .returned (.bool true) ∧ Below w.heap.size w w' := by
  have hcv := fun (x : Nat) (h : cvok x = true) (w : World) => run_cv (P := Try.prog) w 22 30 (by kernel_rfl) Try.underlying30 x h
  obtain ⟨x, c, hR, h1, h2⟩ := least_form f n
  have HR := Lib.hid hR
  have H2 := Lib.hid h2
  clear hR h2
  have g0 := Holds.new w 23 (row 20 fun j => .float .f32 (f j))
  have b0 : Below w.heap.size w (w.alloc (.cells (row 20 fun j => .float .f32 (f j)) 23)) := (Below.refl _ _).alloc (by simp) _
  go_enter Try.func9, Try.ntmps9
  go_wp2_with (first | (refine wl_load 23 Try.underlying23 info_a20 rfl _ rfl g0 rfl ?_) | (go_at_call 12; refine (c_toSizes f _).mono ?_; rintro e w1 ⟨rfl, hb⟩; have g0 := g0.keep hb; have b0 := b0.trans (hb.mono b0.size); clear hb) | (go_at_call 26; refine (c_specAtLeast f hf n _).mono ?_; rw [HR.out]; rintro e w1 ⟨rfl, hb⟩; have g0 := g0.keep hb; have b0 := b0.trans (hb.mono b0.size); clear hb) | (go_at_call 27; refine (c_implAtLeast f hf n _).mono ?_; rw [HR.out]; rintro e w1 ⟨rfl, hb⟩; have g0 := g0.keep hb; have b0 := b0.trans (hb.mono b0.size); clear hb) | (go_at_call 15; refine (c_sameFloat _ H2.out _).mono ?_; rintro e w1 ⟨rfl, rfl⟩))
  go_ret
  exact ⟨rfl, b0⟩
end Go.Proofs.Ytocjhackncfjpaa
