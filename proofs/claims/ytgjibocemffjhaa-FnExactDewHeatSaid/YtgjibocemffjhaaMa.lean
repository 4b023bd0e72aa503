/-
  Contracts: air between two others.
-/
import Derived.Test.YtgjibocemffjhaaReg
import Derived.Test.YtgjibocemffjhaaBox
import Derived.Test.YtgjibocemffjhaaWin
namespace Go.Proofs.Ytgjibocemffjhaa
open Go.RowKit Fl
set_option maxRecDepth 20000
set_option maxHeartbeats 4000000
set_option linter.unusedSimpArgs false

theorem fin_word {x : Nat} (hx : x < 4294967296) (h : isfin x = true) : ∃ s r, x = FloatKind.f32.format.word s r ∧ r < 2139095040 := by
  have h := of_decide_eq_true h
  rcases Nat.lt_or_ge x 2147483648 with q | q
  · exact ⟨false, x, rfl, by omega⟩
  · exact ⟨true, x - 2147483648, by show x = 2147483648 + (x - 2147483648); omega, by omega⟩
theorem word_fin (s : Bool) (r : Nat) (h : r < 2139095040) : isfin (FloatKind.f32.format.word s r) = true := by
  cases s
  · exact decide_eq_true (by show r % 2147483648 < 2139095040; omega)
  · exact decide_eq_true (by show (2147483648 + r) % 2147483648 < 2139095040; omega)
/-- a finite number times a share -/
theorem smul_ok {x b : Nat} (hx : x < 4294967296) (h : isfin x = true) (hb : b ≤ 1065353216) : fok .mul .f32 x b = true ∧ isfin (fv .mul .f32 x b) = true := by
  obtain ⟨s, a, rfl, ha⟩ := fin_word hx h
  obtain ⟨r, h1, h2⟩ := mul_spec FloatKind.f32.format (fmt_ok .f32).1 s false a b ha (by show b < 2139095040; omega)
  obtain ⟨h3, h4⟩ := fok_of (op := .mul) (k := .f32) (x := FloatKind.f32.format.word s a) (y := b) h1
  have hr : r ≤ a := by
    refine h2.mono (IsRnd.exact _ a) ?_
    have e : sv FloatKind.f32.format 1065353216 = 8388608 * 2 ^ 126 := sv_at FloatKind.f32.format 126 8388608 (Nat.le_refl _) (by show (8388608 : Nat) ≤ 2 * 8388608; omega)
    have e2 : ((8388608 * 2 ^ 126 : Nat) : Rat) * 2 ^ FloatKind.f32.format.leastPlace = 1 := by
      have : FloatKind.f32.format.leastPlace = -149 := rfl
      rw [this, show (8388608 * 2 ^ 126 : Nat) = 2 ^ 149 by decide, Rat.natCast_pow]
      exact zpow_split 149
    have hs : (sv FloatKind.f32.format b : Rat) ≤ ((8388608 * 2 ^ 126 : Nat) : Rat) := by rw [← e]; exact cast_le (sv_mono _ hb)
    have hz : (0 : Rat) ≤ 2 ^ FloatKind.f32.format.leastPlace := Rat.le_of_lt (zp_pos _)
    have hs2 := Rat.mul_le_mul_of_nonneg_right hs hz
    rw [e2] at hs2
    have hk0 : (0 : Rat) ≤ (sv FloatKind.f32.format a : Rat) := by have := cast_le (Nat.zero_le (sv FloatKind.f32.format a)); simpa using this
    have hs3 := Rat.mul_le_mul_of_nonneg_left hs2 hk0
    rw [Rat.mul_one] at hs3
    rw [Rat.mul_assoc]
    exact hs3
  refine ⟨h3, ?_⟩
  rw [h4]
  exact word_fin _ _ (Nat.lt_of_le_of_lt (Nat.min_le_left _ _) (by omega))
theorem sadd_ok {x y : Nat} (hx : x < 4294967296) (h : isfin x = true) (hy : y < 4294967296) (h' : isfin y = true) : fok .add .f32 x y = true := by
  obtain ⟨s, a, rfl, ha⟩ := fin_word hx h
  obtain ⟨t, b, rfl, hb⟩ := fin_word hy h'
  obtain ⟨r, h1, h2⟩ := add_spec FloatKind.f32.format (fmt_ok .f32).1 s t a b ha hb
  exact (fok_of (op := .add) (k := .f32) h1).1
theorem one_sub {s : Nat} (hs : s ≤ 1065353216) : fok .sub .f32 1065353216 s = true ∧ fv .sub .f32 1065353216 s ≤ 1065353216 := by
  have hb : s < FloatKind.f32.format.infRung := by show s < 2139095040; omega
  obtain ⟨r, h1, h2⟩ := add_spec FloatKind.f32.format (fmt_ok .f32).1 false true 1065353216 s (by show (1065353216 : Nat) < 2139095040; omega) hb
  have h3 := sub_add FloatKind.f32.format 1065353216 false s hb
  have e : FloatKind.f32.format.word false s = s := rfl
  have e' : FloatKind.f32.format.word false 1065353216 = 1065353216 := rfl
  rw [e] at h3
  rw [e'] at h1
  have hsv := sv_mono FloatKind.f32.format hs
  have hn : ¬ (sgn FloatKind.f32.format false 1065353216 + sgn FloatKind.f32.format true s < 0) := by unfold sgn; simp; omega
  have hw : (if sgn FloatKind.f32.format false 1065353216 + sgn FloatKind.f32.format true s = 0 then false && true else decide (sgn FloatKind.f32.format false 1065353216 + sgn FloatKind.f32.format true s < 0)) = false := by
    rw [decide_eq_false hn]; simp
  rw [hw] at h1
  obtain ⟨h4, h5⟩ := fok_of (op := .sub) (k := .f32) (x := 1065353216) (y := s) (h3.trans h1)
  refine ⟨h4, ?_⟩
  rw [h5]
  have hr : r ≤ 1065353216 := by
    refine h2.mono (IsRnd.exact _ 1065353216) (cast_le ?_)
    unfold sgn; simp; omega
  have : FloatKind.f32.format.word false (min r FloatKind.f32.format.infRung) = min r FloatKind.f32.format.infRung := rfl
  rw [this]
  exact Nat.le_trans (Nat.min_le_left _ _) hr
/-- between two numbers -/
def mxv (a b s : Nat) : Nat := fv .add .f32 (fv .mul .f32 a (fv .sub .f32 1065353216 s)) (fv .mul .f32 b s)
structure MixOk (a b s : Nat) : Prop where
  o1 : fok .sub .f32 1065353216 s = true
  o2 : fok .mul .f32 a (fv .sub .f32 1065353216 s) = true
  o3 : fok .mul .f32 b s = true
  o4 : fok .add .f32 (fv .mul .f32 a (fv .sub .f32 1065353216 s)) (fv .mul .f32 b s) = true
theorem mix_fin {a b s : Nat} (ha : a < 4294967296) (ha' : isfin a = true) (hb : b < 4294967296) (hb' : isfin b = true) (hs : s ≤ 1065353216) : MixOk a b s := by
  have h1 := one_sub hs
  have h2 := smul_ok ha ha' h1.2
  have h3 := smul_ok hb hb' hs
  exact ⟨h1.1, h2.1, h3.1, sadd_ok (fv_lt h2.1) h2.2 (fv_lt h3.1) h3.2⟩
theorem heat_fin {h : Nat} (hh : h < 4294967296) (hb : heatB h = true) : isfin h = true := by
  cases hn : isnum h
  · exfalso
    unfold heatB at hb
    rw [ord_nan_l hn] at hb
    simp at hb
  · cases hf : isfin h
    · exfalso
      have hn := of_decide_eq_true hn
      have hf := of_decide_eq_false hf
      have e : h = 2139095040 ∨ h = 4286578688 := by omega
      rcases e with rfl | rfl
      · revert hb; exact fun hb => absurd hb (by rw [show heatB 2139095040 = false by kernel_rfl]; simp)
      · revert hb; exact fun hb => absurd hb (by rw [show heatB 4286578688 = false by kernel_rfl]; simp)
    · rfl
theorem air_one (a b : Nat) : (#[Value.float .f32 a, .float .f32 b] : Array Value).all (fun v => v.oneCell') = true := by
  rw [Array.all_eq_true_iff_forall_mem]
  intro v hv
  simp at hv
  rcases hv with rfl | rfl <;> rfl
def mairR (h1 v1 h2 v2 s : Nat) : Value :=
  if airB h1 v1 then (if airB h2 v2 then (if shareB s then (if airB (mxv h1 h2 s) (mxv v1 v2 s) then .tuple #[.agg #[.float .f32 (mxv h1 h2 s), .float .f32 (mxv v1 v2 s)], .int .i64 0] else .tuple #[.agg #[.float .f32 0, .float .f32 0], .int .i64 4])
    else .tuple #[.agg #[.float .f32 0, .float .f32 0], .int .i64 2]) else .tuple #[.agg #[.float .f32 0, .float .f32 0], .int .i64 1]) else .tuple #[.agg #[.float .f32 0, .float .f32 0], .int .i64 1]
theorem air_heat {h v : Nat} (ha : airB h v = true) : heatB h = true := by
  unfold airB at ha
  rw [Bool.and_eq_true, Bool.and_eq_true] at ha
  exact ha.1.1
theorem air_fin {h v : Nat} (hh : h < 4294967296) (ha : airB h v = true) : isfin h = true ∧ isfin v = true := ⟨heat_fin hh (air_heat ha), amt_fin (air_amt ha)⟩
theorem mair_form (h1 v1 h2 v2 s : Nat) (hh1 : h1 < 4294967296) (hh2 : h2 < 4294967296) : ∃ (x y : Nat) (c : Int), mairR h1 v1 h2 v2 s = .tuple #[.agg #[.float .f32 x, .float .f32 y], .int .i64 c] ∧ cvok x = true ∧ cvok y = true := by
  have z : cvok 0 = true := (cvle (x := 0) (by omega)).1
  unfold mairR
  split
  · rename_i a1; split
    · rename_i a2; split
      · rename_i a3; split
        · have m1 := mix_fin hh1 (air_fin hh1 a1).1 hh2 (air_fin hh2 a2).1 (shareB_iff a3)
          have k1 := amt_lt (air_amt a1)
          have k2 := amt_lt (air_amt a2)
          have m2 := mix_fin (by omega) (air_fin hh1 a1).2 (by omega) (air_fin hh2 a2).2 (shareB_iff a3)
          exact ⟨_, _, _, rfl, fv_cv m1.o4, fv_cv m2.o4⟩
        · exact ⟨0, 0, 4, rfl, z, z⟩
      · exact ⟨0, 0, 2, rfl, z, z⟩
    · exact ⟨0, 0, 1, rfl, z, z⟩
  · exact ⟨0, 0, 1, rfl, z, z⟩
theorem c_mxv (a b s : Nat) (h : MixOk a b s) (w : World) : Calls Try.prog 58 #[.float .f32 a, .float .f32 b, .float .f32 s] w fun e w' => e = .returned (.float .f32 (mxv a b s)) ∧ w = w' := by
  have h1 := h.o1
  have h2 := h.o2
  have h3 := h.o3
  have h4 := h.o4
  clear h
  go_enter Try.func58, Try.ntmps58
  go_wp2
  go_ret
  exact ⟨rfl, rfl⟩
theorem c_l02Mix (h1 v1 h2 v2 s : Nat) (m1 : MixOk h1 h2 s) (m2 : MixOk v1 v2 s) (p1 p2 : Nat) (t1 t2 : TypeId) (w : World) (g0 : Holds w p1 t1 #[.float .f32 h1, .float .f32 v1]) (g1 : Holds w p2 t2 #[.float .f32 h2, .float .f32 v2]) : Calls Try.prog 34 #[.pointer (some ⟨p1, 0, none⟩), .pointer (some ⟨p2, 0, none⟩), .float .f32 s] w fun e w' => e = .returned (.agg #[.float .f32 (mxv h1 h2 s), .float .f32 (mxv v1 v2 s)]) ∧ Below w.heap.size w w' := by
  have l1 := g0.lt
  have l2 := g1.lt
  have g0 := g0.alloc (.cells #[.float .f32 0, .float .f32 0] 25)
  have g1 := g1.alloc (.cells #[.float .f32 0, .float .f32 0] 25)
  have g2 : Holds (w.alloc (.cells #[.float .f32 0, .float .f32 0] 25)) w.heap.size 25 #[.float .f32 0, .float .f32 0] := Holds.new _ _ _
  have b0 : Below w.heap.size w (w.alloc (.cells #[.float .f32 0, .float .f32 0] 25)) := (Below.refl _ _).alloc (by simp) _
  have a1 := m1.o1
  have a2 := m1.o2
  have a3 := m1.o3
  have a4 := m1.o4
  have c2 := m2.o2
  have c3 := m2.o3
  have c4 := m2.o4
  clear m1 m2
  have e1 : fv .add .f32 (fv .mul .f32 h1 (fv .sub .f32 1065353216 s)) (fv .mul .f32 h2 s) = mxv h1 h2 s := rfl
  have e2 : fv .add .f32 (fv .mul .f32 v1 (fv .sub .f32 1065353216 s)) (fv .mul .f32 v2 s) = mxv v1 v2 s := rfl
  generalize mxv h1 h2 s = X at *
  generalize mxv v1 v2 s = Y at *
  go_enter Try.func34, Try.ntmps34
  go_wp2
  refine Code.wp_mono (Q := fun e a' x => e = .normal ∧ a' = { tmps := #[.pointer (some ⟨p1, 0, none⟩), .pointer (some ⟨p2, 0, none⟩), .float .f32 s, undef, undef, undef, .pointer (some ⟨w.heap.size, 0, none⟩), .pointer (some ⟨p1, 0, none⟩), .pointer (some ⟨p1, 0, none⟩), .pointer (some ⟨p1, 0, none⟩), .float .f32 h1, .float .f32 s, .float .f32 (fv .sub .f32 1065353216 s), .float .f32 (fv .mul .f32 h1 (fv .sub .f32 1065353216 s)), .pointer (some ⟨p2, 0, none⟩), .pointer (some ⟨p2, 0, none⟩), .pointer (some ⟨p2, 0, none⟩), .float .f32 h2, .float .f32 s, .float .f32 (fv .mul .f32 h2 s), .float .f32 X, .pointer (some ⟨p1, 0, none⟩), .pointer (some ⟨p1, 0, none⟩), .pointer (some ⟨p1, 1, none⟩), .float .f32 v1, .float .f32 s, .float .f32 (fv .sub .f32 1065353216 s), .float .f32 (fv .mul .f32 v1 (fv .sub .f32 1065353216 s)), .pointer (some ⟨p2, 0, none⟩), .pointer (some ⟨p2, 0, none⟩), .pointer (some ⟨p2, 1, none⟩), .float .f32 v2, .float .f32 s, .float .f32 (fv .mul .f32 v2 s), .float .f32 Y, .agg #[.float .f32 X, .float .f32 Y]], defers := [] } ∧ Holds x w.heap.size 25 #[.float .f32 X, .float .f32 Y] ∧ (fun x => Holds x p1 t1 #[.float .f32 h1, .float .f32 v1] ∧ Holds x p2 t2 #[.float .f32 h2, .float .f32 v2] ∧ Below w.heap.size w x) x) ?_ ?_
  · rintro e a' x1 ⟨rfl, rfl, qg6, g0, g1, b0⟩
    go_wp2
    exact ret_A rfl Try.underlying25 rfl #[.float .f32 X, .float .f32 Y] info_air qg6 rfl rfl ⟨rfl, b0⟩
  · refine wp_region_held_drew (S := fun x => Holds x p1 t1 #[.float .f32 h1, .float .f32 v1] ∧ Holds x p2 t2 #[.float .f32 h2, .float .f32 v2] ∧ Below w.heap.size w x) (by kernel_rfl) ⟨g0.drew, g1.drew, b0.trans ((Below.refl _ _).drew)⟩ (fun hS => ?_)
    have z0 := g2.drew
    refine takeA (i := 0) (d := some 7) (v := .pointer (some ⟨p1, 0, none⟩)) rfl rfl (by kernel_rfl) (by kernel_rfl) (by kernel_rfl) (fun _ _ _ h => nomatch h.1) (Or.inl ⟨by rfl, fun x hx => by go_simp⟩) (by assumption) ?_
    try simp only [Act.put, List.setIfInBounds_toArray, List.set_cons_zero, List.set_cons_succ]
    refine takeA (i := 1) (d := some 8) (v := .pointer (some ⟨p1, 0, none⟩)) rfl rfl (by kernel_rfl) (by kernel_rfl) (by kernel_rfl) (fun _ _ _ h => nomatch h.1) (Or.inl ⟨by rfl, fun x hx => by go_simp⟩) (by assumption) ?_
    try simp only [Act.put, List.setIfInBounds_toArray, List.set_cons_zero, List.set_cons_succ]
    refine takeA (i := 2) (d := some 9) (v := .pointer (some ⟨p1, 0, none⟩)) rfl rfl (by kernel_rfl) (by kernel_rfl) (by kernel_rfl) (fun _ _ _ h => nomatch h.1) (Or.inl ⟨by rfl, fun x hx => by go_simp⟩) (by assumption) ?_
    try simp only [Act.put, List.setIfInBounds_toArray, List.set_cons_zero, List.set_cons_succ]
    refine takeA (i := 3) (d := some 10) (v := .float .f32 h1) rfl rfl (by kernel_rfl) (by kernel_rfl) (by kernel_rfl) (fun _ _ _ h => nomatch h.1) (Or.inl ⟨by rfl, fun x hS => by have hcell := hS.1.cell 0; go_simp⟩) (by assumption) ?_
    try simp only [Act.put, List.setIfInBounds_toArray, List.set_cons_zero, List.set_cons_succ]
    refine takeA (i := 4) (d := some 11) (v := .float .f32 s) rfl rfl (by kernel_rfl) (by kernel_rfl) (by kernel_rfl) (fun _ _ _ h => nomatch h.1) (Or.inl ⟨by rfl, fun x hx => by go_simp⟩) (by assumption) ?_
    try simp only [Act.put, List.setIfInBounds_toArray, List.set_cons_zero, List.set_cons_succ]
    refine takeA (i := 5) (d := some 12) (v := .float .f32 (fv .sub .f32 1065353216 s)) rfl rfl (by kernel_rfl) (by kernel_rfl) (by kernel_rfl) (fun _ _ _ h => nomatch h.1) (Or.inl ⟨by rfl, fun x hx => by go_simp⟩) (by assumption) ?_
    try simp only [Act.put, List.setIfInBounds_toArray, List.set_cons_zero, List.set_cons_succ]
    refine takeA (i := 6) (d := some 13) (v := .float .f32 (fv .mul .f32 h1 (fv .sub .f32 1065353216 s))) rfl rfl (by kernel_rfl) (by kernel_rfl) (by kernel_rfl) (fun _ _ _ h => nomatch h.1) (Or.inl ⟨by rfl, fun x hx => by go_simp⟩) (by assumption) ?_
    try simp only [Act.put, List.setIfInBounds_toArray, List.set_cons_zero, List.set_cons_succ]
    refine takeA (i := 7) (d := some 14) (v := .pointer (some ⟨p2, 0, none⟩)) rfl rfl (by kernel_rfl) (by kernel_rfl) (by kernel_rfl) (fun _ _ _ h => nomatch h.1) (Or.inl ⟨by rfl, fun x hx => by go_simp⟩) (by assumption) ?_
    try simp only [Act.put, List.setIfInBounds_toArray, List.set_cons_zero, List.set_cons_succ]
    refine takeA (i := 8) (d := some 15) (v := .pointer (some ⟨p2, 0, none⟩)) rfl rfl (by kernel_rfl) (by kernel_rfl) (by kernel_rfl) (fun _ _ _ h => nomatch h.1) (Or.inl ⟨by rfl, fun x hx => by go_simp⟩) (by assumption) ?_
    try simp only [Act.put, List.setIfInBounds_toArray, List.set_cons_zero, List.set_cons_succ]
    refine takeA (i := 9) (d := some 16) (v := .pointer (some ⟨p2, 0, none⟩)) rfl rfl (by kernel_rfl) (by kernel_rfl) (by kernel_rfl) (fun _ _ _ h => nomatch h.1) (Or.inl ⟨by rfl, fun x hx => by go_simp⟩) (by assumption) ?_
    try simp only [Act.put, List.setIfInBounds_toArray, List.set_cons_zero, List.set_cons_succ]
    refine takeA (i := 10) (d := some 17) (v := .float .f32 h2) rfl rfl (by kernel_rfl) (by kernel_rfl) (by kernel_rfl) (fun _ _ _ h => nomatch h.1) (Or.inl ⟨by rfl, fun x hS => by have hcell := hS.2.1.cell 0; go_simp⟩) (by assumption) ?_
    try simp only [Act.put, List.setIfInBounds_toArray, List.set_cons_zero, List.set_cons_succ]
    refine takeA (i := 11) (d := some 18) (v := .float .f32 s) rfl rfl (by kernel_rfl) (by kernel_rfl) (by kernel_rfl) (fun _ _ _ h => nomatch h.1) (Or.inl ⟨by rfl, fun x hx => by go_simp⟩) (by assumption) ?_
    try simp only [Act.put, List.setIfInBounds_toArray, List.set_cons_zero, List.set_cons_succ]
    refine takeA (i := 12) (d := some 19) (v := .float .f32 (fv .mul .f32 h2 s)) rfl rfl (by kernel_rfl) (by kernel_rfl) (by kernel_rfl) (fun _ _ _ h => nomatch h.1) (Or.inl ⟨by rfl, fun x hx => by go_simp⟩) (by assumption) ?_
    try simp only [Act.put, List.setIfInBounds_toArray, List.set_cons_zero, List.set_cons_succ]
    refine takeA (i := 13) (d := some 20) (v := .float .f32 X) rfl rfl (by kernel_rfl) (by kernel_rfl) (by kernel_rfl) (fun _ _ _ h => nomatch h.1) (Or.inl ⟨by rfl, fun x hx => by go_simp⟩) (by assumption) ?_
    try simp only [Act.put, List.setIfInBounds_toArray, List.set_cons_zero, List.set_cons_succ]
    refine takeA (i := 14) (d := some 21) (v := .pointer (some ⟨p1, 0, none⟩)) rfl rfl (by kernel_rfl) (by kernel_rfl) (by kernel_rfl) (fun _ _ _ h => nomatch h.1) (Or.inl ⟨by rfl, fun x hx => by go_simp⟩) (by assumption) ?_
    try simp only [Act.put, List.setIfInBounds_toArray, List.set_cons_zero, List.set_cons_succ]
    refine takeA (i := 15) (d := some 22) (v := .pointer (some ⟨p1, 0, none⟩)) rfl rfl (by kernel_rfl) (by kernel_rfl) (by kernel_rfl) (fun _ _ _ h => nomatch h.1) (Or.inl ⟨by rfl, fun x hx => by go_simp⟩) (by assumption) ?_
    try simp only [Act.put, List.setIfInBounds_toArray, List.set_cons_zero, List.set_cons_succ]
    refine takeA (i := 16) (d := some 23) (v := .pointer (some ⟨p1, 1, none⟩)) rfl rfl (by kernel_rfl) (by kernel_rfl) (by kernel_rfl) (fun _ _ _ h => nomatch h.1) (Or.inl ⟨by rfl, fun x hx => by go_simp⟩) (by assumption) ?_
    try simp only [Act.put, List.setIfInBounds_toArray, List.set_cons_zero, List.set_cons_succ]
    refine takeA (i := 17) (d := some 24) (v := .float .f32 v1) rfl rfl (by kernel_rfl) (by kernel_rfl) (by kernel_rfl) (fun _ _ _ h => nomatch h.1) (Or.inl ⟨by rfl, fun x hS => by have hcell := hS.1.cell 1; go_simp⟩) (by assumption) ?_
    try simp only [Act.put, List.setIfInBounds_toArray, List.set_cons_zero, List.set_cons_succ]
    refine takeA (i := 18) (d := some 25) (v := .float .f32 s) rfl rfl (by kernel_rfl) (by kernel_rfl) (by kernel_rfl) (fun _ _ _ h => nomatch h.1) (Or.inl ⟨by rfl, fun x hx => by go_simp⟩) (by assumption) ?_
    try simp only [Act.put, List.setIfInBounds_toArray, List.set_cons_zero, List.set_cons_succ]
    refine takeA (i := 19) (d := some 26) (v := .float .f32 (fv .sub .f32 1065353216 s)) rfl rfl (by kernel_rfl) (by kernel_rfl) (by kernel_rfl) (fun _ _ _ h => nomatch h.1) (Or.inl ⟨by rfl, fun x hx => by go_simp⟩) (by assumption) ?_
    try simp only [Act.put, List.setIfInBounds_toArray, List.set_cons_zero, List.set_cons_succ]
    refine takeA (i := 20) (d := some 27) (v := .float .f32 (fv .mul .f32 v1 (fv .sub .f32 1065353216 s))) rfl rfl (by kernel_rfl) (by kernel_rfl) (by kernel_rfl) (fun _ _ _ h => nomatch h.1) (Or.inl ⟨by rfl, fun x hx => by go_simp⟩) (by assumption) ?_
    try simp only [Act.put, List.setIfInBounds_toArray, List.set_cons_zero, List.set_cons_succ]
    refine takeA (i := 21) (d := some 28) (v := .pointer (some ⟨p2, 0, none⟩)) rfl rfl (by kernel_rfl) (by kernel_rfl) (by kernel_rfl) (fun _ _ _ h => nomatch h.1) (Or.inl ⟨by rfl, fun x hx => by go_simp⟩) (by assumption) ?_
    try simp only [Act.put, List.setIfInBounds_toArray, List.set_cons_zero, List.set_cons_succ]
    refine takeA (i := 22) (d := some 29) (v := .pointer (some ⟨p2, 0, none⟩)) rfl rfl (by kernel_rfl) (by kernel_rfl) (by kernel_rfl) (fun _ _ _ h => nomatch h.1) (Or.inl ⟨by rfl, fun x hx => by go_simp⟩) (by assumption) ?_
    try simp only [Act.put, List.setIfInBounds_toArray, List.set_cons_zero, List.set_cons_succ]
    refine takeA (i := 23) (d := some 30) (v := .pointer (some ⟨p2, 1, none⟩)) rfl rfl (by kernel_rfl) (by kernel_rfl) (by kernel_rfl) (fun _ _ _ h => nomatch h.1) (Or.inl ⟨by rfl, fun x hx => by go_simp⟩) (by assumption) ?_
    try simp only [Act.put, List.setIfInBounds_toArray, List.set_cons_zero, List.set_cons_succ]
    refine takeA (i := 24) (d := some 31) (v := .float .f32 v2) rfl rfl (by kernel_rfl) (by kernel_rfl) (by kernel_rfl) (fun _ _ _ h => nomatch h.1) (Or.inl ⟨by rfl, fun x hS => by have hcell := hS.2.1.cell 1; go_simp⟩) (by assumption) ?_
    try simp only [Act.put, List.setIfInBounds_toArray, List.set_cons_zero, List.set_cons_succ]
    refine takeA (i := 25) (d := some 32) (v := .float .f32 s) rfl rfl (by kernel_rfl) (by kernel_rfl) (by kernel_rfl) (fun _ _ _ h => nomatch h.1) (Or.inl ⟨by rfl, fun x hx => by go_simp⟩) (by assumption) ?_
    try simp only [Act.put, List.setIfInBounds_toArray, List.set_cons_zero, List.set_cons_succ]
    refine takeA (i := 26) (d := some 33) (v := .float .f32 (fv .mul .f32 v2 s)) rfl rfl (by kernel_rfl) (by kernel_rfl) (by kernel_rfl) (fun _ _ _ h => nomatch h.1) (Or.inl ⟨by rfl, fun x hx => by go_simp⟩) (by assumption) ?_
    try simp only [Act.put, List.setIfInBounds_toArray, List.set_cons_zero, List.set_cons_succ]
    refine takeA (i := 27) (d := some 34) (v := .float .f32 Y) rfl rfl (by kernel_rfl) (by kernel_rfl) (by kernel_rfl) (fun _ _ _ h => nomatch h.1) (Or.inl ⟨by rfl, fun x hx => by go_simp⟩) (by assumption) ?_
    try simp only [Act.put, List.setIfInBounds_toArray, List.set_cons_zero, List.set_cons_succ]
    refine takeA (i := 28) (d := some 35) (v := .agg #[.float .f32 X, .float .f32 Y]) rfl rfl (by kernel_rfl) (by kernel_rfl) (by kernel_rfl) (fun _ _ _ h => nomatch h.1) (Or.inl ⟨by rfl, fun x hx => by go_simp⟩) (by assumption) ?_
    try simp only [Act.put, List.setIfInBounds_toArray, List.set_cons_zero, List.set_cons_succ]
    refine wpAnyH_ready (rs := [29]) (by kernel_rfl) (by simp) (AllReadyH.cons rfl (fun K hK => ?_) AllReadyH.nil)
    rw [if_pos (by rfl)]
    refine wp_storeA 25 (.tmp 6) (.tmp 35) rfl #[.float .f32 X, .float .f32 Y] info_air z0 rfl rfl rfl (air_one _ _) ?_
    have zz := z0.row_ #[.float .f32 X, .float .f32 Y]
    refine hK.out _ _ ⟨hS.1.farRow (by omega) _, hS.2.1.farRow (by omega) _, below_setRow hS.2.2 (by omega) _⟩ (fun hS => ?_)
    clear hK K
    try simp only [Act.put, List.setIfInBounds_toArray, List.set_cons_zero, List.set_cons_succ]
    refine wpAnyH_done (by kernel_rfl) ?_ _
    exact ⟨rfl, rfl, zz, hS⟩
theorem c_mixAir (h1 v1 h2 v2 s : Nat) (m1 : MixOk h1 h2 s) (m2 : MixOk v1 v2 s) (w : World) : Calls Try.prog 37 #[.agg #[.float .f32 h1, .float .f32 v1], .agg #[.float .f32 h2, .float .f32 v2], .float .f32 s] w fun e w' => e = .returned (.agg #[.float .f32 (mxv h1 h2 s), .float .f32 (mxv v1 v2 s)]) ∧ Below w.heap.size w w' := by
  have g0 : Holds (((w.alloc (.cells #[.float .f32 h1, .float .f32 v1] 25)).alloc (.cells #[.float .f32 h2, .float .f32 v2] 25)).alloc (.cells #[.float .f32 0, .float .f32 0] 25)) w.heap.size 25 #[.float .f32 h1, .float .f32 v1] := ((Holds.new _ _ _).alloc _).alloc _
  have g1 : Holds (((w.alloc (.cells #[.float .f32 h1, .float .f32 v1] 25)).alloc (.cells #[.float .f32 h2, .float .f32 v2] 25)).alloc (.cells #[.float .f32 0, .float .f32 0] 25)) (w.heap.size + 1) 25 #[.float .f32 h2, .float .f32 v2] := (Holds.new' _ _ _ (by simp)).alloc _
  have g2 : Holds (((w.alloc (.cells #[.float .f32 h1, .float .f32 v1] 25)).alloc (.cells #[.float .f32 h2, .float .f32 v2] 25)).alloc (.cells #[.float .f32 0, .float .f32 0] 25)) (w.heap.size + 1 + 1) 25 #[.float .f32 0, .float .f32 0] := Holds.new' _ _ _ (by simp)
  have b0 : Below w.heap.size w (((w.alloc (.cells #[.float .f32 h1, .float .f32 v1] 25)).alloc (.cells #[.float .f32 h2, .float .f32 v2] 25)).alloc (.cells #[.float .f32 0, .float .f32 0] 25)) := (((Below.refl _ _).alloc (by simp) _).alloc (by simp) _).alloc (by simp; omega) _
  have HX := Lib.hid (fun w => c_mxv h1 h2 s m1 w)
  have HY := Lib.hid (fun w => c_mxv v1 v2 s m2 w)
  clear m1 m2
  generalize mxv h1 h2 s = X at *
  generalize mxv v1 v2 s = Y at *
  go_enter Try.func37, Try.ntmps37
  go_wp2
  refine Code.wp_mono (Q := fun e a' x => e = .normal ∧ a' = { tmps := #[.agg #[.float .f32 h1, .float .f32 v1], .agg #[.float .f32 h2, .float .f32 v2], .float .f32 s, .pointer (some ⟨w.heap.size, 0, none⟩), .pointer (some ⟨(w.heap.size + 1), 0, none⟩), undef, .pointer (some ⟨(w.heap.size + 1 + 1), 0, none⟩), .pointer (some ⟨w.heap.size, 0, none⟩), .float .f32 h1, .pointer (some ⟨(w.heap.size + 1), 0, none⟩), .float .f32 h2, .float .f32 s, .float .f32 X, .pointer (some ⟨w.heap.size, 1, none⟩), .float .f32 v1, .pointer (some ⟨(w.heap.size + 1), 1, none⟩), .float .f32 v2, .float .f32 s, .float .f32 Y, .agg #[.float .f32 X, .float .f32 Y]], defers := [] } ∧ Holds x (w.heap.size + 1 + 1) 25 #[.float .f32 X, .float .f32 Y] ∧ (fun x => Holds x w.heap.size 25 #[.float .f32 h1, .float .f32 v1] ∧ Holds x (w.heap.size + 1) 25 #[.float .f32 h2, .float .f32 v2] ∧ Below w.heap.size w x) x) ?_ ?_
  · rintro e a' x1 ⟨rfl, rfl, qg6, g0, g1, b0⟩
    go_wp2
    exact ret_A rfl Try.underlying25 rfl #[.float .f32 X, .float .f32 Y] info_air qg6 rfl rfl ⟨rfl, b0⟩
  · refine wp_region_held_drew (S := fun x => Holds x w.heap.size 25 #[.float .f32 h1, .float .f32 v1] ∧ Holds x (w.heap.size + 1) 25 #[.float .f32 h2, .float .f32 v2] ∧ Below w.heap.size w x) (by kernel_rfl) ⟨g0.drew, g1.drew, b0.trans ((Below.refl _ _).drew)⟩ (fun hS => ?_)
    have z0 := g2.drew
    refine takeA (i := 0) (d := some 7) (v := .pointer (some ⟨w.heap.size, 0, none⟩)) rfl rfl (by kernel_rfl) (by kernel_rfl) (by kernel_rfl) (fun _ _ _ h => nomatch h.1) (Or.inl ⟨by rfl, fun x hx => by go_simp⟩) (by assumption) ?_
    try simp only [Act.put, List.setIfInBounds_toArray, List.set_cons_zero, List.set_cons_succ]
    refine takeA (i := 1) (d := some 8) (v := .float .f32 h1) rfl rfl (by kernel_rfl) (by kernel_rfl) (by kernel_rfl) (fun _ _ _ h => nomatch h.1) (Or.inl ⟨by rfl, fun x hS => by have hcell := hS.1.cell 0; go_simp⟩) (by assumption) ?_
    try simp only [Act.put, List.setIfInBounds_toArray, List.set_cons_zero, List.set_cons_succ]
    refine takeA (i := 2) (d := some 9) (v := .pointer (some ⟨(w.heap.size + 1), 0, none⟩)) rfl rfl (by kernel_rfl) (by kernel_rfl) (by kernel_rfl) (fun _ _ _ h => nomatch h.1) (Or.inl ⟨by rfl, fun x hx => by go_simp⟩) (by assumption) ?_
    try simp only [Act.put, List.setIfInBounds_toArray, List.set_cons_zero, List.set_cons_succ]
    refine takeA (i := 3) (d := some 10) (v := .float .f32 h2) rfl rfl (by kernel_rfl) (by kernel_rfl) (by kernel_rfl) (fun _ _ _ h => nomatch h.1) (Or.inl ⟨by rfl, fun x hS => by have hcell := hS.2.1.cell 0; go_simp⟩) (by assumption) ?_
    try simp only [Act.put, List.setIfInBounds_toArray, List.set_cons_zero, List.set_cons_succ]
    refine takeA (i := 4) (d := some 11) (v := .float .f32 s) rfl rfl (by kernel_rfl) (by kernel_rfl) (by kernel_rfl) (fun _ _ _ h => nomatch h.1) (Or.inl ⟨by rfl, fun x hx => by go_simp⟩) (by assumption) ?_
    try simp only [Act.put, List.setIfInBounds_toArray, List.set_cons_zero, List.set_cons_succ]
    refine takeA (i := 6) (d := some 13) (v := .pointer (some ⟨w.heap.size, 1, none⟩)) rfl rfl (by kernel_rfl) (by kernel_rfl) (by kernel_rfl) (fun _ _ _ h => nomatch h.1) (Or.inl ⟨by rfl, fun x hx => by go_simp⟩) (by assumption) ?_
    try simp only [Act.put, List.setIfInBounds_toArray, List.set_cons_zero, List.set_cons_succ]
    refine takeA (i := 7) (d := some 14) (v := .float .f32 v1) rfl rfl (by kernel_rfl) (by kernel_rfl) (by kernel_rfl) (fun _ _ _ h => nomatch h.1) (Or.inl ⟨by rfl, fun x hS => by have hcell := hS.1.cell 1; go_simp⟩) (by assumption) ?_
    try simp only [Act.put, List.setIfInBounds_toArray, List.set_cons_zero, List.set_cons_succ]
    refine takeA (i := 8) (d := some 15) (v := .pointer (some ⟨(w.heap.size + 1), 1, none⟩)) rfl rfl (by kernel_rfl) (by kernel_rfl) (by kernel_rfl) (fun _ _ _ h => nomatch h.1) (Or.inl ⟨by rfl, fun x hx => by go_simp⟩) (by assumption) ?_
    try simp only [Act.put, List.setIfInBounds_toArray, List.set_cons_zero, List.set_cons_succ]
    refine takeA (i := 9) (d := some 16) (v := .float .f32 v2) rfl rfl (by kernel_rfl) (by kernel_rfl) (by kernel_rfl) (fun _ _ _ h => nomatch h.1) (Or.inl ⟨by rfl, fun x hS => by have hcell := hS.2.1.cell 1; go_simp⟩) (by assumption) ?_
    try simp only [Act.put, List.setIfInBounds_toArray, List.set_cons_zero, List.set_cons_succ]
    refine takeA (i := 10) (d := some 17) (v := .float .f32 s) rfl rfl (by kernel_rfl) (by kernel_rfl) (by kernel_rfl) (fun _ _ _ h => nomatch h.1) (Or.inl ⟨by rfl, fun x hx => by go_simp⟩) (by assumption) ?_
    try simp only [Act.put, List.setIfInBounds_toArray, List.set_cons_zero, List.set_cons_succ]
    refine wpAnyH_ready (rs := [5]) (by kernel_rfl) (by simp) (AllReadyH.cons rfl (fun K hK => ?_) AllReadyH.nil)
    go_simp
    with_reducible refine (HX.out _).mono ?_
    rintro e v1 ⟨rfl, rfl⟩
    go_simp
    refine hK.out _ _ hS (fun hS => ?_)
    clear hK K
    try simp only [Act.put, List.setIfInBounds_toArray, List.set_cons_zero, List.set_cons_succ]
    refine wpAnyH_ready (rs := [11]) (by kernel_rfl) (by simp) (AllReadyH.cons rfl (fun K hK => ?_) AllReadyH.nil)
    go_simp
    with_reducible refine (HY.out _).mono ?_
    rintro e v2 ⟨rfl, rfl⟩
    go_simp
    refine hK.out _ _ hS (fun hS => ?_)
    clear hK K
    try simp only [Act.put, List.setIfInBounds_toArray, List.set_cons_zero, List.set_cons_succ]
    refine takeA (i := 12) (d := some 19) (v := .agg #[.float .f32 X, .float .f32 Y]) rfl rfl (by kernel_rfl) (by kernel_rfl) (by kernel_rfl) (fun _ _ _ h => nomatch h.1) (Or.inl ⟨by rfl, fun x hx => by go_simp⟩) (by assumption) ?_
    try simp only [Act.put, List.setIfInBounds_toArray, List.set_cons_zero, List.set_cons_succ]
    refine wpAnyH_ready (rs := [13]) (by kernel_rfl) (by simp) (AllReadyH.cons rfl (fun K hK => ?_) AllReadyH.nil)
    rw [if_pos (by rfl)]
    refine wp_storeA 25 (.tmp 6) (.tmp 19) rfl #[.float .f32 X, .float .f32 Y] info_air z0 rfl rfl rfl (air_one _ _) ?_
    have zz := z0.row_ #[.float .f32 X, .float .f32 Y]
    refine hK.out _ _ ⟨hS.1.farRow (by omega) _, hS.2.1.farRow (by omega) _, below_setRow hS.2.2 (by omega) _⟩ (fun hS => ?_)
    clear hK K
    try simp only [Act.put, List.setIfInBounds_toArray, List.set_cons_zero, List.set_cons_succ]
    refine wpAnyH_done (by kernel_rfl) ?_ _
    exact ⟨rfl, rfl, zz, hS⟩
theorem c_specMixAir (h1 v1 h2 v2 : Nat) (hh1 : h1 < 4294967296) (hv1 : v1 < 4294967296) (hh2 : h2 < 4294967296) (hv2 : v2 < 4294967296) (s : Nat) (hs : s < 4294967296) (w : World) : Calls Try.prog 11 #[.agg #[.float .f32 h1, .float .f32 v1], .agg #[.float .f32 h2, .float .f32 v2], .float .f32 s] w fun e w' => e = .returned (mairR h1 v1 h2 v2 s) ∧ Below w.heap.size w w' := by
  have g0 : Holds (((w.alloc (.cells #[.float .f32 h1, .float .f32 v1] 25)).alloc (.cells #[.float .f32 h2, .float .f32 v2] 25)).alloc (.cells #[.float .f32 0, .float .f32 0] 25)) w.heap.size 25 #[.float .f32 h1, .float .f32 v1] := ((Holds.new _ _ _).alloc _).alloc _
  have g1 : Holds (((w.alloc (.cells #[.float .f32 h1, .float .f32 v1] 25)).alloc (.cells #[.float .f32 h2, .float .f32 v2] 25)).alloc (.cells #[.float .f32 0, .float .f32 0] 25)) (w.heap.size + 1) 25 #[.float .f32 h2, .float .f32 v2] := (Holds.new' _ _ _ (by simp)).alloc _
  have g2 : Holds (((w.alloc (.cells #[.float .f32 h1, .float .f32 v1] 25)).alloc (.cells #[.float .f32 h2, .float .f32 v2] 25)).alloc (.cells #[.float .f32 0, .float .f32 0] 25)) (w.heap.size + 1 + 1) 25 #[.float .f32 0, .float .f32 0] := Holds.new' _ _ _ (by simp)
  have b0 : Below w.heap.size w (((w.alloc (.cells #[.float .f32 h1, .float .f32 v1] 25)).alloc (.cells #[.float .f32 h2, .float .f32 v2] 25)).alloc (.cells #[.float .f32 0, .float .f32 0] 25)) := (((Below.refl _ _).alloc (by simp) _).alloc (by simp) _).alloc (by simp; omega) _
  cases hf1 : airB h1 v1
  · have hR := Lib.hid (show mairR h1 v1 h2 v2 s = .tuple #[.agg #[.float .f32 0, .float .f32 0], .int .i64 1] by simp [mairR, hf1])
    go_enter Try.func11, Try.ntmps11
    go_wp2_with (first | (go_at_call 32; with_reducible refine (c_l02Ok h1 v1 hv1 _ _ _ g0).mono ?_; rw [hf1]; rintro e w1 ⟨rfl, hdr⟩; have hb := drew_below hdr; clear hdr; have g0 := g0.keep hb; have g1 := g1.keep hb; have g2 := g2.keep hb; have b0 := b0.trans (hb.mono b0.size); clear hb) | (refine wl_storeA 25 rfl _ _ rfl #[.float .f32 0, .float .f32 0] info_air g2 rfl rfl rfl (air_one _ _) ?_))
    exact ret_A2 rfl Try.underlying25 rfl #[.float .f32 0, .float .f32 0] info_air (g2.row_ _) rfl rfl ⟨by rw [hR.out]; rfl, below_setRow b0 (by omega) _⟩
  cases hf2 : airB h2 v2
  · have hR := Lib.hid (show mairR h1 v1 h2 v2 s = .tuple #[.agg #[.float .f32 0, .float .f32 0], .int .i64 1] by simp [mairR, hf1, hf2])
    go_enter Try.func11, Try.ntmps11
    go_wp2_with (first | (go_at_call 32; with_reducible refine (c_l02Ok h1 v1 hv1 _ _ _ g0).mono ?_; rw [hf1]; rintro e w1 ⟨rfl, hdr⟩; have hb := drew_below hdr; clear hdr; have g0 := g0.keep hb; have g1 := g1.keep hb; have g2 := g2.keep hb; have b0 := b0.trans (hb.mono b0.size); clear hb) | (go_at_call 32; with_reducible refine (c_l02Ok h2 v2 hv2 _ _ _ g1).mono ?_; rw [hf2]; rintro e w1 ⟨rfl, hdr⟩; have hb := drew_below hdr; clear hdr; have g0 := g0.keep hb; have g1 := g1.keep hb; have g2 := g2.keep hb; have b0 := b0.trans (hb.mono b0.size); clear hb) | (refine wl_storeA 25 rfl _ _ rfl #[.float .f32 0, .float .f32 0] info_air g2 rfl rfl rfl (air_one _ _) ?_))
    exact ret_A2 rfl Try.underlying25 rfl #[.float .f32 0, .float .f32 0] info_air (g2.row_ _) rfl rfl ⟨by rw [hR.out]; rfl, below_setRow b0 (by omega) _⟩
  cases hf3 : shareB s
  · have hR := Lib.hid (show mairR h1 v1 h2 v2 s = .tuple #[.agg #[.float .f32 0, .float .f32 0], .int .i64 2] by simp [mairR, hf1, hf2, hf3])
    go_enter Try.func11, Try.ntmps11
    go_wp2_with (first | (go_at_call 32; with_reducible refine (c_l02Ok h1 v1 hv1 _ _ _ g0).mono ?_; rw [hf1]; rintro e w1 ⟨rfl, hdr⟩; have hb := drew_below hdr; clear hdr; have g0 := g0.keep hb; have g1 := g1.keep hb; have g2 := g2.keep hb; have b0 := b0.trans (hb.mono b0.size); clear hb) | (go_at_call 32; with_reducible refine (c_l02Ok h2 v2 hv2 _ _ _ g1).mono ?_; rw [hf2]; rintro e w1 ⟨rfl, hdr⟩; have hb := drew_below hdr; clear hdr; have g0 := g0.keep hb; have g1 := g1.keep hb; have g2 := g2.keep hb; have b0 := b0.trans (hb.mono b0.size); clear hb) | (go_at_call 33; with_reducible refine (c_l01Share s hs _).mono ?_; rw [hf3]; rintro e w1 ⟨rfl, hdr⟩; have hb := drew_below hdr; clear hdr; have g0 := g0.keep hb; have g1 := g1.keep hb; have g2 := g2.keep hb; have b0 := b0.trans (hb.mono b0.size); clear hb) | (refine wl_storeA 25 rfl _ _ rfl #[.float .f32 0, .float .f32 0] info_air g2 rfl rfl rfl (air_one _ _) ?_))
    exact ret_A2 rfl Try.underlying25 rfl #[.float .f32 0, .float .f32 0] info_air (g2.row_ _) rfl rfl ⟨by rw [hR.out]; rfl, below_setRow b0 (by omega) _⟩
  have hm1 := mix_fin hh1 (air_fin hh1 hf1).1 hh2 (air_fin hh2 hf2).1 (shareB_iff hf3)
  have hm2 := mix_fin hv1 (air_fin hh1 hf1).2 hv2 (air_fin hh2 hf2).2 (shareB_iff hf3)
  have hY : mxv v1 v2 s < 4294967296 := fv_lt hm2.o4
  have HM := Lib.hid (fun p1 p2 t1 t2 w k1 k2 => c_l02Mix h1 v1 h2 v2 s hm1 hm2 p1 p2 t1 t2 w k1 k2)
  clear hm1 hm2
  cases hf4 : airB (mxv h1 h2 s) (mxv v1 v2 s)
  · have hR := Lib.hid (show mairR h1 v1 h2 v2 s = .tuple #[.agg #[.float .f32 0, .float .f32 0], .int .i64 4] by simp [mairR, hf1, hf2, hf3, hf4])
    generalize mairR h1 v1 h2 v2 s = MR at *
    generalize mxv h1 h2 s = X at *
    generalize mxv v1 v2 s = Y at *
    go_enter Try.func11, Try.ntmps11
    go_wp2_with (first | (refine wl_loadA 25 Try.underlying25 rfl #[.float .f32 X, .float .f32 Y] info_air rfl _ rfl r8 rfl ?_) | (go_at_call 32; with_reducible refine (c_l02Ok X Y hY _ _ _ r8).mono ?_; rw [hf4]; rintro e w1 ⟨rfl, hdr⟩; have hb := drew_below hdr; clear hdr; have g0 := g0.keep hb; have g1 := g1.keep hb; have g2 := g2.keep hb; have r8 := r8.keep hb; have b0 := b0.trans (hb.mono b0.size); clear hb) | (go_at_call 32; with_reducible refine (c_l02Ok h1 v1 hv1 _ _ _ g0).mono ?_; rw [hf1]; rintro e w1 ⟨rfl, hdr⟩; have hb := drew_below hdr; clear hdr; have g0 := g0.keep hb; have g1 := g1.keep hb; have g2 := g2.keep hb; have b0 := b0.trans (hb.mono b0.size); clear hb) | (go_at_call 32; with_reducible refine (c_l02Ok h2 v2 hv2 _ _ _ g1).mono ?_; rw [hf2]; rintro e w1 ⟨rfl, hdr⟩; have hb := drew_below hdr; clear hdr; have g0 := g0.keep hb; have g1 := g1.keep hb; have g2 := g2.keep hb; have b0 := b0.trans (hb.mono b0.size); clear hb) | (go_at_call 33; with_reducible refine (c_l01Share s hs _).mono ?_; rw [hf3]; rintro e w1 ⟨rfl, hdr⟩; have hb := drew_below hdr; clear hdr; have g0 := g0.keep hb; have g1 := g1.keep hb; have g2 := g2.keep hb; have b0 := b0.trans (hb.mono b0.size); clear hb) | (go_at_call 34; with_reducible refine (HM.out _ _ _ _ _ g0 g1).mono ?_; rintro e w1 ⟨rfl, hb⟩; have g0 := g0.keep hb; have g1 := g1.keep hb; have g2 := g2.keep hb; have b0 := b0.trans (hb.mono b0.size); clear hb) | (refine wl_newA 25 rfl _ _ rfl #[.float .f32 X, .float .f32 Y] info_air rfl rfl rfl (air_one _ _) ?_; intro w2 hb r8; have g0 := g0.keep hb; have g1 := g1.keep hb; have g2 := g2.keep hb; have b0 := b0.trans (hb.mono b0.size); clear hb) | (refine wl_storeA 25 rfl _ _ rfl #[.float .f32 0, .float .f32 0] info_air g2 rfl rfl rfl (air_one _ _) ?_))
    exact ret_A2 rfl Try.underlying25 rfl #[.float .f32 0, .float .f32 0] info_air (g2.row_ _) rfl rfl ⟨by rw [hR.out]; rfl, below_setRow b0 (by omega) _⟩
  · have hR := Lib.hid (show mairR h1 v1 h2 v2 s = .tuple #[.agg #[.float .f32 (mxv h1 h2 s), .float .f32 (mxv v1 v2 s)], .int .i64 0] by simp [mairR, hf1, hf2, hf3, hf4])
    generalize mairR h1 v1 h2 v2 s = MR at *
    generalize mxv h1 h2 s = X at *
    generalize mxv v1 v2 s = Y at *
    go_enter Try.func11, Try.ntmps11
    go_wp2_with (first | (refine wl_loadA 25 Try.underlying25 rfl #[.float .f32 X, .float .f32 Y] info_air rfl _ rfl r8 rfl ?_) | (go_at_call 32; with_reducible refine (c_l02Ok X Y hY _ _ _ r8).mono ?_; rw [hf4]; rintro e w1 ⟨rfl, hdr⟩; have hb := drew_below hdr; clear hdr; have g0 := g0.keep hb; have g1 := g1.keep hb; have g2 := g2.keep hb; have r8 := r8.keep hb; have b0 := b0.trans (hb.mono b0.size); clear hb) | (go_at_call 32; with_reducible refine (c_l02Ok h1 v1 hv1 _ _ _ g0).mono ?_; rw [hf1]; rintro e w1 ⟨rfl, hdr⟩; have hb := drew_below hdr; clear hdr; have g0 := g0.keep hb; have g1 := g1.keep hb; have g2 := g2.keep hb; have b0 := b0.trans (hb.mono b0.size); clear hb) | (go_at_call 32; with_reducible refine (c_l02Ok h2 v2 hv2 _ _ _ g1).mono ?_; rw [hf2]; rintro e w1 ⟨rfl, hdr⟩; have hb := drew_below hdr; clear hdr; have g0 := g0.keep hb; have g1 := g1.keep hb; have g2 := g2.keep hb; have b0 := b0.trans (hb.mono b0.size); clear hb) | (go_at_call 33; with_reducible refine (c_l01Share s hs _).mono ?_; rw [hf3]; rintro e w1 ⟨rfl, hdr⟩; have hb := drew_below hdr; clear hdr; have g0 := g0.keep hb; have g1 := g1.keep hb; have g2 := g2.keep hb; have b0 := b0.trans (hb.mono b0.size); clear hb) | (go_at_call 34; with_reducible refine (HM.out _ _ _ _ _ g0 g1).mono ?_; rintro e w1 ⟨rfl, hb⟩; have g0 := g0.keep hb; have g1 := g1.keep hb; have g2 := g2.keep hb; have b0 := b0.trans (hb.mono b0.size); clear hb) | (refine wl_newA 25 rfl _ _ rfl #[.float .f32 X, .float .f32 Y] info_air rfl rfl rfl (air_one _ _) ?_; intro w2 hb r8; have g0 := g0.keep hb; have g1 := g1.keep hb; have g2 := g2.keep hb; have b0 := b0.trans (hb.mono b0.size); clear hb) | (refine wl_storeA 25 rfl _ _ rfl #[.float .f32 X, .float .f32 Y] info_air g2 rfl rfl rfl (air_one _ _) ?_))
    exact ret_A2 rfl Try.underlying25 rfl #[.float .f32 X, .float .f32 Y] info_air (g2.row_ _) rfl rfl ⟨by rw [hR.out]; rfl, below_setRow b0 (by omega) _⟩
theorem c_implMixAir (h1 v1 h2 v2 : Nat) (hh1 : h1 < 4294967296) (hv1 : v1 < 4294967296) (hh2 : h2 < 4294967296) (hv2 : v2 < 4294967296) (s : Nat) (hs : s < 4294967296) (w : World) : Calls Try.prog 13 #[.agg #[.float .f32 h1, .float .f32 v1], .agg #[.float .f32 h2, .float .f32 v2], .float .f32 s] w fun e w' => e = .returned (mairR h1 v1 h2 v2 s) ∧ Below w.heap.size w w' := by
  have g0 : Holds (((w.alloc (.cells #[.float .f32 h1, .float .f32 v1] 25)).alloc (.cells #[.float .f32 h2, .float .f32 v2] 25)).alloc (.cells #[.float .f32 0, .float .f32 0] 25)) w.heap.size 25 #[.float .f32 h1, .float .f32 v1] := ((Holds.new _ _ _).alloc _).alloc _
  have g1 : Holds (((w.alloc (.cells #[.float .f32 h1, .float .f32 v1] 25)).alloc (.cells #[.float .f32 h2, .float .f32 v2] 25)).alloc (.cells #[.float .f32 0, .float .f32 0] 25)) (w.heap.size + 1) 25 #[.float .f32 h2, .float .f32 v2] := (Holds.new' _ _ _ (by simp)).alloc _
  have g2 : Holds (((w.alloc (.cells #[.float .f32 h1, .float .f32 v1] 25)).alloc (.cells #[.float .f32 h2, .float .f32 v2] 25)).alloc (.cells #[.float .f32 0, .float .f32 0] 25)) (w.heap.size + 1 + 1) 25 #[.float .f32 0, .float .f32 0] := Holds.new' _ _ _ (by simp)
  have b0 : Below w.heap.size w (((w.alloc (.cells #[.float .f32 h1, .float .f32 v1] 25)).alloc (.cells #[.float .f32 h2, .float .f32 v2] 25)).alloc (.cells #[.float .f32 0, .float .f32 0] 25)) := (((Below.refl _ _).alloc (by simp) _).alloc (by simp) _).alloc (by simp; omega) _
  cases hf1 : airB h1 v1
  · have hR := Lib.hid (show mairR h1 v1 h2 v2 s = .tuple #[.agg #[.float .f32 0, .float .f32 0], .int .i64 1] by simp [mairR, hf1])
    go_enter Try.func13, Try.ntmps13
    go_wp2_with (first | (refine wl_loadA 25 Try.underlying25 rfl #[.float .f32 h1, .float .f32 v1] info_air rfl _ rfl g0 rfl ?_) | (refine wl_loadA 25 Try.underlying25 rfl #[.float .f32 h2, .float .f32 v2] info_air rfl _ rfl g1 rfl ?_) | (go_at_call 35; with_reducible refine (c_ValidAir h1 v1 hv1 _).mono ?_; rw [hf1]; rintro e w1 ⟨rfl, hb⟩; have g0 := g0.keep hb; have g1 := g1.keep hb; have g2 := g2.keep hb; have b0 := b0.trans (hb.mono b0.size); clear hb) | (refine wl_storeA 25 rfl _ _ rfl #[.float .f32 0, .float .f32 0] info_air g2 rfl rfl rfl (air_one _ _) ?_))
    exact ret_A2 rfl Try.underlying25 rfl #[.float .f32 0, .float .f32 0] info_air (g2.row_ _) rfl rfl ⟨by rw [hR.out]; rfl, below_setRow b0 (by omega) _⟩
  cases hf2 : airB h2 v2
  · have hR := Lib.hid (show mairR h1 v1 h2 v2 s = .tuple #[.agg #[.float .f32 0, .float .f32 0], .int .i64 1] by simp [mairR, hf1, hf2])
    go_enter Try.func13, Try.ntmps13
    go_wp2_with (first | (refine wl_loadA 25 Try.underlying25 rfl #[.float .f32 h1, .float .f32 v1] info_air rfl _ rfl g0 rfl ?_) | (refine wl_loadA 25 Try.underlying25 rfl #[.float .f32 h2, .float .f32 v2] info_air rfl _ rfl g1 rfl ?_) | (go_at_call 35; with_reducible refine (c_ValidAir h1 v1 hv1 _).mono ?_; rw [hf1]; rintro e w1 ⟨rfl, hb⟩; have g0 := g0.keep hb; have g1 := g1.keep hb; have g2 := g2.keep hb; have b0 := b0.trans (hb.mono b0.size); clear hb) | (go_at_call 35; with_reducible refine (c_ValidAir h2 v2 hv2 _).mono ?_; rw [hf2]; rintro e w1 ⟨rfl, hb⟩; have g0 := g0.keep hb; have g1 := g1.keep hb; have g2 := g2.keep hb; have b0 := b0.trans (hb.mono b0.size); clear hb) | (refine wl_storeA 25 rfl _ _ rfl #[.float .f32 0, .float .f32 0] info_air g2 rfl rfl rfl (air_one _ _) ?_))
    exact ret_A2 rfl Try.underlying25 rfl #[.float .f32 0, .float .f32 0] info_air (g2.row_ _) rfl rfl ⟨by rw [hR.out]; rfl, below_setRow b0 (by omega) _⟩
  cases hf3 : shareB s
  · have hR := Lib.hid (show mairR h1 v1 h2 v2 s = .tuple #[.agg #[.float .f32 0, .float .f32 0], .int .i64 2] by simp [mairR, hf1, hf2, hf3])
    go_enter Try.func13, Try.ntmps13
    go_wp2_with (first | (refine wl_loadA 25 Try.underlying25 rfl #[.float .f32 h1, .float .f32 v1] info_air rfl _ rfl g0 rfl ?_) | (refine wl_loadA 25 Try.underlying25 rfl #[.float .f32 h2, .float .f32 v2] info_air rfl _ rfl g1 rfl ?_) | (go_at_call 35; with_reducible refine (c_ValidAir h1 v1 hv1 _).mono ?_; rw [hf1]; rintro e w1 ⟨rfl, hb⟩; have g0 := g0.keep hb; have g1 := g1.keep hb; have g2 := g2.keep hb; have b0 := b0.trans (hb.mono b0.size); clear hb) | (go_at_call 35; with_reducible refine (c_ValidAir h2 v2 hv2 _).mono ?_; rw [hf2]; rintro e w1 ⟨rfl, hb⟩; have g0 := g0.keep hb; have g1 := g1.keep hb; have g2 := g2.keep hb; have b0 := b0.trans (hb.mono b0.size); clear hb) | (go_at_call 36; with_reducible refine (c_isPart s hs _).mono ?_; rw [hf3]; rintro e w1 ⟨rfl, hb⟩; have g0 := g0.keep hb; have g1 := g1.keep hb; have g2 := g2.keep hb; have b0 := b0.trans (hb.mono b0.size); clear hb) | (refine wl_storeA 25 rfl _ _ rfl #[.float .f32 0, .float .f32 0] info_air g2 rfl rfl rfl (air_one _ _) ?_))
    exact ret_A2 rfl Try.underlying25 rfl #[.float .f32 0, .float .f32 0] info_air (g2.row_ _) rfl rfl ⟨by rw [hR.out]; rfl, below_setRow b0 (by omega) _⟩
  have hm1 := mix_fin hh1 (air_fin hh1 hf1).1 hh2 (air_fin hh2 hf2).1 (shareB_iff hf3)
  have hm2 := mix_fin hv1 (air_fin hh1 hf1).2 hv2 (air_fin hh2 hf2).2 (shareB_iff hf3)
  have hY : mxv v1 v2 s < 4294967296 := fv_lt hm2.o4
  have HM := Lib.hid (fun w => c_mixAir h1 v1 h2 v2 s hm1 hm2 w)
  clear hm1 hm2
  cases hf4 : airB (mxv h1 h2 s) (mxv v1 v2 s)
  · have hR := Lib.hid (show mairR h1 v1 h2 v2 s = .tuple #[.agg #[.float .f32 0, .float .f32 0], .int .i64 4] by simp [mairR, hf1, hf2, hf3, hf4])
    generalize mairR h1 v1 h2 v2 s = MR at *
    generalize mxv h1 h2 s = X at *
    generalize mxv v1 v2 s = Y at *
    go_enter Try.func13, Try.ntmps13
    go_wp2_with (first | (refine wl_loadA 25 Try.underlying25 rfl #[.float .f32 h1, .float .f32 v1] info_air rfl _ rfl g0 rfl ?_) | (refine wl_loadA 25 Try.underlying25 rfl #[.float .f32 h2, .float .f32 v2] info_air rfl _ rfl g1 rfl ?_) | (refine wl_loadA 25 Try.underlying25 rfl #[.float .f32 X, .float .f32 Y] info_air rfl _ rfl r8 rfl ?_) | (go_at_call 35; with_reducible refine (c_ValidAir X Y hY _).mono ?_; rw [hf4]; rintro e w1 ⟨rfl, hb⟩; have g0 := g0.keep hb; have g1 := g1.keep hb; have g2 := g2.keep hb; have r8 := r8.keep hb; have b0 := b0.trans (hb.mono b0.size); clear hb) | (go_at_call 35; with_reducible refine (c_ValidAir h1 v1 hv1 _).mono ?_; rw [hf1]; rintro e w1 ⟨rfl, hb⟩; have g0 := g0.keep hb; have g1 := g1.keep hb; have g2 := g2.keep hb; have b0 := b0.trans (hb.mono b0.size); clear hb) | (go_at_call 35; with_reducible refine (c_ValidAir h2 v2 hv2 _).mono ?_; rw [hf2]; rintro e w1 ⟨rfl, hb⟩; have g0 := g0.keep hb; have g1 := g1.keep hb; have g2 := g2.keep hb; have b0 := b0.trans (hb.mono b0.size); clear hb) | (go_at_call 36; with_reducible refine (c_isPart s hs _).mono ?_; rw [hf3]; rintro e w1 ⟨rfl, hb⟩; have g0 := g0.keep hb; have g1 := g1.keep hb; have g2 := g2.keep hb; have b0 := b0.trans (hb.mono b0.size); clear hb) | (go_at_call 37; with_reducible refine (HM.out _).mono ?_; rintro e w1 ⟨rfl, hb⟩; have g0 := g0.keep hb; have g1 := g1.keep hb; have g2 := g2.keep hb; have b0 := b0.trans (hb.mono b0.size); clear hb) | (refine wl_newA 25 rfl _ _ rfl #[.float .f32 X, .float .f32 Y] info_air rfl rfl rfl (air_one _ _) ?_; intro w2 hb r8; have g0 := g0.keep hb; have g1 := g1.keep hb; have g2 := g2.keep hb; have b0 := b0.trans (hb.mono b0.size); clear hb) | (refine wl_storeA 25 rfl _ _ rfl #[.float .f32 0, .float .f32 0] info_air g2 rfl rfl rfl (air_one _ _) ?_))
    exact ret_A2 rfl Try.underlying25 rfl #[.float .f32 0, .float .f32 0] info_air (g2.row_ _) rfl rfl ⟨by rw [hR.out]; rfl, below_setRow b0 (by omega) _⟩
  · have hR := Lib.hid (show mairR h1 v1 h2 v2 s = .tuple #[.agg #[.float .f32 (mxv h1 h2 s), .float .f32 (mxv v1 v2 s)], .int .i64 0] by simp [mairR, hf1, hf2, hf3, hf4])
    generalize mairR h1 v1 h2 v2 s = MR at *
    generalize mxv h1 h2 s = X at *
    generalize mxv v1 v2 s = Y at *
    go_enter Try.func13, Try.ntmps13
    go_wp2_with (first | (refine wl_loadA 25 Try.underlying25 rfl #[.float .f32 h1, .float .f32 v1] info_air rfl _ rfl g0 rfl ?_) | (refine wl_loadA 25 Try.underlying25 rfl #[.float .f32 h2, .float .f32 v2] info_air rfl _ rfl g1 rfl ?_) | (refine wl_loadA 25 Try.underlying25 rfl #[.float .f32 X, .float .f32 Y] info_air rfl _ rfl r8 rfl ?_) | (go_at_call 35; with_reducible refine (c_ValidAir X Y hY _).mono ?_; rw [hf4]; rintro e w1 ⟨rfl, hb⟩; have g0 := g0.keep hb; have g1 := g1.keep hb; have g2 := g2.keep hb; have r8 := r8.keep hb; have b0 := b0.trans (hb.mono b0.size); clear hb) | (go_at_call 35; with_reducible refine (c_ValidAir h1 v1 hv1 _).mono ?_; rw [hf1]; rintro e w1 ⟨rfl, hb⟩; have g0 := g0.keep hb; have g1 := g1.keep hb; have g2 := g2.keep hb; have b0 := b0.trans (hb.mono b0.size); clear hb) | (go_at_call 35; with_reducible refine (c_ValidAir h2 v2 hv2 _).mono ?_; rw [hf2]; rintro e w1 ⟨rfl, hb⟩; have g0 := g0.keep hb; have g1 := g1.keep hb; have g2 := g2.keep hb; have b0 := b0.trans (hb.mono b0.size); clear hb) | (go_at_call 36; with_reducible refine (c_isPart s hs _).mono ?_; rw [hf3]; rintro e w1 ⟨rfl, hb⟩; have g0 := g0.keep hb; have g1 := g1.keep hb; have g2 := g2.keep hb; have b0 := b0.trans (hb.mono b0.size); clear hb) | (go_at_call 37; with_reducible refine (HM.out _).mono ?_; rintro e w1 ⟨rfl, hb⟩; have g0 := g0.keep hb; have g1 := g1.keep hb; have g2 := g2.keep hb; have b0 := b0.trans (hb.mono b0.size); clear hb) | (refine wl_newA 25 rfl _ _ rfl #[.float .f32 X, .float .f32 Y] info_air rfl rfl rfl (air_one _ _) ?_; intro w2 hb r8; have g0 := g0.keep hb; have g1 := g1.keep hb; have g2 := g2.keep hb; have b0 := b0.trans (hb.mono b0.size); clear hb) | (refine wl_storeA 25 rfl _ _ rfl #[.float .f32 X, .float .f32 Y] info_air g2 rfl rfl rfl (air_one _ _) ?_))
    exact ret_A2 rfl Try.underlying25 rfl #[.float .f32 X, .float .f32 Y] info_air (g2.row_ _) rfl rfl ⟨by rw [hR.out]; rfl, below_setRow b0 (by omega) _⟩
end Go.Proofs.Ytgjibocemffjhaa
