/-
  Contracts and the walk: droplets that are put.
-/
import Derived.Test.YtjhognfkjdccfaaPut0
import Derived.Deep.RegionWith
namespace Go.Proofs.Ytjhognfkjdccfaa
open Go.RowKit Fl
set_option maxRecDepth 20000
set_option maxHeartbeats 4000000
set_option linter.unusedSimpArgs false

/-- the row with one number turned -/
def setS (f : Nat → Nat) (k v : Nat) : Nat → Nat := fun j => if j = k then v else f j
theorem setS_row (f : Nat → Nat) (k v : Nat) (j : Nat) : (if j = k then Value.float .f32 v else Value.float .f32 (f j)) = Value.float .f32 (setS f k v j) := by unfold setS; split <;> rfl
theorem setS_le {f : Nat → Nat} {k v : Nat} (hf : ∀ j, j < 20 → f j ≤ 2139095040) (hv : v ≤ 2139095040) : ∀ j, j < 20 → setS f k v j ≤ 2139095040 := by
  intro j hj; unfold setS; split
  · exact hv
  · exact hf j hj
/-- droplets put in -/
def putF (f : Nat → Nat) (m n : Nat) : Nat → Nat :=
  if m < 1065353216 then setS f 0 (fv .add .f32 (f 0) (fv .mul .f32 n m))
  else if cf m = 19 then setS f (cf m) (fv .add .f32 (f (cf m)) (fv .mul .f32 n (fv .quo .f32 m (mb (cf m)))))
  else setS (setS f (cf m) (fv .add .f32 (f (cf m)) (fv .mul .f32 n (fv .sub .f32 1065353216 (part m (cf m)))))) (cf m + 1) (fv .add .f32 (f (cf m + 1)) (fv .mul .f32 n (part m (cf m))))
theorem lt_one {m : Nat} (hm : m ≤ 2139095040) (h : m < 1065353216) : FloatKind.f32.format.order m 1065353216 = some .lt := by
  rw [ord_pos hm (by omega), Int.compare_eq_lt.2 (by omega)]
theorem not_lt_one {m : Nat} (hm : m ≤ 2139095040) (h : ¬ m < 1065353216) : (FloatKind.f32.format.order m 1065353216 == some .lt) = false := by
  rw [ord_pos hm (by omega)]
  have : compare (m : Int) ((1065353216 : Nat) : Int) ≠ .lt := by rw [ne_eq, Int.compare_eq_lt]; omega
  revert this
  generalize compare (m : Int) ((1065353216 : Nat) : Int) = c
  cases c <;> simp
structure PutOk (f : Nat → Nat) (m n : Nat) : Prop where
  low : m < 1065353216 → fok .mul .f32 n m = true ∧ fok .add .f32 (f 0) (fv .mul .f32 n m) = true
  last : ¬ m < 1065353216 → fok .quo .f32 m (mb (cf m)) = true ∧ fok .mul .f32 n (fv .quo .f32 m (mb (cf m))) = true ∧ fok .add .f32 (f (cf m)) (fv .mul .f32 n (fv .quo .f32 m (mb (cf m)))) = true
  mid : ¬ m < 1065353216 → cf m < 19 → (fok .sub .f32 m (mb (cf m)) = true ∧ fok .quo .f32 (fv .sub .f32 m (mb (cf m))) (mb (cf m)) = true) ∧ (fok .sub .f32 1065353216 (part m (cf m)) = true ∧ fok .mul .f32 n (fv .sub .f32 1065353216 (part m (cf m))) = true ∧ fok .add .f32 (f (cf m)) (fv .mul .f32 n (fv .sub .f32 1065353216 (part m (cf m)))) = true) ∧
    (fok .mul .f32 n (part m (cf m)) = true ∧ fok .add .f32 (f (cf m + 1)) (fv .mul .f32 n (part m (cf m))) = true)
  le : ∀ j, j < 20 → putF f m n j ≤ 2139095040
theorem put_ok {f : Nat → Nat} (hf : ∀ j, j < 20 → f j ≤ 2139095040) {m n : Nat} (hm : m < 2139095040) (hn : n < 2139095040) : PutOk f m n := by
  have hk := cf_le m
  have a0 := mul_ff hn hm
  have b0 := add_nn (hf 0 (by omega)) a0.2
  by_cases h1 : m < 1065353216
  · exact ⟨fun _ => ⟨a0.1, b0.1⟩, fun h => absurd h1 h, fun h => absurd h1 h, by unfold putF; rw [if_pos h1]; exact setS_le hf b0.2⟩
  · have c0 := over_ok hm (cf m) (by omega)
    have c1 := mul_ff hn (show fv .quo .f32 m (mb (cf m)) < 2139095040 by omega)
    have c2 := add_nn (hf (cf m) (by omega)) c1.2
    have hs := cf_spec (show m ≤ 2139095040 by omega) (by omega)
    have mid : cf m < 19 → ((fok .sub .f32 m (mb (cf m)) = true ∧ fok .quo .f32 (fv .sub .f32 m (mb (cf m))) (mb (cf m)) = true) ∧ (fok .sub .f32 1065353216 (part m (cf m)) = true ∧ fok .mul .f32 n (fv .sub .f32 1065353216 (part m (cf m))) = true ∧ fok .add .f32 (f (cf m)) (fv .mul .f32 n (fv .sub .f32 1065353216 (part m (cf m)))) = true) ∧
    (fok .mul .f32 n (part m (cf m)) = true ∧ fok .add .f32 (f (cf m + 1)) (fv .mul .f32 n (part m (cf m))) = true)) ∧ fv .add .f32 (f (cf m)) (fv .mul .f32 n (fv .sub .f32 1065353216 (part m (cf m)))) ≤ 2139095040 ∧ fv .add .f32 (f (cf m + 1)) (fv .mul .f32 n (part m (cf m))) ≤ 2139095040 := by
      intro h2
      obtain ⟨p1, p2, p3⟩ := part_ok hm h2 hs.1 (hs.2 h2)
      have q1 := sub_one' p3
      have q2 := mul_ff hn (show fv .sub .f32 1065353216 (part m (cf m)) < 2139095040 by omega)
      have q3 := add_nn (hf (cf m) (by omega)) q2.2
      have r2 := mul_ff hn (show part m (cf m) < 2139095040 by omega)
      have r3 := add_nn (hf (cf m + 1) (by omega)) r2.2
      exact ⟨⟨⟨p1, p2⟩, ⟨q1.1, q2.1, q3.1⟩, r2.1, r3.1⟩, q3.2, r3.2⟩
    refine ⟨fun h => absurd h h1, fun _ => ⟨c0.1, c1.1, c2.1⟩, fun _ h2 => (mid h2).1, ?_⟩
    unfold putF; rw [if_neg h1]
    by_cases h2 : cf m = 19
    · rw [if_pos h2]; exact setS_le hf c2.2
    · rw [if_neg h2]
      have := (mid (by omega)).2
      exact setS_le (setS_le hf this.1) this.2
/-- the row of a block, where the rest is as it was -/
structure PutTo (w w' : World) (g : Nat) (t : TypeId) (F : Nat → Nat) : Prop where
  row : Holds w' g t (row 20 fun j => .float .f32 (F j))
  bel : ∀ B a, B ≤ g → Below B a w → Below B a w'
  keep : ∀ g' t' cs, g' ≠ g → Holds w g' t' cs → Holds w' g' t' cs
  size : w'.heap.size = w.heap.size
theorem PutTo.refl {w : World} {g : Nat} {t : TypeId} {F : Nat → Nat} (h : Holds w g t (Go.Proofs.Ytjhognfkjdccfaa.row 20 fun j => .float .f32 (F j))) : PutTo w w g t F := ⟨h, fun _ _ _ h => h, fun _ _ _ _ h => h, rfl⟩
theorem PutTo.drew {w w' : World} {g : Nat} {t : TypeId} {F : Nat → Nat} (h : PutTo w w' g t F) : PutTo w w'.drew g t F :=
  ⟨h.row.drew, fun B a hB hb => (h.bel B a hB hb).drew, fun g' t' cs hn hh => (h.keep g' t' cs hn hh).drew, h.size⟩
theorem PutTo.set {w w' : World} {g : Nat} {t : TypeId} {F : Nat → Nat} (h : PutTo w w' g t F) (k v : Nat) : PutTo w (w'.setCell ⟨g, k, none⟩ (.float .f32 v)) g t (setS F k v) :=
  ⟨(h.row.set_row k _).to (fun j _ => setS_row F k v j), fun B a hB hb => (h.bel B a hB hb).setCell hB _, fun g' t' cs hn hh => (h.keep g' t' cs hn hh).far hn _, (by simp [World.setCell, h.size])⟩
theorem c_put1 (f : Nat → Nat) (m n : Nat) (g : Nat) (t : TypeId) (w : World) (g0 : Holds w g t (row 20 fun j => .float .f32 (f j))) (HP : Hid (PutTo w w g t f)) (hord : FloatKind.f32.format.order m 1065353216 = some .lt) (o1 : fok .mul .f32 n m = true) (o2 : fok .add .f32 (f 0) (fv .mul .f32 n m) = true) (HE : Hid (putF f m n = setS f 0 (fv .add .f32 (f 0) (fv .mul .f32 n m)))) : Calls Try.prog 49 #[.pointer (some ⟨g, 0, none⟩), .float .f32 m, .float .f32 n] w fun e w' => e = .returned (.tuple #[]) ∧ PutTo w w' g t (putF f m n) := by
  have hc := g0.drew.at_ (i := 0) (by omega)
  have hfz := g0.drew.free 0
  clear g0
  go_enter Try.func49, Try.ntmps49
  go_wp2
  go_region
  go_wp2
  first | (refine bodyPost_ret (results_none rfl _ _ _) rfl ?_) | (refine bodyPost_end (results_none rfl _ _ _) rfl ?_)
  exact ⟨rfl, by rw [HE.out]; exact (HP.out.set 0 _).drew⟩
theorem c_put2 (f : Nat → Nat) (m n : Nat) (g : Nat) (t : TypeId) (w : World) (g0 : Holds w g t (row 20 fun j => .float .f32 (f j))) (HP : Hid (PutTo w w g t f)) (ho : (FloatKind.f32.format.order m 1065353216 == some .lt) = false) (k : Nat) (HC : Hid (∀ w, Calls Try.prog 62 #[.float .f32 m] w fun e w' => e = .returned (.int .i64 k) ∧ w = w')) (HM : Hid (∀ w, Calls Try.prog 58 #[.int .i64 k] w fun e w' => e = .returned (.float .f32 (mb k)) ∧ w = w'))
    (hk : k < 20) (h19 : ((k : Int) == 19) = true) (l1 : fok .quo .f32 m (mb k) = true) (l2 : fok .mul .f32 n (fv .quo .f32 m (mb k)) = true) (l3 : fok .add .f32 (f k) (fv .mul .f32 n (fv .quo .f32 m (mb k))) = true) (HE : Hid (putF f m n = setS f k (fv .add .f32 (f k) (fv .mul .f32 n (fv .quo .f32 m (mb k)))))) : Calls Try.prog 49 #[.pointer (some ⟨g, 0, none⟩), .float .f32 m, .float .f32 n] w fun e w' => e = .returned (.tuple #[]) ∧ PutTo w w' g t (putF f m n) := by
  have hi0 : (0 : Int) ≤ (k : Int) := by omega
  have hi1 : (k : Int) < 20 := by omega
  have hc := g0.drew.at_ hk
  have hfz := g0.drew.free k
  clear g0 hk
  go_enter Try.func49, Try.ntmps49
  go_wp2_with (go_at_call 62; with_reducible refine (HC.out _).mono ?_; rintro e w1 ⟨rfl, rfl⟩)
  go_region_with ((go_at_call 58; with_reducible refine (HM.out _).mono ?_; rintro e w1 ⟨rfl, rfl⟩))
  all_goals go_wp2
  all_goals (first | (refine bodyPost_ret (results_none rfl _ _ _) rfl ?_) | (refine bodyPost_end (results_none rfl _ _ _) rfl ?_))
  all_goals exact ⟨rfl, by rw [HE.out]; exact (HP.out.set k _).drew⟩
theorem c_put3 (f : Nat → Nat) (m n : Nat) (g : Nat) (t : TypeId) (w : World) (g0 : Holds w g t (row 20 fun j => .float .f32 (f j))) (HP : Hid (PutTo w w g t f)) (ho : (FloatKind.f32.format.order m 1065353216 == some .lt) = false) (k : Nat) (HC : Hid (∀ w, Calls Try.prog 62 #[.float .f32 m] w fun e w' => e = .returned (.int .i64 k) ∧ w = w')) (HM : Hid (∀ w, Calls Try.prog 58 #[.int .i64 k] w fun e w' => e = .returned (.float .f32 (mb k)) ∧ w = w'))
    (hk : k < 19) (h19 : ((k : Int) == 19) = false) (s : Nat) (hs : fv .quo .f32 (fv .sub .f32 m (mb k)) (mb k) = s) (a1 : fok .sub .f32 m (mb k) = true) (a2 : fok .quo .f32 (fv .sub .f32 m (mb k)) (mb k) = true) (b1 : fok .sub .f32 1065353216 s = true) (b2 : fok .mul .f32 n (fv .sub .f32 1065353216 s) = true) (b3 : fok .add .f32 (f k) (fv .mul .f32 n (fv .sub .f32 1065353216 s)) = true) (d2 : fok .mul .f32 n s = true) (d3 : fok .add .f32 (f (k + 1)) (fv .mul .f32 n s) = true) (HE : Hid (putF f m n = setS (setS f k (fv .add .f32 (f k) (fv .mul .f32 n (fv .sub .f32 1065353216 s)))) (k + 1) (fv .add .f32 (f (k + 1)) (fv .mul .f32 n s)))) : Calls Try.prog 49 #[.pointer (some ⟨g, 0, none⟩), .float .f32 m, .float .f32 n] w fun e w' => e = .returned (.tuple #[]) ∧ PutTo w w' g t (putF f m n) := by
  have hi0 : (0 : Int) ≤ (k : Int) := by omega
  have hi1 : (k : Int) < 20 := by omega
  have hj0 : (0 : Int) ≤ (k : Int) + 1 := by omega
  have hj1 : (k : Int) + 1 < 20 := by omega
  have hj2 : ((k : Int) + 1).toNat = k + 1 := by omega
  have hj3 : IntKind.i64.wrap ((k : Int) + 1) = (k : Int) + 1 := IntWalk.i64_in _ (by omega)
  have hc := g0.drew.at_ (i := k) (by omega)
  have hfz := g0.drew.free k
  have HK := Lib.hid hk
  clear g0 hk
  go_enter Try.func49, Try.ntmps49
  go_wp2_with (first | (go_at_call 62; with_reducible refine (HC.out _).mono ?_; rintro e w1 ⟨rfl, rfl⟩) | (go_at_call 58; with_reducible refine (HM.out _).mono ?_; rintro e w1 ⟨rfl, rfl⟩))
  go_region
  have P6 := (HP.out.set k (fv .add .f32 (f k) (fv .mul .f32 n (fv .sub .f32 1065353216 s)))).drew
  have hc7 := P6.row.drew.at_ (i := k + 1) (by have := HK.out; omega)
  rw [show setS f k (fv .add .f32 (f k) (fv .mul .f32 n (fv .sub .f32 1065353216 s))) (k + 1) = f (k + 1) by unfold setS; rw [if_neg (by omega)]] at hc7
  have hf7 := P6.row.drew.free (k + 1)
  have P7 := Lib.hid (P6.set (k + 1) (fv .add .f32 (f (k + 1)) (fv .mul .f32 n s))).drew
  clear P6 hc hfz HP
  go_wp2
  go_region
  go_wp2
  first | (refine bodyPost_ret (results_none rfl _ _ _) rfl ?_) | (refine bodyPost_end (results_none rfl _ _ _) rfl ?_)
  exact ⟨rfl, by rw [HE.out]; exact P7.out⟩
theorem c_put (f : Nat → Nat) (hf : ∀ j, j < 20 → f j ≤ 2139095040) (m n : Nat) (hm : m < 2139095040) (hn : n < 2139095040) (g : Nat) (t : TypeId) (w : World) (g0 : Holds w g t (row 20 fun j => .float .f32 (f j))) : Calls Try.prog 49 #[.pointer (some ⟨g, 0, none⟩), .float .f32 m, .float .f32 n] w fun e w' => e = .returned (.tuple #[]) ∧ PutTo w w' g t (putF f m n) := by
  have HO := put_ok hf hm hn
  have HP := Lib.hid (PutTo.refl g0)
  by_cases h1 : m < 1065353216
  · exact c_put1 f m n g t w g0 HP (lt_one (Nat.le_of_lt hm) h1) (HO.low h1).1 (HO.low h1).2 (Lib.hid (by unfold putF; rw [if_pos h1]))
  have hk := cf_le m
  by_cases h2 : cf m = 19
  · exact c_put2 f m n g t w g0 HP (not_lt_one (Nat.le_of_lt hm) h1) (cf m) (Lib.hid (fun w => c_classFor m w)) (Lib.hid (fun w => c_mass (cf m) (by omega) w)) (by omega) (by rw [h2]; rfl) (HO.last h1).1 (HO.last h1).2.1 (HO.last h1).2.2 (Lib.hid (by unfold putF; rw [if_neg h1, if_pos h2]))
  · obtain ⟨⟨a1, a2⟩, ⟨b1, b2, b3⟩, d2, d3⟩ := HO.mid h1 (by omega)
    exact c_put3 f m n g t w g0 HP (not_lt_one (Nat.le_of_lt hm) h1) (cf m) (Lib.hid (fun w => c_classFor m w)) (Lib.hid (fun w => c_mass (cf m) (by omega) w)) (by omega) (by simp; omega) (part m (cf m)) rfl a1 a2 b1 b2 b3 d2 d3 (Lib.hid (by unfold putF; rw [if_neg h1, if_neg h2]))
theorem c_l01Put1 (f : Nat → Nat) (m n : Nat) (g : Nat) (t : TypeId) (w : World) (g0 : Holds w g t (row 20 fun j => .float .f32 (f j))) (HP : Hid (PutTo w w g t f)) (hord : FloatKind.f32.format.order m 1065353216 = some .lt) (o1 : fok .mul .f32 n m = true) (o2 : fok .add .f32 (f 0) (fv .mul .f32 n m) = true) (HE : Hid (putF f m n = setS f 0 (fv .add .f32 (f 0) (fv .mul .f32 n m)))) : Calls Try.prog 47 #[.pointer (some ⟨g, 0, none⟩), .float .f32 m, .float .f32 n] w fun e w' => e = .returned (.tuple #[]) ∧ PutTo w w' g t (putF f m n) := by
  have hc := g0.drew.at_ (i := 0) (by omega)
  have hfz := g0.drew.free 0
  clear g0
  go_enter Try.func47, Try.ntmps47
  go_wp2
  go_region
  go_wp2
  first | (refine bodyPost_ret (results_none rfl _ _ _) rfl ?_) | (refine bodyPost_end (results_none rfl _ _ _) rfl ?_)
  exact ⟨rfl, by rw [HE.out]; exact (HP.out.set 0 _).drew⟩
theorem c_l01Put2 (f : Nat → Nat) (m n : Nat) (g : Nat) (t : TypeId) (w : World) (g0 : Holds w g t (row 20 fun j => .float .f32 (f j))) (HP : Hid (PutTo w w g t f)) (ho : (FloatKind.f32.format.order m 1065353216 == some .lt) = false) (k : Nat) (HC : Hid (∀ w, Calls Try.prog 60 #[.float .f32 m] w fun e w' => e = .returned (.int .i64 k) ∧ w = w')) (HM : Hid (∀ w, Calls Try.prog 57 #[.int .i64 k] w fun e w' => e = .returned (.float .f32 (mb k)) ∧ w = w'))
    (hk : k < 20) (h19 : ((k : Int) == 19) = true) (l1 : fok .quo .f32 m (mb k) = true) (l2 : fok .mul .f32 n (fv .quo .f32 m (mb k)) = true) (l3 : fok .add .f32 (f k) (fv .mul .f32 n (fv .quo .f32 m (mb k))) = true) (HE : Hid (putF f m n = setS f k (fv .add .f32 (f k) (fv .mul .f32 n (fv .quo .f32 m (mb k)))))) : Calls Try.prog 47 #[.pointer (some ⟨g, 0, none⟩), .float .f32 m, .float .f32 n] w fun e w' => e = .returned (.tuple #[]) ∧ PutTo w w' g t (putF f m n) := by
  have hi0 : (0 : Int) ≤ (k : Int) := by omega
  have hi1 : (k : Int) < 20 := by omega
  have hc := g0.drew.at_ hk
  have hfz := g0.drew.free k
  clear g0 hk
  go_enter Try.func47, Try.ntmps47
  go_wp2_with (go_at_call 60; with_reducible refine (HC.out _).mono ?_; rintro e w1 ⟨rfl, rfl⟩)
  go_region_with ((go_at_call 57; with_reducible refine (HM.out _).mono ?_; rintro e w1 ⟨rfl, rfl⟩))
  all_goals go_wp2
  all_goals (first | (refine bodyPost_ret (results_none rfl _ _ _) rfl ?_) | (refine bodyPost_end (results_none rfl _ _ _) rfl ?_))
  all_goals exact ⟨rfl, by rw [HE.out]; exact (HP.out.set k _).drew⟩
theorem c_l01Put3 (f : Nat → Nat) (m n : Nat) (g : Nat) (t : TypeId) (w : World) (g0 : Holds w g t (row 20 fun j => .float .f32 (f j))) (HP : Hid (PutTo w w g t f)) (ho : (FloatKind.f32.format.order m 1065353216 == some .lt) = false) (k : Nat) (HC : Hid (∀ w, Calls Try.prog 60 #[.float .f32 m] w fun e w' => e = .returned (.int .i64 k) ∧ w = w')) (HM : Hid (∀ w, Calls Try.prog 57 #[.int .i64 k] w fun e w' => e = .returned (.float .f32 (mb k)) ∧ w = w'))
    (hk : k < 19) (h19 : ((k : Int) == 19) = false) (s : Nat) (hs : fv .quo .f32 (fv .sub .f32 m (mb k)) (mb k) = s) (a1 : fok .sub .f32 m (mb k) = true) (a2 : fok .quo .f32 (fv .sub .f32 m (mb k)) (mb k) = true) (b1 : fok .sub .f32 1065353216 s = true) (b2 : fok .mul .f32 n (fv .sub .f32 1065353216 s) = true) (b3 : fok .add .f32 (f k) (fv .mul .f32 n (fv .sub .f32 1065353216 s)) = true) (d2 : fok .mul .f32 n s = true) (d3 : fok .add .f32 (f (k + 1)) (fv .mul .f32 n s) = true) (HE : Hid (putF f m n = setS (setS f k (fv .add .f32 (f k) (fv .mul .f32 n (fv .sub .f32 1065353216 s)))) (k + 1) (fv .add .f32 (f (k + 1)) (fv .mul .f32 n s)))) : Calls Try.prog 47 #[.pointer (some ⟨g, 0, none⟩), .float .f32 m, .float .f32 n] w fun e w' => e = .returned (.tuple #[]) ∧ PutTo w w' g t (putF f m n) := by
  have hi0 : (0 : Int) ≤ (k : Int) := by omega
  have hi1 : (k : Int) < 20 := by omega
  have hj0 : (0 : Int) ≤ (k : Int) + 1 := by omega
  have hj1 : (k : Int) + 1 < 20 := by omega
  have hj2 : ((k : Int) + 1).toNat = k + 1 := by omega
  have hj3 : IntKind.i64.wrap ((k : Int) + 1) = (k : Int) + 1 := IntWalk.i64_in _ (by omega)
  have hc := g0.drew.at_ (i := k) (by omega)
  have hfz := g0.drew.free k
  have HK := Lib.hid hk
  clear g0 hk
  go_enter Try.func47, Try.ntmps47
  go_wp2_with (first | (go_at_call 60; with_reducible refine (HC.out _).mono ?_; rintro e w1 ⟨rfl, rfl⟩) | (go_at_call 57; with_reducible refine (HM.out _).mono ?_; rintro e w1 ⟨rfl, rfl⟩))
  go_region
  have P6 := (HP.out.set k (fv .add .f32 (f k) (fv .mul .f32 n (fv .sub .f32 1065353216 s)))).drew
  have hc7 := P6.row.drew.at_ (i := k + 1) (by have := HK.out; omega)
  rw [show setS f k (fv .add .f32 (f k) (fv .mul .f32 n (fv .sub .f32 1065353216 s))) (k + 1) = f (k + 1) by unfold setS; rw [if_neg (by omega)]] at hc7
  have hf7 := P6.row.drew.free (k + 1)
  have P7 := Lib.hid (P6.set (k + 1) (fv .add .f32 (f (k + 1)) (fv .mul .f32 n s))).drew
  clear P6 hc hfz HP
  go_wp2
  go_region
  go_wp2
  first | (refine bodyPost_ret (results_none rfl _ _ _) rfl ?_) | (refine bodyPost_end (results_none rfl _ _ _) rfl ?_)
  exact ⟨rfl, by rw [HE.out]; exact P7.out⟩
theorem c_l01Put (f : Nat → Nat) (hf : ∀ j, j < 20 → f j ≤ 2139095040) (m n : Nat) (hm : m < 2139095040) (hn : n < 2139095040) (g : Nat) (t : TypeId) (w : World) (g0 : Holds w g t (row 20 fun j => .float .f32 (f j))) : Calls Try.prog 47 #[.pointer (some ⟨g, 0, none⟩), .float .f32 m, .float .f32 n] w fun e w' => e = .returned (.tuple #[]) ∧ PutTo w w' g t (putF f m n) := by
  have HO := put_ok hf hm hn
  have HP := Lib.hid (PutTo.refl g0)
  by_cases h1 : m < 1065353216
  · exact c_l01Put1 f m n g t w g0 HP (lt_one (Nat.le_of_lt hm) h1) (HO.low h1).1 (HO.low h1).2 (Lib.hid (by unfold putF; rw [if_pos h1]))
  have hk := cf_le m
  by_cases h2 : cf m = 19
  · exact c_l01Put2 f m n g t w g0 HP (not_lt_one (Nat.le_of_lt hm) h1) (cf m) (Lib.hid (fun w => c_l01For m w)) (Lib.hid (fun w => c_l01Mass (cf m) (by omega) w)) (by omega) (by rw [h2]; rfl) (HO.last h1).1 (HO.last h1).2.1 (HO.last h1).2.2 (Lib.hid (by unfold putF; rw [if_neg h1, if_pos h2]))
  · obtain ⟨⟨a1, a2⟩, ⟨b1, b2, b3⟩, d2, d3⟩ := HO.mid h1 (by omega)
    exact c_l01Put3 f m n g t w g0 HP (not_lt_one (Nat.le_of_lt hm) h1) (cf m) (Lib.hid (fun w => c_l01For m w)) (Lib.hid (fun w => c_l01Mass (cf m) (by omega) w)) (by omega) (by simp; omega) (part m (cf m)) rfl a1 a2 b1 b2 b3 d2 d3 (Lib.hid (by unfold putF; rw [if_neg h1, if_neg h2]))
end Go.Proofs.Ytjhognfkjdccfaa
