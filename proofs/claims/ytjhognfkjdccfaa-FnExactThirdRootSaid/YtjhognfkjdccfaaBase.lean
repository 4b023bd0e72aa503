/-
  Contracts of the small functions on single numbers.
-/
import Derived.Test.YtjhognfkjdccfaaChecked
import Derived.Test.YtjhognfkjdccfaaRow
namespace Go.Proofs.Ytjhognfkjdccfaa
open Go.RowKit Fl

/-- draws alone -/
def Drew (w w' : World) : Prop := ∃ n, w' = w.drewN n
theorem Drew.refl (w : World) : Drew w w := ⟨0, rfl⟩
theorem Drew.drew {w w' : World} (h : Drew w w') : Drew w w'.drew := by
  obtain ⟨n, rfl⟩ := h; exact ⟨n + 1, rfl⟩
theorem Drew.trans {a b c : World} (h : Drew a b) (k : Drew b c) : Drew a c := by
  obtain ⟨n, rfl⟩ := h; obtain ⟨m, rfl⟩ := k; exact ⟨n + m, by simp⟩
theorem below_drewN {B : Nat} {a w : World} (h : Below B a w) (n : Nat) : Below B a (w.drewN n) := ⟨h.os, h.tape, h.output, h.size, h.block⟩
theorem Drew.below {B : Nat} {w w' : World} (h : Drew w w') : Below B w w' := by
  obtain ⟨n, rfl⟩ := h; exact below_drewN (Below.refl _ _) n

theorem ret_bool {a b : Bool} (h : b = a) : Ending.returned (.bool a) = Ending.returned (.bool b) := by rw [h]
theorem ret_int {k : IntKind} {a b : Int} (h : a = b) : Ending.returned (.int k a) = Ending.returned (.int k b) := by rw [h]
theorem ret_f32 {a b : Nat} (h : a = b) : Ending.returned (.float .f32 a) = Ending.returned (.float .f32 b) := by rw [h]

def inB (n lo hi : Int) : Bool := decide (lo ≤ n) && decide (n ≤ hi)

theorem c_l00In (n lo hi : Int) (w : World) : Calls Try.prog 50 #[.int .i64 n, .int .i64 lo, .int .i64 hi] w fun e w' => e = .returned (.bool (inB n lo hi)) ∧ w = w' := by
  go_enter Try.func50, Try.ntmps50
  go_wp2
  all_goals (go_ret; exact ⟨by simp [inB]; try omega, rfl⟩)

theorem c_within (n lo hi : Int) (w : World) : Calls Try.prog 52 #[.int .i64 n, .int .i64 lo, .int .i64 hi] w fun e w' => e = .returned (.bool (inB n lo hi)) ∧ w = w' := by
  go_enter Try.func52, Try.ntmps52
  go_wp2
  all_goals (go_ret; exact ⟨by simp [inB]; try omega, rfl⟩)

theorem c_l01Finite (x : Nat) (hx : x < 4294967296) (w : World) : Calls Try.prog 37 #[.float .f32 x] w fun e w' => e = .returned (.bool (isfin x)) ∧ Drew w w' := by
  have h0 := order00
  cases h : isfin x
  · have h1 := sub_inf hx h
    go_enter Try.func37, Try.ntmps37
    go_wp2
    go_ret
    exact ⟨rfl, (Drew.refl _).drew⟩
  · obtain ⟨h1, h2⟩ := sub_fin hx h
    go_enter Try.func37, Try.ntmps37
    go_wp2
    go_ret
    exact ⟨rfl, (Drew.refl _)⟩

theorem bits_enters (args : Array Value) (w : World) : (callFunc 59 args).run Try.prog w = ((Extern.MathFloatBits.float32bits args).run Try.prog w).andThen fun v w' => .ok (.value v) w' :=
  run_callFunc_extern Try.func59 (by kernel_rfl) (by kernel_rfl) (by kernel_rfl) (by kernel_rfl) args w
@[go_sem] theorem bits_run (x : Nat) (w : World) : (callFunc 59 #[.float .f32 x]).run Try.prog w = .ok (.value (.int .u32 x)) w := by
  rw [bits_enters]; rfl

/-- all finite -/
def allfin (n : Nat) (f : Nat → Nat) : Bool := (List.range n).all fun j => isfin (f j)
theorem allfin_true {n : Nat} {f : Nat → Nat} (h : ∀ j, j < n → isfin (f j) = true) : allfin n f = true := by
  simp [allfin]; exact h
theorem allfin_false {n : Nat} {f : Nat → Nat} (k : Nat) (hk : k < n) (h : isfin (f k) = false) : allfin n f = false := by
  cases e : allfin n f
  · rfl
  · simp [allfin] at e; rw [e k hk] at h; cases h
theorem of_allfin {n : Nat} {f : Nat → Nat} (h : allfin n f = true) : ∀ j, j < n → isfin (f j) = true := by
  simpa [allfin] using h

theorem c_isFinite (n : Nat) (hn : n ≤ 20) (g : Nat) (t : TypeId) (f : Nat → Nat) (hf : ∀ j, j < n → f j < 4294967296) (cap : Nat) (w : World) (hg : Holds w g t (row n fun j => .float .f32 (f j))) :
    Calls Try.prog 44 #[.slice (some ⟨g, 0, none⟩) n cap] w fun e w' => e = .returned (.bool (allfin n f)) ∧ Drew w w' := by
  have h0 := order00
  go_enter Try.func44, Try.ntmps44
  go_wp2
  go_loopw [7] (fun i wr => ∃ k : Nat, k ≤ n ∧ i = .int .i64 k ∧ (∀ j, j < k → isfin (f j) = true) ∧ ∃ m, wr = w.drewN m) (fun i _ => n - (intOf i).toNat)
  case atStart => exact ⟨0, Nat.zero_le _, rfl, fun j hj => by omega, 0, rfl⟩
  case round =>
    obtain ⟨k, hk, rfl, hall, m, rfl⟩ := hrel
    have HA := Lib.hid hall
    clear hall
    by_cases hlt : k < n
    · have hc := (hg.drewN m).at_ hlt
      have hb := hf k hlt
      cases h : isfin (f k)
      · have h1 := sub_inf hb h
        have HF := Lib.hid h
        clear h
        go_wp2
        go_ret
        exact ⟨ret_bool (allfin_false k hlt HF.out), m + 1, rfl⟩
      · obtain ⟨h1, h2⟩ := sub_fin hb h
        have HF := Lib.hid h
        clear h
        go_wp2
        go_roundw
        case rel => exact ⟨k + 1, by omega, by go_num, fun j hj => by
          rcases Nat.lt_or_ge j k with q | q
          · exact HA.out j q
          · have : j = k := by omega
            subst this; exact HF.out, m, rfl⟩
        case measure => simp [intOf]; omega
    · go_wp2
      go_ret
      exact ⟨ret_bool (allfin_true (fun j hj => HA.out j (by omega))), m, rfl⟩

theorem amt_iff {x : Nat} (hx : x < 4294967296) (h : isfin x = true) : amtB x = decide (x < 2147483648) := by
  have := of_decide_eq_true h
  unfold amtB
  congr 1
  apply propext; omega

/-- the order of a finite number and 0 -/
theorem ord_zero {x : Nat} (hx : x < 4294967296) (h : isnum x = true) : FloatKind.f32.format.order x 0 = some (if x = 0 ∨ x = 2147483648 then .eq else if x < 2147483648 then .gt else .lt) := by
  rw [ord_num (num_of hx h) (num_of_le (by omega))]
  have h := of_decide_eq_true h
  have e0 : key FloatKind.f32.format 0 = 0 := rfl
  have e : key FloatKind.f32.format x = if x < 2147483648 then (x : Int) else -((x - 2147483648 : Nat) : Int) := rfl
  rw [e0, e]
  congr 1
  by_cases c1 : x = 0
  · subst c1; simp
  · by_cases c2 : x = 2147483648
    · subst c2; simp
    · rw [if_neg (show ¬ (x = 0 ∨ x = 2147483648) by omega)]
      by_cases c3 : x < 2147483648
      · rw [if_pos c3, if_pos c3, Int.compare_eq_gt]; omega
      · rw [if_neg c3, if_neg c3, Int.compare_eq_lt]; omega

theorem amt_false {x : Nat} (h : isfin x = false) : amtB x = false := by have := of_decide_eq_false h; exact decide_eq_false (by omega)
theorem gt_zero {x : Nat} (hx : x < 4294967296) (h : isfin x = true) : (FloatKind.f32.format.order x 0 == some .gt) = decide (0 < x ∧ x < 2147483648) := by
  rw [ord_zero hx (isnum_of_fin h)]
  by_cases c1 : x = 0
  · subst c1; rfl
  · by_cases c2 : x = 2147483648
    · subst c2; rfl
    · rw [if_neg (show ¬ (x = 0 ∨ x = 2147483648) by omega)]
      by_cases c3 : x < 2147483648
      · rw [if_pos c3, decide_eq_true (by omega)]; rfl
      · rw [if_neg c3, decide_eq_false (by omega)]; rfl
theorem ge_zero {x : Nat} (hx : x < 4294967296) (h : isfin x = true) : (FloatKind.f32.format.order x 0 == some .gt || FloatKind.f32.format.order x 0 == some .eq) = decide (x ≤ 2147483648) := by
  rw [ord_zero hx (isnum_of_fin h)]
  by_cases c1 : x = 0
  · subst c1; rfl
  · by_cases c2 : x = 2147483648
    · subst c2; rfl
    · rw [if_neg (show ¬ (x = 0 ∨ x = 2147483648) by omega)]
      by_cases c3 : x < 2147483648
      · rw [if_pos c3, decide_eq_true (by omega)]; rfl
      · rw [if_neg c3, decide_eq_false (by omega)]; rfl

theorem c_l01Amount (x : Nat) (hx : x < 4294967296) (w : World) : Calls Try.prog 33 #[.float .f32 x] w fun e w' => e = .returned (.bool (amtB x)) ∧ Drew w w' := by
  cases h : isfin x
  · have ha := amt_false h
    go_enter Try.func33, Try.ntmps33
    go_wp2_with (go_at_call 37; refine (c_l01Finite _ hx _).mono ?_; rintro e w' ⟨rfl, n, rfl⟩)
    go_ret
    exact ⟨ret_bool ha, n, rfl⟩
  · have ha := Lib.hid (amt_iff hx h)
    have hg := gt_zero hx h
    by_cases c : 0 < x ∧ x < 2147483648
    · rw [decide_eq_true c] at hg
      go_enter Try.func33, Try.ntmps33
      go_wp2_with (go_at_call 37; refine (c_l01Finite _ hx _).mono ?_; rintro e w' ⟨rfl, n, rfl⟩)
      go_ret
      exact ⟨ret_bool (by rw [ha.out, decide_eq_true c.2]), n, rfl⟩
    · rw [decide_eq_false c] at hg
      have hxx : (x = 0) ∨ 2147483648 ≤ x := by omega
      have HX := Lib.hid hxx
      clear hxx c
      go_enter Try.func33, Try.ntmps33
      go_wp2_with (go_at_call 37; refine (c_l01Finite _ hx _).mono ?_; rintro e w' ⟨rfl, n, rfl⟩)
      all_goals
        go_ret
        refine ⟨ret_bool ?_, n, rfl⟩
        rw [ha.out]
        have := HX.out
        rw [Bool.eq_iff_iff]; simp; omega


theorem one_row (v : Value) : #[v] = row 1 (fun _ => v) := by
  apply Array.ext
  · simp [row]
  · intro j h1 h2
    have : j = 0 := by simp at h1; omega
    subst this; simp [row]
theorem c_isFinite1 (x : Nat) (hx : x < 4294967296) (g : Nat) (t : TypeId) (cap : Nat) (w : World) (hg : Holds w g t #[.float .f32 x]) :
    Calls Try.prog 44 #[.slice (some ⟨g, 0, none⟩) 1 cap] w fun e w' => e = .returned (.bool (isfin x)) ∧ Drew w w' := by
  rw [one_row] at hg
  refine (c_isFinite 1 (by omega) g t (fun _ => x) (fun _ _ => hx) cap w hg).mono fun e w' h => ⟨h.1.trans (ret_bool ?_), h.2⟩
  simp [allfin]

theorem c_isAmount (x : Nat) (hx : x < 4294967296) (w : World) : Calls Try.prog 35 #[.float .f32 x] w fun e w' => e = .returned (.bool (amtB x)) ∧ Below w.heap.size w w' := by
  cases h : isfin x
  · have ha := Lib.hid (amt_false h)
    go_enter Try.func35, Try.ntmps35
    go_wp2_with (go_at_call 44; refine (c_isFinite1 _ hx _ _ _ _ (Holds.new _ _ _)).mono ?_; rintro e w' ⟨rfl, n, rfl⟩)
    go_ret
    exact ⟨ret_bool ha.out, below_drewN ((Below.refl _ _).alloc (by simp) _) n⟩
  · have ha := Lib.hid (amt_iff hx h)
    have hg := ge_zero hx h
    rcases (by omega : x < 2147483648 ∨ x = 2147483648 ∨ 2147483648 < x) with c | c | c
    · rw [decide_eq_true (by omega)] at hg
      have h2 : ((x : Int) != 2147483648) = true := by simp; omega
      go_enter Try.func35, Try.ntmps35
      go_wp2_with (go_at_call 44; refine (c_isFinite1 _ hx _ _ _ _ (Holds.new _ _ _)).mono ?_; rintro e w' ⟨rfl, n, rfl⟩)
      go_ret
      exact ⟨ret_bool (ha.out.trans (decide_eq_true c)), below_drewN ((Below.refl _ _).alloc (by simp) _) n⟩
    · rw [decide_eq_true (by omega)] at hg
      have ha' := Lib.hid (ha.out.trans (decide_eq_false (by omega)))
      subst c
      go_enter Try.func35, Try.ntmps35
      go_wp2_with (go_at_call 44; refine (c_isFinite1 _ (by omega) _ _ _ _ (Holds.new _ _ _)).mono ?_; rintro e w' ⟨rfl, n, rfl⟩)
      go_ret
      exact ⟨ret_bool ha'.out, below_drewN ((Below.refl _ _).alloc (by simp) _) n⟩
    · rw [decide_eq_false (by omega)] at hg
      have ha' := Lib.hid (ha.out.trans (decide_eq_false (by omega)))
      go_enter Try.func35, Try.ntmps35
      go_wp2_with (go_at_call 44; refine (c_isFinite1 _ hx _ _ _ _ (Holds.new _ _ _)).mono ?_; rintro e w' ⟨rfl, n, rfl⟩)
      go_ret
      exact ⟨ret_bool ha'.out, below_drewN ((Below.refl _ _).alloc (by simp) _) n⟩

/-- the same number -/
def sameB (x y : Nat) : Bool := if isnum x && isnum y then x == y else !isnum x && !isnum y




theorem quo0 : fok .quo .f64 4607182418800017408 0 = true := by kernel_rfl
theorem quo1 : fok .quo .f64 4607182418800017408 9223372036854775808 = true := by kernel_rfl
theorem ord00 : FloatKind.f64.format.order 0 0 = some .eq := by kernel_rfl
theorem ord10 : FloatKind.f64.format.order 9223372036854775808 0 = some .eq := by kernel_rfl

theorem c_sameFloat (x : Nat) (hx : num FloatKind.f64.format x) (w : World) : Calls Try.prog 12 #[.float .f64 x, .float .f64 x] w fun e w' => e = .returned (.bool true) ∧ w = w' := by
  have o := ord64_self hx
  by_cases h0 : x = 0
  · subst h0
    have q := quo0
    have o' := ord00
    go_enter Try.func12, Try.ntmps12
    go_wp2
    go_ret
    exact ⟨ret_bool (by simp), rfl⟩
  · by_cases h1 : x = 9223372036854775808
    · subst h1
      have q := quo1
      have o' := ord10
      clear h0 hx
      go_enter Try.func12, Try.ntmps12
      go_wp2
      go_ret
      exact ⟨ret_bool (by simp), rfl⟩
    · have z := ord64_zero hx h0 h1
      clear h0 h1 hx
      go_enter Try.func12, Try.ntmps12
      go_wp2
      go_ret
      exact ⟨rfl, rfl⟩

theorem q_left {P : Program} {f : FuncId} {args : Array Value} {w : World} {n : Nat} {v : Value}
    (h : Calls P f args (w.drewN n) fun e w' => e = .returned v ∧ w.drewN n = w') : Calls P f args (w.drewN n) fun e w'' => e = .returned v ∧ ∃ m, w'' = w.drewN m :=
  h.mono fun _ _ ⟨he, hm⟩ => ⟨he, n, hm.symm⟩
theorem q_drew {P : Program} {f : FuncId} {args : Array Value} {w : World} {n : Nat} {v : Value}
    (h : Calls P f args (w.drewN n) fun e w' => e = .returned v ∧ Drew (w.drewN n) w') : Calls P f args (w.drewN n) fun e w'' => e = .returned v ∧ ∃ m, w'' = w.drewN m :=
  h.mono fun _ _ ⟨he, m, hm⟩ => ⟨he, n + m, by rw [hm]; simp⟩

end Go.Proofs.Ytjhognfkjdccfaa
