/-
  Contracts: classes of masses, code names, airs.
-/
import Derived.Test.YtlmkcppmmggjaaaSizes
namespace Go.Proofs.Ytlmkcppmmggjaaa
open Go.RowKit Fl
set_option maxRecDepth 20000

/-- at least 1 -/
def ge1 (m : Nat) : Bool := FloatKind.f32.format.order m 1065353216 == some .gt || FloatKind.f32.format.order m 1065353216 == some .eq
def classR (m : Nat) : Value := if isfin m && ge1 m then .tuple #[.int .i64 (cf m), .int .i64 0] else .tuple #[.int .i64 0, .int .i64 2]

theorem c_specClassFor (m : Nat) (hm : m < 4294967296) (w : World) : Calls Try.prog 35 #[.float .f32 m] w fun e w' => e = .returned (classR m) ∧ Drew w w' := by
  cases h : isfin m
  · have hR := Lib.hid (show classR m = .tuple #[.int .i64 0, .int .i64 2] by simp [classR, h])
    go_enter Try.func35, Try.ntmps35
    go_wp2_with (go_at_call 57; refine (c_l01Finite _ hm _).mono ?_; rintro e w' ⟨rfl, n, rfl⟩)
    go_ret2
    exact ⟨by rw [hR.out]; rfl, n, rfl⟩
  · cases h1 : ge1 m
    · have hR := Lib.hid (show classR m = .tuple #[.int .i64 0, .int .i64 2] by simp [classR, h1])
      unfold ge1 at h1
      go_enter Try.func35, Try.ntmps35
      go_wp2_with (go_at_call 57; refine (c_l01Finite _ hm _).mono ?_; rintro e w' ⟨rfl, n, rfl⟩)
      go_ret2
      exact ⟨by rw [hR.out]; rfl, n, rfl⟩
    · have hR := Lib.hid (show classR m = .tuple #[.int .i64 (cf m), .int .i64 0] by simp [classR, h, h1])
      unfold ge1 at h1
      go_enter Try.func35, Try.ntmps35
      go_wp2_with (first | (go_at_call 57; refine (c_l01Finite _ hm _).mono ?_; rintro e w' ⟨rfl, n, rfl⟩) | (go_at_call 58; refine (c_l01For _ _).mono ?_; rintro e w' ⟨rfl, rfl⟩))
      go_ret2
      exact ⟨by rw [hR.out]; rfl, n, rfl⟩

theorem c_isMean (m : Nat) (hm : m < 4294967296) (w : World) : Calls Try.prog 59 #[.float .f32 m] w fun e w' => e = .returned (.bool (isfin m && ge1 m)) ∧ Below w.heap.size w w' := by
  cases h : isfin m
  · go_enter Try.func59, Try.ntmps59
    go_wp2_with (go_at_call 64; refine (c_isFinite1 _ hm _ _ _ _ (Holds.new _ _ _)).mono ?_; rintro e w' ⟨rfl, n, rfl⟩)
    go_ret
    exact ⟨ret_bool (by simp), below_drewN ((Below.refl _ _).alloc (by simp) _) n⟩
  · cases h1 : ge1 m
    all_goals
      unfold ge1 at h1
      go_enter Try.func59, Try.ntmps59
      go_wp2_with (go_at_call 64; refine (c_isFinite1 _ hm _ _ _ _ (Holds.new _ _ _)).mono ?_; rintro e w' ⟨rfl, n, rfl⟩)
      go_ret
      exact ⟨ret_bool (by simp), below_drewN ((Below.refl _ _).alloc (by simp) _) n⟩

theorem c_ClassFor (m : Nat) (hm : m < 4294967296) (w : World) : Calls Try.prog 36 #[.float .f32 m] w fun e w' => e = .returned (classR m) ∧ Below w.heap.size w w' := by
  cases h : isfin m && ge1 m
  · have hR := Lib.hid (show classR m = .tuple #[.int .i64 0, .int .i64 2] by simp [classR, h])
    go_enter Try.func36, Try.ntmps36
    go_wp2_with (go_at_call 59; refine (c_isMean _ hm _).mono ?_; rw [h]; rintro e w' ⟨rfl, hb⟩)
    go_ret2
    exact ⟨by rw [hR.out]; rfl, hb⟩
  · have hR := Lib.hid (show classR m = .tuple #[.int .i64 (cf m), .int .i64 0] by simp [classR, h])
    go_enter Try.func36, Try.ntmps36
    go_wp2_with (first | (go_at_call 59; refine (c_isMean _ hm _).mono ?_; rw [h]; rintro e w' ⟨rfl, hb⟩) | (go_at_call 60; refine (c_classFor _ _).mono ?_; rintro e w' ⟨rfl, rfl⟩))
    go_ret2
    exact ⟨by rw [hR.out]; rfl, hb⟩

theorem walk_FnExactClassFor (m : Nat) (hm : m < 4294967296) (w : World) : Calls Try.prog 12 #[.float .f32 m] w fun e w' => e = .returned (.bool true) ∧ Below w.heap.size w w' := by
  obtain ⟨x, c, hR⟩ : ∃ (x : Int) (c : Int), classR m = .tuple #[.int .i64 x, .int .i64 c] := by
    unfold classR
    split <;> exact ⟨_, _, rfl⟩
  have HR := Lib.hid hR
  clear hR
  go_enter Try.func12, Try.ntmps12
  go_wp2_with (first | (go_at_call 35; refine (c_specClassFor _ hm _).mono ?_; rw [HR.out]; rintro e w' ⟨rfl, n, rfl⟩) | (go_at_call 36; refine (c_ClassFor _ hm _).mono ?_; rw [HR.out]; rintro e w' ⟨rfl, hb⟩))
  go_ret
  exact ⟨rfl, (below_drewN (Below.refl _ _) n).trans hb⟩

/-! ### air: two numbers -/
theorem two_row (a b : Value) : #[a, b] = row 2 (fun j => if j = 0 then a else b) := by
  apply Array.ext
  · simp [row]
  · intro j h1 h2
    have : j = 0 ∨ j = 1 := by simp at h1; omega
    rcases this with rfl | rfl <;> simp [row]

theorem c_toAir (a b : Nat) (w : World) : Calls Try.prog 20 #[.agg #[.float .f32 a, .float .f32 b]] w fun e w' => e = .returned (.agg #[.float .f32 a, .float .f32 b]) ∧ Below w.heap.size w w' := by
  go_enter Try.func20, Try.ntmps20
  go_wp2
  exact bodyPost_ret (v := .agg #[.float .f32 a, .float .f32 b]) (by simp [results, Try.results20, go_sem]) rfl ⟨rfl, (((Below.refl _ _).alloc (by simp) _).alloc (by simp) _).alloc (by simp; omega) _⟩

end Go.Proofs.Ytlmkcppmmggjaaa
