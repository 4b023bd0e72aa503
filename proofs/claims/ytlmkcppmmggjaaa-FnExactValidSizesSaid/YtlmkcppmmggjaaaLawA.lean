/-
  The walks of the first laws.
-/
import Derived.Test.YtlmkcppmmggjaaaSizes
namespace Go.Proofs.Ytlmkcppmmggjaaa
open Go.RowKit Fl
theorem walk_FnExactSameNumber (x : Nat) (hx : x < 4294967296) (y : Nat) (hy : y < 4294967296) (w : World) :
    Calls Try.prog 4 #[.float .f32 x, .float .f32 y] w fun e w' => e = .returned (.bool true) ∧ Below w.heap.size w w' := by
  have hs : (sameB x y != sameB x y) = false := by simp
  go_enter Try.func4, Try.ntmps4
  go_wp2_with (first | (go_at_call 15; refine (c_specSameNumber _ _ hx hy _).mono ?_; rintro e w' ⟨rfl, rfl⟩) | (go_at_call 16; refine (c_SameNumber _ _ hx hy _).mono ?_; rintro e w' ⟨rfl, rfl⟩))
  go_ret
  exact ⟨rfl, Below.refl _ _⟩

theorem walk_FnExactConstants (w : World) : Calls Try.prog 3 #[] w fun e w' => e = .returned (.bool true) ∧ Below w.heap.size w w' := by
  go_enter Try.func3, Try.ntmps3
  go_wp2
  go_ret
  exact ⟨rfl, Below.refl _ _⟩

theorem cv_ok {x : Nat} (h : x ≤ 2139095040) : cvok x = true ∧ num FloatKind.f64.format (cv x) := ⟨cvok_of (by omega) (isnum_of_le h), (cv_num (by omega) (isnum_of_le h)).2⟩

theorem walk_FnExactMassOf (n : Int) (_ : -9223372036854775808 ≤ n ∧ n ≤ 9223372036854775807) (w : World) : Calls Try.prog 8 #[.int .i64 n] w fun e w' => e = .returned (.bool true) ∧ Below w.heap.size w w' := by
  have hcv := fun (x : Nat) (h : cvok x = true) (w : World) => run_cv (P := Try.prog) w 23 36 (by kernel_rfl) Try.underlying36 x h
  obtain ⟨x, c, hR, hx⟩ : ∃ (x : Nat) (c : Int), massR n = .tuple #[.float .f32 x, .int .i64 c] ∧ x ≤ 2139095040 := by
    unfold massR
    split
    · rename_i h; obtain ⟨k, rfl, hk⟩ := inB19 h; exact ⟨_, _, rfl, Nat.le_of_lt (mb_fin _ (by simpa using hk)).1⟩
    · exact ⟨_, _, rfl, by omega⟩
  obtain ⟨h1, h2⟩ := cv_ok hx
  have HR := Lib.hid hR
  have H2 := Lib.hid h2
  clear hR h2
  go_enter Try.func8, Try.ntmps8
  go_wp2_with (first | (go_at_call 25; refine (c_specMassOf _ _).mono ?_; rw [HR.out]; rintro e w' ⟨rfl, rfl⟩) | (go_at_call 26; refine (c_MassOf _ _).mono ?_; rw [HR.out]; rintro e w' ⟨rfl, rfl⟩) | (go_at_call 24; refine (c_sameFloat _ H2.out _).mono ?_; rintro e w' ⟨rfl, rfl⟩))
  go_ret
  exact ⟨rfl, Below.refl _ _⟩

theorem walk_FnExactEdgeOf (n : Int) (_ : -9223372036854775808 ≤ n ∧ n ≤ 9223372036854775807) (w : World) : Calls Try.prog 7 #[.int .i64 n] w fun e w' => e = .returned (.bool true) ∧ Below w.heap.size w w' := by
  have hcv := fun (x : Nat) (h : cvok x = true) (w : World) => run_cv (P := Try.prog) w 23 36 (by kernel_rfl) Try.underlying36 x h
  obtain ⟨x, c, hR, hx⟩ : ∃ (x : Nat) (c : Int), edgeR n = .tuple #[.float .f32 x, .int .i64 c] ∧ x ≤ 2139095040 := by
    unfold edgeR
    split
    · rename_i h; obtain ⟨k, rfl, hk⟩ := inB19 h; exact ⟨_, _, rfl, (edge_ok _ (by simpa using hk)).2⟩
    · exact ⟨_, _, rfl, by omega⟩
  obtain ⟨h1, h2⟩ := cv_ok hx
  have HR := Lib.hid hR
  have H2 := Lib.hid h2
  clear hR h2
  go_enter Try.func7, Try.ntmps7
  go_wp2_with (first | (go_at_call 22; refine (c_specEdgeOf _ _).mono ?_; rw [HR.out]; rintro e w' ⟨rfl, rfl⟩) | (go_at_call 23; refine (c_EdgeOf _ _).mono ?_; rw [HR.out]; rintro e w' ⟨rfl, rfl⟩) | (go_at_call 24; refine (c_sameFloat _ H2.out _).mono ?_; rintro e w' ⟨rfl, rfl⟩))
  go_ret
  exact ⟨rfl, Below.refl _ _⟩

theorem walk_FnExactValidSizes (f : Nat → Nat) (hf : ∀ j, f j < 4294967296) (w : World) : Calls Try.prog 13 #[.agg (row 20 fun j => .float .f32 (f j))] w fun e w' => e = .returned (.bool true) ∧ Below w.heap.size w w' := by
  have hs : (okB f != okB f) = false := by simp
  have g0 := Holds.new w 48 (row 20 fun j => .float .f32 (f j))
  have b0 : Below w.heap.size w (w.alloc (.cells (row 20 fun j => .float .f32 (f j)) 48)) := (Below.refl _ _).alloc (by simp) _
  go_enter Try.func13, Try.ntmps13
  go_wp2_with (first | (refine wl_load 48 Try.underlying48 info_a20 rfl _ rfl g0 rfl ?_) | (go_at_call 33; refine (c_toSizes f _).mono ?_; rintro e w1 ⟨rfl, hb⟩; have g0 := g0.keep hb; have b0 := b0.trans (hb.mono b0.size); clear hb) | (go_at_call 37; refine (c_specValidSizes f hf _).mono ?_; rintro e w1 ⟨rfl, hb⟩; have g0 := g0.keep hb; have b0 := b0.trans (hb.mono b0.size); clear hb) | (go_at_call 38; refine (c_ValidSizes f hf _).mono ?_; rintro e w1 ⟨rfl, hb⟩; have g0 := g0.keep hb; have b0 := b0.trans (hb.mono b0.size); clear hb))
  go_ret
  exact ⟨rfl, b0⟩
end Go.Proofs.Ytlmkcppmmggjaaa
