/-
  Contracts and the walk: the mass of a box.
-/
import Derived.Test.YtlmkcppmmggjaaaBx
namespace Go.Proofs.Ytlmkcppmmggjaaa
open Go.RowKit Fl
set_option maxRecDepth 20000
set_option maxHeartbeats 4000000
set_option linter.unusedSimpArgs false

/-- the dust and the masses of the classes below k -/
def bsum (f : Nat → Int) : Nat → Int
  | 0 => f 20
  | k + 1 => wrap64 (bsum f k + wrap64 (f k * 2 ^ k))
def bmassR (f : Nat → Int) : Value := if boxB f then .tuple #[.int .i64 (bsum f 20), .int .i64 0] else .tuple #[.int .i64 0, .int .i64 1]
theorem bmass_form (f : Nat → Int) : ∃ a b : Int, bmassR f = .tuple #[.int .i64 a, .int .i64 b] := by unfold bmassR; split <;> exact ⟨_, _, rfl⟩
theorem c_specMassOfBox (f : Nat → Int) (w : World) : Calls Try.prog 39 #[.agg (row 21 fun j => .int .i64 (f j))] w fun e w' => e = .returned (bmassR f) ∧ Below w.heap.size w w' := by
  have g0 := Holds.new w 45 (row 21 fun j => .int .i64 (f j))
  have b0 : Below w.heap.size w (w.alloc (.cells (row 21 fun j => .int .i64 (f j)) 45)) := (Below.refl _ _).alloc (by simp) _
  have hc20 := g0.at_ (i := 20) (by omega)
  cases hf1 : boxB f
  · have hR := Lib.hid (show bmassR f = .tuple #[.int .i64 0, .int .i64 1] by simp [bmassR, hf1])
    go_enter Try.func39, Try.ntmps39
    go_wp2_with (go_at_call 53; refine (c_l03Box f _ _ _ g0).mono ?_; rw [hf1]; rintro e w1 ⟨rfl, rfl⟩)
    go_ret2
    exact ⟨by rw [hR.out]; rfl, b0⟩
  have hR := Lib.hid (show bmassR f = .tuple #[.int .i64 (bsum f 20), .int .i64 0] by simp [bmassR, hf1])
  go_enter Try.func39, Try.ntmps39
  go_wp2_with (go_at_call 53; refine (c_l03Box f _ _ _ g0).mono ?_; rw [hf1]; rintro e w1 ⟨rfl, rfl⟩)
  go_loop [4, 5] (fun s i => ∃ k : Nat, k ≤ 20 ∧ i = .int .i64 k ∧ s = .int .i64 (bsum f k)) (fun _ i => 20 - (intOf i).toNat)
  case atStart => exact ⟨0, by omega, rfl, rfl⟩
  case round =>
    obtain ⟨k, hk, rfl, rfl⟩ := hrel
    by_cases hlt : k < 20
    · have hc := g0.at_ (i := k) (by omega)
      go_wp2
      go_round
      case rel => exact ⟨k + 1, by omega, by go_num, rfl⟩
      case measure => simp [intOf]; omega
    · have : k = 20 := by omega
      subst this
      go_wp2
      go_ret2
      exact ⟨by rw [hR.out]; rfl, b0⟩
theorem c_implMassOfBox (f : Nat → Int) (w : World) : Calls Try.prog 40 #[.agg (row 21 fun j => .int .i64 (f j))] w fun e w' => e = .returned (bmassR f) ∧ Below w.heap.size w w' := by
  have g0 := Holds.new w 45 (row 21 fun j => .int .i64 (f j))
  have b0 : Below w.heap.size w (w.alloc (.cells (row 21 fun j => .int .i64 (f j)) 45)) := (Below.refl _ _).alloc (by simp) _
  have hc20 := g0.at_ (i := 20) (by omega)
  cases hf1 : boxB f
  · have hR := Lib.hid (show bmassR f = .tuple #[.int .i64 0, .int .i64 1] by simp [bmassR, hf1])
    go_enter Try.func40, Try.ntmps40
    go_wp2_with (first | (refine wl_load_part 45 Try.underlying45 rfl info_box rfl _ rfl g0 (by omega) rfl ?_) | (refine wl_load_part 43 Try.underlying43 rfl info_counts rfl _ rfl g0 (by omega) rfl ?_) | (go_at_call 31; refine (c_ValidBox f _).mono ?_; rw [hf1]; rintro e w1 ⟨rfl, hb⟩; have g0 := g0.keep hb; have b0 := b0.trans (hb.mono b0.size); clear hb; have hc20 := g0.at_ (i := 20) (by omega)))
    go_ret2
    exact ⟨by rw [hR.out]; rfl, b0⟩
  have hR := Lib.hid (show bmassR f = .tuple #[.int .i64 (bsum f 20), .int .i64 0] by simp [bmassR, hf1])
  go_enter Try.func40, Try.ntmps40
  go_wp2_with (first | (refine wl_load_part 45 Try.underlying45 rfl info_box rfl _ rfl g0 (by omega) rfl ?_) | (refine wl_load_part 43 Try.underlying43 rfl info_counts rfl _ rfl g0 (by omega) rfl ?_) | (go_at_call 31; refine (c_ValidBox f _).mono ?_; rw [hf1]; rintro e w1 ⟨rfl, hb⟩; have g0 := g0.keep hb; have b0 := b0.trans (hb.mono b0.size); clear hb; have hc20 := g0.at_ (i := 20) (by omega)))
  go_loop [4, 14] (fun s i => ∃ k : Nat, k ≤ 20 ∧ i = .int .i64 k ∧ s = .int .i64 (bsum f k)) (fun _ i => 20 - (intOf i).toNat)
  case atStart => exact ⟨0, by omega, rfl, rfl⟩
  case round =>
    obtain ⟨k, hk, rfl, rfl⟩ := hrel
    by_cases hlt : k < 20
    · have hx := fun w => run_index_row (P := Try.prog) 43 2 20 (fun j => .int .i64 (f j)) k w Try.underlying43 (by kernel_rfl) (by kernel_rfl) hlt
      go_wp2
      go_round
      case rel => exact ⟨k + 1, by omega, by go_num, rfl⟩
      case measure => simp [intOf]; omega
    · have : k = 20 := by omega
      subst this
      go_wp2
      go_ret2
      exact ⟨by rw [hR.out]; rfl, b0⟩
theorem walk_FnExactMassOfBox (f : Nat → Int) (_hf : ∀ j, -9223372036854775808 ≤ f j ∧ f j ≤ 9223372036854775807) (w : World) : Calls Try.prog 14 #[.agg (row 21 fun j => .int .i64 (f j))] w fun e w' => e = .returned (.bool true) ∧ Below w.heap.size w w' := by
  obtain ⟨a, b, hR⟩ := bmass_form f
  have HR := Lib.hid hR
  clear hR
  have g0 := Holds.new w 41 (row 21 fun j => .int .i64 (f j))
  have b0 : Below w.heap.size w (w.alloc (.cells (row 21 fun j => .int .i64 (f j)) 41)) := (Below.refl _ _).alloc (by simp) _
  go_enter Try.func14, Try.ntmps14
  go_wp2_with (first | (refine wl_load_part 41 Try.underlying41 rfl info_lbox rfl _ rfl g0 (by omega) rfl ?_) | (go_at_call 30; with_reducible refine (c_toBox f _).mono ?_; rintro e w1 ⟨rfl, hb⟩; have g0 := g0.keep hb; have b0 := b0.trans (hb.mono b0.size); clear hb) | (go_at_call 39; with_reducible refine (c_specMassOfBox f _).mono ?_; rw [HR.out]; rintro e w1 ⟨rfl, hb⟩; have g0 := g0.keep hb; have b0 := b0.trans (hb.mono b0.size); clear hb) | (go_at_call 40; with_reducible refine (c_implMassOfBox f _).mono ?_; rw [HR.out]; rintro e w1 ⟨rfl, hb⟩; have g0 := g0.keep hb; have b0 := b0.trans (hb.mono b0.size); clear hb))
  go_ret
  exact ⟨rfl, b0⟩
end Go.Proofs.Ytlmkcppmmggjaaa
