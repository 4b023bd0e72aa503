/-
  Contracts: sizes by value, valid, the same.
-/
import Derived.Test.YtjhognfkjdccfaaMass
namespace Go.Proofs.Ytjhognfkjdccfaa
open Go.RowKit Fl

theorem info_sizes : (Try.prog.info? 31).map (·.size) = some 20 := by kernel_rfl
theorem info_a20 : (Try.prog.info? 30).map (·.size) = some 20 := by kernel_rfl
theorem info_f32 : (Try.prog.info? 22).map (·.size) = some 1 := by kernel_rfl
theorem agg_f32 (w : World) : (isAgg 22).run Try.prog w = .ok false w := by kernel_rfl

theorem part_zero (f : Nat → Nat) : row 20 (fun j => Value.float .f32 (if j < 0 then f j else 0)) = row 20 (fun _ => Value.float .f32 0) := row_congr fun j _ => by simp
theorem part_full (f : Nat → Nat) (k : Nat) (hk : ¬ k < 20) (j : Nat) (hj : j < 20) : Value.float .f32 (if j < k then f j else 0) = Value.float .f32 (f j) := by rw [if_pos (by omega)]
theorem part_step (f : Nat → Nat) (k j : Nat) : (if j = k then Value.float .f32 (f k) else Value.float .f32 (if j < k then f j else 0)) = Value.float .f32 (if j < k + 1 then f j else 0) := by
  by_cases e : j = k
  · subst e; simp
  · simp only [e, if_false]; congr 1
    rcases Nat.lt_or_ge j k with q | q
    · rw [if_pos q, if_pos (by omega)]
    · rw [if_neg (by omega), if_neg (by omega)]

theorem c_toSizes (f : Nat → Nat) (w : World) : Calls Try.prog 22 #[.agg (row 20 fun j => .float .f32 (f j))] w fun e w' => e = .returned (.agg (row 20 fun j => .float .f32 (f j))) ∧ Below w.heap.size w w' := by
  go_enter Try.func22, Try.ntmps22
  go_wp2
  go_loopw [4] (fun i wr => ∃ k : Nat, k ≤ 20 ∧ i = .int .i64 k ∧ Below w.heap.size w wr ∧ Holds wr w.heap.size 30 (row 20 fun j => .float .f32 (f j)) ∧ Holds wr (w.heap.size + 1) 31 (row 20 fun _ => .float .f32 0) ∧ Holds wr (w.heap.size + 1 + 1) 31 (row 20 fun j => .float .f32 (if j < k then f j else 0))) (fun i _ => 20 - (intOf i).toNat)
  case atStart =>
    rw [z20]
    refine ⟨0, by omega, rfl, (((Below.refl _ _).alloc (by simp) _).alloc (by simp) _).alloc (by simp; omega) _, ((Holds.new _ _ _).alloc _).alloc _, ?_, ?_⟩
    · exact (Holds.new' _ _ _ (by simp)).alloc _
    · rw [part_zero]; exact Holds.new' _ _ _ (by simp)
  case round =>
    obtain ⟨k, hk, rfl, hb, h0, h1, h2⟩ := hrel
    by_cases hlt : k < 20
    · have hc0 := h0.at_ hlt
      have hc2 := h2.at_ hlt
      have hf2 := h2.free k
      go_wp2
      go_roundw
      case rel => exact ⟨k + 1, by omega, by go_num, hb.setCell (by simp; omega) _, h0.far (by simp; omega) _, h1.far (by simp) _, (h2.set_row k _).to (fun j hj => part_step f k j)⟩
      case measure => simp [intOf]; omega
    · have h2' := h2.to (part_full f k hlt)
      go_wp2_with (first | (refine wl_load 31 Try.underlying31 info_sizes rfl _ rfl h2' rfl ?_) | (refine wl_store 31 info_sizes rfl _ _ rfl h1 (row_size _ _) rfl rfl (fun _ => rfl) ?_))
      exact ret_row rfl Try.underlying31 info_sizes (h1.row_ _) rfl rfl ⟨rfl, below_setRow hb (by omega) _⟩

/-- all amounts -/
def okB (f : Nat → Nat) : Bool := (List.range 20).all fun j => amtB (f j)
theorem okB_true {f : Nat → Nat} (h : ∀ j, j < 20 → amtB (f j) = true) : okB f = true := by
  simp [okB]; exact h
theorem okB_false {f : Nat → Nat} (k : Nat) (hk : k < 20) (h : amtB (f k) = false) : okB f = false := by
  cases e : okB f
  · rfl
  · simp [okB] at e; rw [e k hk] at h; cases h
theorem of_okB {f : Nat → Nat} (h : okB f = true) : ∀ j, j < 20 → amtB (f j) = true := by simpa [okB] using h

theorem c_l01Ok (f : Nat → Nat) (hf : ∀ j, f j < 4294967296) (g : Nat) (t : TypeId) (w : World) (hg : Holds w g t (row 20 fun j => .float .f32 (f j))) :
    Calls Try.prog 46 #[.pointer (some ⟨g, 0, none⟩)] w fun e w' => e = .returned (.bool (okB f)) ∧ Drew w w' := by
  go_enter Try.func46, Try.ntmps46
  go_wp2
  go_loopw [3] (fun i wr => ∃ k : Nat, k ≤ 20 ∧ i = .int .i64 k ∧ (∀ j, j < k → amtB (f j) = true) ∧ ∃ m, wr = w.drewN m) (fun i _ => 20 - (intOf i).toNat)
  case atStart => exact ⟨0, by omega, rfl, fun j hj => by omega, 0, rfl⟩
  case round =>
    obtain ⟨k, hk, rfl, hall, m, rfl⟩ := hrel
    have HA := Lib.hid hall
    clear hall
    by_cases hlt : k < 20
    · have hc := (hg.drewN m).at_ hlt
      cases h : amtB (f k)
      · have HF := Lib.hid (okB_false k hlt h)
        go_wp2_with (go_at_call 33; refine (c_l01Amount _ (hf k) _).mono ?_; rintro e w' ⟨rfl, n, rfl⟩)
        go_ret
        exact ⟨ret_bool HF.out, m + n, by simp⟩
      · have HF := Lib.hid h
        go_wp2_with (go_at_call 33; refine (c_l01Amount _ (hf k) _).mono ?_; rintro e w' ⟨rfl, n, rfl⟩)
        go_roundw
        case rel => exact ⟨k + 1, by omega, by go_num, fun j hj => by
          rcases Nat.lt_or_ge j k with q | q
          · exact HA.out j q
          · have : j = k := by omega
            subst this; exact HF.out, m + n, by simp⟩
        case measure => simp [intOf]; omega
    · go_wp2
      go_ret
      exact ⟨ret_bool (okB_true (fun j hj => HA.out j (by omega))), m, rfl⟩


set_option maxRecDepth 10000 in
theorem c_ValidSizes (f : Nat → Nat) (hf : ∀ j, f j < 4294967296) (w : World) : Calls Try.prog 48 #[.agg (row 20 fun j => .float .f32 (f j))] w fun e w' => e = .returned (.bool (okB f)) ∧ Below w.heap.size w w' := by
  go_enter Try.func48, Try.ntmps48
  go_wp2_with (refine wl_load 31 Try.underlying31 info_sizes rfl _ rfl (Holds.new _ _ _) rfl ?_)
  go_loopw [6] (fun i wr => ∃ k : Nat, k ≤ 20 ∧ i = .int .i64 k ∧ (∀ j, j < k → amtB (f j) = true) ∧ Below w.heap.size w wr) (fun i _ => 20 - (intOf i).toNat)
  case atStart => exact ⟨0, by omega, rfl, fun j hj => by omega, (Below.refl _ _).alloc (by simp) _⟩
  case round =>
    obtain ⟨k, hk, rfl, hall, hb⟩ := hrel
    have HA := Lib.hid hall
    clear hall
    by_cases hlt : k < 20
    · have hix := run_index_row (P := Try.prog) 31 22 20 (fun j => .float .f32 (f j)) k wr Try.underlying31 info_f32 (agg_f32 _) hlt
      cases h : amtB (f k)
      · have HF := Lib.hid (okB_false k hlt h)
        go_wp2_with (go_at_call 35; refine (c_isAmount _ (hf k) _).mono ?_; rintro e w' ⟨rfl, hb'⟩)
        go_ret
        exact ⟨ret_bool HF.out, hb.trans (hb'.mono hb.size)⟩
      · have HF := Lib.hid h
        go_wp2_with (go_at_call 35; refine (c_isAmount _ (hf k) _).mono ?_; rintro e w' ⟨rfl, hb'⟩)
        go_roundw
        case rel => exact ⟨k + 1, by omega, by go_num, fun j hj => by
          rcases Nat.lt_or_ge j k with q | q
          · exact HA.out j q
          · have : j = k := by omega
            subst this; exact HF.out, hb.trans (hb'.mono hb.size)⟩
        case measure => simp [intOf]; omega
    · go_wp2
      go_ret
      exact ⟨ret_bool (okB_true (fun j hj => HA.out j (by omega))), hb⟩

end Go.Proofs.Ytjhognfkjdccfaa
