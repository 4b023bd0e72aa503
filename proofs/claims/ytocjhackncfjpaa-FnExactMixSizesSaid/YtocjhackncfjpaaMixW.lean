/-
  The law's walk: sizes that are mixed.
-/
import Derived.Test.YtocjhackncfjpaaMix
namespace Go.Proofs.Ytocjhackncfjpaa
open Go.RowKit Fl
set_option maxRecDepth 20000
set_option maxHeartbeats 4000000
set_option linter.unusedSimpArgs false
theorem walk_FnExactMixSizes (f : Nat → Nat) (hf : ∀ j, f j < 4294967296) (g : Nat → Nat) (hg : ∀ j, g j < 4294967296) (s : Nat) (hs : s < 4294967296) (w : World) : Calls Try.prog 8 #[.agg (row 20 fun j => .float .f32 (f j)), .agg (row 20 fun j => .float .f32 (g j)), .float .f32 s] w fun e w' => e = .returned (.bool true) ∧ Below w.heap.size w w' := by
  obtain ⟨G, c, hR, h1⟩ := mixR_form f g s
  have HR := Lib.hid hR
  have H1 := Lib.hid h1
  clear hR h1
  have g0 : Holds ((w.alloc (.cells (row 20 fun j => .float .f32 (f j)) 23)).alloc (.cells (row 20 fun j => .float .f32 (g j)) 23)) w.heap.size 23 (row 20 fun j => .float .f32 (f j)) := (Holds.new _ _ _).alloc _
  have g1 : Holds ((w.alloc (.cells (row 20 fun j => .float .f32 (f j)) 23)).alloc (.cells (row 20 fun j => .float .f32 (g j)) 23)) (w.heap.size + 1) 23 (row 20 fun j => .float .f32 (g j)) := Holds.new' _ _ _ (by simp)
  have b0 : Below w.heap.size w ((w.alloc (.cells (row 20 fun j => .float .f32 (f j)) 23)).alloc (.cells (row 20 fun j => .float .f32 (g j)) 23)) := ((Below.refl _ _).alloc (by simp) _).alloc (by simp) _
  have HA := Lib.hid (fun w => c_toSizes f w)
  have HB := Lib.hid (fun w => c_toSizes g w)
  have HC := Lib.hid (fun w => c_specMixSizes f hf g hg s hs w)
  have HD := Lib.hid (fun w => c_implMixSizes f hf g hg s hs w)
  go_enter Try.func8, Try.ntmps8
  go_wp2
  obtain ⟨u0, hu0⟩ : ∃ u0, u0 = ((w.alloc (.cells (row 20 fun j => .float .f32 (f j)) 23)).alloc (.cells (row 20 fun j => .float .f32 (g j)) 23)) := ⟨_, rfl⟩
  rw [← hu0] at g0 g1 b0 ⊢
  clear hu0
  refine Code.wp_mono (Q := fun e a' x => e = .normal ∧ ∃ r : Nat, a' = { tmps := #[.agg (row 20 fun j => .float .f32 (f j)), .agg (row 20 fun j => .float .f32 (g j)), .float .f32 s, .pointer (some ⟨w.heap.size, 0, none⟩), .pointer (some ⟨w.heap.size + 1, 0, none⟩), undef, .bool false, .pointer (some ⟨r, 0, none⟩), .int .i64 c, undef, undef, .tuple #[.agg (row 20 fun j => .float .f32 (G j)), .int .i64 c], .agg (row 20 fun j => .float .f32 (f j)), .agg (row 20 fun j => .float .f32 (f j)), .agg (row 20 fun j => .float .f32 (g j)), .agg (row 20 fun j => .float .f32 (g j)), .float .f32 s, .tuple #[.agg (row 20 fun j => .float .f32 (G j)), .int .i64 c], .agg (row 20 fun j => .float .f32 (G j)), .int .i64 c, undef, undef, undef, undef, undef, undef, undef, undef, undef, undef, undef, undef, undef, undef, undef, undef, undef, undef], defers := [] } ∧ Holds x r 24 (row 20 fun j => .float .f32 (G j)) ∧ (fun x => Holds x w.heap.size 23 (row 20 fun j => .float .f32 (f j)) ∧ Holds x (w.heap.size + 1) 23 (row 20 fun j => .float .f32 (g j)) ∧ Below w.heap.size w x) x) ?_ ?_
  · rintro e a' x1 ⟨rfl, r1, rfl, q1, g0, g1, b0⟩
    go_wp2
    refine Code.wp_mono (Q := fun e a' x => e = .normal ∧ ∃ r : Nat, a' = { tmps := #[.agg (row 20 fun j => .float .f32 (f j)), .agg (row 20 fun j => .float .f32 (g j)), .float .f32 s, .pointer (some ⟨w.heap.size, 0, none⟩), .pointer (some ⟨w.heap.size + 1, 0, none⟩), undef, .bool false, .pointer (some ⟨r1, 0, none⟩), .int .i64 c, .pointer (some ⟨r, 0, none⟩), .int .i64 c, .tuple #[.agg (row 20 fun j => .float .f32 (G j)), .int .i64 c], .agg (row 20 fun j => .float .f32 (f j)), .agg (row 20 fun j => .float .f32 (f j)), .agg (row 20 fun j => .float .f32 (g j)), .agg (row 20 fun j => .float .f32 (g j)), .float .f32 s, .tuple #[.agg (row 20 fun j => .float .f32 (G j)), .int .i64 c], .agg (row 20 fun j => .float .f32 (G j)), .int .i64 c, .tuple #[.agg (row 20 fun j => .float .f32 (G j)), .int .i64 c], .agg (row 20 fun j => .float .f32 (f j)), .agg (row 20 fun j => .float .f32 (f j)), .agg (row 20 fun j => .float .f32 (g j)), .agg (row 20 fun j => .float .f32 (g j)), .float .f32 s, .tuple #[.agg (row 20 fun j => .float .f32 (G j)), .int .i64 c], .agg (row 20 fun j => .float .f32 (G j)), .int .i64 c, undef, undef, undef, undef, undef, undef, undef, undef, undef], defers := [] } ∧ Holds x r 24 (row 20 fun j => .float .f32 (G j)) ∧ (fun x => Holds x w.heap.size 23 (row 20 fun j => .float .f32 (f j)) ∧ Holds x (w.heap.size + 1) 23 (row 20 fun j => .float .f32 (g j)) ∧ Holds x r1 24 (row 20 fun j => .float .f32 (G j)) ∧ Below w.heap.size w x) x) ?_ ?_
    · rintro e a' x2 ⟨rfl, r2, rfl, q2, g0, g1, g2, b0⟩
      go_wp2_with (first | (refine wl_load 24 Try.underlying24 info_sizes rfl _ rfl q2 rfl ?_) | (refine wl_load 24 Try.underlying24 info_sizes rfl _ rfl g2 rfl ?_) | (go_at_call 14; with_reducible refine (c_eqSizes G H1.out _).mono ?_; rintro e w1 ⟨rfl, hb⟩; skip; have b0 := b0.trans (hb.mono b0.size); clear hb))
      go_ret
      exact ⟨rfl, b0⟩
    · refine wp_region_held_drew (S := fun x => Holds x w.heap.size 23 (row 20 fun j => .float .f32 (f j)) ∧ Holds x (w.heap.size + 1) 23 (row 20 fun j => .float .f32 (g j)) ∧ Holds x r1 24 (row 20 fun j => .float .f32 (G j)) ∧ Below w.heap.size w x) (by kernel_rfl) ⟨g0.drew, g1.drew, q1.drew, b0.trans ((Below.refl _ _).drew)⟩ (fun hS => ?_)
      refine take_ (i := 0) (d := some 21) (v := .agg (row 20 fun j => .float .f32 (f j))) rfl rfl (by kernel_rfl) (by kernel_rfl) (by kernel_rfl) (fun _ _ _ h => nomatch h.1) (y_load 23 Try.underlying23 info_a20 (by rfl) _ rfl rfl (fun x hS => hS.1)) (by assumption) ?_
      try simp only [Act.put, List.setIfInBounds_toArray, List.set_cons_zero, List.set_cons_succ]
      refine take_ (i := 2) (d := some 23) (v := .agg (row 20 fun j => .float .f32 (g j))) rfl rfl (by kernel_rfl) (by kernel_rfl) (by kernel_rfl) (fun _ _ _ h => nomatch h.1) (y_load 23 Try.underlying23 info_a20 (by rfl) _ rfl rfl (fun x hS => hS.2.1)) (by assumption) ?_
      try simp only [Act.put, List.setIfInBounds_toArray, List.set_cons_zero, List.set_cons_succ]
      refine take_ (i := 4) (d := some 25) (v := .float .f32 s) rfl rfl (by kernel_rfl) (by kernel_rfl) (by kernel_rfl) (fun _ _ _ h => nomatch h.1) (Or.inl ⟨by rfl, fun x hx => by go_simp⟩) (by assumption) ?_
      try simp only [Act.put, List.setIfInBounds_toArray, List.set_cons_zero, List.set_cons_succ]
      refine wpAnyH_ready (rs := [1, 9]) (by kernel_rfl) (by simp) (AllReadyH.cons rfl (fun K hK => ?_) (AllReadyH.cons rfl (fun K hK => ?_) AllReadyH.nil))
      · go_simp
        with_reducible refine (HA.out _).mono ?_
        rintro e v1 ⟨rfl, hb⟩
        go_simp
        refine hK.out _ _ ⟨hS.1.keep hb, hS.2.1.keep hb, hS.2.2.1.keep hb, hS.2.2.2.trans (hb.mono hS.2.2.2.size)⟩ (fun hS => ?_)
        clear hK K
        try simp only [Act.put, List.setIfInBounds_toArray, List.set_cons_zero, List.set_cons_succ]
        refine wpAnyH_ready (rs := [3, 9]) (by kernel_rfl) (by simp) (AllReadyH.cons rfl (fun K hK => ?_) (AllReadyH.cons rfl (fun K hK => ?_) AllReadyH.nil))
        · go_simp
          with_reducible refine (HB.out _).mono ?_
          rintro e v2 ⟨rfl, hb⟩
          go_simp
          refine hK.out _ _ ⟨hS.1.keep hb, hS.2.1.keep hb, hS.2.2.1.keep hb, hS.2.2.2.trans (hb.mono hS.2.2.2.size)⟩ (fun hS => ?_)
          clear hK K
          try simp only [Act.put, List.setIfInBounds_toArray, List.set_cons_zero, List.set_cons_succ]
          refine wpAnyH_ready (rs := [5, 9]) (by kernel_rfl) (by simp) (AllReadyH.cons rfl (fun K hK => ?_) (AllReadyH.cons rfl (fun K hK => ?_) AllReadyH.nil))
          · go_simp
            with_reducible refine (HD.out _).mono ?_
            rw [HR.out]
            rintro e v3 ⟨rfl, hb⟩
            go_simp
            refine hK.out _ _ ⟨hS.1.keep hb, hS.2.1.keep hb, hS.2.2.1.keep hb, hS.2.2.2.trans (hb.mono hS.2.2.2.size)⟩ (fun hS => ?_)
            clear hK K
            try simp only [Act.put, List.setIfInBounds_toArray, List.set_cons_zero, List.set_cons_succ]
            refine take_ (i := 6) (d := some 20) (v := .tuple #[.agg (row 20 fun j => .float .f32 (G j)), .int .i64 c]) rfl rfl (by kernel_rfl) (by kernel_rfl) (by kernel_rfl) (fun _ _ _ h => nomatch h.1) (Or.inl ⟨by rfl, fun x hx => by go_simp⟩) (by assumption) ?_
            try simp only [Act.put, List.setIfInBounds_toArray, List.set_cons_zero, List.set_cons_succ]
            refine take_ (i := 7) (d := some 27) (v := .agg (row 20 fun j => .float .f32 (G j))) rfl rfl (by kernel_rfl) (by kernel_rfl) (by kernel_rfl) (fun _ _ _ h => nomatch h.1) (Or.inl ⟨by rfl, fun x hx => by go_simp⟩) (by assumption) ?_
            try simp only [Act.put, List.setIfInBounds_toArray, List.set_cons_zero, List.set_cons_succ]
            refine take_ (i := 8) (d := some 28) (v := .int .i64 c) rfl rfl (by kernel_rfl) (by kernel_rfl) (by kernel_rfl) (fun _ _ _ h => nomatch h.1) (Or.inl ⟨by rfl, fun x hx => by go_simp⟩) (by assumption) ?_
            try simp only [Act.put, List.setIfInBounds_toArray, List.set_cons_zero, List.set_cons_succ]
            refine wpAnyH_ready (rs := [9]) (by kernel_rfl) (by simp) (AllReadyH.cons rfl (fun K hK => ?_) AllReadyH.nil)
            obtain ⟨r, hr⟩ : ∃ r, r = v3.heap.size := ⟨_, rfl⟩
            have z0 : Holds (v3.alloc (.cells #[.float .f32 0, .float .f32 0, .float .f32 0, .float .f32 0, .float .f32 0, .float .f32 0, .float .f32 0, .float .f32 0, .float .f32 0, .float .f32 0, .float .f32 0, .float .f32 0, .float .f32 0, .float .f32 0, .float .f32 0, .float .f32 0, .float .f32 0, .float .f32 0, .float .f32 0, .float .f32 0] 24)) r 24 #[.float .f32 0, .float .f32 0, .float .f32 0, .float .f32 0, .float .f32 0, .float .f32 0, .float .f32 0, .float .f32 0, .float .f32 0, .float .f32 0, .float .f32 0, .float .f32 0, .float .f32 0, .float .f32 0, .float .f32 0, .float .f32 0, .float .f32 0, .float .f32 0, .float .f32 0, .float .f32 0] := Holds.new' _ _ _ hr
            have hw : v3.heap.size = r := hr.symm
            have hn0 : w.heap.size < r := by have h := hS.1.lt; omega
            have hn1 : (w.heap.size + 1) < r := by have h := hS.2.1.lt; omega
            have hn2 : r1 < r := by have h := hS.2.2.1.lt; omega
            clear hw
            have hr2 := Lib.hid hr
            clear hr
            go_simp
            rw [← hr2.out]
            clear hr2
            refine hK.out _ _ ⟨hS.1.alloc _, hS.2.1.alloc _, hS.2.2.1.alloc _, hS.2.2.2.alloc hS.2.2.2.size _⟩ (fun hS => ?_)
            clear hK K
            try simp only [Act.put, List.setIfInBounds_toArray, List.set_cons_zero, List.set_cons_succ]
            refine wpAnyH_ready (rs := [10]) (by kernel_rfl) (by simp) (AllReadyH.cons rfl (fun K hK => ?_) AllReadyH.nil)
            rw [if_pos (by rfl)]
            refine wp_store_ 24 info_sizes (.tmp 9) (.tmp 27) rfl z0 rfl rfl rfl (fun _ => rfl) ?_
            have zz := z0.row_ (row 20 fun j => .float .f32 (G j))
            refine hK.out _ _ ⟨hS.1.farRow (by omega) _, hS.2.1.farRow (by omega) _, hS.2.2.1.farRow (by omega) _, below_setRow hS.2.2.2 (by omega) _⟩ (fun hS => ?_)
            clear hK K
            try simp only [Act.put, List.setIfInBounds_toArray, List.set_cons_zero, List.set_cons_succ]
            refine take_ (i := 11) (d := some 10) (v := .int .i64 c) rfl rfl (by kernel_rfl) (by kernel_rfl) (by kernel_rfl) (fun _ _ _ h => nomatch h.1) (Or.inl ⟨by rfl, fun x hx => by go_simp⟩) (by assumption) ?_
            try simp only [Act.put, List.setIfInBounds_toArray, List.set_cons_zero, List.set_cons_succ]
            refine wpAnyH_done (by kernel_rfl) ?_ _
            exact ⟨rfl, r, rfl, zz, hS⟩
          · obtain ⟨r, hr⟩ : ∃ r, r = v2.heap.size := ⟨_, rfl⟩
            have z0 : Holds (v2.alloc (.cells #[.float .f32 0, .float .f32 0, .float .f32 0, .float .f32 0, .float .f32 0, .float .f32 0, .float .f32 0, .float .f32 0, .float .f32 0, .float .f32 0, .float .f32 0, .float .f32 0, .float .f32 0, .float .f32 0, .float .f32 0, .float .f32 0, .float .f32 0, .float .f32 0, .float .f32 0, .float .f32 0] 24)) r 24 #[.float .f32 0, .float .f32 0, .float .f32 0, .float .f32 0, .float .f32 0, .float .f32 0, .float .f32 0, .float .f32 0, .float .f32 0, .float .f32 0, .float .f32 0, .float .f32 0, .float .f32 0, .float .f32 0, .float .f32 0, .float .f32 0, .float .f32 0, .float .f32 0, .float .f32 0, .float .f32 0] := Holds.new' _ _ _ hr
            have hw : v2.heap.size = r := hr.symm
            have hn0 : w.heap.size < r := by have h := hS.1.lt; omega
            have hn1 : (w.heap.size + 1) < r := by have h := hS.2.1.lt; omega
            have hn2 : r1 < r := by have h := hS.2.2.1.lt; omega
            clear hw
            have hr2 := Lib.hid hr
            clear hr
            go_simp
            rw [← hr2.out]
            clear hr2
            refine hK.out _ _ ⟨hS.1.alloc _, hS.2.1.alloc _, hS.2.2.1.alloc _, hS.2.2.2.alloc hS.2.2.2.size _⟩ (fun hS => ?_)
            clear hK K
            try simp only [Act.put, List.setIfInBounds_toArray, List.set_cons_zero, List.set_cons_succ]
            refine wpAnyH_ready (rs := [5]) (by kernel_rfl) (by simp) (AllReadyH.cons rfl (fun K hK => ?_) AllReadyH.nil)
            go_simp
            with_reducible refine (HD.out _).mono ?_
            rw [HR.out]
            rintro e v4 ⟨rfl, hb⟩
            go_simp
            have z0 := z0.keep hb
            refine hK.out _ _ ⟨hS.1.keep hb, hS.2.1.keep hb, hS.2.2.1.keep hb, hS.2.2.2.trans (hb.mono hS.2.2.2.size)⟩ (fun hS => ?_)
            clear hK K
            try simp only [Act.put, List.setIfInBounds_toArray, List.set_cons_zero, List.set_cons_succ]
            refine take_ (i := 6) (d := some 20) (v := .tuple #[.agg (row 20 fun j => .float .f32 (G j)), .int .i64 c]) rfl rfl (by kernel_rfl) (by kernel_rfl) (by kernel_rfl) (fun _ _ _ h => nomatch h.1) (Or.inl ⟨by rfl, fun x hx => by go_simp⟩) (by assumption) ?_
            try simp only [Act.put, List.setIfInBounds_toArray, List.set_cons_zero, List.set_cons_succ]
            refine take_ (i := 7) (d := some 27) (v := .agg (row 20 fun j => .float .f32 (G j))) rfl rfl (by kernel_rfl) (by kernel_rfl) (by kernel_rfl) (fun _ _ _ h => nomatch h.1) (Or.inl ⟨by rfl, fun x hx => by go_simp⟩) (by assumption) ?_
            try simp only [Act.put, List.setIfInBounds_toArray, List.set_cons_zero, List.set_cons_succ]
            refine take_ (i := 8) (d := some 28) (v := .int .i64 c) rfl rfl (by kernel_rfl) (by kernel_rfl) (by kernel_rfl) (fun _ _ _ h => nomatch h.1) (Or.inl ⟨by rfl, fun x hx => by go_simp⟩) (by assumption) ?_
            try simp only [Act.put, List.setIfInBounds_toArray, List.set_cons_zero, List.set_cons_succ]
            refine wpAnyH_ready (rs := [10]) (by kernel_rfl) (by simp) (AllReadyH.cons rfl (fun K hK => ?_) AllReadyH.nil)
            rw [if_pos (by rfl)]
            refine wp_store_ 24 info_sizes (.tmp 9) (.tmp 27) rfl z0 rfl rfl rfl (fun _ => rfl) ?_
            have zz := z0.row_ (row 20 fun j => .float .f32 (G j))
            refine hK.out _ _ ⟨hS.1.farRow (by omega) _, hS.2.1.farRow (by omega) _, hS.2.2.1.farRow (by omega) _, below_setRow hS.2.2.2 (by omega) _⟩ (fun hS => ?_)
            clear hK K
            try simp only [Act.put, List.setIfInBounds_toArray, List.set_cons_zero, List.set_cons_succ]
            refine take_ (i := 11) (d := some 10) (v := .int .i64 c) rfl rfl (by kernel_rfl) (by kernel_rfl) (by kernel_rfl) (fun _ _ _ h => nomatch h.1) (Or.inl ⟨by rfl, fun x hx => by go_simp⟩) (by assumption) ?_
            try simp only [Act.put, List.setIfInBounds_toArray, List.set_cons_zero, List.set_cons_succ]
            refine wpAnyH_done (by kernel_rfl) ?_ _
            exact ⟨rfl, r, rfl, zz, hS⟩
        · obtain ⟨r, hr⟩ : ∃ r, r = v1.heap.size := ⟨_, rfl⟩
          have z0 : Holds (v1.alloc (.cells #[.float .f32 0, .float .f32 0, .float .f32 0, .float .f32 0, .float .f32 0, .float .f32 0, .float .f32 0, .float .f32 0, .float .f32 0, .float .f32 0, .float .f32 0, .float .f32 0, .float .f32 0, .float .f32 0, .float .f32 0, .float .f32 0, .float .f32 0, .float .f32 0, .float .f32 0, .float .f32 0] 24)) r 24 #[.float .f32 0, .float .f32 0, .float .f32 0, .float .f32 0, .float .f32 0, .float .f32 0, .float .f32 0, .float .f32 0, .float .f32 0, .float .f32 0, .float .f32 0, .float .f32 0, .float .f32 0, .float .f32 0, .float .f32 0, .float .f32 0, .float .f32 0, .float .f32 0, .float .f32 0, .float .f32 0] := Holds.new' _ _ _ hr
          have hw : v1.heap.size = r := hr.symm
          have hn0 : w.heap.size < r := by have h := hS.1.lt; omega
          have hn1 : (w.heap.size + 1) < r := by have h := hS.2.1.lt; omega
          have hn2 : r1 < r := by have h := hS.2.2.1.lt; omega
          clear hw
          have hr2 := Lib.hid hr
          clear hr
          go_simp
          rw [← hr2.out]
          clear hr2
          refine hK.out _ _ ⟨hS.1.alloc _, hS.2.1.alloc _, hS.2.2.1.alloc _, hS.2.2.2.alloc hS.2.2.2.size _⟩ (fun hS => ?_)
          clear hK K
          try simp only [Act.put, List.setIfInBounds_toArray, List.set_cons_zero, List.set_cons_succ]
          refine wpAnyH_ready (rs := [3]) (by kernel_rfl) (by simp) (AllReadyH.cons rfl (fun K hK => ?_) AllReadyH.nil)
          go_simp
          with_reducible refine (HB.out _).mono ?_
          rintro e v5 ⟨rfl, hb⟩
          go_simp
          have z0 := z0.keep hb
          refine hK.out _ _ ⟨hS.1.keep hb, hS.2.1.keep hb, hS.2.2.1.keep hb, hS.2.2.2.trans (hb.mono hS.2.2.2.size)⟩ (fun hS => ?_)
          clear hK K
          try simp only [Act.put, List.setIfInBounds_toArray, List.set_cons_zero, List.set_cons_succ]
          refine wpAnyH_ready (rs := [5]) (by kernel_rfl) (by simp) (AllReadyH.cons rfl (fun K hK => ?_) AllReadyH.nil)
          go_simp
          with_reducible refine (HD.out _).mono ?_
          rw [HR.out]
          rintro e v6 ⟨rfl, hb⟩
          go_simp
          have z0 := z0.keep hb
          refine hK.out _ _ ⟨hS.1.keep hb, hS.2.1.keep hb, hS.2.2.1.keep hb, hS.2.2.2.trans (hb.mono hS.2.2.2.size)⟩ (fun hS => ?_)
          clear hK K
          try simp only [Act.put, List.setIfInBounds_toArray, List.set_cons_zero, List.set_cons_succ]
          refine take_ (i := 6) (d := some 20) (v := .tuple #[.agg (row 20 fun j => .float .f32 (G j)), .int .i64 c]) rfl rfl (by kernel_rfl) (by kernel_rfl) (by kernel_rfl) (fun _ _ _ h => nomatch h.1) (Or.inl ⟨by rfl, fun x hx => by go_simp⟩) (by assumption) ?_
          try simp only [Act.put, List.setIfInBounds_toArray, List.set_cons_zero, List.set_cons_succ]
          refine take_ (i := 7) (d := some 27) (v := .agg (row 20 fun j => .float .f32 (G j))) rfl rfl (by kernel_rfl) (by kernel_rfl) (by kernel_rfl) (fun _ _ _ h => nomatch h.1) (Or.inl ⟨by rfl, fun x hx => by go_simp⟩) (by assumption) ?_
          try simp only [Act.put, List.setIfInBounds_toArray, List.set_cons_zero, List.set_cons_succ]
          refine take_ (i := 8) (d := some 28) (v := .int .i64 c) rfl rfl (by kernel_rfl) (by kernel_rfl) (by kernel_rfl) (fun _ _ _ h => nomatch h.1) (Or.inl ⟨by rfl, fun x hx => by go_simp⟩) (by assumption) ?_
          try simp only [Act.put, List.setIfInBounds_toArray, List.set_cons_zero, List.set_cons_succ]
          refine wpAnyH_ready (rs := [10]) (by kernel_rfl) (by simp) (AllReadyH.cons rfl (fun K hK => ?_) AllReadyH.nil)
          rw [if_pos (by rfl)]
          refine wp_store_ 24 info_sizes (.tmp 9) (.tmp 27) rfl z0 rfl rfl rfl (fun _ => rfl) ?_
          have zz := z0.row_ (row 20 fun j => .float .f32 (G j))
          refine hK.out _ _ ⟨hS.1.farRow (by omega) _, hS.2.1.farRow (by omega) _, hS.2.2.1.farRow (by omega) _, below_setRow hS.2.2.2 (by omega) _⟩ (fun hS => ?_)
          clear hK K
          try simp only [Act.put, List.setIfInBounds_toArray, List.set_cons_zero, List.set_cons_succ]
          refine take_ (i := 11) (d := some 10) (v := .int .i64 c) rfl rfl (by kernel_rfl) (by kernel_rfl) (by kernel_rfl) (fun _ _ _ h => nomatch h.1) (Or.inl ⟨by rfl, fun x hx => by go_simp⟩) (by assumption) ?_
          try simp only [Act.put, List.setIfInBounds_toArray, List.set_cons_zero, List.set_cons_succ]
          refine wpAnyH_done (by kernel_rfl) ?_ _
          exact ⟨rfl, r, rfl, zz, hS⟩
      · obtain ⟨r, hr⟩ : ∃ r, r = x1.heap.size := ⟨_, rfl⟩
        have z0 : Holds (x1.drew.alloc (.cells #[.float .f32 0, .float .f32 0, .float .f32 0, .float .f32 0, .float .f32 0, .float .f32 0, .float .f32 0, .float .f32 0, .float .f32 0, .float .f32 0, .float .f32 0, .float .f32 0, .float .f32 0, .float .f32 0, .float .f32 0, .float .f32 0, .float .f32 0, .float .f32 0, .float .f32 0, .float .f32 0] 24)) r 24 #[.float .f32 0, .float .f32 0, .float .f32 0, .float .f32 0, .float .f32 0, .float .f32 0, .float .f32 0, .float .f32 0, .float .f32 0, .float .f32 0, .float .f32 0, .float .f32 0, .float .f32 0, .float .f32 0, .float .f32 0, .float .f32 0, .float .f32 0, .float .f32 0, .float .f32 0, .float .f32 0] := Holds.new' _ _ _ hr
        have hw : x1.drew.heap.size = r := hr.symm
        have hn0 : w.heap.size < r := by have h := hS.1.lt; omega
        have hn1 : (w.heap.size + 1) < r := by have h := hS.2.1.lt; omega
        have hn2 : r1 < r := by have h := hS.2.2.1.lt; omega
        clear hw
        have hr2 := Lib.hid hr
        clear hr
        go_simp
        rw [← hr2.out]
        clear hr2
        refine hK.out _ _ ⟨hS.1.alloc _, hS.2.1.alloc _, hS.2.2.1.alloc _, hS.2.2.2.alloc hS.2.2.2.size _⟩ (fun hS => ?_)
        clear hK K
        try simp only [Act.put, List.setIfInBounds_toArray, List.set_cons_zero, List.set_cons_succ]
        refine wpAnyH_ready (rs := [1]) (by kernel_rfl) (by simp) (AllReadyH.cons rfl (fun K hK => ?_) AllReadyH.nil)
        go_simp
        with_reducible refine (HA.out _).mono ?_
        rintro e v7 ⟨rfl, hb⟩
        go_simp
        have z0 := z0.keep hb
        refine hK.out _ _ ⟨hS.1.keep hb, hS.2.1.keep hb, hS.2.2.1.keep hb, hS.2.2.2.trans (hb.mono hS.2.2.2.size)⟩ (fun hS => ?_)
        clear hK K
        try simp only [Act.put, List.setIfInBounds_toArray, List.set_cons_zero, List.set_cons_succ]
        refine wpAnyH_ready (rs := [3]) (by kernel_rfl) (by simp) (AllReadyH.cons rfl (fun K hK => ?_) AllReadyH.nil)
        go_simp
        with_reducible refine (HB.out _).mono ?_
        rintro e v8 ⟨rfl, hb⟩
        go_simp
        have z0 := z0.keep hb
        refine hK.out _ _ ⟨hS.1.keep hb, hS.2.1.keep hb, hS.2.2.1.keep hb, hS.2.2.2.trans (hb.mono hS.2.2.2.size)⟩ (fun hS => ?_)
        clear hK K
        try simp only [Act.put, List.setIfInBounds_toArray, List.set_cons_zero, List.set_cons_succ]
        refine wpAnyH_ready (rs := [5]) (by kernel_rfl) (by simp) (AllReadyH.cons rfl (fun K hK => ?_) AllReadyH.nil)
        go_simp
        with_reducible refine (HD.out _).mono ?_
        rw [HR.out]
        rintro e v9 ⟨rfl, hb⟩
        go_simp
        have z0 := z0.keep hb
        refine hK.out _ _ ⟨hS.1.keep hb, hS.2.1.keep hb, hS.2.2.1.keep hb, hS.2.2.2.trans (hb.mono hS.2.2.2.size)⟩ (fun hS => ?_)
        clear hK K
        try simp only [Act.put, List.setIfInBounds_toArray, List.set_cons_zero, List.set_cons_succ]
        refine take_ (i := 6) (d := some 20) (v := .tuple #[.agg (row 20 fun j => .float .f32 (G j)), .int .i64 c]) rfl rfl (by kernel_rfl) (by kernel_rfl) (by kernel_rfl) (fun _ _ _ h => nomatch h.1) (Or.inl ⟨by rfl, fun x hx => by go_simp⟩) (by assumption) ?_
        try simp only [Act.put, List.setIfInBounds_toArray, List.set_cons_zero, List.set_cons_succ]
        refine take_ (i := 7) (d := some 27) (v := .agg (row 20 fun j => .float .f32 (G j))) rfl rfl (by kernel_rfl) (by kernel_rfl) (by kernel_rfl) (fun _ _ _ h => nomatch h.1) (Or.inl ⟨by rfl, fun x hx => by go_simp⟩) (by assumption) ?_
        try simp only [Act.put, List.setIfInBounds_toArray, List.set_cons_zero, List.set_cons_succ]
        refine take_ (i := 8) (d := some 28) (v := .int .i64 c) rfl rfl (by kernel_rfl) (by kernel_rfl) (by kernel_rfl) (fun _ _ _ h => nomatch h.1) (Or.inl ⟨by rfl, fun x hx => by go_simp⟩) (by assumption) ?_
        try simp only [Act.put, List.setIfInBounds_toArray, List.set_cons_zero, List.set_cons_succ]
        refine wpAnyH_ready (rs := [10]) (by kernel_rfl) (by simp) (AllReadyH.cons rfl (fun K hK => ?_) AllReadyH.nil)
        rw [if_pos (by rfl)]
        refine wp_store_ 24 info_sizes (.tmp 9) (.tmp 27) rfl z0 rfl rfl rfl (fun _ => rfl) ?_
        have zz := z0.row_ (row 20 fun j => .float .f32 (G j))
        refine hK.out _ _ ⟨hS.1.farRow (by omega) _, hS.2.1.farRow (by omega) _, hS.2.2.1.farRow (by omega) _, below_setRow hS.2.2.2 (by omega) _⟩ (fun hS => ?_)
        clear hK K
        try simp only [Act.put, List.setIfInBounds_toArray, List.set_cons_zero, List.set_cons_succ]
        refine take_ (i := 11) (d := some 10) (v := .int .i64 c) rfl rfl (by kernel_rfl) (by kernel_rfl) (by kernel_rfl) (fun _ _ _ h => nomatch h.1) (Or.inl ⟨by rfl, fun x hx => by go_simp⟩) (by assumption) ?_
        try simp only [Act.put, List.setIfInBounds_toArray, List.set_cons_zero, List.set_cons_succ]
        refine wpAnyH_done (by kernel_rfl) ?_ _
        exact ⟨rfl, r, rfl, zz, hS⟩
  · refine wp_region_held_drew (S := fun x => Holds x w.heap.size 23 (row 20 fun j => .float .f32 (f j)) ∧ Holds x (w.heap.size + 1) 23 (row 20 fun j => .float .f32 (g j)) ∧ Below w.heap.size w x) (by kernel_rfl) ⟨g0.drew, g1.drew, b0.trans ((Below.refl _ _).drew)⟩ (fun hS => ?_)
    refine take_ (i := 0) (d := some 12) (v := .agg (row 20 fun j => .float .f32 (f j))) rfl rfl (by kernel_rfl) (by kernel_rfl) (by kernel_rfl) (fun _ _ _ h => nomatch h.1) (y_load 23 Try.underlying23 info_a20 (by rfl) _ rfl rfl (fun x hS => hS.1)) (by assumption) ?_
    try simp only [Act.put, List.setIfInBounds_toArray, List.set_cons_zero, List.set_cons_succ]
    refine take_ (i := 2) (d := some 14) (v := .agg (row 20 fun j => .float .f32 (g j))) rfl rfl (by kernel_rfl) (by kernel_rfl) (by kernel_rfl) (fun _ _ _ h => nomatch h.1) (y_load 23 Try.underlying23 info_a20 (by rfl) _ rfl rfl (fun x hS => hS.2.1)) (by assumption) ?_
    try simp only [Act.put, List.setIfInBounds_toArray, List.set_cons_zero, List.set_cons_succ]
    refine take_ (i := 4) (d := some 16) (v := .float .f32 s) rfl rfl (by kernel_rfl) (by kernel_rfl) (by kernel_rfl) (fun _ _ _ h => nomatch h.1) (Or.inl ⟨by rfl, fun x hx => by go_simp⟩) (by assumption) ?_
    try simp only [Act.put, List.setIfInBounds_toArray, List.set_cons_zero, List.set_cons_succ]
    refine wpAnyH_ready (rs := [1, 9]) (by kernel_rfl) (by simp) (AllReadyH.cons rfl (fun K hK => ?_) (AllReadyH.cons rfl (fun K hK => ?_) AllReadyH.nil))
    · go_simp
      with_reducible refine (HA.out _).mono ?_
      rintro e v1 ⟨rfl, hb⟩
      go_simp
      refine hK.out _ _ ⟨hS.1.keep hb, hS.2.1.keep hb, hS.2.2.trans (hb.mono hS.2.2.size)⟩ (fun hS => ?_)
      clear hK K
      try simp only [Act.put, List.setIfInBounds_toArray, List.set_cons_zero, List.set_cons_succ]
      refine wpAnyH_ready (rs := [3, 9]) (by kernel_rfl) (by simp) (AllReadyH.cons rfl (fun K hK => ?_) (AllReadyH.cons rfl (fun K hK => ?_) AllReadyH.nil))
      · go_simp
        with_reducible refine (HB.out _).mono ?_
        rintro e v2 ⟨rfl, hb⟩
        go_simp
        refine hK.out _ _ ⟨hS.1.keep hb, hS.2.1.keep hb, hS.2.2.trans (hb.mono hS.2.2.size)⟩ (fun hS => ?_)
        clear hK K
        try simp only [Act.put, List.setIfInBounds_toArray, List.set_cons_zero, List.set_cons_succ]
        refine wpAnyH_ready (rs := [5, 9]) (by kernel_rfl) (by simp) (AllReadyH.cons rfl (fun K hK => ?_) (AllReadyH.cons rfl (fun K hK => ?_) AllReadyH.nil))
        · go_simp
          with_reducible refine (HC.out _).mono ?_
          rw [HR.out]
          rintro e v3 ⟨rfl, hb⟩
          go_simp
          refine hK.out _ _ ⟨hS.1.keep hb, hS.2.1.keep hb, hS.2.2.trans (hb.mono hS.2.2.size)⟩ (fun hS => ?_)
          clear hK K
          try simp only [Act.put, List.setIfInBounds_toArray, List.set_cons_zero, List.set_cons_succ]
          refine take_ (i := 6) (d := some 11) (v := .tuple #[.agg (row 20 fun j => .float .f32 (G j)), .int .i64 c]) rfl rfl (by kernel_rfl) (by kernel_rfl) (by kernel_rfl) (fun _ _ _ h => nomatch h.1) (Or.inl ⟨by rfl, fun x hx => by go_simp⟩) (by assumption) ?_
          try simp only [Act.put, List.setIfInBounds_toArray, List.set_cons_zero, List.set_cons_succ]
          refine take_ (i := 7) (d := some 18) (v := .agg (row 20 fun j => .float .f32 (G j))) rfl rfl (by kernel_rfl) (by kernel_rfl) (by kernel_rfl) (fun _ _ _ h => nomatch h.1) (Or.inl ⟨by rfl, fun x hx => by go_simp⟩) (by assumption) ?_
          try simp only [Act.put, List.setIfInBounds_toArray, List.set_cons_zero, List.set_cons_succ]
          refine take_ (i := 8) (d := some 19) (v := .int .i64 c) rfl rfl (by kernel_rfl) (by kernel_rfl) (by kernel_rfl) (fun _ _ _ h => nomatch h.1) (Or.inl ⟨by rfl, fun x hx => by go_simp⟩) (by assumption) ?_
          try simp only [Act.put, List.setIfInBounds_toArray, List.set_cons_zero, List.set_cons_succ]
          refine wpAnyH_ready (rs := [9]) (by kernel_rfl) (by simp) (AllReadyH.cons rfl (fun K hK => ?_) AllReadyH.nil)
          obtain ⟨r, hr⟩ : ∃ r, r = v3.heap.size := ⟨_, rfl⟩
          have z0 : Holds (v3.alloc (.cells #[.float .f32 0, .float .f32 0, .float .f32 0, .float .f32 0, .float .f32 0, .float .f32 0, .float .f32 0, .float .f32 0, .float .f32 0, .float .f32 0, .float .f32 0, .float .f32 0, .float .f32 0, .float .f32 0, .float .f32 0, .float .f32 0, .float .f32 0, .float .f32 0, .float .f32 0, .float .f32 0] 24)) r 24 #[.float .f32 0, .float .f32 0, .float .f32 0, .float .f32 0, .float .f32 0, .float .f32 0, .float .f32 0, .float .f32 0, .float .f32 0, .float .f32 0, .float .f32 0, .float .f32 0, .float .f32 0, .float .f32 0, .float .f32 0, .float .f32 0, .float .f32 0, .float .f32 0, .float .f32 0, .float .f32 0] := Holds.new' _ _ _ hr
          have hw : v3.heap.size = r := hr.symm
          have hn0 : w.heap.size < r := by have h := hS.1.lt; omega
          have hn1 : (w.heap.size + 1) < r := by have h := hS.2.1.lt; omega
          clear hw
          have hr2 := Lib.hid hr
          clear hr
          go_simp
          rw [← hr2.out]
          clear hr2
          refine hK.out _ _ ⟨hS.1.alloc _, hS.2.1.alloc _, hS.2.2.alloc hS.2.2.size _⟩ (fun hS => ?_)
          clear hK K
          try simp only [Act.put, List.setIfInBounds_toArray, List.set_cons_zero, List.set_cons_succ]
          refine wpAnyH_ready (rs := [10]) (by kernel_rfl) (by simp) (AllReadyH.cons rfl (fun K hK => ?_) AllReadyH.nil)
          rw [if_pos (by rfl)]
          refine wp_store_ 24 info_sizes (.tmp 7) (.tmp 18) rfl z0 rfl rfl rfl (fun _ => rfl) ?_
          have zz := z0.row_ (row 20 fun j => .float .f32 (G j))
          refine hK.out _ _ ⟨hS.1.farRow (by omega) _, hS.2.1.farRow (by omega) _, below_setRow hS.2.2 (by omega) _⟩ (fun hS => ?_)
          clear hK K
          try simp only [Act.put, List.setIfInBounds_toArray, List.set_cons_zero, List.set_cons_succ]
          refine take_ (i := 11) (d := some 8) (v := .int .i64 c) rfl rfl (by kernel_rfl) (by kernel_rfl) (by kernel_rfl) (fun _ _ _ h => nomatch h.1) (Or.inl ⟨by rfl, fun x hx => by go_simp⟩) (by assumption) ?_
          try simp only [Act.put, List.setIfInBounds_toArray, List.set_cons_zero, List.set_cons_succ]
          refine wpAnyH_done (by kernel_rfl) ?_ _
          exact ⟨rfl, r, rfl, zz, hS⟩
        · obtain ⟨r, hr⟩ : ∃ r, r = v2.heap.size := ⟨_, rfl⟩
          have z0 : Holds (v2.alloc (.cells #[.float .f32 0, .float .f32 0, .float .f32 0, .float .f32 0, .float .f32 0, .float .f32 0, .float .f32 0, .float .f32 0, .float .f32 0, .float .f32 0, .float .f32 0, .float .f32 0, .float .f32 0, .float .f32 0, .float .f32 0, .float .f32 0, .float .f32 0, .float .f32 0, .float .f32 0, .float .f32 0] 24)) r 24 #[.float .f32 0, .float .f32 0, .float .f32 0, .float .f32 0, .float .f32 0, .float .f32 0, .float .f32 0, .float .f32 0, .float .f32 0, .float .f32 0, .float .f32 0, .float .f32 0, .float .f32 0, .float .f32 0, .float .f32 0, .float .f32 0, .float .f32 0, .float .f32 0, .float .f32 0, .float .f32 0] := Holds.new' _ _ _ hr
          have hw : v2.heap.size = r := hr.symm
          have hn0 : w.heap.size < r := by have h := hS.1.lt; omega
          have hn1 : (w.heap.size + 1) < r := by have h := hS.2.1.lt; omega
          clear hw
          have hr2 := Lib.hid hr
          clear hr
          go_simp
          rw [← hr2.out]
          clear hr2
          refine hK.out _ _ ⟨hS.1.alloc _, hS.2.1.alloc _, hS.2.2.alloc hS.2.2.size _⟩ (fun hS => ?_)
          clear hK K
          try simp only [Act.put, List.setIfInBounds_toArray, List.set_cons_zero, List.set_cons_succ]
          refine wpAnyH_ready (rs := [5]) (by kernel_rfl) (by simp) (AllReadyH.cons rfl (fun K hK => ?_) AllReadyH.nil)
          go_simp
          with_reducible refine (HC.out _).mono ?_
          rw [HR.out]
          rintro e v4 ⟨rfl, hb⟩
          go_simp
          have z0 := z0.keep hb
          refine hK.out _ _ ⟨hS.1.keep hb, hS.2.1.keep hb, hS.2.2.trans (hb.mono hS.2.2.size)⟩ (fun hS => ?_)
          clear hK K
          try simp only [Act.put, List.setIfInBounds_toArray, List.set_cons_zero, List.set_cons_succ]
          refine take_ (i := 6) (d := some 11) (v := .tuple #[.agg (row 20 fun j => .float .f32 (G j)), .int .i64 c]) rfl rfl (by kernel_rfl) (by kernel_rfl) (by kernel_rfl) (fun _ _ _ h => nomatch h.1) (Or.inl ⟨by rfl, fun x hx => by go_simp⟩) (by assumption) ?_
          try simp only [Act.put, List.setIfInBounds_toArray, List.set_cons_zero, List.set_cons_succ]
          refine take_ (i := 7) (d := some 18) (v := .agg (row 20 fun j => .float .f32 (G j))) rfl rfl (by kernel_rfl) (by kernel_rfl) (by kernel_rfl) (fun _ _ _ h => nomatch h.1) (Or.inl ⟨by rfl, fun x hx => by go_simp⟩) (by assumption) ?_
          try simp only [Act.put, List.setIfInBounds_toArray, List.set_cons_zero, List.set_cons_succ]
          refine take_ (i := 8) (d := some 19) (v := .int .i64 c) rfl rfl (by kernel_rfl) (by kernel_rfl) (by kernel_rfl) (fun _ _ _ h => nomatch h.1) (Or.inl ⟨by rfl, fun x hx => by go_simp⟩) (by assumption) ?_
          try simp only [Act.put, List.setIfInBounds_toArray, List.set_cons_zero, List.set_cons_succ]
          refine wpAnyH_ready (rs := [10]) (by kernel_rfl) (by simp) (AllReadyH.cons rfl (fun K hK => ?_) AllReadyH.nil)
          rw [if_pos (by rfl)]
          refine wp_store_ 24 info_sizes (.tmp 7) (.tmp 18) rfl z0 rfl rfl rfl (fun _ => rfl) ?_
          have zz := z0.row_ (row 20 fun j => .float .f32 (G j))
          refine hK.out _ _ ⟨hS.1.farRow (by omega) _, hS.2.1.farRow (by omega) _, below_setRow hS.2.2 (by omega) _⟩ (fun hS => ?_)
          clear hK K
          try simp only [Act.put, List.setIfInBounds_toArray, List.set_cons_zero, List.set_cons_succ]
          refine take_ (i := 11) (d := some 8) (v := .int .i64 c) rfl rfl (by kernel_rfl) (by kernel_rfl) (by kernel_rfl) (fun _ _ _ h => nomatch h.1) (Or.inl ⟨by rfl, fun x hx => by go_simp⟩) (by assumption) ?_
          try simp only [Act.put, List.setIfInBounds_toArray, List.set_cons_zero, List.set_cons_succ]
          refine wpAnyH_done (by kernel_rfl) ?_ _
          exact ⟨rfl, r, rfl, zz, hS⟩
      · obtain ⟨r, hr⟩ : ∃ r, r = v1.heap.size := ⟨_, rfl⟩
        have z0 : Holds (v1.alloc (.cells #[.float .f32 0, .float .f32 0, .float .f32 0, .float .f32 0, .float .f32 0, .float .f32 0, .float .f32 0, .float .f32 0, .float .f32 0, .float .f32 0, .float .f32 0, .float .f32 0, .float .f32 0, .float .f32 0, .float .f32 0, .float .f32 0, .float .f32 0, .float .f32 0, .float .f32 0, .float .f32 0] 24)) r 24 #[.float .f32 0, .float .f32 0, .float .f32 0, .float .f32 0, .float .f32 0, .float .f32 0, .float .f32 0, .float .f32 0, .float .f32 0, .float .f32 0, .float .f32 0, .float .f32 0, .float .f32 0, .float .f32 0, .float .f32 0, .float .f32 0, .float .f32 0, .float .f32 0, .float .f32 0, .float .f32 0] := Holds.new' _ _ _ hr
        have hw : v1.heap.size = r := hr.symm
        have hn0 : w.heap.size < r := by have h := hS.1.lt; omega
        have hn1 : (w.heap.size + 1) < r := by have h := hS.2.1.lt; omega
        clear hw
        have hr2 := Lib.hid hr
        clear hr
        go_simp
        rw [← hr2.out]
        clear hr2
        refine hK.out _ _ ⟨hS.1.alloc _, hS.2.1.alloc _, hS.2.2.alloc hS.2.2.size _⟩ (fun hS => ?_)
        clear hK K
        try simp only [Act.put, List.setIfInBounds_toArray, List.set_cons_zero, List.set_cons_succ]
        refine wpAnyH_ready (rs := [3]) (by kernel_rfl) (by simp) (AllReadyH.cons rfl (fun K hK => ?_) AllReadyH.nil)
        go_simp
        with_reducible refine (HB.out _).mono ?_
        rintro e v5 ⟨rfl, hb⟩
        go_simp
        have z0 := z0.keep hb
        refine hK.out _ _ ⟨hS.1.keep hb, hS.2.1.keep hb, hS.2.2.trans (hb.mono hS.2.2.size)⟩ (fun hS => ?_)
        clear hK K
        try simp only [Act.put, List.setIfInBounds_toArray, List.set_cons_zero, List.set_cons_succ]
        refine wpAnyH_ready (rs := [5]) (by kernel_rfl) (by simp) (AllReadyH.cons rfl (fun K hK => ?_) AllReadyH.nil)
        go_simp
        with_reducible refine (HC.out _).mono ?_
        rw [HR.out]
        rintro e v6 ⟨rfl, hb⟩
        go_simp
        have z0 := z0.keep hb
        refine hK.out _ _ ⟨hS.1.keep hb, hS.2.1.keep hb, hS.2.2.trans (hb.mono hS.2.2.size)⟩ (fun hS => ?_)
        clear hK K
        try simp only [Act.put, List.setIfInBounds_toArray, List.set_cons_zero, List.set_cons_succ]
        refine take_ (i := 6) (d := some 11) (v := .tuple #[.agg (row 20 fun j => .float .f32 (G j)), .int .i64 c]) rfl rfl (by kernel_rfl) (by kernel_rfl) (by kernel_rfl) (fun _ _ _ h => nomatch h.1) (Or.inl ⟨by rfl, fun x hx => by go_simp⟩) (by assumption) ?_
        try simp only [Act.put, List.setIfInBounds_toArray, List.set_cons_zero, List.set_cons_succ]
        refine take_ (i := 7) (d := some 18) (v := .agg (row 20 fun j => .float .f32 (G j))) rfl rfl (by kernel_rfl) (by kernel_rfl) (by kernel_rfl) (fun _ _ _ h => nomatch h.1) (Or.inl ⟨by rfl, fun x hx => by go_simp⟩) (by assumption) ?_
        try simp only [Act.put, List.setIfInBounds_toArray, List.set_cons_zero, List.set_cons_succ]
        refine take_ (i := 8) (d := some 19) (v := .int .i64 c) rfl rfl (by kernel_rfl) (by kernel_rfl) (by kernel_rfl) (fun _ _ _ h => nomatch h.1) (Or.inl ⟨by rfl, fun x hx => by go_simp⟩) (by assumption) ?_
        try simp only [Act.put, List.setIfInBounds_toArray, List.set_cons_zero, List.set_cons_succ]
        refine wpAnyH_ready (rs := [10]) (by kernel_rfl) (by simp) (AllReadyH.cons rfl (fun K hK => ?_) AllReadyH.nil)
        rw [if_pos (by rfl)]
        refine wp_store_ 24 info_sizes (.tmp 7) (.tmp 18) rfl z0 rfl rfl rfl (fun _ => rfl) ?_
        have zz := z0.row_ (row 20 fun j => .float .f32 (G j))
        refine hK.out _ _ ⟨hS.1.farRow (by omega) _, hS.2.1.farRow (by omega) _, below_setRow hS.2.2 (by omega) _⟩ (fun hS => ?_)
        clear hK K
        try simp only [Act.put, List.setIfInBounds_toArray, List.set_cons_zero, List.set_cons_succ]
        refine take_ (i := 11) (d := some 8) (v := .int .i64 c) rfl rfl (by kernel_rfl) (by kernel_rfl) (by kernel_rfl) (fun _ _ _ h => nomatch h.1) (Or.inl ⟨by rfl, fun x hx => by go_simp⟩) (by assumption) ?_
        try simp only [Act.put, List.setIfInBounds_toArray, List.set_cons_zero, List.set_cons_succ]
        refine wpAnyH_done (by kernel_rfl) ?_ _
        exact ⟨rfl, r, rfl, zz, hS⟩
    · obtain ⟨r, hr⟩ : ∃ r, r = u0.heap.size := ⟨_, rfl⟩
      have z0 : Holds (u0.drew.alloc (.cells #[.float .f32 0, .float .f32 0, .float .f32 0, .float .f32 0, .float .f32 0, .float .f32 0, .float .f32 0, .float .f32 0, .float .f32 0, .float .f32 0, .float .f32 0, .float .f32 0, .float .f32 0, .float .f32 0, .float .f32 0, .float .f32 0, .float .f32 0, .float .f32 0, .float .f32 0, .float .f32 0] 24)) r 24 #[.float .f32 0, .float .f32 0, .float .f32 0, .float .f32 0, .float .f32 0, .float .f32 0, .float .f32 0, .float .f32 0, .float .f32 0, .float .f32 0, .float .f32 0, .float .f32 0, .float .f32 0, .float .f32 0, .float .f32 0, .float .f32 0, .float .f32 0, .float .f32 0, .float .f32 0, .float .f32 0] := Holds.new' _ _ _ hr
      have hw : u0.drew.heap.size = r := hr.symm
      have hn0 : w.heap.size < r := by have h := hS.1.lt; omega
      have hn1 : (w.heap.size + 1) < r := by have h := hS.2.1.lt; omega
      clear hw
      have hr2 := Lib.hid hr
      clear hr
      go_simp
      rw [← hr2.out]
      clear hr2
      refine hK.out _ _ ⟨hS.1.alloc _, hS.2.1.alloc _, hS.2.2.alloc hS.2.2.size _⟩ (fun hS => ?_)
      clear hK K
      try simp only [Act.put, List.setIfInBounds_toArray, List.set_cons_zero, List.set_cons_succ]
      refine wpAnyH_ready (rs := [1]) (by kernel_rfl) (by simp) (AllReadyH.cons rfl (fun K hK => ?_) AllReadyH.nil)
      go_simp
      with_reducible refine (HA.out _).mono ?_
      rintro e v7 ⟨rfl, hb⟩
      go_simp
      have z0 := z0.keep hb
      refine hK.out _ _ ⟨hS.1.keep hb, hS.2.1.keep hb, hS.2.2.trans (hb.mono hS.2.2.size)⟩ (fun hS => ?_)
      clear hK K
      try simp only [Act.put, List.setIfInBounds_toArray, List.set_cons_zero, List.set_cons_succ]
      refine wpAnyH_ready (rs := [3]) (by kernel_rfl) (by simp) (AllReadyH.cons rfl (fun K hK => ?_) AllReadyH.nil)
      go_simp
      with_reducible refine (HB.out _).mono ?_
      rintro e v8 ⟨rfl, hb⟩
      go_simp
      have z0 := z0.keep hb
      refine hK.out _ _ ⟨hS.1.keep hb, hS.2.1.keep hb, hS.2.2.trans (hb.mono hS.2.2.size)⟩ (fun hS => ?_)
      clear hK K
      try simp only [Act.put, List.setIfInBounds_toArray, List.set_cons_zero, List.set_cons_succ]
      refine wpAnyH_ready (rs := [5]) (by kernel_rfl) (by simp) (AllReadyH.cons rfl (fun K hK => ?_) AllReadyH.nil)
      go_simp
      with_reducible refine (HC.out _).mono ?_
      rw [HR.out]
      rintro e v9 ⟨rfl, hb⟩
      go_simp
      have z0 := z0.keep hb
      refine hK.out _ _ ⟨hS.1.keep hb, hS.2.1.keep hb, hS.2.2.trans (hb.mono hS.2.2.size)⟩ (fun hS => ?_)
      clear hK K
      try simp only [Act.put, List.setIfInBounds_toArray, List.set_cons_zero, List.set_cons_succ]
      refine take_ (i := 6) (d := some 11) (v := .tuple #[.agg (row 20 fun j => .float .f32 (G j)), .int .i64 c]) rfl rfl (by kernel_rfl) (by kernel_rfl) (by kernel_rfl) (fun _ _ _ h => nomatch h.1) (Or.inl ⟨by rfl, fun x hx => by go_simp⟩) (by assumption) ?_
      try simp only [Act.put, List.setIfInBounds_toArray, List.set_cons_zero, List.set_cons_succ]
      refine take_ (i := 7) (d := some 18) (v := .agg (row 20 fun j => .float .f32 (G j))) rfl rfl (by kernel_rfl) (by kernel_rfl) (by kernel_rfl) (fun _ _ _ h => nomatch h.1) (Or.inl ⟨by rfl, fun x hx => by go_simp⟩) (by assumption) ?_
      try simp only [Act.put, List.setIfInBounds_toArray, List.set_cons_zero, List.set_cons_succ]
      refine take_ (i := 8) (d := some 19) (v := .int .i64 c) rfl rfl (by kernel_rfl) (by kernel_rfl) (by kernel_rfl) (fun _ _ _ h => nomatch h.1) (Or.inl ⟨by rfl, fun x hx => by go_simp⟩) (by assumption) ?_
      try simp only [Act.put, List.setIfInBounds_toArray, List.set_cons_zero, List.set_cons_succ]
      refine wpAnyH_ready (rs := [10]) (by kernel_rfl) (by simp) (AllReadyH.cons rfl (fun K hK => ?_) AllReadyH.nil)
      rw [if_pos (by rfl)]
      refine wp_store_ 24 info_sizes (.tmp 7) (.tmp 18) rfl z0 rfl rfl rfl (fun _ => rfl) ?_
      have zz := z0.row_ (row 20 fun j => .float .f32 (G j))
      refine hK.out _ _ ⟨hS.1.farRow (by omega) _, hS.2.1.farRow (by omega) _, below_setRow hS.2.2 (by omega) _⟩ (fun hS => ?_)
      clear hK K
      try simp only [Act.put, List.setIfInBounds_toArray, List.set_cons_zero, List.set_cons_succ]
      refine take_ (i := 11) (d := some 8) (v := .int .i64 c) rfl rfl (by kernel_rfl) (by kernel_rfl) (by kernel_rfl) (fun _ _ _ h => nomatch h.1) (Or.inl ⟨by rfl, fun x hx => by go_simp⟩) (by assumption) ?_
      try simp only [Act.put, List.setIfInBounds_toArray, List.set_cons_zero, List.set_cons_succ]
      refine wpAnyH_done (by kernel_rfl) ?_ _
      exact ⟨rfl, r, rfl, zz, hS⟩
end Go.Proofs.Ytocjhackncfjpaa
