/-
  The law's walk: air between two others.
-/
import Derived.Test.YtgjibocemffjhaaMa
namespace Go.Proofs.Ytgjibocemffjhaa
open Go.RowKit Fl
set_option maxRecDepth 20000
set_option maxHeartbeats 4000000
set_option linter.unusedSimpArgs false
theorem c_eqAir (x y : Nat) (hx : cvok x = true) (hy : cvok y = true) (w : World) : Calls Try.prog 14 #[.agg #[.float .f32 x, .float .f32 y], .agg #[.float .f32 x, .float .f32 y]] w fun e w' => e = .returned (.bool true) ∧ Below w.heap.size w w' := by
  have hcv := fun (x : Nat) (h : cvok x = true) (w : World) => run_cv (P := Try.prog) w 22 37 (by kernel_rfl) Try.underlying37 x h
  have HX := Lib.hid (fun w => c_sameFloat _ (cv_f64 hx) w)
  have HY := Lib.hid (fun w => c_sameFloat _ (cv_f64 hy) w)
  go_enter Try.func14, Try.ntmps14
  go_wp2_with (go_at_call 18; first | ((with_reducible refine (HX.out _).mono ?_); rintro e w1 ⟨rfl, rfl⟩) | ((with_reducible refine (HY.out _).mono ?_); rintro e w1 ⟨rfl, rfl⟩))
  go_ret
  exact ⟨rfl, ((Below.refl _ _).alloc (by simp) _).alloc (by simp) _⟩
theorem walk_FnExactMixAir (h1 v1 : Nat) (hh1 : h1 < 4294967296) (hv1 : v1 < 4294967296) (h2 v2 : Nat) (hh2 : h2 < 4294967296) (hv2 : v2 < 4294967296) (s : Nat) (hs : s < 4294967296) (w : World) : Calls Try.prog 3 #[.agg #[.float .f32 h1, .float .f32 v1], .agg #[.float .f32 h2, .float .f32 v2], .float .f32 s] w fun e w' => e = .returned (.bool true) ∧ Below w.heap.size w w' := by
  obtain ⟨X, Y, C, hR, hx, hy⟩ := mair_form h1 v1 h2 v2 s hh1 hh2
  have HA := Lib.hid (fun w => c_toAir h1 v1 w)
  have HB := Lib.hid (fun w => c_toAir h2 v2 w)
  have HC := Lib.hid (fun w => c_specMixAir h1 v1 h2 v2 hh1 hv1 hh2 hv2 s hs w)
  have HD := Lib.hid (fun w => c_implMixAir h1 v1 h2 v2 hh1 hv1 hh2 hv2 s hs w)
  have HE := Lib.hid (fun w => c_eqAir X Y hx hy w)
  rw [hR] at HC HD
  clear hR hh1 hv1 hh2 hv2 hs
  have g0 : Holds ((w.alloc (.cells #[.float .f32 h1, .float .f32 v1] 24)).alloc (.cells #[.float .f32 h2, .float .f32 v2] 24)) w.heap.size 24 #[.float .f32 h1, .float .f32 v1] := (Holds.new _ _ _).alloc _
  have g1 : Holds ((w.alloc (.cells #[.float .f32 h1, .float .f32 v1] 24)).alloc (.cells #[.float .f32 h2, .float .f32 v2] 24)) (w.heap.size + 1) 24 #[.float .f32 h2, .float .f32 v2] := Holds.new' _ _ _ (by simp)
  have b0 : Below w.heap.size w ((w.alloc (.cells #[.float .f32 h1, .float .f32 v1] 24)).alloc (.cells #[.float .f32 h2, .float .f32 v2] 24)) := ((Below.refl _ _).alloc (by simp) _).alloc (by simp) _
  go_enter Try.func3, Try.ntmps3
  go_wp2
  obtain ⟨u0, hu0⟩ : ∃ u0, u0 = ((w.alloc (.cells #[.float .f32 h1, .float .f32 v1] 24)).alloc (.cells #[.float .f32 h2, .float .f32 v2] 24)) := ⟨_, rfl⟩
  rw [← hu0] at g0 g1 b0 ⊢
  clear hu0
  refine Code.wp_mono (Q := fun e a' x => e = .normal ∧ ∃ r : Nat, a' = { tmps := #[.agg #[.float .f32 h1, .float .f32 v1], .agg #[.float .f32 h2, .float .f32 v2], .float .f32 s, .pointer (some ⟨w.heap.size, 0, none⟩), .pointer (some ⟨(w.heap.size + 1), 0, none⟩), undef, .bool false, .pointer (some ⟨r, 0, none⟩), .int .i64 C, undef, undef, .tuple #[.agg #[.float .f32 X, .float .f32 Y], .int .i64 C], .agg #[.float .f32 h1, .float .f32 v1], .agg #[.float .f32 h1, .float .f32 v1], .agg #[.float .f32 h2, .float .f32 v2], .agg #[.float .f32 h2, .float .f32 v2], .float .f32 s, .tuple #[.agg #[.float .f32 X, .float .f32 Y], .int .i64 C], .agg #[.float .f32 X, .float .f32 Y], .int .i64 C, undef, undef, undef, undef, undef, undef, undef, undef, undef, undef, undef, undef, undef, undef, undef, undef, undef, undef], defers := [] } ∧ Holds x r 25 #[.float .f32 X, .float .f32 Y] ∧ (fun x => Holds x w.heap.size 24 #[.float .f32 h1, .float .f32 v1] ∧ Holds x (w.heap.size + 1) 24 #[.float .f32 h2, .float .f32 v2] ∧ Below w.heap.size w x) x) ?_ ?_
  · rintro e a' x1 ⟨rfl, r1, rfl, qr1, g0, g1, b0⟩
    go_wp2
    refine Code.wp_mono (Q := fun e a' x => e = .normal ∧ ∃ r : Nat, a' = { tmps := #[.agg #[.float .f32 h1, .float .f32 v1], .agg #[.float .f32 h2, .float .f32 v2], .float .f32 s, .pointer (some ⟨w.heap.size, 0, none⟩), .pointer (some ⟨(w.heap.size + 1), 0, none⟩), undef, .bool false, .pointer (some ⟨r1, 0, none⟩), .int .i64 C, .pointer (some ⟨r, 0, none⟩), .int .i64 C, .tuple #[.agg #[.float .f32 X, .float .f32 Y], .int .i64 C], .agg #[.float .f32 h1, .float .f32 v1], .agg #[.float .f32 h1, .float .f32 v1], .agg #[.float .f32 h2, .float .f32 v2], .agg #[.float .f32 h2, .float .f32 v2], .float .f32 s, .tuple #[.agg #[.float .f32 X, .float .f32 Y], .int .i64 C], .agg #[.float .f32 X, .float .f32 Y], .int .i64 C, .tuple #[.agg #[.float .f32 X, .float .f32 Y], .int .i64 C], .agg #[.float .f32 h1, .float .f32 v1], .agg #[.float .f32 h1, .float .f32 v1], .agg #[.float .f32 h2, .float .f32 v2], .agg #[.float .f32 h2, .float .f32 v2], .float .f32 s, .tuple #[.agg #[.float .f32 X, .float .f32 Y], .int .i64 C], .agg #[.float .f32 X, .float .f32 Y], .int .i64 C, undef, undef, undef, undef, undef, undef, undef, undef, undef], defers := [] } ∧ Holds x r 25 #[.float .f32 X, .float .f32 Y] ∧ (fun x => Holds x w.heap.size 24 #[.float .f32 h1, .float .f32 v1] ∧ Holds x (w.heap.size + 1) 24 #[.float .f32 h2, .float .f32 v2] ∧ Holds x r1 25 #[.float .f32 X, .float .f32 Y] ∧ Below w.heap.size w x) x) ?_ ?_
    · rintro e a' x2 ⟨rfl, r2, rfl, qr2, g0, g1, g2, b0⟩
      go_wp2_with (first | (refine wl_loadA 25 Try.underlying25 rfl #[.float .f32 X, .float .f32 Y] info_air rfl _ rfl qr2 rfl ?_) | (refine wl_loadA 25 Try.underlying25 rfl #[.float .f32 X, .float .f32 Y] info_air rfl _ rfl g2 rfl ?_) | (go_at_call 14; with_reducible refine (HE.out _).mono ?_; rintro e w1 ⟨rfl, hb⟩; skip; have b0 := b0.trans (hb.mono b0.size); clear hb))
      go_ret
      exact ⟨rfl, b0⟩
    · refine wp_region_held_drew (S := fun x => Holds x w.heap.size 24 #[.float .f32 h1, .float .f32 v1] ∧ Holds x (w.heap.size + 1) 24 #[.float .f32 h2, .float .f32 v2] ∧ Holds x r1 25 #[.float .f32 X, .float .f32 Y] ∧ Below w.heap.size w x) (by kernel_rfl) ⟨g0.drew, g1.drew, qr1.drew, b0.trans ((Below.refl _ _).drew)⟩ (fun hS => ?_)
      refine takeA (i := 0) (d := some 21) (v := .agg #[.float .f32 h1, .float .f32 v1]) rfl rfl (by kernel_rfl) (by kernel_rfl) (by kernel_rfl) (fun _ _ _ h => nomatch h.1) (y_loadA 24 Try.underlying24 rfl #[.float .f32 h1, .float .f32 v1] info_lair (by rfl) _ rfl rfl (fun x hS => hS.1)) (by assumption) ?_
      try simp only [Act.put, List.setIfInBounds_toArray, List.set_cons_zero, List.set_cons_succ]
      refine takeA (i := 2) (d := some 23) (v := .agg #[.float .f32 h2, .float .f32 v2]) rfl rfl (by kernel_rfl) (by kernel_rfl) (by kernel_rfl) (fun _ _ _ h => nomatch h.1) (y_loadA 24 Try.underlying24 rfl #[.float .f32 h2, .float .f32 v2] info_lair (by rfl) _ rfl rfl (fun x hS => hS.2.1)) (by assumption) ?_
      try simp only [Act.put, List.setIfInBounds_toArray, List.set_cons_zero, List.set_cons_succ]
      refine takeA (i := 4) (d := some 25) (v := .float .f32 s) rfl rfl (by kernel_rfl) (by kernel_rfl) (by kernel_rfl) (fun _ _ _ h => nomatch h.1) (Or.inl ⟨by rfl, fun x hx => by go_simp⟩) (by assumption) ?_
      try simp only [Act.put, List.setIfInBounds_toArray, List.set_cons_zero, List.set_cons_succ]
      refine wpAnyH_ready (rs := [1, 9]) (by kernel_rfl) (by simp) (AllReadyH.cons rfl (fun K hK => ?_) (AllReadyH.cons rfl (fun K hK => ?_) AllReadyH.nil))
      · go_simp
        with_reducible refine (HA.out _).mono ?_
        rintro e v1 ⟨rfl, hb⟩
        go_simp
        refine hK.out _ _ ⟨hS.1.keep hb, hS.2.1.keep hb, hS.2.2.1.keep hb, hS.2.2.2.trans (hb.mono hS.2.2.2.size)⟩ (fun hS => ?_)
        clear hK K
        try simp only [Act.put, List.setIfInBounds_toArray, List.set_cons_zero, List.set_cons_succ]
        refine wpAnyH_ready (rs := [3, 9]) (by kernel_rfl) (by simp) (AllReadyH.cons rfl (fun K hK => ?_) (AllReadyH.cons rfl (fun K hK => ?_) AllReadyH.nil))
        · go_simp
          with_reducible refine (HB.out _).mono ?_
          rintro e v2 ⟨rfl, hb⟩
          go_simp
          refine hK.out _ _ ⟨hS.1.keep hb, hS.2.1.keep hb, hS.2.2.1.keep hb, hS.2.2.2.trans (hb.mono hS.2.2.2.size)⟩ (fun hS => ?_)
          clear hK K
          try simp only [Act.put, List.setIfInBounds_toArray, List.set_cons_zero, List.set_cons_succ]
          refine wpAnyH_ready (rs := [5, 9]) (by kernel_rfl) (by simp) (AllReadyH.cons rfl (fun K hK => ?_) (AllReadyH.cons rfl (fun K hK => ?_) AllReadyH.nil))
          · go_simp
            with_reducible refine (HD.out _).mono ?_
            rintro e v3 ⟨rfl, hb⟩
            go_simp
            refine hK.out _ _ ⟨hS.1.keep hb, hS.2.1.keep hb, hS.2.2.1.keep hb, hS.2.2.2.trans (hb.mono hS.2.2.2.size)⟩ (fun hS => ?_)
            clear hK K
            try simp only [Act.put, List.setIfInBounds_toArray, List.set_cons_zero, List.set_cons_succ]
            refine takeA (i := 6) (d := some 20) (v := .tuple #[.agg #[.float .f32 X, .float .f32 Y], .int .i64 C]) rfl rfl (by kernel_rfl) (by kernel_rfl) (by kernel_rfl) (fun _ _ _ h => nomatch h.1) (Or.inl ⟨by rfl, fun x hx => by go_simp⟩) (by assumption) ?_
            try simp only [Act.put, List.setIfInBounds_toArray, List.set_cons_zero, List.set_cons_succ]
            refine takeA (i := 7) (d := some 27) (v := .agg #[.float .f32 X, .float .f32 Y]) rfl rfl (by kernel_rfl) (by kernel_rfl) (by kernel_rfl) (fun _ _ _ h => nomatch h.1) (Or.inl ⟨by rfl, fun x hx => by go_simp⟩) (by assumption) ?_
            try simp only [Act.put, List.setIfInBounds_toArray, List.set_cons_zero, List.set_cons_succ]
            refine takeA (i := 8) (d := some 28) (v := .int .i64 C) rfl rfl (by kernel_rfl) (by kernel_rfl) (by kernel_rfl) (fun _ _ _ h => nomatch h.1) (Or.inl ⟨by rfl, fun x hx => by go_simp⟩) (by assumption) ?_
            try simp only [Act.put, List.setIfInBounds_toArray, List.set_cons_zero, List.set_cons_succ]
            refine wpAnyH_ready (rs := [9]) (by kernel_rfl) (by simp) (AllReadyH.cons rfl (fun K hK => ?_) AllReadyH.nil)
            obtain ⟨r, hr⟩ : ∃ r, r = v3.heap.size := ⟨_, rfl⟩
            have z0 : Holds (v3.alloc (.cells #[.float .f32 0, .float .f32 0] 25)) r 25 #[.float .f32 0, .float .f32 0] := Holds.new' _ _ _ hr
            have hw : v3.heap.size = r := hr.symm
            have hn0 : w.heap.size < r := by have h := hS.1.lt; omega
            have hn1 : (w.heap.size + 1) < r := by have h := hS.2.1.lt; omega
            have hn2 : r1 < r := by have h := hS.2.2.1.lt; omega
            clear hw
            have hr2 := Lib.hid hr
            clear hr
            go_simp
            rw [← hr2.out]
            clear hr2
            refine hK.out _ _ ⟨hS.1.alloc _, hS.2.1.alloc _, hS.2.2.1.alloc _, hS.2.2.2.alloc hS.2.2.2.size _⟩ (fun hS => ?_)
            clear hK K
            try simp only [Act.put, List.setIfInBounds_toArray, List.set_cons_zero, List.set_cons_succ]
            refine wpAnyH_ready (rs := [10]) (by kernel_rfl) (by simp) (AllReadyH.cons rfl (fun K hK => ?_) AllReadyH.nil)
            rw [if_pos (by rfl)]
            refine wp_storeA 25 (.tmp 9) (.tmp 27) rfl #[.float .f32 X, .float .f32 Y] info_air z0 rfl rfl rfl (air_one _ _) ?_
            have zz := z0.row_ #[.float .f32 X, .float .f32 Y]
            refine hK.out _ _ ⟨hS.1.farRow (by omega) _, hS.2.1.farRow (by omega) _, hS.2.2.1.farRow (by omega) _, below_setRow hS.2.2.2 (by omega) _⟩ (fun hS => ?_)
            clear hK K
            try simp only [Act.put, List.setIfInBounds_toArray, List.set_cons_zero, List.set_cons_succ]
            refine takeA (i := 11) (d := some 10) (v := .int .i64 C) rfl rfl (by kernel_rfl) (by kernel_rfl) (by kernel_rfl) (fun _ _ _ h => nomatch h.1) (Or.inl ⟨by rfl, fun x hx => by go_simp⟩) (by assumption) ?_
            try simp only [Act.put, List.setIfInBounds_toArray, List.set_cons_zero, List.set_cons_succ]
            refine wpAnyH_done (by kernel_rfl) ?_ _
            exact ⟨rfl, r, rfl, zz, hS⟩
          · obtain ⟨r, hr⟩ : ∃ r, r = v2.heap.size := ⟨_, rfl⟩
            have z0 : Holds (v2.alloc (.cells #[.float .f32 0, .float .f32 0] 25)) r 25 #[.float .f32 0, .float .f32 0] := Holds.new' _ _ _ hr
            have hw : v2.heap.size = r := hr.symm
            have hn0 : w.heap.size < r := by have h := hS.1.lt; omega
            have hn1 : (w.heap.size + 1) < r := by have h := hS.2.1.lt; omega
            have hn2 : r1 < r := by have h := hS.2.2.1.lt; omega
            clear hw
            have hr2 := Lib.hid hr
            clear hr
            go_simp
            rw [← hr2.out]
            clear hr2
            refine hK.out _ _ ⟨hS.1.alloc _, hS.2.1.alloc _, hS.2.2.1.alloc _, hS.2.2.2.alloc hS.2.2.2.size _⟩ (fun hS => ?_)
            clear hK K
            try simp only [Act.put, List.setIfInBounds_toArray, List.set_cons_zero, List.set_cons_succ]
            refine wpAnyH_ready (rs := [5]) (by kernel_rfl) (by simp) (AllReadyH.cons rfl (fun K hK => ?_) AllReadyH.nil)
            go_simp
            with_reducible refine (HD.out _).mono ?_
            rintro e v4 ⟨rfl, hb⟩
            go_simp
            have z0 := z0.keep hb
            refine hK.out _ _ ⟨hS.1.keep hb, hS.2.1.keep hb, hS.2.2.1.keep hb, hS.2.2.2.trans (hb.mono hS.2.2.2.size)⟩ (fun hS => ?_)
            clear hK K
            try simp only [Act.put, List.setIfInBounds_toArray, List.set_cons_zero, List.set_cons_succ]
            refine takeA (i := 6) (d := some 20) (v := .tuple #[.agg #[.float .f32 X, .float .f32 Y], .int .i64 C]) rfl rfl (by kernel_rfl) (by kernel_rfl) (by kernel_rfl) (fun _ _ _ h => nomatch h.1) (Or.inl ⟨by rfl, fun x hx => by go_simp⟩) (by assumption) ?_
            try simp only [Act.put, List.setIfInBounds_toArray, List.set_cons_zero, List.set_cons_succ]
            refine takeA (i := 7) (d := some 27) (v := .agg #[.float .f32 X, .float .f32 Y]) rfl rfl (by kernel_rfl) (by kernel_rfl) (by kernel_rfl) (fun _ _ _ h => nomatch h.1) (Or.inl ⟨by rfl, fun x hx => by go_simp⟩) (by assumption) ?_
            try simp only [Act.put, List.setIfInBounds_toArray, List.set_cons_zero, List.set_cons_succ]
            refine takeA (i := 8) (d := some 28) (v := .int .i64 C) rfl rfl (by kernel_rfl) (by kernel_rfl) (by kernel_rfl) (fun _ _ _ h => nomatch h.1) (Or.inl ⟨by rfl, fun x hx => by go_simp⟩) (by assumption) ?_
            try simp only [Act.put, List.setIfInBounds_toArray, List.set_cons_zero, List.set_cons_succ]
            refine wpAnyH_ready (rs := [10]) (by kernel_rfl) (by simp) (AllReadyH.cons rfl (fun K hK => ?_) AllReadyH.nil)
            rw [if_pos (by rfl)]
            refine wp_storeA 25 (.tmp 9) (.tmp 27) rfl #[.float .f32 X, .float .f32 Y] info_air z0 rfl rfl rfl (air_one _ _) ?_
            have zz := z0.row_ #[.float .f32 X, .float .f32 Y]
            refine hK.out _ _ ⟨hS.1.farRow (by omega) _, hS.2.1.farRow (by omega) _, hS.2.2.1.farRow (by omega) _, below_setRow hS.2.2.2 (by omega) _⟩ (fun hS => ?_)
            clear hK K
            try simp only [Act.put, List.setIfInBounds_toArray, List.set_cons_zero, List.set_cons_succ]
            refine takeA (i := 11) (d := some 10) (v := .int .i64 C) rfl rfl (by kernel_rfl) (by kernel_rfl) (by kernel_rfl) (fun _ _ _ h => nomatch h.1) (Or.inl ⟨by rfl, fun x hx => by go_simp⟩) (by assumption) ?_
            try simp only [Act.put, List.setIfInBounds_toArray, List.set_cons_zero, List.set_cons_succ]
            refine wpAnyH_done (by kernel_rfl) ?_ _
            exact ⟨rfl, r, rfl, zz, hS⟩
        · obtain ⟨r, hr⟩ : ∃ r, r = v1.heap.size := ⟨_, rfl⟩
          have z0 : Holds (v1.alloc (.cells #[.float .f32 0, .float .f32 0] 25)) r 25 #[.float .f32 0, .float .f32 0] := Holds.new' _ _ _ hr
          have hw : v1.heap.size = r := hr.symm
          have hn0 : w.heap.size < r := by have h := hS.1.lt; omega
          have hn1 : (w.heap.size + 1) < r := by have h := hS.2.1.lt; omega
          have hn2 : r1 < r := by have h := hS.2.2.1.lt; omega
          clear hw
          have hr2 := Lib.hid hr
          clear hr
          go_simp
          rw [← hr2.out]
          clear hr2
          refine hK.out _ _ ⟨hS.1.alloc _, hS.2.1.alloc _, hS.2.2.1.alloc _, hS.2.2.2.alloc hS.2.2.2.size _⟩ (fun hS => ?_)
          clear hK K
          try simp only [Act.put, List.setIfInBounds_toArray, List.set_cons_zero, List.set_cons_succ]
          refine wpAnyH_ready (rs := [3]) (by kernel_rfl) (by simp) (AllReadyH.cons rfl (fun K hK => ?_) AllReadyH.nil)
          go_simp
          with_reducible refine (HB.out _).mono ?_
          rintro e v5 ⟨rfl, hb⟩
          go_simp
          have z0 := z0.keep hb
          refine hK.out _ _ ⟨hS.1.keep hb, hS.2.1.keep hb, hS.2.2.1.keep hb, hS.2.2.2.trans (hb.mono hS.2.2.2.size)⟩ (fun hS => ?_)
          clear hK K
          try simp only [Act.put, List.setIfInBounds_toArray, List.set_cons_zero, List.set_cons_succ]
          refine wpAnyH_ready (rs := [5]) (by kernel_rfl) (by simp) (AllReadyH.cons rfl (fun K hK => ?_) AllReadyH.nil)
          go_simp
          with_reducible refine (HD.out _).mono ?_
          rintro e v6 ⟨rfl, hb⟩
          go_simp
          have z0 := z0.keep hb
          refine hK.out _ _ ⟨hS.1.keep hb, hS.2.1.keep hb, hS.2.2.1.keep hb, hS.2.2.2.trans (hb.mono hS.2.2.2.size)⟩ (fun hS => ?_)
          clear hK K
          try simp only [Act.put, List.setIfInBounds_toArray, List.set_cons_zero, List.set_cons_succ]
          refine takeA (i := 6) (d := some 20) (v := .tuple #[.agg #[.float .f32 X, .float .f32 Y], .int .i64 C]) rfl rfl (by kernel_rfl) (by kernel_rfl) (by kernel_rfl) (fun _ _ _ h => nomatch h.1) (Or.inl ⟨by rfl, fun x hx => by go_simp⟩) (by assumption) ?_
          try simp only [Act.put, List.setIfInBounds_toArray, List.set_cons_zero, List.set_cons_succ]
          refine takeA (i := 7) (d := some 27) (v := .agg #[.float .f32 X, .float .f32 Y]) rfl rfl (by kernel_rfl) (by kernel_rfl) (by kernel_rfl) (fun _ _ _ h => nomatch h.1) (Or.inl ⟨by rfl, fun x hx => by go_simp⟩) (by assumption) ?_
          try simp only [Act.put, List.setIfInBounds_toArray, List.set_cons_zero, List.set_cons_succ]
          refine takeA (i := 8) (d := some 28) (v := .int .i64 C) rfl rfl (by kernel_rfl) (by kernel_rfl) (by kernel_rfl) (fun _ _ _ h => nomatch h.1) (Or.inl ⟨by rfl, fun x hx => by go_simp⟩) (by assumption) ?_
          try simp only [Act.put, List.setIfInBounds_toArray, List.set_cons_zero, List.set_cons_succ]
          refine wpAnyH_ready (rs := [10]) (by kernel_rfl) (by simp) (AllReadyH.cons rfl (fun K hK => ?_) AllReadyH.nil)
          rw [if_pos (by rfl)]
          refine wp_storeA 25 (.tmp 9) (.tmp 27) rfl #[.float .f32 X, .float .f32 Y] info_air z0 rfl rfl rfl (air_one _ _) ?_
          have zz := z0.row_ #[.float .f32 X, .float .f32 Y]
          refine hK.out _ _ ⟨hS.1.farRow (by omega) _, hS.2.1.farRow (by omega) _, hS.2.2.1.farRow (by omega) _, below_setRow hS.2.2.2 (by omega) _⟩ (fun hS => ?_)
          clear hK K
          try simp only [Act.put, List.setIfInBounds_toArray, List.set_cons_zero, List.set_cons_succ]
          refine takeA (i := 11) (d := some 10) (v := .int .i64 C) rfl rfl (by kernel_rfl) (by kernel_rfl) (by kernel_rfl) (fun _ _ _ h => nomatch h.1) (Or.inl ⟨by rfl, fun x hx => by go_simp⟩) (by assumption) ?_
          try simp only [Act.put, List.setIfInBounds_toArray, List.set_cons_zero, List.set_cons_succ]
          refine wpAnyH_done (by kernel_rfl) ?_ _
          exact ⟨rfl, r, rfl, zz, hS⟩
      · obtain ⟨r, hr⟩ : ∃ r, r = x1.heap.size := ⟨_, rfl⟩
        have z0 : Holds (x1.drew.alloc (.cells #[.float .f32 0, .float .f32 0] 25)) r 25 #[.float .f32 0, .float .f32 0] := Holds.new' _ _ _ hr
        have hw : x1.drew.heap.size = r := hr.symm
        have hn0 : w.heap.size < r := by have h := hS.1.lt; omega
        have hn1 : (w.heap.size + 1) < r := by have h := hS.2.1.lt; omega
        have hn2 : r1 < r := by have h := hS.2.2.1.lt; omega
        clear hw
        have hr2 := Lib.hid hr
        clear hr
        go_simp
        rw [← hr2.out]
        clear hr2
        refine hK.out _ _ ⟨hS.1.alloc _, hS.2.1.alloc _, hS.2.2.1.alloc _, hS.2.2.2.alloc hS.2.2.2.size _⟩ (fun hS => ?_)
        clear hK K
        try simp only [Act.put, List.setIfInBounds_toArray, List.set_cons_zero, List.set_cons_succ]
        refine wpAnyH_ready (rs := [1]) (by kernel_rfl) (by simp) (AllReadyH.cons rfl (fun K hK => ?_) AllReadyH.nil)
        go_simp
        with_reducible refine (HA.out _).mono ?_
        rintro e v7 ⟨rfl, hb⟩
        go_simp
        have z0 := z0.keep hb
        refine hK.out _ _ ⟨hS.1.keep hb, hS.2.1.keep hb, hS.2.2.1.keep hb, hS.2.2.2.trans (hb.mono hS.2.2.2.size)⟩ (fun hS => ?_)
        clear hK K
        try simp only [Act.put, List.setIfInBounds_toArray, List.set_cons_zero, List.set_cons_succ]
        refine wpAnyH_ready (rs := [3]) (by kernel_rfl) (by simp) (AllReadyH.cons rfl (fun K hK => ?_) AllReadyH.nil)
        go_simp
        with_reducible refine (HB.out _).mono ?_
        rintro e v8 ⟨rfl, hb⟩
        go_simp
        have z0 := z0.keep hb
        refine hK.out _ _ ⟨hS.1.keep hb, hS.2.1.keep hb, hS.2.2.1.keep hb, hS.2.2.2.trans (hb.mono hS.2.2.2.size)⟩ (fun hS => ?_)
        clear hK K
        try simp only [Act.put, List.setIfInBounds_toArray, List.set_cons_zero, List.set_cons_succ]
        refine wpAnyH_ready (rs := [5]) (by kernel_rfl) (by simp) (AllReadyH.cons rfl (fun K hK => ?_) AllReadyH.nil)
        go_simp
        with_reducible refine (HD.out _).mono ?_
        rintro e v9 ⟨rfl, hb⟩
        go_simp
        have z0 := z0.keep hb
        refine hK.out _ _ ⟨hS.1.keep hb, hS.2.1.keep hb, hS.2.2.1.keep hb, hS.2.2.2.trans (hb.mono hS.2.2.2.size)⟩ (fun hS => ?_)
        clear hK K
        try simp only [Act.put, List.setIfInBounds_toArray, List.set_cons_zero, List.set_cons_succ]
        refine takeA (i := 6) (d := some 20) (v := .tuple #[.agg #[.float .f32 X, .float .f32 Y], .int .i64 C]) rfl rfl (by kernel_rfl) (by kernel_rfl) (by kernel_rfl) (fun _ _ _ h => nomatch h.1) (Or.inl ⟨by rfl, fun x hx => by go_simp⟩) (by assumption) ?_
        try simp only [Act.put, List.setIfInBounds_toArray, List.set_cons_zero, List.set_cons_succ]
        refine takeA (i := 7) (d := some 27) (v := .agg #[.float .f32 X, .float .f32 Y]) rfl rfl (by kernel_rfl) (by kernel_rfl) (by kernel_rfl) (fun _ _ _ h => nomatch h.1) (Or.inl ⟨by rfl, fun x hx => by go_simp⟩) (by assumption) ?_
        try simp only [Act.put, List.setIfInBounds_toArray, List.set_cons_zero, List.set_cons_succ]
        refine takeA (i := 8) (d := some 28) (v := .int .i64 C) rfl rfl (by kernel_rfl) (by kernel_rfl) (by kernel_rfl) (fun _ _ _ h => nomatch h.1) (Or.inl ⟨by rfl, fun x hx => by go_simp⟩) (by assumption) ?_
        try simp only [Act.put, List.setIfInBounds_toArray, List.set_cons_zero, List.set_cons_succ]
        refine wpAnyH_ready (rs := [10]) (by kernel_rfl) (by simp) (AllReadyH.cons rfl (fun K hK => ?_) AllReadyH.nil)
        rw [if_pos (by rfl)]
        refine wp_storeA 25 (.tmp 9) (.tmp 27) rfl #[.float .f32 X, .float .f32 Y] info_air z0 rfl rfl rfl (air_one _ _) ?_
        have zz := z0.row_ #[.float .f32 X, .float .f32 Y]
        refine hK.out _ _ ⟨hS.1.farRow (by omega) _, hS.2.1.farRow (by omega) _, hS.2.2.1.farRow (by omega) _, below_setRow hS.2.2.2 (by omega) _⟩ (fun hS => ?_)
        clear hK K
        try simp only [Act.put, List.setIfInBounds_toArray, List.set_cons_zero, List.set_cons_succ]
        refine takeA (i := 11) (d := some 10) (v := .int .i64 C) rfl rfl (by kernel_rfl) (by kernel_rfl) (by kernel_rfl) (fun _ _ _ h => nomatch h.1) (Or.inl ⟨by rfl, fun x hx => by go_simp⟩) (by assumption) ?_
        try simp only [Act.put, List.setIfInBounds_toArray, List.set_cons_zero, List.set_cons_succ]
        refine wpAnyH_done (by kernel_rfl) ?_ _
        exact ⟨rfl, r, rfl, zz, hS⟩
  · refine wp_region_held_drew (S := fun x => Holds x w.heap.size 24 #[.float .f32 h1, .float .f32 v1] ∧ Holds x (w.heap.size + 1) 24 #[.float .f32 h2, .float .f32 v2] ∧ Below w.heap.size w x) (by kernel_rfl) ⟨g0.drew, g1.drew, b0.trans ((Below.refl _ _).drew)⟩ (fun hS => ?_)
    refine takeA (i := 0) (d := some 12) (v := .agg #[.float .f32 h1, .float .f32 v1]) rfl rfl (by kernel_rfl) (by kernel_rfl) (by kernel_rfl) (fun _ _ _ h => nomatch h.1) (y_loadA 24 Try.underlying24 rfl #[.float .f32 h1, .float .f32 v1] info_lair (by rfl) _ rfl rfl (fun x hS => hS.1)) (by assumption) ?_
    try simp only [Act.put, List.setIfInBounds_toArray, List.set_cons_zero, List.set_cons_succ]
    refine takeA (i := 2) (d := some 14) (v := .agg #[.float .f32 h2, .float .f32 v2]) rfl rfl (by kernel_rfl) (by kernel_rfl) (by kernel_rfl) (fun _ _ _ h => nomatch h.1) (y_loadA 24 Try.underlying24 rfl #[.float .f32 h2, .float .f32 v2] info_lair (by rfl) _ rfl rfl (fun x hS => hS.2.1)) (by assumption) ?_
    try simp only [Act.put, List.setIfInBounds_toArray, List.set_cons_zero, List.set_cons_succ]
    refine takeA (i := 4) (d := some 16) (v := .float .f32 s) rfl rfl (by kernel_rfl) (by kernel_rfl) (by kernel_rfl) (fun _ _ _ h => nomatch h.1) (Or.inl ⟨by rfl, fun x hx => by go_simp⟩) (by assumption) ?_
    try simp only [Act.put, List.setIfInBounds_toArray, List.set_cons_zero, List.set_cons_succ]
    refine wpAnyH_ready (rs := [1, 9]) (by kernel_rfl) (by simp) (AllReadyH.cons rfl (fun K hK => ?_) (AllReadyH.cons rfl (fun K hK => ?_) AllReadyH.nil))
    · go_simp
      with_reducible refine (HA.out _).mono ?_
      rintro e v1 ⟨rfl, hb⟩
      go_simp
      refine hK.out _ _ ⟨hS.1.keep hb, hS.2.1.keep hb, hS.2.2.trans (hb.mono hS.2.2.size)⟩ (fun hS => ?_)
      clear hK K
      try simp only [Act.put, List.setIfInBounds_toArray, List.set_cons_zero, List.set_cons_succ]
      refine wpAnyH_ready (rs := [3, 9]) (by kernel_rfl) (by simp) (AllReadyH.cons rfl (fun K hK => ?_) (AllReadyH.cons rfl (fun K hK => ?_) AllReadyH.nil))
      · go_simp
        with_reducible refine (HB.out _).mono ?_
        rintro e v2 ⟨rfl, hb⟩
        go_simp
        refine hK.out _ _ ⟨hS.1.keep hb, hS.2.1.keep hb, hS.2.2.trans (hb.mono hS.2.2.size)⟩ (fun hS => ?_)
        clear hK K
        try simp only [Act.put, List.setIfInBounds_toArray, List.set_cons_zero, List.set_cons_succ]
        refine wpAnyH_ready (rs := [5, 9]) (by kernel_rfl) (by simp) (AllReadyH.cons rfl (fun K hK => ?_) (AllReadyH.cons rfl (fun K hK => ?_) AllReadyH.nil))
        · go_simp
          with_reducible refine (HC.out _).mono ?_
          rintro e v3 ⟨rfl, hb⟩
          go_simp
          refine hK.out _ _ ⟨hS.1.keep hb, hS.2.1.keep hb, hS.2.2.trans (hb.mono hS.2.2.size)⟩ (fun hS => ?_)
          clear hK K
          try simp only [Act.put, List.setIfInBounds_toArray, List.set_cons_zero, List.set_cons_succ]
          refine takeA (i := 6) (d := some 11) (v := .tuple #[.agg #[.float .f32 X, .float .f32 Y], .int .i64 C]) rfl rfl (by kernel_rfl) (by kernel_rfl) (by kernel_rfl) (fun _ _ _ h => nomatch h.1) (Or.inl ⟨by rfl, fun x hx => by go_simp⟩) (by assumption) ?_
          try simp only [Act.put, List.setIfInBounds_toArray, List.set_cons_zero, List.set_cons_succ]
          refine takeA (i := 7) (d := some 18) (v := .agg #[.float .f32 X, .float .f32 Y]) rfl rfl (by kernel_rfl) (by kernel_rfl) (by kernel_rfl) (fun _ _ _ h => nomatch h.1) (Or.inl ⟨by rfl, fun x hx => by go_simp⟩) (by assumption) ?_
          try simp only [Act.put, List.setIfInBounds_toArray, List.set_cons_zero, List.set_cons_succ]
          refine takeA (i := 8) (d := some 19) (v := .int .i64 C) rfl rfl (by kernel_rfl) (by kernel_rfl) (by kernel_rfl) (fun _ _ _ h => nomatch h.1) (Or.inl ⟨by rfl, fun x hx => by go_simp⟩) (by assumption) ?_
          try simp only [Act.put, List.setIfInBounds_toArray, List.set_cons_zero, List.set_cons_succ]
          refine wpAnyH_ready (rs := [9]) (by kernel_rfl) (by simp) (AllReadyH.cons rfl (fun K hK => ?_) AllReadyH.nil)
          obtain ⟨r, hr⟩ : ∃ r, r = v3.heap.size := ⟨_, rfl⟩
          have z0 : Holds (v3.alloc (.cells #[.float .f32 0, .float .f32 0] 25)) r 25 #[.float .f32 0, .float .f32 0] := Holds.new' _ _ _ hr
          have hw : v3.heap.size = r := hr.symm
          have hn0 : w.heap.size < r := by have h := hS.1.lt; omega
          have hn1 : (w.heap.size + 1) < r := by have h := hS.2.1.lt; omega
          clear hw
          have hr2 := Lib.hid hr
          clear hr
          go_simp
          rw [← hr2.out]
          clear hr2
          refine hK.out _ _ ⟨hS.1.alloc _, hS.2.1.alloc _, hS.2.2.alloc hS.2.2.size _⟩ (fun hS => ?_)
          clear hK K
          try simp only [Act.put, List.setIfInBounds_toArray, List.set_cons_zero, List.set_cons_succ]
          refine wpAnyH_ready (rs := [10]) (by kernel_rfl) (by simp) (AllReadyH.cons rfl (fun K hK => ?_) AllReadyH.nil)
          rw [if_pos (by rfl)]
          refine wp_storeA 25 (.tmp 7) (.tmp 18) rfl #[.float .f32 X, .float .f32 Y] info_air z0 rfl rfl rfl (air_one _ _) ?_
          have zz := z0.row_ #[.float .f32 X, .float .f32 Y]
          refine hK.out _ _ ⟨hS.1.farRow (by omega) _, hS.2.1.farRow (by omega) _, below_setRow hS.2.2 (by omega) _⟩ (fun hS => ?_)
          clear hK K
          try simp only [Act.put, List.setIfInBounds_toArray, List.set_cons_zero, List.set_cons_succ]
          refine takeA (i := 11) (d := some 8) (v := .int .i64 C) rfl rfl (by kernel_rfl) (by kernel_rfl) (by kernel_rfl) (fun _ _ _ h => nomatch h.1) (Or.inl ⟨by rfl, fun x hx => by go_simp⟩) (by assumption) ?_
          try simp only [Act.put, List.setIfInBounds_toArray, List.set_cons_zero, List.set_cons_succ]
          refine wpAnyH_done (by kernel_rfl) ?_ _
          exact ⟨rfl, r, rfl, zz, hS⟩
        · obtain ⟨r, hr⟩ : ∃ r, r = v2.heap.size := ⟨_, rfl⟩
          have z0 : Holds (v2.alloc (.cells #[.float .f32 0, .float .f32 0] 25)) r 25 #[.float .f32 0, .float .f32 0] := Holds.new' _ _ _ hr
          have hw : v2.heap.size = r := hr.symm
          have hn0 : w.heap.size < r := by have h := hS.1.lt; omega
          have hn1 : (w.heap.size + 1) < r := by have h := hS.2.1.lt; omega
          clear hw
          have hr2 := Lib.hid hr
          clear hr
          go_simp
          rw [← hr2.out]
          clear hr2
          refine hK.out _ _ ⟨hS.1.alloc _, hS.2.1.alloc _, hS.2.2.alloc hS.2.2.size _⟩ (fun hS => ?_)
          clear hK K
          try simp only [Act.put, List.setIfInBounds_toArray, List.set_cons_zero, List.set_cons_succ]
          refine wpAnyH_ready (rs := [5]) (by kernel_rfl) (by simp) (AllReadyH.cons rfl (fun K hK => ?_) AllReadyH.nil)
          go_simp
          with_reducible refine (HC.out _).mono ?_
          rintro e v4 ⟨rfl, hb⟩
          go_simp
          have z0 := z0.keep hb
          refine hK.out _ _ ⟨hS.1.keep hb, hS.2.1.keep hb, hS.2.2.trans (hb.mono hS.2.2.size)⟩ (fun hS => ?_)
          clear hK K
          try simp only [Act.put, List.setIfInBounds_toArray, List.set_cons_zero, List.set_cons_succ]
          refine takeA (i := 6) (d := some 11) (v := .tuple #[.agg #[.float .f32 X, .float .f32 Y], .int .i64 C]) rfl rfl (by kernel_rfl) (by kernel_rfl) (by kernel_rfl) (fun _ _ _ h => nomatch h.1) (Or.inl ⟨by rfl, fun x hx => by go_simp⟩) (by assumption) ?_
          try simp only [Act.put, List.setIfInBounds_toArray, List.set_cons_zero, List.set_cons_succ]
          refine takeA (i := 7) (d := some 18) (v := .agg #[.float .f32 X, .float .f32 Y]) rfl rfl (by kernel_rfl) (by kernel_rfl) (by kernel_rfl) (fun _ _ _ h => nomatch h.1) (Or.inl ⟨by rfl, fun x hx => by go_simp⟩) (by assumption) ?_
          try simp only [Act.put, List.setIfInBounds_toArray, List.set_cons_zero, List.set_cons_succ]
          refine takeA (i := 8) (d := some 19) (v := .int .i64 C) rfl rfl (by kernel_rfl) (by kernel_rfl) (by kernel_rfl) (fun _ _ _ h => nomatch h.1) (Or.inl ⟨by rfl, fun x hx => by go_simp⟩) (by assumption) ?_
          try simp only [Act.put, List.setIfInBounds_toArray, List.set_cons_zero, List.set_cons_succ]
          refine wpAnyH_ready (rs := [10]) (by kernel_rfl) (by simp) (AllReadyH.cons rfl (fun K hK => ?_) AllReadyH.nil)
          rw [if_pos (by rfl)]
          refine wp_storeA 25 (.tmp 7) (.tmp 18) rfl #[.float .f32 X, .float .f32 Y] info_air z0 rfl rfl rfl (air_one _ _) ?_
          have zz := z0.row_ #[.float .f32 X, .float .f32 Y]
          refine hK.out _ _ ⟨hS.1.farRow (by omega) _, hS.2.1.farRow (by omega) _, below_setRow hS.2.2 (by omega) _⟩ (fun hS => ?_)
          clear hK K
          try simp only [Act.put, List.setIfInBounds_toArray, List.set_cons_zero, List.set_cons_succ]
          refine takeA (i := 11) (d := some 8) (v := .int .i64 C) rfl rfl (by kernel_rfl) (by kernel_rfl) (by kernel_rfl) (fun _ _ _ h => nomatch h.1) (Or.inl ⟨by rfl, fun x hx => by go_simp⟩) (by assumption) ?_
          try simp only [Act.put, List.setIfInBounds_toArray, List.set_cons_zero, List.set_cons_succ]
          refine wpAnyH_done (by kernel_rfl) ?_ _
          exact ⟨rfl, r, rfl, zz, hS⟩
      · obtain ⟨r, hr⟩ : ∃ r, r = v1.heap.size := ⟨_, rfl⟩
        have z0 : Holds (v1.alloc (.cells #[.float .f32 0, .float .f32 0] 25)) r 25 #[.float .f32 0, .float .f32 0] := Holds.new' _ _ _ hr
        have hw : v1.heap.size = r := hr.symm
        have hn0 : w.heap.size < r := by have h := hS.1.lt; omega
        have hn1 : (w.heap.size + 1) < r := by have h := hS.2.1.lt; omega
        clear hw
        have hr2 := Lib.hid hr
        clear hr
        go_simp
        rw [← hr2.out]
        clear hr2
        refine hK.out _ _ ⟨hS.1.alloc _, hS.2.1.alloc _, hS.2.2.alloc hS.2.2.size _⟩ (fun hS => ?_)
        clear hK K
        try simp only [Act.put, List.setIfInBounds_toArray, List.set_cons_zero, List.set_cons_succ]
        refine wpAnyH_ready (rs := [3]) (by kernel_rfl) (by simp) (AllReadyH.cons rfl (fun K hK => ?_) AllReadyH.nil)
        go_simp
        with_reducible refine (HB.out _).mono ?_
        rintro e v5 ⟨rfl, hb⟩
        go_simp
        have z0 := z0.keep hb
        refine hK.out _ _ ⟨hS.1.keep hb, hS.2.1.keep hb, hS.2.2.trans (hb.mono hS.2.2.size)⟩ (fun hS => ?_)
        clear hK K
        try simp only [Act.put, List.setIfInBounds_toArray, List.set_cons_zero, List.set_cons_succ]
        refine wpAnyH_ready (rs := [5]) (by kernel_rfl) (by simp) (AllReadyH.cons rfl (fun K hK => ?_) AllReadyH.nil)
        go_simp
        with_reducible refine (HC.out _).mono ?_
        rintro e v6 ⟨rfl, hb⟩
        go_simp
        have z0 := z0.keep hb
        refine hK.out _ _ ⟨hS.1.keep hb, hS.2.1.keep hb, hS.2.2.trans (hb.mono hS.2.2.size)⟩ (fun hS => ?_)
        clear hK K
        try simp only [Act.put, List.setIfInBounds_toArray, List.set_cons_zero, List.set_cons_succ]
        refine takeA (i := 6) (d := some 11) (v := .tuple #[.agg #[.float .f32 X, .float .f32 Y], .int .i64 C]) rfl rfl (by kernel_rfl) (by kernel_rfl) (by kernel_rfl) (fun _ _ _ h => nomatch h.1) (Or.inl ⟨by rfl, fun x hx => by go_simp⟩) (by assumption) ?_
        try simp only [Act.put, List.setIfInBounds_toArray, List.set_cons_zero, List.set_cons_succ]
        refine takeA (i := 7) (d := some 18) (v := .agg #[.float .f32 X, .float .f32 Y]) rfl rfl (by kernel_rfl) (by kernel_rfl) (by kernel_rfl) (fun _ _ _ h => nomatch h.1) (Or.inl ⟨by rfl, fun x hx => by go_simp⟩) (by assumption) ?_
        try simp only [Act.put, List.setIfInBounds_toArray, List.set_cons_zero, List.set_cons_succ]
        refine takeA (i := 8) (d := some 19) (v := .int .i64 C) rfl rfl (by kernel_rfl) (by kernel_rfl) (by kernel_rfl) (fun _ _ _ h => nomatch h.1) (Or.inl ⟨by rfl, fun x hx => by go_simp⟩) (by assumption) ?_
        try simp only [Act.put, List.setIfInBounds_toArray, List.set_cons_zero, List.set_cons_succ]
        refine wpAnyH_ready (rs := [10]) (by kernel_rfl) (by simp) (AllReadyH.cons rfl (fun K hK => ?_) AllReadyH.nil)
        rw [if_pos (by rfl)]
        refine wp_storeA 25 (.tmp 7) (.tmp 18) rfl #[.float .f32 X, .float .f32 Y] info_air z0 rfl rfl rfl (air_one _ _) ?_
        have zz := z0.row_ #[.float .f32 X, .float .f32 Y]
        refine hK.out _ _ ⟨hS.1.farRow (by omega) _, hS.2.1.farRow (by omega) _, below_setRow hS.2.2 (by omega) _⟩ (fun hS => ?_)
        clear hK K
        try simp only [Act.put, List.setIfInBounds_toArray, List.set_cons_zero, List.set_cons_succ]
        refine takeA (i := 11) (d := some 8) (v := .int .i64 C) rfl rfl (by kernel_rfl) (by kernel_rfl) (by kernel_rfl) (fun _ _ _ h => nomatch h.1) (Or.inl ⟨by rfl, fun x hx => by go_simp⟩) (by assumption) ?_
        try simp only [Act.put, List.setIfInBounds_toArray, List.set_cons_zero, List.set_cons_succ]
        refine wpAnyH_done (by kernel_rfl) ?_ _
        exact ⟨rfl, r, rfl, zz, hS⟩
    · obtain ⟨r, hr⟩ : ∃ r, r = u0.heap.size := ⟨_, rfl⟩
      have z0 : Holds (u0.drew.alloc (.cells #[.float .f32 0, .float .f32 0] 25)) r 25 #[.float .f32 0, .float .f32 0] := Holds.new' _ _ _ hr
      have hw : u0.drew.heap.size = r := hr.symm
      have hn0 : w.heap.size < r := by have h := hS.1.lt; omega
      have hn1 : (w.heap.size + 1) < r := by have h := hS.2.1.lt; omega
      clear hw
      have hr2 := Lib.hid hr
      clear hr
      go_simp
      rw [← hr2.out]
      clear hr2
      refine hK.out _ _ ⟨hS.1.alloc _, hS.2.1.alloc _, hS.2.2.alloc hS.2.2.size _⟩ (fun hS => ?_)
      clear hK K
      try simp only [Act.put, List.setIfInBounds_toArray, List.set_cons_zero, List.set_cons_succ]
      refine wpAnyH_ready (rs := [1]) (by kernel_rfl) (by simp) (AllReadyH.cons rfl (fun K hK => ?_) AllReadyH.nil)
      go_simp
      with_reducible refine (HA.out _).mono ?_
      rintro e v7 ⟨rfl, hb⟩
      go_simp
      have z0 := z0.keep hb
      refine hK.out _ _ ⟨hS.1.keep hb, hS.2.1.keep hb, hS.2.2.trans (hb.mono hS.2.2.size)⟩ (fun hS => ?_)
      clear hK K
      try simp only [Act.put, List.setIfInBounds_toArray, List.set_cons_zero, List.set_cons_succ]
      refine wpAnyH_ready (rs := [3]) (by kernel_rfl) (by simp) (AllReadyH.cons rfl (fun K hK => ?_) AllReadyH.nil)
      go_simp
      with_reducible refine (HB.out _).mono ?_
      rintro e v8 ⟨rfl, hb⟩
      go_simp
      have z0 := z0.keep hb
      refine hK.out _ _ ⟨hS.1.keep hb, hS.2.1.keep hb, hS.2.2.trans (hb.mono hS.2.2.size)⟩ (fun hS => ?_)
      clear hK K
      try simp only [Act.put, List.setIfInBounds_toArray, List.set_cons_zero, List.set_cons_succ]
      refine wpAnyH_ready (rs := [5]) (by kernel_rfl) (by simp) (AllReadyH.cons rfl (fun K hK => ?_) AllReadyH.nil)
      go_simp
      with_reducible refine (HC.out _).mono ?_
      rintro e v9 ⟨rfl, hb⟩
      go_simp
      have z0 := z0.keep hb
      refine hK.out _ _ ⟨hS.1.keep hb, hS.2.1.keep hb, hS.2.2.trans (hb.mono hS.2.2.size)⟩ (fun hS => ?_)
      clear hK K
      try simp only [Act.put, List.setIfInBounds_toArray, List.set_cons_zero, List.set_cons_succ]
      refine takeA (i := 6) (d := some 11) (v := .tuple #[.agg #[.float .f32 X, .float .f32 Y], .int .i64 C]) rfl rfl (by kernel_rfl) (by kernel_rfl) (by kernel_rfl) (fun _ _ _ h => nomatch h.1) (Or.inl ⟨by rfl, fun x hx => by go_simp⟩) (by assumption) ?_
      try simp only [Act.put, List.setIfInBounds_toArray, List.set_cons_zero, List.set_cons_succ]
      refine takeA (i := 7) (d := some 18) (v := .agg #[.float .f32 X, .float .f32 Y]) rfl rfl (by kernel_rfl) (by kernel_rfl) (by kernel_rfl) (fun _ _ _ h => nomatch h.1) (Or.inl ⟨by rfl, fun x hx => by go_simp⟩) (by assumption) ?_
      try simp only [Act.put, List.setIfInBounds_toArray, List.set_cons_zero, List.set_cons_succ]
      refine takeA (i := 8) (d := some 19) (v := .int .i64 C) rfl rfl (by kernel_rfl) (by kernel_rfl) (by kernel_rfl) (fun _ _ _ h => nomatch h.1) (Or.inl ⟨by rfl, fun x hx => by go_simp⟩) (by assumption) ?_
      try simp only [Act.put, List.setIfInBounds_toArray, List.set_cons_zero, List.set_cons_succ]
      refine wpAnyH_ready (rs := [10]) (by kernel_rfl) (by simp) (AllReadyH.cons rfl (fun K hK => ?_) AllReadyH.nil)
      rw [if_pos (by rfl)]
      refine wp_storeA 25 (.tmp 7) (.tmp 18) rfl #[.float .f32 X, .float .f32 Y] info_air z0 rfl rfl rfl (air_one _ _) ?_
      have zz := z0.row_ #[.float .f32 X, .float .f32 Y]
      refine hK.out _ _ ⟨hS.1.farRow (by omega) _, hS.2.1.farRow (by omega) _, below_setRow hS.2.2 (by omega) _⟩ (fun hS => ?_)
      clear hK K
      try simp only [Act.put, List.setIfInBounds_toArray, List.set_cons_zero, List.set_cons_succ]
      refine takeA (i := 11) (d := some 8) (v := .int .i64 C) rfl rfl (by kernel_rfl) (by kernel_rfl) (by kernel_rfl) (fun _ _ _ h => nomatch h.1) (Or.inl ⟨by rfl, fun x hx => by go_simp⟩) (by assumption) ?_
      try simp only [Act.put, List.setIfInBounds_toArray, List.set_cons_zero, List.set_cons_succ]
      refine wpAnyH_done (by kernel_rfl) ?_ _
      exact ⟨rfl, r, rfl, zz, hS⟩
end Go.Proofs.Ytgjibocemffjhaa
