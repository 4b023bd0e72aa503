/-
  Contracts and the walk: the dew's heat.
-/
import Derived.Test.YtgjibocemffjhaaExc
namespace Go.Proofs.Ytgjibocemffjhaa
open Go.RowKit Fl
set_option maxRecDepth 20000
set_option maxHeartbeats 4000000
set_option linter.unusedSimpArgs false

/-- the heats that are tried, from the end -/
def hN (n : Nat) : Nat := fv .quo .f32 (floatOfInt .f32 ((n : Int) - 120)) 1073741824
/-- the heats that the program counts down -/
def hX : Nat → Nat
  | 0 => 3262251008
  | n + 1 => hN n
def geM (x : Nat) : Bool := FloatKind.f32.format.order x 3262119936 == some .gt || FloatKind.f32.format.order x 3262119936 == some .eq
def dewB (n : Nat) : Bool := fok .quo .f32 (floatOfInt .f32 ((n : Int) - 120)) 1073741824 && heatB (hN n) && cvok (hN n) && geM (hN n) && (floatBits .sub .f32 (hN n) 1056964608 == some (hX n))
theorem dew_all : (List.range 241).all dewB = true := by kernel_rfl
theorem dew_end : geM 3262251008 = false := by kernel_rfl
theorem dew_start : hX 241 = 1114636288 := by kernel_rfl
structure DewOk (n : Nat) : Prop where
  quo : fok .quo .f32 (floatOfInt .f32 ((n : Int) - 120)) 1073741824 = true
  heat : heatB (hN n) = true
  cvk : cvok (hN n) = true
  ge : geM (hN n) = true
  sub : floatBits .sub .f32 (hN n) 1056964608 = some (hX n)
theorem dew_ok (n : Nat) (hn : n < 241) : DewOk n := by
  have h := List.all_eq_true.1 dew_all n (List.mem_range.2 hn)
  unfold dewB at h
  simp only [Bool.and_eq_true, beq_iff_eq] at h
  exact ⟨h.1.1.1.1, h.1.1.1.2, h.1.1.2, h.1.2, h.2⟩
def leB (a v : Nat) : Bool := FloatKind.f32.format.order a v == some .lt || FloatKind.f32.format.order a v == some .eq
def dewX (S : Nat → Nat) (v : Nat) : Nat → Nat
  | 0 => 0
  | n + 1 => if leB (S n) v then hN n else dewX S v n
def dewC (S : Nat → Nat) (v : Nat) : Nat → Int
  | 0 => 6
  | n + 1 => if leB (S n) v then 0 else dewC S v n
theorem dewX_cv (S : Nat → Nat) (v : Nat) : ∀ n, n ≤ 241 → cvok (dewX S v n) = true
  | 0, _ => (cvle (x := 0) (by omega)).1
  | n + 1, h => by
    unfold dewX
    split
    · exact (dew_ok n (by omega)).cvk
    · exact dewX_cv S v n (by omega)
theorem cv_lt {x : Nat} (h : cvok x = true) : x < 4294967296 := by
  simp only [cvok, Bool.and_eq_true, decide_eq_true_eq] at h
  exact h.1
theorem dew_sat : ∃ S : Nat → Nat, ∀ n, n < 241 → SatOk (hN n) (S n) := by
  have h : ∀ n, ∃ v, n < 241 → SatOk (hN n) v := fun n => by
    by_cases hn : n < 241
    · obtain ⟨v, hv⟩ := sat_both (cv_lt (dew_ok n hn).cvk) (dew_ok n hn).heat
      exact ⟨v, fun _ => hv⟩
    · exact ⟨0, fun q => absurd q hn⟩
  exact Classical.skolem.1 h
theorem c_specDewHeat (h v : Nat) (hv : v < 4294967296) (S : Nat → Nat) (hS : ∀ n, n < 241 → SatOk (hN n) (S n)) (X : Nat) (C : Int) (hT : airB h v = true → X = dewX S v 241 ∧ C = dewC S v 241) (hF : airB h v = false → X = 0 ∧ C = 1) (w : World) : Calls Try.prog 25 #[.agg #[.float .f32 h, .float .f32 v]] w fun e w' => e = .returned (.tuple #[.float .f32 X, .int .i64 C]) ∧ Below w.heap.size w w' := by
  have g0 := Holds.new w 25 #[.float .f32 h, .float .f32 v]
  have b0 : Below w.heap.size w (w.alloc (.cells #[.float .f32 h, .float .f32 v] 25)) := (Below.refl _ _).alloc (by simp) _
  cases hf1 : airB h v
  · obtain ⟨rfl, rfl⟩ := hF hf1
    clear hT hF hS
    go_enter Try.func25, Try.ntmps25
    go_wp2_with (first | (go_at_call 32; with_reducible refine (c_l02Ok h v hv _ _ _ g0).mono ?_; rw [hf1]; rintro e w1 ⟨rfl, hdr⟩; have hb := drew_below hdr; clear hdr; have g0 := g0.keep hb; have b0 := b0.trans (hb.mono b0.size); clear hb))
    go_ret2
    exact ⟨rfl, b0⟩
  obtain ⟨hx, hc⟩ := hT hf1
  have HX := Lib.hid hx
  have HC := Lib.hid hc
  have HS := Lib.hid hS
  have DX := Lib.hid (fun n => show dewX S v (n + 1) = if leB (S n) v then hN n else dewX S v n from rfl)
  have DC := Lib.hid (fun n => show dewC S v (n + 1) = if leB (S n) v then 0 else dewC S v n from rfl)
  have DX0 := Lib.hid (show dewX S v 0 = 0 from rfl)
  have DC0 := Lib.hid (show dewC S v 0 = 6 from rfl)
  have HD := Lib.hid dew_ok
  clear hT hF hS hx hc
  generalize dewX S v = dx at *
  generalize dewC S v = dc at *
  go_enter Try.func25, Try.ntmps25
  go_wp2_with (first | (go_at_call 32; with_reducible refine (c_l02Ok h v hv _ _ _ g0).mono ?_; rw [hf1]; rintro e w1 ⟨rfl, hdr⟩; have hb := drew_below hdr; clear hdr; have g0 := g0.keep hb; have b0 := b0.trans (hb.mono b0.size); clear hb))
  go_loopg [4] 241 (fun g i wr => ∃ k : Int, g ≤ 241 ∧ i = .int .i64 k ∧ k = (g : Int) - 121 ∧ X = dx g ∧ C = dc g ∧ Below w.heap.size w wr ∧ Holds wr w.heap.size 25 #[.float .f32 h, .float .f32 v])
  case atStart => exact ⟨_, by omega, rfl, by omega, HX.out, HC.out, b0, g0⟩
  case round =>
    clear g0 b0 HX HC hf1
    obtain ⟨k, hg, rfl, hk, hx, hc, b0, g0⟩ := hrel
    have HX := Lib.hid hx
    have HC := Lib.hid hc
    have HK := Lib.hid hk
    clear hx hc
    cases gk with
    | zero =>
      have hk1 : k = -121 := by have := HK.out; omega
      subst hk1
      have HX := Lib.hid (HX.out.trans DX0.out)
      have HC := Lib.hid (HC.out.trans DC0.out)
      clear hk
      go_wp2
      go_ret2
      exact ⟨by rw [HX.out, HC.out]; rfl, b0⟩
    | succ n =>
      have HO := Lib.hid (HD.out n (by omega))
      have hs := HS.out n (by omega)
      have HF := Lib.hid hs.spec
      clear hs
      have hc0 := g0.cell 0
      have hc1 := g0.cell 1
      have hk1 : k = (n : Int) - 120 := by have := HK.out; omega
      have hk2 : -120 ≤ k := by omega
      have hk3 : k ≤ 120 := by omega
      have o1 : fok .quo .f32 (floatOfInt .f32 k) 1073741824 = true := by rw [hk1]; exact HO.out.quo
      have e1 : fv .quo .f32 (floatOfInt .f32 k) 1073741824 = hN n := by rw [hk1]; rfl
      have HK1 := Lib.hid hk1
      clear hk1 hk
      have DXn := Lib.hid (DX.out n)
      have DCn := Lib.hid (DC.out n)
      generalize hN n = H at *
      cases hl : leB (S n) v
      · rw [hl] at DXn DCn
        have HX := Lib.hid (HX.out.trans (DXn.out.trans (if_neg (by decide))))
        have HC := Lib.hid (HC.out.trans (DCn.out.trans (if_neg (by decide))))
        unfold leB at hl
        go_wp2
        go_quiet ((go_at_call 47; exact q_left (HF.out _)))
        go_wp2
        go_roundg n
        case rel => exact ⟨k - 1, by omega, by go_num, by have := HK1.out; omega, HX.out, HC.out, below_drewN b0 _, g0.drewN _⟩
        case measure => omega
      · rw [hl] at DXn DCn
        have HX := Lib.hid (HX.out.trans (DXn.out.trans (if_pos rfl)))
        have HC := Lib.hid (HC.out.trans (DCn.out.trans (if_pos rfl)))
        unfold leB at hl
        go_wp2
        go_quiet ((go_at_call 47; exact q_left (HF.out _)))
        go_wp2
        go_ret2
        exact ⟨by rw [HX.out, HC.out]; rfl, below_drewN b0 _⟩
theorem c_implDewHeat (h v : Nat) (hv : v < 4294967296) (S : Nat → Nat) (hS : ∀ n, n < 241 → SatOk (hN n) (S n)) (X : Nat) (C : Int) (hT : airB h v = true → X = dewX S v 241 ∧ C = dewC S v 241) (hF : airB h v = false → X = 0 ∧ C = 1) (w : World) : Calls Try.prog 26 #[.agg #[.float .f32 h, .float .f32 v]] w fun e w' => e = .returned (.tuple #[.float .f32 X, .int .i64 C]) ∧ Below w.heap.size w w' := by
  have g0 := Holds.new w 25 #[.float .f32 h, .float .f32 v]
  have b0 : Below w.heap.size w (w.alloc (.cells #[.float .f32 h, .float .f32 v] 25)) := (Below.refl _ _).alloc (by simp) _
  cases hf1 : airB h v
  · obtain ⟨rfl, rfl⟩ := hF hf1
    clear hT hF hS
    go_enter Try.func26, Try.ntmps26
    go_wp2_with (first | (go_at_call 35; with_reducible refine (c_ValidAir h v hv _).mono ?_; rw [hf1]; rintro e w1 ⟨rfl, hb⟩; have g0 := g0.keep hb; have b0 := b0.trans (hb.mono b0.size); clear hb) | (refine wl_loadA 25 Try.underlying25 rfl #[.float .f32 h, .float .f32 v] info_air rfl _ rfl g0 rfl ?_))
    go_ret2
    exact ⟨rfl, b0⟩
  obtain ⟨hx, hc⟩ := hT hf1
  have HX := Lib.hid hx
  have HC := Lib.hid hc
  have HS := Lib.hid hS
  have DX := Lib.hid (fun n => show dewX S v (n + 1) = if leB (S n) v then hN n else dewX S v n from rfl)
  have DC := Lib.hid (fun n => show dewC S v (n + 1) = if leB (S n) v then 0 else dewC S v n from rfl)
  have DX0 := Lib.hid (show dewX S v 0 = 0 from rfl)
  have DC0 := Lib.hid (show dewC S v 0 = 6 from rfl)
  have HD := Lib.hid dew_ok
  clear hT hF hS hx hc
  generalize dewX S v = dx at *
  generalize dewC S v = dc at *
  go_enter Try.func26, Try.ntmps26
  go_wp2_with (first | (go_at_call 35; with_reducible refine (c_ValidAir h v hv _).mono ?_; rw [hf1]; rintro e w1 ⟨rfl, hb⟩; have g0 := g0.keep hb; have b0 := b0.trans (hb.mono b0.size); clear hb) | (refine wl_loadA 25 Try.underlying25 rfl #[.float .f32 h, .float .f32 v] info_air rfl _ rfl g0 rfl ?_))
  go_loopg [4] 241 (fun g i wr => ∃ k : Nat, g ≤ 241 ∧ i = .float .f32 k ∧ k = hX g ∧ X = dx g ∧ C = dc g ∧ Below w.heap.size w wr ∧ Holds wr w.heap.size 25 #[.float .f32 h, .float .f32 v])
  case atStart => exact ⟨_, by omega, rfl, dew_start.symm, HX.out, HC.out, b0, g0⟩
  case round =>
    clear g0 b0 HX HC hf1
    obtain ⟨k, hg, rfl, hk, hx, hc, b0, g0⟩ := hrel
    have HX := Lib.hid hx
    have HC := Lib.hid hc
    have HK := Lib.hid hk
    clear hx hc
    cases gk with
    | zero =>
      have hk1 : k = 3262251008 := HK.out
      subst hk1
      have he := dew_end
      unfold geM at he
      have HX := Lib.hid (HX.out.trans DX0.out)
      have HC := Lib.hid (HC.out.trans DC0.out)
      clear hk
      go_wp2
      go_ret2
      exact ⟨by rw [HX.out, HC.out]; rfl, b0⟩
    | succ n =>
      have HO := Lib.hid (HD.out n (by omega))
      have hs := HS.out n (by omega)
      have HF := Lib.hid hs.impl
      clear hs
      have hc0 := g0.cell 0
      have hc1 := g0.cell 1
      have hk1 : k = hN n := HK.out
      subst hk1
      have hge := HO.out.ge
      unfold geM at hge
      have s1 := fok_some HO.out.sub
      have s2 := fv_is HO.out.sub
      clear hk
      have DXn := Lib.hid (DX.out n)
      have DCn := Lib.hid (DC.out n)
      generalize hN n = H at *
      generalize hhx : hX n = HXn at *
      cases hl : leB (S n) v
      · rw [hl] at DXn DCn
        have HX := Lib.hid (HX.out.trans (DXn.out.trans (if_neg (by decide))))
        have HC := Lib.hid (HC.out.trans (DCn.out.trans (if_neg (by decide))))
        unfold leB at hl
        go_wp2
        go_quiet ((go_at_call 49; exact q_left (HF.out _)))
        go_wp2
        go_roundg n
        case rel => exact ⟨_, by omega, rfl, hhx.symm, HX.out, HC.out, below_drewN b0 _, g0.drewN _⟩
        case measure => omega
      · rw [hl] at DXn DCn
        have HX := Lib.hid (HX.out.trans (DXn.out.trans (if_pos rfl)))
        have HC := Lib.hid (HC.out.trans (DCn.out.trans (if_pos rfl)))
        unfold leB at hl
        go_wp2
        go_quiet ((go_at_call 49; exact q_left (HF.out _)))
        go_wp2
        go_ret2
        exact ⟨by rw [HX.out, HC.out]; rfl, below_drewN b0 _⟩
theorem walk_FnExactDewHeat (h v : Nat) (_hh : h < 4294967296) (hv : v < 4294967296) (w : World) : Calls Try.prog 8 #[.agg #[.float .f32 h, .float .f32 v]] w fun e w' => e = .returned (.bool true) ∧ Below w.heap.size w w' := by
  have hcv := fun (x : Nat) (h : cvok x = true) (w : World) => run_cv (P := Try.prog) w 22 37 (by kernel_rfl) Try.underlying37 x h
  obtain ⟨X, C, h1, h2, hS, hI⟩ : ∃ (X : Nat) (C : Int), cvok X = true ∧ num FloatKind.f64.format (cv X) ∧ (∀ w, Calls Try.prog 25 #[.agg #[.float .f32 h, .float .f32 v]] w fun e w' => e = .returned (.tuple #[.float .f32 X, .int .i64 C]) ∧ Below w.heap.size w w') ∧ (∀ w, Calls Try.prog 26 #[.agg #[.float .f32 h, .float .f32 v]] w fun e w' => e = .returned (.tuple #[.float .f32 X, .int .i64 C]) ∧ Below w.heap.size w w') := by
    obtain ⟨S, hS⟩ := dew_sat
    cases ha : airB h v
    · have z : cvok 0 = true := (cvle (x := 0) (by omega)).1
      exact ⟨0, 1, z, cv_f64 z, c_specDewHeat h v hv S hS 0 1 (fun q => by rw [ha] at q; cases q) (fun _ => ⟨rfl, rfl⟩), c_implDewHeat h v hv S hS 0 1 (fun q => by rw [ha] at q; cases q) (fun _ => ⟨rfl, rfl⟩)⟩
    · have z := dewX_cv S v 241 (Nat.le_refl _)
      exact ⟨dewX S v 241, dewC S v 241, z, cv_f64 z, c_specDewHeat h v hv S hS _ _ (fun _ => ⟨rfl, rfl⟩) (fun q => by rw [ha] at q; cases q), c_implDewHeat h v hv S hS _ _ (fun _ => ⟨rfl, rfl⟩) (fun q => by rw [ha] at q; cases q)⟩
  have HS := Lib.hid hS
  have HI := Lib.hid hI
  have H2 := Lib.hid h2
  have HA := Lib.hid (fun w => c_toAir h v w)
  clear hS hI h2
  have g0 := Holds.new w 24 #[.float .f32 h, .float .f32 v]
  have b0 : Below w.heap.size w (w.alloc (.cells #[.float .f32 h, .float .f32 v] 24)) := (Below.refl _ _).alloc (by simp) _
  go_enter Try.func8, Try.ntmps8
  go_wp2_with (first | (refine wl_loadA 24 Try.underlying24 rfl #[.float .f32 h, .float .f32 v] info_lair rfl _ rfl g0 rfl ?_) | (go_at_call 12; with_reducible refine (HA.out _).mono ?_; rintro e w1 ⟨rfl, hb⟩; have g0 := g0.keep hb; have b0 := b0.trans (hb.mono b0.size); clear hb) | (go_at_call 25; with_reducible refine (HS.out _).mono ?_; rintro e w1 ⟨rfl, hb⟩; have g0 := g0.keep hb; have b0 := b0.trans (hb.mono b0.size); clear hb) | (go_at_call 26; with_reducible refine (HI.out _).mono ?_; rintro e w1 ⟨rfl, hb⟩; have g0 := g0.keep hb; have b0 := b0.trans (hb.mono b0.size); clear hb) | (go_at_call 18; refine (c_sameFloat _ H2.out _).mono ?_; rintro e w1 ⟨rfl, rfl⟩))
  go_ret
  exact ⟨rfl, b0⟩
end Go.Proofs.Ytgjibocemffjhaa
