/-
  Contracts and the walk: powers of two.
-/
import Derived.Test.YtgjibocemffjhaaTwo2
import Derived.Test.YtgjibocemffjhaaThird
import Derived.Test.YtgjibocemffjhaaLawA
import Derived.Deep.LoopGhost
namespace Go.Proofs.Ytgjibocemffjhaa
open Go.RowKit Fl
set_option maxRecDepth 20000
set_option maxHeartbeats 4000000
set_option linter.unusedSimpArgs false

theorem rng {x W : Nat} (hx : x < 4294967296) (hW : W ≤ 2139095040)
    (h1 : (FloatKind.f32.format.order x (2147483648 + W) == some .gt || FloatKind.f32.format.order x (2147483648 + W) == some .eq) = true)
    (h2 : (FloatKind.f32.format.order x W == some .lt || FloatKind.f32.format.order x W == some .eq) = true) : ∃ s r, x = D32.word s r ∧ r ≤ W := by
  cases hn : isnum x
  · rw [ord_nan_l hn] at h2
    simp at h2
  · have nx := num_of hx hn
    have nW : num FloatKind.f32.format W := num_of_le hW
    have nM : num FloatKind.f32.format (2147483648 + W) := num_word FloatKind.f32.format true W hW
    rw [ord_num nx nM] at h1
    rw [ord_num nx nW] at h2
    obtain ⟨s, r, rfl, hr⟩ := word_of_num nx
    have k1 : key FloatKind.f32.format (2147483648 + W) = -(W : Int) := key_word FloatKind.f32.format true W hW
    have k2 : key FloatKind.f32.format W = (W : Int) := key_word FloatKind.f32.format false W hW
    rw [key_word FloatKind.f32.format s r hr, k1] at h1
    rw [key_word FloatKind.f32.format s r hr, k2] at h2
    refine ⟨s, r, rfl, ?_⟩
    cases s
    · simp only [Bool.false_eq_true, if_false] at h2
      rcases Int.lt_trichotomy (r : Int) (W : Int) with q | q | q
      · omega
      · omega
      · rw [Int.compare_eq_gt.2 q] at h2; simp at h2
    · simp only [if_true] at h1
      rcases Int.lt_trichotomy (-(r : Int)) (-(W : Int)) with q | q | q
      · rw [Int.compare_eq_lt.2 q] at h1; simp at h1
      · omega
      · omega
theorem floor_open (X : Nat) : Extern.MathFloor.toIntegral "math.archFloor" .down #[.float .f64 X] = (match FloatKind.f64.decode X with
    | .nan s t =>
      if FloatKind.f64.format.quiet t = t then pure (.float .f64 X) else do
      let kept ← choose (.extern "math.Floor,Ceil,Trunc,RoundToEven.signallingNaN kept" 2)
      pure (.float .f64 (if kept == 1 then X else FloatKind.f64.encode (.nan s (FloatKind.f64.format.quiet t))))
    | d => pure (.float .f64 (FloatKind.f64.encode (d.integral .down)))) := rfl
theorem floor_run (X : Nat) (s : Bool) (n : Nat) (h : (FloatKind.f64.decode X).integral .down = .number s n 0) (w : World) : (callFunc 69 #[.float .f64 X]).run Try.prog w = .ok (.value (.float .f64 (fN s n))) w := by
  have e : (callFunc 69 #[.float .f64 X]).run Try.prog w = ((Extern.MathFloor.toIntegral "math.archFloor" .down #[.float .f64 X]).run Try.prog w).andThen fun v w' => .ok (.value v) w' :=
    run_callFunc_extern Try.func69 (by kernel_rfl) (by kernel_rfl) (by kernel_rfl) (by kernel_rfl) _ w
  rw [e]
  have : Extern.MathFloor.toIntegral "math.archFloor" .down #[.float .f64 X] = (pure (.float .f64 (fN s n)) : Sem Value) := by
    rw [floor_open]
    cases hd : FloatKind.f64.decode X with
    | nan a b => rw [hd] at h; cases h
    | infinity a => rw [hd] at h; cases h
    | number a b c => rw [hd] at h; show (pure (Value.float .f64 (FloatKind.f64.encode ((Ieee.Datum.number a b c).integral .down))) : Sem Value) = _; rw [h]; rfl
  rw [this]; rfl
theorem c_Floor (X : Nat) (s : Bool) (n : Nat) (h : (FloatKind.f64.decode X).integral .down = .number s n 0) (w : World) : Calls Try.prog 63 #[.float .f64 X] w fun e w' => e = .returned (.float .f64 (fN s n)) ∧ w = w' := by
  have hf := floor_run X s n h
  go_enter Try.func63, Try.ntmps63
  go_wp2
  go_ret
  exact ⟨rfl, rfl⟩
theorem c_l02Two_false (x n : Nat) (h : TwoOk x false n) (w : World) : Calls Try.prog 44 #[.float .f32 x] w fun e w' => e = .returned (.float .f32 (twoV x false n)) ∧ w = w' := by
  have hcv := fun (w : World) => run_cv (P := Try.prog) w 22 37 (by kernel_rfl) Try.underlying37 x h.cvx
  have hcw := fun (w : World) => run_convert_float_float (P := Try.prog) w 37 22 .f64 .f32 _ _ (by kernel_rfl) Try.underlying22 h.cvt
  have HF := Lib.hid (fun w => c_Floor (cv x) false n h.fl w)
  have o1 := h.sub
  have o2 := h.mul
  have hn := h.n100
  have HY := Lib.hid h.yle
  have ey : fv .mul .f64 (fv .sub .f64 (cv x) (fN false n)) 4604418534313441775 = twoY x false n := rfl
  clear h
  generalize twoY x false n = y at *
  have HS := Lib.hid (fun j (hj : j < 14) => hsum_step HY.out hj)
  have HB := Lib.hid (hsum_ok HY.out 14 (Nat.le_refl _))
  have HC := Lib.hid cap14
  have H0 := Lib.hid (show hsum y 0 = 4607182418800017408 from rfl)
  have H1 := Lib.hid (fun j => show hsum y (j + 1) = hstep y (floatOfInt .f64 ((14 - j : Nat) : Int)) (hsum y j) from rfl)
  have HW := Lib.hid (show twoW false n y = hsum y 14 + n * 4503599627370496 by unfold twoW; rw [if_neg (by decide)])
  generalize twoW false n y = W at *
  generalize twoV x false n = V at *
  generalize hsum y = hs at *
  skip
  go_enter Try.func44, Try.ntmps44
  go_wp2_with (go_at_call 63; refine (HF.out _).mono ?_; rintro e w1 ⟨rfl, rfl⟩)
  go_loopg [5, 6] 14 (fun k s m wr => w = wr ∧ ∃ sn : Nat, k ≤ 14 ∧ s = .float .f64 sn ∧ sn = hs (14 - k) ∧ m = .int .i64 (k : Int))
  case atStart => exact ⟨rfl, _, by omega, rfl, H0.out.symm, rfl⟩
  case round =>
    obtain ⟨rfl, sn, hk, rfl, hsn, rfl⟩ := hrel
    have HSN := Lib.hid hsn
    clear hsn
    cases gk with
    | succ k =>
      have hge : (1 : Int) ≤ (k : Int) + 1 := by omega
      have hk14 : k < 14 := by omega
      have hkk : 14 - (14 - (k + 1)) = k + 1 := by omega
      have hh := HS.out (14 - (k + 1)) (by omega)
      rw [hkk, ← HSN.out, show ((k + 1 : Nat) : Int) = (k : Int) + 1 by omega] at hh
      have q1 := hh.o1
      have q2 := hh.o2
      have q3 := hh.o3
      have HN := Lib.hid (show fv .add .f64 4607182418800017408 (fv .mul .f64 (fv .quo .f64 y (floatOfInt .f64 ((k : Int) + 1))) sn) = hs (14 - k) by
        have := H1.out (14 - (k + 1))
        rw [hkk, ← HSN.out, show 14 - (k + 1) + 1 = 14 - k by omega, show ((k + 1 : Nat) : Int) = (k : Int) + 1 by omega] at this
        exact this.symm)
      clear hh hkk
      go_wp2
      go_roundg k
      case rel => exact ⟨rfl, _, by omega, rfl, HN.out, by go_num⟩
      case measure => omega
    | zero =>
      have HE := Lib.hid (show sn = hs 14 from HSN.out)
      have hS1 := HB.out.1
      have hS2 := HB.out.2.1
      have hS3 := HC.out
      rw [← HE.out] at hS1 hS2
      have HB1 := Lib.hid hS1
      have HB2 := Lib.hid (Nat.le_trans hS2 hS3)
      clear hS1 hS2 hS3
      go_wp2
      go_loopg [3, 5] n (fun i k s wr => w = wr ∧ ∃ sm : Nat, i ≤ n ∧ k = .float .f64 (fN false i) ∧ s = .float .f64 sm ∧ sm = sn + (n - i) * 4503599627370496)
      case atStart => exact ⟨rfl, _, by omega, rfl, rfl, by omega⟩
      case round =>
        obtain ⟨rfl, sm, hi, rfl, rfl, hsm⟩ := hrel
        have HSM := Lib.hid hsm
        clear hsm
        cases gk with
        | succ i =>
          have hc := cnt64_ok i (by omega)
          have hgt := hc.gt
          have hd1 := fok_some hc.dec
          have hd2 := fv_is hc.dec
          obtain ⟨m1, m2⟩ := mul_pw64 (a := sm) (k := 1) (by rw [HSM.out]; have := HB1.out; omega) (by rw [HSM.out]; have := HB2.out; omega) (by omega)
          rw [show 4607182418800017408 + 1 * 4503599627370496 = 4611686018427387904 by omega] at m1 m2
          have HN := Lib.hid (show fv .mul .f64 sm 4611686018427387904 = sn + (n - i) * 4503599627370496 by rw [m2, HSM.out]; omega)
          clear hc m2
          go_wp2
          go_roundg i
          case rel => exact ⟨rfl, _, by omega, rfl, rfl, HN.out⟩
          case measure => omega
        | zero =>
          rw [fN0]
          have HZ : sm = W := by rw [HSM.out, HW.out, HE.out, Nat.sub_zero]
          subst HZ
          have o00 := ord00
          go_wp2
          go_loopg [3, 5] 0 (fun i k s wr => w = wr ∧ k = .float .f64 0 ∧ s = .float .f64 sm)
          case atStart => exact ⟨rfl, rfl, rfl⟩
          case round =>
            obtain ⟨rfl, rfl, rfl⟩ := hrel
            go_wp2
            go_ret
            exact ⟨rfl, rfl⟩
theorem c_l02Two_true (x n : Nat) (h : TwoOk x true n) (w : World) : Calls Try.prog 44 #[.float .f32 x] w fun e w' => e = .returned (.float .f32 (twoV x true n)) ∧ w = w' := by
  have hcv := fun (w : World) => run_cv (P := Try.prog) w 22 37 (by kernel_rfl) Try.underlying37 x h.cvx
  have hcw := fun (w : World) => run_convert_float_float (P := Try.prog) w 37 22 .f64 .f32 _ _ (by kernel_rfl) Try.underlying22 h.cvt
  have HF := Lib.hid (fun w => c_Floor (cv x) true n h.fl w)
  have o1 := h.sub
  have o2 := h.mul
  have hn := h.n100
  have HY := Lib.hid h.yle
  have ey : fv .mul .f64 (fv .sub .f64 (cv x) (fN true n)) 4604418534313441775 = twoY x true n := rfl
  clear h
  generalize twoY x true n = y at *
  have HS := Lib.hid (fun j (hj : j < 14) => hsum_step HY.out hj)
  have HB := Lib.hid (hsum_ok HY.out 14 (Nat.le_refl _))
  have HC := Lib.hid cap14
  have H0 := Lib.hid (show hsum y 0 = 4607182418800017408 from rfl)
  have H1 := Lib.hid (fun j => show hsum y (j + 1) = hstep y (floatOfInt .f64 ((14 - j : Nat) : Int)) (hsum y j) from rfl)
  have HW := Lib.hid (show twoW true n y = hsum y 14 - n * 4503599627370496 by unfold twoW; rw [if_pos rfl])
  generalize twoW true n y = W at *
  generalize twoV x true n = V at *
  generalize hsum y = hs at *
  skip
  go_enter Try.func44, Try.ntmps44
  go_wp2_with (go_at_call 63; refine (HF.out _).mono ?_; rintro e w1 ⟨rfl, rfl⟩)
  go_loopg [5, 6] 14 (fun k s m wr => w = wr ∧ ∃ sn : Nat, k ≤ 14 ∧ s = .float .f64 sn ∧ sn = hs (14 - k) ∧ m = .int .i64 (k : Int))
  case atStart => exact ⟨rfl, _, by omega, rfl, H0.out.symm, rfl⟩
  case round =>
    obtain ⟨rfl, sn, hk, rfl, hsn, rfl⟩ := hrel
    have HSN := Lib.hid hsn
    clear hsn
    cases gk with
    | succ k =>
      have hge : (1 : Int) ≤ (k : Int) + 1 := by omega
      have hk14 : k < 14 := by omega
      have hkk : 14 - (14 - (k + 1)) = k + 1 := by omega
      have hh := HS.out (14 - (k + 1)) (by omega)
      rw [hkk, ← HSN.out, show ((k + 1 : Nat) : Int) = (k : Int) + 1 by omega] at hh
      have q1 := hh.o1
      have q2 := hh.o2
      have q3 := hh.o3
      have HN := Lib.hid (show fv .add .f64 4607182418800017408 (fv .mul .f64 (fv .quo .f64 y (floatOfInt .f64 ((k : Int) + 1))) sn) = hs (14 - k) by
        have := H1.out (14 - (k + 1))
        rw [hkk, ← HSN.out, show 14 - (k + 1) + 1 = 14 - k by omega, show ((k + 1 : Nat) : Int) = (k : Int) + 1 by omega] at this
        exact this.symm)
      clear hh hkk
      go_wp2
      go_roundg k
      case rel => exact ⟨rfl, _, by omega, rfl, HN.out, by go_num⟩
      case measure => omega
    | zero =>
      have HE := Lib.hid (show sn = hs 14 from HSN.out)
      have hS1 := HB.out.1
      have hS2 := HB.out.2.1
      have hS3 := HC.out
      rw [← HE.out] at hS1 hS2
      have HB1 := Lib.hid hS1
      have HB2 := Lib.hid (Nat.le_trans hS2 hS3)
      clear hS1 hS2 hS3
      have hng : (FloatKind.f64.format.order (fN true n) 0 == some .gt) = false := by
        rcases Nat.eq_zero_or_pos n with q | q
        · subst q; rw [fN0', ord10]; rfl
        · obtain ⟨i, rfl⟩ : ∃ i, n = i + 1 := ⟨n - 1, by omega⟩
          rw [(cnt64_ok i (by omega)).lt]; rfl
      go_wp2
      go_loopg [3, 5] 0 (fun i k s wr => w = wr ∧ k = .float .f64 (fN true n) ∧ s = .float .f64 sn)
      case atStart => exact ⟨rfl, rfl, rfl⟩
      case round =>
        obtain ⟨rfl, rfl, rfl⟩ := hrel
        go_wp2
        clear hng
        go_loopg [3, 5] n (fun i k s wr => w = wr ∧ ∃ kn sm : Nat, i ≤ n ∧ k = .float .f64 kn ∧ (kn = fN true i ∨ (i = 0 ∧ kn = 0)) ∧ s = .float .f64 sm ∧ sm = sn - (n - i) * 4503599627370496)
        case atStart => exact ⟨rfl, _, _, by omega, rfl, .inl rfl, rfl, by omega⟩
        case round =>
          obtain ⟨rfl, kn, sm, hi, rfl, hkn, rfl, hsm⟩ := hrel
          have HSM := Lib.hid hsm
          clear hsm
          cases gk with
          | succ i =>
            have hkn : kn = fN true (i + 1) := by rcases hkn with q | ⟨q, _⟩; exact q; omega
            subst hkn
            have hc := cnt64_ok i (by omega)
            have hlt := hc.lt
            have hd1 := fok_some hc.inc
            have hd2 := fv_is hc.inc
            have HK := Lib.hid (show (if i = 0 then 0 else fN true i) = fN true i ∨ (i = 0 ∧ (if i = 0 then 0 else fN true i) = 0) by
              by_cases q : i = 0
              · rw [if_pos q]; exact .inr ⟨q, rfl⟩
              · rw [if_neg q]; exact .inl rfl)
            generalize (if i = 0 then 0 else fN true i) = kz at *
            obtain ⟨m1, m2⟩ := quo_two64 (a := sm) (by rw [HSM.out]; have := HB1.out; omega) (by rw [HSM.out]; have := HB2.out; omega)
            have HN := Lib.hid (show fv .quo .f64 sm 4611686018427387904 = sn - (n - i) * 4503599627370496 by rw [m2, HSM.out]; omega)
            clear hc m2
            go_wp2
            go_roundg i
            case rel => exact ⟨rfl, _, _, by omega, rfl, HK.out, rfl, HN.out⟩
            case measure => omega
          | zero =>
            have hz : (FloatKind.f64.format.order kn 0 == some .lt) = false := by
              rcases hkn with q | ⟨_, q⟩
              · rw [q, fN0', ord10]; rfl
              · rw [q, ord00]; rfl
            have HZ : sm = W := by rw [HSM.out, HW.out, HE.out, Nat.sub_zero]
            subst HZ
            clear hkn
            go_wp2
            go_ret
            exact ⟨rfl, rfl⟩
end Go.Proofs.Ytgjibocemffjhaa
