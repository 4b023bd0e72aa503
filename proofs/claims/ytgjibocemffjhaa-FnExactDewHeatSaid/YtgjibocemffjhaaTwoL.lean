/-
  Contracts: scaling by powers of two, as the library does it, at one.
-/
import Derived.Test.YtgjibocemffjhaaTwoS
import Derived.Laws.Bits64b
namespace Go.Proofs.Ytgjibocemffjhaa
open Go.RowKit Fl
set_option maxRecDepth 20000
set_option maxHeartbeats 4000000
set_option linter.unusedSimpArgs false

theorem bits64_enters (args : Array Value) (w : World) : (callFunc 77 args).run Try.prog w = ((Extern.MathFloatBits.float64bits args).run Try.prog w).andThen fun v w' => .ok (.value v) w' :=
  run_callFunc_extern Try.func77 (by kernel_rfl) (by kernel_rfl) (by kernel_rfl) (by kernel_rfl) args w
@[go_sem] theorem bits64_run (x : Nat) (w : World) : (callFunc 77 #[.float .f64 x]).run Try.prog w = .ok (.value (.int .u64 x)) w := by
  rw [bits64_enters]; rfl
theorem from64_enters (args : Array Value) (w : World) : (callFunc 80 args).run Try.prog w = ((Extern.MathFloatBits.float64frombits args).run Try.prog w).andThen fun v w' => .ok (.value v) w' :=
  run_callFunc_extern Try.func80 (by kernel_rfl) (by kernel_rfl) (by kernel_rfl) (by kernel_rfl) args w
@[go_sem] theorem from64_run (x : Nat) (w : World) : (callFunc 80 #[.int .u64 (x : Int)]).run Try.prog w = .ok (.value (.float .f64 x)) w := by
  rw [from64_enters]; rfl
theorem o1z : (FloatKind.f64.format.order 4607182418800017408 0 == some .eq) = false := by kernel_rfl
theorem o11 : FloatKind.f64.format.order 4607182418800017408 4607182418800017408 = some .eq := by kernel_rfl
theorem o1m : (FloatKind.f64.format.order 4607182418800017408 9218868437227405311 == some .gt) = false := by kernel_rfl
theorem o1s : (FloatKind.f64.format.order 4607182418800017408 4503599627370496 == some .lt) = false := by kernel_rfl
theorem b1 : bits .andNot .u64 4607182418800017408 9223372036854775808 = ((4607182418800017408 : Nat) : Int) := by kernel_rfl
theorem b2 : bits .and .i64 1023 2047 = 1023 := by kernel_rfl
theorem b3 : bits .andNot .u64 4607182418800017408 9218868437227405312 = 0 := by kernel_rfl
theorem c_Abs1 (w : World) : Calls Try.prog 81 #[.float .f64 4607182418800017408] w fun e w' => e = .returned (.float .f64 4607182418800017408) ∧ w = w' := by
  have h := b1
  have h2 : ∀ w, (callFunc 80 #[.int .u64 4607182418800017408]).run Try.prog w = .ok (.value (.float .f64 4607182418800017408)) w := fun w => from64_run 4607182418800017408 w
  go_enter Try.func81, Try.ntmps81
  go_wp2
  go_ret
  exact ⟨rfl, rfl⟩
theorem c_IsInf1 (w : World) : Calls Try.prog 74 #[.float .f64 4607182418800017408, .int .i64 0] w fun e w' => e = .returned (.bool false) ∧ w = w' := by
  have h := o1m
  go_enter Try.func74, Try.ntmps74
  go_wp2_with (go_at_call 81; refine (c_Abs1 _).mono ?_; rintro e w' ⟨rfl, rfl⟩)
  go_ret
  exact ⟨rfl, rfl⟩
theorem c_IsNaN1 (w : World) : Calls Try.prog 73 #[.float .f64 4607182418800017408] w fun e w' => e = .returned (.bool false) ∧ w = w' := by
  have h := o11
  go_enter Try.func73, Try.ntmps73
  go_wp2
  go_ret
  exact ⟨rfl, rfl⟩
theorem c_normalize1 (w : World) : Calls Try.prog 76 #[.float .f64 4607182418800017408] w fun e w' => e = .returned (.tuple #[.float .f64 4607182418800017408, .int .i64 0]) ∧ w = w' := by
  have h := o1s
  go_enter Try.func76, Try.ntmps76
  go_wp2_with (go_at_call 81; refine (c_Abs1 _).mono ?_; rintro e w' ⟨rfl, rfl⟩)
  go_ret2
  exact ⟨rfl, rfl⟩
/-- 2 to a whole number -/
def ldw (k : Int) : Nat := (k + 1023).toNat * 4503599627370496
theorem c_ldexp1 (k : Int) (hk : -100 ≤ k ∧ k ≤ 100) (hm : fok .mul .f64 4607182418800017408 (ldw k) = true) (hm2 : fv .mul .f64 4607182418800017408 (ldw k) = ldw k) (w : World) : Calls Try.prog 72 #[.float .f64 4607182418800017408, .int .i64 k] w fun e w' => e = .returned (.float .f64 (ldw k)) ∧ w = w' := by
  have h1 := o1z
  have h2 := b2
  have h3 := b3
  have h4 : bits .or .u64 0 ((k + 1023) * 4503599627370496) = ((ldw k : Nat) : Int) := by
    have e : (k + 1023) * 4503599627370496 = ((ldw k : Nat) : Int) := by unfold ldw; omega
    rw [e]
    exact (bits_or_u64_nat 0 (ldw k) (by omega) (by unfold ldw; omega)).trans (by rw [Nat.zero_or])
  have k0 := hk.1
  have k1 := hk.2
  go_enter Try.func72, Try.ntmps72
  go_wp2_with (first | (go_at_call 74; refine (c_IsInf1 _).mono ?_; rintro e w' ⟨rfl, rfl⟩) | (go_at_call 73; refine (c_IsNaN1 _).mono ?_; rintro e w' ⟨rfl, rfl⟩) | (go_at_call 76; refine (c_normalize1 _).mono ?_; rintro e w' ⟨rfl, rfl⟩))
  go_ret
  exact ⟨rfl, rfl⟩
theorem c_Ldexp1 (k : Int) (hk : -100 ≤ k ∧ k ≤ 100) (hm : fok .mul .f64 4607182418800017408 (ldw k) = true) (hm2 : fv .mul .f64 4607182418800017408 (ldw k) = ldw k) (w : World) : Calls Try.prog 64 #[.float .f64 4607182418800017408, .int .i64 k] w fun e w' => e = .returned (.float .f64 (ldw k)) ∧ w = w' := by
  go_enter Try.func64, Try.ntmps64
  go_wp2_with (go_at_call 72; refine (c_ldexp1 k hk hm hm2 _).mono ?_; rintro e w' ⟨rfl, rfl⟩)
  go_ret
  exact ⟨rfl, rfl⟩
theorem ldw_up (n : Nat) (hn : n ≤ 100) : ldw (n : Int) = 4607182418800017408 + n * 4503599627370496 := by unfold ldw; omega
theorem ldw_dn (n : Nat) (hn : n ≤ 100) : ldw (-(n : Int)) = 4607182418800017408 - n * 4503599627370496 := by unfold ldw; omega
theorem c_twoTo_false (x n : Nat) (h : TwoOk x false n) (w : World) : Calls Try.prog 45 #[.float .f32 x] w fun e w' => e = .returned (.float .f32 (twoV x false n)) ∧ w = w' := by
  have hcv := fun (w : World) => run_cv (P := Try.prog) w 22 37 (by kernel_rfl) Try.underlying37 x h.cvx
  have hcw := fun (w : World) => run_convert_float_float (P := Try.prog) w 37 22 .f64 .f32 _ _ (by kernel_rfl) Try.underlying22 h.cvt
  have HF := Lib.hid (fun w => c_Floor (cv x) false n h.fl w)
  have o1 := h.sub
  have o2 := h.mul
  have hn := h.n100
  have HY := Lib.hid h.yle
  have ey : fv .mul .f64 (fv .sub .f64 (cv x) (fN false n)) 4604418534313441775 = twoY x false n := rfl
  clear h
  have hci := fun (w : World) => run_convert_float_int (P := Try.prog) w 37 3 .f64 .i64 _ _ (by kernel_rfl) Try.underlying3 (cnt64_ok n hn).up
  generalize twoY x false n = y at *
  have HS := Lib.hid (fun j (hj : j < 14) => hsum_step HY.out hj)
  have HB := Lib.hid (hsum_ok HY.out 14 (Nat.le_refl _))
  have HC := Lib.hid cap14
  have H0 := Lib.hid (show hsum y 0 = 4607182418800017408 from rfl)
  have H1 := Lib.hid (fun j => show hsum y (j + 1) = hstep y (floatOfInt .f64 ((14 - j : Nat) : Int)) (hsum y j) from rfl)
  have HW := Lib.hid (show twoW false n y = hsum y 14 + n * 4503599627370496 by unfold twoW; rw [if_neg (by decide)])
  generalize twoW false n y = W at *
  generalize twoV x false n = V at *
  generalize hsum y = hs at *
  generalize fN false n = K at *
  go_enter Try.func45, Try.ntmps45
  go_wp2_with (go_at_call 63; refine (HF.out _).mono ?_; rintro e w1 ⟨rfl, rfl⟩)
  go_loopg [5, 6] 14 (fun k s m wr => w = wr ∧ ∃ sn : Nat, k ≤ 14 ∧ s = .float .f64 sn ∧ sn = hs (14 - k) ∧ m = .int .i64 (k : Int))
  case atStart => exact ⟨rfl, _, by omega, rfl, H0.out.symm, rfl⟩
  case round =>
    obtain ⟨rfl, sn, hk, rfl, hsn, rfl⟩ := hrel
    have HSN := Lib.hid hsn
    clear hsn
    cases gk with
    | succ k =>
      have hge : (1 : Int) ≤ (k : Int) + 1 := by omega
      have hk14 : k < 14 := by omega
      have hkk : 14 - (14 - (k + 1)) = k + 1 := by omega
      have hh := HS.out (14 - (k + 1)) (by omega)
      rw [hkk, ← HSN.out, show ((k + 1 : Nat) : Int) = (k : Int) + 1 by omega] at hh
      have q1 := hh.o1
      have q2 := hh.o2
      have q3 := hh.o3
      have HN := Lib.hid (show fv .add .f64 4607182418800017408 (fv .mul .f64 (fv .quo .f64 y (floatOfInt .f64 ((k : Int) + 1))) sn) = hs (14 - k) by
        have := H1.out (14 - (k + 1))
        rw [hkk, ← HSN.out, show 14 - (k + 1) + 1 = 14 - k by omega, show ((k + 1 : Nat) : Int) = (k : Int) + 1 by omega] at this
        exact this.symm)
      clear hh hkk
      go_wp2
      go_roundg k
      case rel => exact ⟨rfl, _, by omega, rfl, HN.out, by go_num⟩
      case measure => omega
    | zero =>
      have HE := Lib.hid (show sn = hs 14 from HSN.out)
      have hS1 := HB.out.1
      have hS2 := Nat.le_trans HB.out.2.1 HC.out
      rw [← HE.out] at hS1 hS2
      have hl := ldw_up n hn
      obtain ⟨a1, a2⟩ := mul_pw64 (a := 4607182418800017408) (k := n) (by omega) (by omega) (by omega)
      obtain ⟨m1, m2⟩ := mul_pw64 (a := sn) (k := n) (by omega) (by omega) (by omega)
      rw [← hl] at a1 a2 m1 m2
      have hW : fv .mul .f64 sn (ldw (n : Int)) = W := by rw [m2, HW.out, HE.out]
      have HL := Lib.hid (fun w => c_Ldexp1 (n : Int) (by omega) a1 a2 w)
      clear a1 a2 m2 hl hS1 hS2
      generalize ldw (n : Int) = L at *
      go_wp2_with (go_at_call 64; refine (HL.out _).mono ?_; rintro e w1 ⟨rfl, rfl⟩)
      go_ret
      exact ⟨rfl, rfl⟩
theorem c_twoTo_true (x n : Nat) (h : TwoOk x true n) (w : World) : Calls Try.prog 45 #[.float .f32 x] w fun e w' => e = .returned (.float .f32 (twoV x true n)) ∧ w = w' := by
  have hcv := fun (w : World) => run_cv (P := Try.prog) w 22 37 (by kernel_rfl) Try.underlying37 x h.cvx
  have hcw := fun (w : World) => run_convert_float_float (P := Try.prog) w 37 22 .f64 .f32 _ _ (by kernel_rfl) Try.underlying22 h.cvt
  have HF := Lib.hid (fun w => c_Floor (cv x) true n h.fl w)
  have o1 := h.sub
  have o2 := h.mul
  have hn := h.n100
  have HY := Lib.hid h.yle
  have ey : fv .mul .f64 (fv .sub .f64 (cv x) (fN true n)) 4604418534313441775 = twoY x true n := rfl
  clear h
  have hci := fun (w : World) => run_convert_float_int (P := Try.prog) w 37 3 .f64 .i64 _ _ (by kernel_rfl) Try.underlying3 (cnt64_ok n hn).dn
  generalize twoY x true n = y at *
  have HS := Lib.hid (fun j (hj : j < 14) => hsum_step HY.out hj)
  have HB := Lib.hid (hsum_ok HY.out 14 (Nat.le_refl _))
  have HC := Lib.hid cap14
  have H0 := Lib.hid (show hsum y 0 = 4607182418800017408 from rfl)
  have H1 := Lib.hid (fun j => show hsum y (j + 1) = hstep y (floatOfInt .f64 ((14 - j : Nat) : Int)) (hsum y j) from rfl)
  have HW := Lib.hid (show twoW true n y = hsum y 14 - n * 4503599627370496 by unfold twoW; rw [if_pos rfl])
  generalize twoW true n y = W at *
  generalize twoV x true n = V at *
  generalize hsum y = hs at *
  generalize fN true n = K at *
  go_enter Try.func45, Try.ntmps45
  go_wp2_with (go_at_call 63; refine (HF.out _).mono ?_; rintro e w1 ⟨rfl, rfl⟩)
  go_loopg [5, 6] 14 (fun k s m wr => w = wr ∧ ∃ sn : Nat, k ≤ 14 ∧ s = .float .f64 sn ∧ sn = hs (14 - k) ∧ m = .int .i64 (k : Int))
  case atStart => exact ⟨rfl, _, by omega, rfl, H0.out.symm, rfl⟩
  case round =>
    obtain ⟨rfl, sn, hk, rfl, hsn, rfl⟩ := hrel
    have HSN := Lib.hid hsn
    clear hsn
    cases gk with
    | succ k =>
      have hge : (1 : Int) ≤ (k : Int) + 1 := by omega
      have hk14 : k < 14 := by omega
      have hkk : 14 - (14 - (k + 1)) = k + 1 := by omega
      have hh := HS.out (14 - (k + 1)) (by omega)
      rw [hkk, ← HSN.out, show ((k + 1 : Nat) : Int) = (k : Int) + 1 by omega] at hh
      have q1 := hh.o1
      have q2 := hh.o2
      have q3 := hh.o3
      have HN := Lib.hid (show fv .add .f64 4607182418800017408 (fv .mul .f64 (fv .quo .f64 y (floatOfInt .f64 ((k : Int) + 1))) sn) = hs (14 - k) by
        have := H1.out (14 - (k + 1))
        rw [hkk, ← HSN.out, show 14 - (k + 1) + 1 = 14 - k by omega, show ((k + 1 : Nat) : Int) = (k : Int) + 1 by omega] at this
        exact this.symm)
      clear hh hkk
      go_wp2
      go_roundg k
      case rel => exact ⟨rfl, _, by omega, rfl, HN.out, by go_num⟩
      case measure => omega
    | zero =>
      have HE := Lib.hid (show sn = hs 14 from HSN.out)
      have hS1 := HB.out.1
      have hS2 := Nat.le_trans HB.out.2.1 HC.out
      rw [← HE.out] at hS1 hS2
      have hl := ldw_dn n hn
      obtain ⟨a1, a2⟩ := mul_pn64 (a := 4607182418800017408) (k := n) (by omega) (by omega) (by omega)
      obtain ⟨m1, m2⟩ := mul_pn64 (a := sn) (k := n) (by omega) (by omega) (by omega)
      rw [← hl] at a1 a2 m1 m2
      have hW : fv .mul .f64 sn (ldw (-(n : Int))) = W := by rw [m2, HW.out, HE.out]
      have HL := Lib.hid (fun w => c_Ldexp1 (-(n : Int)) (by omega) a1 a2 w)
      clear a1 a2 m2 hl hS1 hS2
      generalize ldw (-(n : Int)) = L at *
      go_wp2_with (go_at_call 64; refine (HL.out _).mono ?_; rintro e w1 ⟨rfl, rfl⟩)
      go_ret
      exact ⟨rfl, rfl⟩
/-- powers of two, both ways the same -/
theorem two_both (s : Bool) (r : Nat) (hr : r ≤ 1120403456) : ∃ n v, n ≤ 100 ∧ 1065353216 - n * 8388608 ≤ v ∧ v ≤ 1065353216 + (n + 4) * 8388608 ∧
    (∀ w, Calls Try.prog 44 #[.float .f32 (D32.word s r)] w fun e w' => e = .returned (.float .f32 v) ∧ w = w') ∧ (∀ w, Calls Try.prog 45 #[.float .f32 (D32.word s r)] w fun e w' => e = .returned (.float .f32 v) ∧ w = w') := by
  obtain ⟨n, h⟩ := two_ok s r hr
  refine ⟨n, twoV (D32.word s r) s n, h.n100, h.lo, h.hi, ?_, ?_⟩
  · intro w
    cases s
    · exact c_l02Two_false _ n h w
    · exact c_l02Two_true _ n h w
  · intro w
    cases s
    · exact c_twoTo_false _ n h w
    · exact c_twoTo_true _ n h w
def in100 (x : Nat) : Bool := (FloatKind.f32.format.order x 3267887104 == some .gt || FloatKind.f32.format.order x 3267887104 == some .eq) && (FloatKind.f32.format.order x 1120403456 == some .lt || FloatKind.f32.format.order x 1120403456 == some .eq)
theorem in100_word {x : Nat} (hx : x < 4294967296) (h : in100 x = true) : ∃ s r, x = D32.word s r ∧ r ≤ 1120403456 := by
  unfold in100 at h
  rw [Bool.and_eq_true] at h
  exact rng (W := 1120403456) hx (by omega) h.1 h.2
theorem two_in {x : Nat} (hx : x < 4294967296) (h : in100 x = true) : ∃ v, v < 2139095040 ∧
    (∀ w, Calls Try.prog 44 #[.float .f32 x] w fun e w' => e = .returned (.float .f32 v) ∧ w = w') ∧ (∀ w, Calls Try.prog 45 #[.float .f32 x] w fun e w' => e = .returned (.float .f32 v) ∧ w = w') := by
  obtain ⟨s, r, rfl, hr⟩ := in100_word hx h
  obtain ⟨n, v, h1, _, h3, h4, h5⟩ := two_both s r hr
  exact ⟨v, by omega, h4, h5⟩
theorem c_specTwoTo (x v : Nat) (c : Int) (hT : in100 x = true → (∀ w, Calls Try.prog 44 #[.float .f32 x] w fun e w' => e = .returned (.float .f32 v) ∧ w = w') ∧ c = 0) (hF : in100 x = false → v = 0 ∧ c = 2) (w : World) : Calls Try.prog 19 #[.float .f32 x] w fun e w' => e = .returned (.tuple #[.float .f32 v, .int .i64 c]) ∧ w = w' := by
  cases h1 : (FloatKind.f32.format.order x 3267887104 == some .gt || FloatKind.f32.format.order x 3267887104 == some .eq)
  · obtain ⟨rfl, rfl⟩ := hF (by unfold in100; rw [h1]; rfl)
    clear hT hF
    go_enter Try.func19, Try.ntmps19
    go_wp2
    go_ret2
    exact ⟨rfl, rfl⟩
  cases h2 : (FloatKind.f32.format.order x 1120403456 == some .lt || FloatKind.f32.format.order x 1120403456 == some .eq)
  · obtain ⟨rfl, rfl⟩ := hF (by unfold in100; rw [h1, h2]; rfl)
    clear hT hF
    go_enter Try.func19, Try.ntmps19
    go_wp2
    go_ret2
    exact ⟨rfl, rfl⟩
  obtain ⟨hc, rfl⟩ := hT (by unfold in100; rw [h1, h2]; rfl)
  have HC := Lib.hid hc
  clear hc hT hF
  go_enter Try.func19, Try.ntmps19
  go_wp2_with (go_at_call 44; refine (HC.out _).mono ?_; rintro e w1 ⟨rfl, rfl⟩)
  go_ret2
  exact ⟨rfl, rfl⟩
theorem c_implTwoTo (x v : Nat) (c : Int) (hT : in100 x = true → (∀ w, Calls Try.prog 45 #[.float .f32 x] w fun e w' => e = .returned (.float .f32 v) ∧ w = w') ∧ c = 0) (hF : in100 x = false → v = 0 ∧ c = 2) (w : World) : Calls Try.prog 20 #[.float .f32 x] w fun e w' => e = .returned (.tuple #[.float .f32 v, .int .i64 c]) ∧ w = w' := by
  cases h1 : (FloatKind.f32.format.order x 3267887104 == some .gt || FloatKind.f32.format.order x 3267887104 == some .eq)
  · obtain ⟨rfl, rfl⟩ := hF (by unfold in100; rw [h1]; rfl)
    clear hT hF
    go_enter Try.func20, Try.ntmps20
    go_wp2
    go_ret2
    exact ⟨rfl, rfl⟩
  cases h2 : (FloatKind.f32.format.order x 1120403456 == some .lt || FloatKind.f32.format.order x 1120403456 == some .eq)
  · obtain ⟨rfl, rfl⟩ := hF (by unfold in100; rw [h1, h2]; rfl)
    clear hT hF
    go_enter Try.func20, Try.ntmps20
    go_wp2
    go_ret2
    exact ⟨rfl, rfl⟩
  obtain ⟨hc, rfl⟩ := hT (by unfold in100; rw [h1, h2]; rfl)
  have HC := Lib.hid hc
  clear hc hT hF
  go_enter Try.func20, Try.ntmps20
  go_wp2_with (go_at_call 45; refine (HC.out _).mono ?_; rintro e w1 ⟨rfl, rfl⟩)
  go_ret2
  exact ⟨rfl, rfl⟩
theorem walk_FnExactTwoTo (x : Nat) (hx : x < 4294967296) (w : World) : Calls Try.prog 5 #[.float .f32 x] w fun e w' => e = .returned (.bool true) ∧ Below w.heap.size w w' := by
  have hcv := fun (x : Nat) (h : cvok x = true) (w : World) => run_cv (P := Try.prog) w 22 37 (by kernel_rfl) Try.underlying37 x h
  obtain ⟨v, c, hv, hS, hI⟩ : ∃ (v : Nat) (c : Int), v ≤ 2139095040 ∧ (∀ w, Calls Try.prog 19 #[.float .f32 x] w fun e w' => e = .returned (.tuple #[.float .f32 v, .int .i64 c]) ∧ w = w') ∧ (∀ w, Calls Try.prog 20 #[.float .f32 x] w fun e w' => e = .returned (.tuple #[.float .f32 v, .int .i64 c]) ∧ w = w') := by
    cases h : in100 x
    · exact ⟨0, 2, by omega, c_specTwoTo x 0 2 (fun q => by rw [h] at q; cases q) (fun _ => ⟨rfl, rfl⟩), c_implTwoTo x 0 2 (fun q => by rw [h] at q; cases q) (fun _ => ⟨rfl, rfl⟩)⟩
    · obtain ⟨v, h1, h2, h3⟩ := two_in hx h
      exact ⟨v, 0, by omega, c_specTwoTo x v 0 (fun _ => ⟨h2, rfl⟩) (fun q => by rw [h] at q; cases q), c_implTwoTo x v 0 (fun _ => ⟨h3, rfl⟩) (fun q => by rw [h] at q; cases q)⟩
  obtain ⟨h1, h2⟩ := cv_ok hv
  have HS := Lib.hid hS
  have HI := Lib.hid hI
  have H2 := Lib.hid h2
  clear hS hI h2
  go_enter Try.func5, Try.ntmps5
  go_wp2_with (first | (go_at_call 19; refine (HS.out _).mono ?_; rintro e w1 ⟨rfl, rfl⟩) | (go_at_call 20; refine (HI.out _).mono ?_; rintro e w1 ⟨rfl, rfl⟩) | (go_at_call 18; refine (c_sameFloat _ H2.out _).mono ?_; rintro e w1 ⟨rfl, rfl⟩))
  go_ret
  exact ⟨rfl, Below.refl _ _⟩
end Go.Proofs.Ytgjibocemffjhaa
