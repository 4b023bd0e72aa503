/-
  Contracts and the walk: third roots.
-/
import Derived.Test.YtjhognfkjdccfaaThr3
import Derived.Test.YtjhognfkjdccfaaRad
namespace Go.Proofs.Ytjhognfkjdccfaa
open Go.RowKit Fl
set_option maxRecDepth 20000
set_option maxHeartbeats 4000000
set_option linter.unusedSimpArgs false
theorem c_specThirdRoot (a : Nat) (ha : a < 4294967296) (v : Nat) (c : Int) (hT : amtB a = true → third a = some v ∧ c = 0) (hF : amtB a = false → v = 0 ∧ c = 2) (w : World) : Calls Try.prog 13 #[.float .f32 a] w fun e w' => e = .returned (.tuple #[.float .f32 v, .int .i64 c]) ∧ Below w.heap.size w w' := by
  have b0 : Below w.heap.size w w := Below.refl _ _
  cases hf1 : amtB a
  · obtain ⟨rfl, rfl⟩ := hF hf1
    clear hT hF
    go_enter Try.func13, Try.ntmps13
    go_wp2_with (go_at_call 33; with_reducible refine (c_l01Amount a ha _).mono ?_; rw [hf1]; rintro e w1 ⟨rfl, hdr⟩; have hb := drew_below hdr; clear hdr; skip; have b0 := b0.trans (hb.mono b0.size); clear hb)
    go_ret2
    exact ⟨rfl, b0⟩
  obtain ⟨hv, rfl⟩ := hT hf1
  have HC := Lib.hid (fun w => c_l01Third a hf1 v hv w)
  clear hT hF hv
  go_enter Try.func13, Try.ntmps13
  go_wp2_with (first | (go_at_call 33; with_reducible refine (c_l01Amount a ha _).mono ?_; rw [hf1]; rintro e w1 ⟨rfl, hdr⟩; have hb := drew_below hdr; clear hdr; skip; have b0 := b0.trans (hb.mono b0.size); clear hb) | (go_at_call 34; refine (HC.out _).mono ?_; rintro e w2 ⟨rfl, rfl⟩))
  go_ret2
  exact ⟨rfl, b0⟩
theorem c_implThirdRoot (a : Nat) (ha : a < 4294967296) (v : Nat) (c : Int) (hT : amtB a = true → third a = some v ∧ c = 0) (hF : amtB a = false → v = 0 ∧ c = 2) (w : World) : Calls Try.prog 14 #[.float .f32 a] w fun e w' => e = .returned (.tuple #[.float .f32 v, .int .i64 c]) ∧ Below w.heap.size w w' := by
  have b0 : Below w.heap.size w w := Below.refl _ _
  cases hf1 : amtB a
  · obtain ⟨rfl, rfl⟩ := hF hf1
    clear hT hF
    go_enter Try.func14, Try.ntmps14
    go_wp2_with (go_at_call 35; with_reducible refine (c_isAmount a ha _).mono ?_; rw [hf1]; rintro e w1 ⟨rfl, hb⟩; skip; have b0 := b0.trans (hb.mono b0.size); clear hb)
    go_ret2
    exact ⟨rfl, b0⟩
  obtain ⟨hv, rfl⟩ := hT hf1
  have HC := Lib.hid (fun w => c_thirdRoot a hf1 v hv w)
  clear hT hF hv
  go_enter Try.func14, Try.ntmps14
  go_wp2_with (first | (go_at_call 35; with_reducible refine (c_isAmount a ha _).mono ?_; rw [hf1]; rintro e w1 ⟨rfl, hb⟩; skip; have b0 := b0.trans (hb.mono b0.size); clear hb) | (go_at_call 36; refine (HC.out _).mono ?_; rintro e w2 ⟨rfl, rfl⟩))
  go_ret2
  exact ⟨rfl, b0⟩
theorem walk_FnExactThirdRoot (a : Nat) (ha : a < 4294967296) (w : World) : Calls Try.prog 4 #[.float .f32 a] w fun e w' => e = .returned (.bool true) ∧ Below w.heap.size w w' := by
  have hcv := fun (x : Nat) (h : cvok x = true) (w : World) => run_cv (P := Try.prog) w 22 26 (by kernel_rfl) Try.underlying26 x h
  obtain ⟨v, c, hv, hS, hI⟩ : ∃ (v : Nat) (c : Int), v ≤ 2139095040 ∧ (∀ w, Calls Try.prog 13 #[.float .f32 a] w fun e w' => e = .returned (.tuple #[.float .f32 v, .int .i64 c]) ∧ Below w.heap.size w w') ∧ (∀ w, Calls Try.prog 14 #[.float .f32 a] w fun e w' => e = .returned (.tuple #[.float .f32 v, .int .i64 c]) ∧ Below w.heap.size w w') := by
    cases h : amtB a
    · exact ⟨0, 2, by omega, c_specThirdRoot a ha 0 2 (fun q => by rw [h] at q; cases q) (fun _ => ⟨rfl, rfl⟩), c_implThirdRoot a ha 0 2 (fun q => by rw [h] at q; cases q) (fun _ => ⟨rfl, rfl⟩)⟩
    · obtain ⟨v, h1, h2⟩ := third_ok h
      exact ⟨v, 0, h2, c_specThirdRoot a ha v 0 (fun _ => ⟨h1, rfl⟩) (fun q => by rw [h] at q; cases q), c_implThirdRoot a ha v 0 (fun _ => ⟨h1, rfl⟩) (fun q => by rw [h] at q; cases q)⟩
  obtain ⟨h1, h2⟩ := cv_ok hv
  have HS := Lib.hid hS
  have HI := Lib.hid hI
  have H2 := Lib.hid h2
  clear hS hI h2
  have b0 : Below w.heap.size w w := Below.refl _ _
  go_enter Try.func4, Try.ntmps4
  go_wp2_with (first | (go_at_call 13; with_reducible refine (HS.out _).mono ?_; rintro e w1 ⟨rfl, hb⟩; skip; have b0 := b0.trans (hb.mono b0.size); clear hb) | (go_at_call 14; with_reducible refine (HI.out _).mono ?_; rintro e w1 ⟨rfl, hb⟩; skip; have b0 := b0.trans (hb.mono b0.size); clear hb) | (go_at_call 12; refine (c_sameFloat _ H2.out _).mono ?_; rintro e w1 ⟨rfl, rfl⟩))
  go_ret
  exact ⟨rfl, b0⟩
end Go.Proofs.Ytjhognfkjdccfaa
