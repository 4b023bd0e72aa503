/-
  Contracts and walks: valid airs, code names.
-/
import Derived.Test.YtgjibocemffjhaaAir2
namespace Go.Proofs.Ytgjibocemffjhaa
open Go.RowKit Fl

/-- a heat -/
def heatB (h : Nat) : Bool := (FloatKind.f32.format.order h 3262119936 == some .gt || FloatKind.f32.format.order h 3262119936 == some .eq) && (FloatKind.f32.format.order h 1114636288 == some .lt || FloatKind.f32.format.order h 1114636288 == some .eq)
/-- at most 1000 -/
def le1000 (v : Nat) : Bool := FloatKind.f32.format.order v 1148846080 == some .lt || FloatKind.f32.format.order v 1148846080 == some .eq
def airB (h v : Nat) : Bool := heatB h && amtB v && le1000 v

theorem c_isHeat (h : Nat) (w : World) : Calls Try.prog 48 #[.float .f32 h] w fun e w' => e = .returned (.bool (heatB h)) ∧ w = w' := by
  cases h1 : (FloatKind.f32.format.order h 3262119936 == some .gt || FloatKind.f32.format.order h 3262119936 == some .eq)
  · have hR := Lib.hid (show heatB h = false by simp only [heatB, h1, Bool.false_and])
    go_enter Try.func48, Try.ntmps48
    go_wp2
    go_ret
    exact ⟨ret_bool hR.out, rfl⟩
  · have hR := Lib.hid (show heatB h = (FloatKind.f32.format.order h 1114636288 == some .lt || FloatKind.f32.format.order h 1114636288 == some .eq) by simp only [heatB, h1, Bool.true_and])
    go_enter Try.func48, Try.ntmps48
    go_wp2
    go_ret
    exact ⟨ret_bool hR.out, rfl⟩
theorem c_l02Heat (h : Nat) (w : World) : Calls Try.prog 46 #[.float .f32 h] w fun e w' => e = .returned (.bool (heatB h)) ∧ w = w' := by
  cases h1 : (FloatKind.f32.format.order h 3262119936 == some .gt || FloatKind.f32.format.order h 3262119936 == some .eq)
  · have hR := Lib.hid (show heatB h = false by simp only [heatB, h1, Bool.false_and])
    go_enter Try.func46, Try.ntmps46
    go_wp2
    go_ret
    exact ⟨ret_bool hR.out, rfl⟩
  · have hR := Lib.hid (show heatB h = (FloatKind.f32.format.order h 1114636288 == some .lt || FloatKind.f32.format.order h 1114636288 == some .eq) by simp only [heatB, h1, Bool.true_and])
    go_enter Try.func46, Try.ntmps46
    go_wp2
    go_ret
    exact ⟨ret_bool hR.out, rfl⟩

theorem c_l02Ok (h v : Nat) (hv : v < 4294967296) (g : Nat) (t : TypeId) (w : World) (hg : Holds w g t #[.float .f32 h, .float .f32 v]) :
    Calls Try.prog 32 #[.pointer (some ⟨g, 0, none⟩)] w fun e w' => e = .returned (.bool (airB h v)) ∧ Drew w w' := by
  have k0 : w.cell? ⟨g, 0, none⟩ = some (.float .f32 h) := hg.cell 0
  have k1 : w.cell? ⟨g, 1, none⟩ = some (.float .f32 v) := hg.cell 1
  cases h1 : heatB h
  · have hR := Lib.hid (show airB h v = false by simp only [airB, h1, Bool.false_and])
    go_enter Try.func32, Try.ntmps32
    go_wp2_with (go_at_call 46; refine (c_l02Heat _ _).mono ?_; rintro e w' ⟨rfl, rfl⟩)
    go_ret
    exact ⟨ret_bool hR.out, Drew.refl _⟩
  · cases h2 : amtB v
    · have hR := Lib.hid (show airB h v = false by simp only [airB, h1, h2, Bool.true_and, Bool.false_and])
      go_enter Try.func32, Try.ntmps32
      go_wp2_with (first | (go_at_call 46; refine (c_l02Heat _ _).mono ?_; rintro e w' ⟨rfl, rfl⟩) | (go_at_call 52; refine (c_l01Amount _ hv _).mono ?_; rintro e w' ⟨rfl, n, rfl⟩))
      go_ret
      exact ⟨ret_bool hR.out, n, rfl⟩
    · have hR := Lib.hid (show airB h v = le1000 v by simp only [airB, h1, h2, Bool.true_and])
      go_enter Try.func32, Try.ntmps32
      go_wp2_with (first | (go_at_call 46; refine (c_l02Heat _ _).mono ?_; rintro e w' ⟨rfl, rfl⟩) | (go_at_call 52; refine (c_l01Amount _ hv _).mono ?_; rintro e w' ⟨rfl, n, rfl⟩))
      go_ret
      exact ⟨ret_bool hR.out, n, rfl⟩


theorem c_ValidAir (h v : Nat) (hv : v < 4294967296) (w : World) : Calls Try.prog 35 #[.agg #[.float .f32 h, .float .f32 v]] w fun e w' => e = .returned (.bool (airB h v)) ∧ Below w.heap.size w w' := by
  cases h1 : heatB h
  · have hR := Lib.hid (show airB h v = false by simp only [airB, h1, Bool.false_and])
    go_enter Try.func35, Try.ntmps35
    go_wp2_with (go_at_call 48; refine (c_isHeat _ _).mono ?_; rintro e w' ⟨rfl, rfl⟩)
    go_ret
    exact ⟨ret_bool hR.out, (Below.refl _ _).alloc (by simp) _⟩
  · cases h2 : amtB v
    · have hR := Lib.hid (show airB h v = false by simp only [airB, h1, h2, Bool.true_and, Bool.false_and])
      go_enter Try.func35, Try.ntmps35
      go_wp2_with (first | (go_at_call 48; refine (c_isHeat _ _).mono ?_; rintro e w' ⟨rfl, rfl⟩) | (go_at_call 54; refine (c_isAmount _ hv _).mono ?_; rintro e w' ⟨rfl, hb⟩))
      go_ret
      exact ⟨ret_bool hR.out, ((Below.refl _ _).alloc (by simp) _).trans (hb.mono (by simp))⟩
    · have hR := Lib.hid (show airB h v = le1000 v by simp only [airB, h1, h2, Bool.true_and])
      go_enter Try.func35, Try.ntmps35
      go_wp2_with (first | (go_at_call 48; refine (c_isHeat _ _).mono ?_; rintro e w' ⟨rfl, rfl⟩) | (go_at_call 54; refine (c_isAmount _ hv _).mono ?_; rintro e w' ⟨rfl, hb⟩; have hc1 : w'.cell? ⟨w.heap.size, 1, none⟩ = some (.float .f32 v) := (hb.cell (by simp)).trans ((Holds.new w _ _).cell 1)))
      go_ret
      exact ⟨ret_bool hR.out, ((Below.refl _ _).alloc (by simp) _).trans (hb.mono (by simp))⟩



end Go.Proofs.Ytgjibocemffjhaa
