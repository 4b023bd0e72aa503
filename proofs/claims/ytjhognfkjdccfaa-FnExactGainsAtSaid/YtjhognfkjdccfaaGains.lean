/-
  Contracts and the walk: gains of all classes.
-/
import Derived.Test.YtjhognfkjdccfaaRad
import Derived.Test.YtjhognfkjdccfaaReg
namespace Go.Proofs.Ytjhognfkjdccfaa
open Go.RowKit Fl
set_option maxRecDepth 20000
set_option maxHeartbeats 4000000
set_option linter.unusedSimpArgs false

theorem fin_w {x : Nat} (hx : x < 4294967296) (h : isfin x = true) : ∃ s r, x = FloatKind.f32.format.word s r ∧ r < 2139095040 := by
  have h := of_decide_eq_true h
  rcases Nat.lt_or_ge x 2147483648 with q | q
  · exact ⟨false, x, rfl, by omega⟩
  · exact ⟨true, x - 2147483648, by show x = 2147483648 + (x - 2147483648); omega, by omega⟩
def gv (e t k : Nat) : Nat := fv .mul .f32 (fv .mul .f32 (rad k) e) t
def ng (k : Nat) : Nat := Op.negFloat .f32 (mb k)
theorem ng_eq (k : Nat) (hk : k < 20) : ng k = 2147483648 + mb k := by
  have h : decide (ng k = 2147483648 + mb k) = true := by
    revert hk
    refine below20 (p := fun k => decide (ng k = 2147483648 + mb k) = true) ?_ ?_ ?_ ?_ ?_ ?_ ?_ ?_ ?_ ?_ ?_ ?_ ?_ ?_ ?_ ?_ ?_ ?_ ?_ ?_ k <;> kernel_rfl
  exact of_decide_eq_true h
def gtm (e t k : Nat) : Bool := FloatKind.f32.format.order (gv e t k) (mb k) == some .gt
def ltm (e t k : Nat) : Bool := FloatKind.f32.format.order (gv e t k) (ng k) == some .lt
/-- a gain, held -/
def cl (e t k : Nat) : Nat := if gtm e t k then mb k else if ltm e t k then ng k else gv e t k
def gok (e t k : Nat) : Bool := fok .mul .f32 (fv .mul .f32 (rad k) e) t
theorem rad_mul {e : Nat} (he : e < 4294967296) (hf : isfin e = true) (k : Nat) (hk : k < 20) : fok .mul .f32 (rad k) e = true := by
  obtain ⟨s, r, rfl, hr⟩ := fin_w he hf
  obtain ⟨q, h1, _⟩ := mul_spec FloatKind.f32.format (fmt_ok .f32).1 false s (rad k) r (rad_fin k hk) hr
  exact (fok_of (op := .mul) (k := .f32) (x := rad k) h1).1
theorem key_p {m : Nat} (h : m ≤ 2139095040) : key FloatKind.f32.format m = (m : Int) := key_word FloatKind.f32.format false m h
theorem key_n {m : Nat} (h : m ≤ 2139095040) : key FloatKind.f32.format (2147483648 + m) = -(m : Int) := key_word FloatKind.f32.format true m h
theorem num_n {m : Nat} (h : m ≤ 2139095040) : num FloatKind.f32.format (2147483648 + m) := num_word FloatKind.f32.format true m h
theorem lt_neg {m : Nat} (h : m < 2139095040) (h0 : 0 < m) : (FloatKind.f32.format.order m (2147483648 + m) == some .lt) = false := by
  rw [ord_num (num_of_le (Nat.le_of_lt h)) (num_n (Nat.le_of_lt h)), key_p (Nat.le_of_lt h), key_n (Nat.le_of_lt h), Int.compare_eq_gt.2 (by omega)]; rfl
theorem mn_lt (k : Nat) (hk : k < 20) : (FloatKind.f32.format.order (mb k) (ng k) == some .lt) = false := by
  rw [ng_eq k hk]
  exact lt_neg (mb_fin k hk).1 (mb_fin k hk).2
theorem held {g m : Nat} (hl : g < 4294967296) (hn : isnum g = true) (hm : m < 2139095040) (h1 : ¬ (FloatKind.f32.format.order g m == some .gt) = true) (h2 : ¬ (FloatKind.f32.format.order g (2147483648 + m) == some .lt) = true) : isfin g = true := by
  cases hf : isfin g
  · exfalso
    have hf := of_decide_eq_false hf
    have hn' := of_decide_eq_true hn
    have hnum := num_of hl hn
    have hg : g = 2139095040 ∨ g = 2147483648 + 2139095040 := by omega
    rw [ord_num hnum (num_of_le (Nat.le_of_lt hm)), key_p (Nat.le_of_lt hm)] at h1
    rw [ord_num hnum (num_n (Nat.le_of_lt hm)), key_n (Nat.le_of_lt hm)] at h2
    rcases hg with q | q
    · rw [q, key_p (Nat.le_refl _), Int.compare_eq_gt.2 (by omega)] at h1
      exact h1 rfl
    · rw [q, key_n (Nat.le_refl _), Int.compare_eq_lt.2 (by omega)] at h2
      exact h2 rfl
  · rfl
theorem fin_pn {m : Nat} (h : m < 2139095040) : (m < 4294967296 ∧ isfin m = true) ∧ (2147483648 + m < 4294967296 ∧ isfin (2147483648 + m) = true) :=
  ⟨⟨by omega, decide_eq_true (by omega)⟩, by omega, decide_eq_true (by omega)⟩
theorem cl_fin {e t k : Nat} (hk : k < 20) (h : gok e t k = true) : cl e t k < 4294967296 ∧ isfin (cl e t k) = true := by
  have hb := (mb_fin k hk).1
  have hl : gv e t k < 4294967296 := fv_lt h
  have hn : isnum (gv e t k) = true := fv_num h
  have hng := ng_eq k hk
  have hp := fin_pn hb
  unfold cl gtm ltm
  rw [hng]
  generalize gv e t k = g at *
  generalize mb k = m at *
  split
  · exact hp.1
  · rename_i h1; split
    · exact hp.2
    · rename_i h2
      exact ⟨hl, held hl hn hb h1 h2⟩
/-- what holds of a gain that comes -/
structure Gn (e t k v : Nat) : Prop where
  yes : gok e t k = true → v = cl e t k
  no : gok e t k = false → isfin v = false
  lt : v < 4294967296
theorem gn_fin {e t k v : Nat} (hk : k < 20) (h : Gn e t k v) : isfin v = gok e t k := by
  cases hg : gok e t k
  · exact h.no hg
  · rw [h.yes hg]; exact (cl_fin hk hg).2
def allok (e t : Nat) : Bool := (List.range 20).all (gok e t)
theorem all_gn {e t : Nat} {F : Nat → Nat} (h : ∀ k, k < 20 → Gn e t k (F k)) : allfin 20 F = allok e t := by
  have h1 : ∀ k, k < 20 → isfin (F k) = gok e t k := fun k hk => gn_fin hk (h k hk)
  cases ha : allok e t
  · obtain ⟨k, hk, hn⟩ : ∃ k, k < 20 ∧ gok e t k = false := by
      unfold allok at ha
      rw [List.all_eq_false] at ha
      obtain ⟨k, hk, hn⟩ := ha
      exact ⟨k, List.mem_range.1 hk, by simpa using hn⟩
    exact allfin_false k hk ((h1 k hk).trans hn)
  · refine allfin_true fun k hk => (h1 k hk).trans ?_
    exact List.all_eq_true.1 ha k (List.mem_range.2 hk)
def noG (c : Int) : Value := .tuple #[.agg (row 20 fun _ => .float .f32 0), .int .i64 c]
def gainR (e t : Nat) : Value := if isfin e then (if amtB t then (if allok e t then .tuple #[.agg (row 20 fun k => .float .f32 (cl e t k)), .int .i64 0] else noG 4) else noG 2) else noG 2
theorem gain_form (e t : Nat) : ∃ (G : Nat → Nat) (c' : Int), gainR e t = .tuple #[.agg (row 20 fun j => .float .f32 (G j)), .int .i64 c'] ∧ ∀ j, j < 20 → cvok (G j) = true := by
  have z : ∀ c : Int, ∃ (G : Nat → Nat) (c' : Int), noG c = .tuple #[.agg (row 20 fun j => .float .f32 (G j)), .int .i64 c'] ∧ ∀ j, j < 20 → cvok (G j) = true := fun c => ⟨fun _ => 0, c, rfl, fun _ _ => (cvle (x := 0) (by omega)).1⟩
  unfold gainR
  split
  · split
    · split
      · rename_i h
        refine ⟨cl e t, 0, rfl, fun j hj => ?_⟩
        have hg : gok e t j = true := List.all_eq_true.1 h j (List.mem_range.2 hj)
        exact cvok_fin (cl_fin hj hg).1 (cl_fin hj hg).2
      · exact z 4
    · exact z 2
  · exact z 2
theorem info_a20' : (Try.prog.info? 30).map (·.size) = some (row 20 fun _ => Value.float .f32 0).size := by rw [row_size]; exact info_a20
/-- the row with one number turned -/
def setG (f : Nat → Nat) (k v : Nat) : Nat → Nat := fun j => if j = k then v else f j
theorem setG_row (f : Nat → Nat) (k v : Nat) (j : Nat) : (if j = k then Value.float .f32 v else Value.float .f32 (f j)) = Value.float .f32 (setG f k v j) := by unfold setG; split <;> rfl
theorem gn_of {e t k v : Nat} (h : gok e t k = true) (hc : cl e t k = v) (hl : cl e t k < 4294967296) : Gn e t k v :=
  ⟨fun _ => hc.symm, fun q => (by rw [h] at q; cases q), hc ▸ hl⟩
theorem gn_step {e t k v : Nat} {f : Nat → Nat} (h : ∀ j, j < k → Gn e t j (f j)) (hv : Gn e t k v) : ∀ j, j < k + 1 → Gn e t j (setG f k v j) := by
  intro j hj
  unfold setG
  split
  · rename_i q; subst q; exact hv
  · exact h j (by omega)
theorem c_l02Gains (e t : Nat) (he : e < 4294967296) (hf : isfin e = true) (w : World) : Calls Try.prog 43 #[.float .f32 e, .float .f32 t] w fun en w' => ∃ F : Nat → Nat, (∀ k, k < 20 → Gn e t k (F k)) ∧ en = .returned (.agg (row 20 fun j => .float .f32 (F j))) ∧ Below w.heap.size w w' := by
  have HM := Lib.hid (fun k (hk : k < 20) w => c_l01Mass k hk w)
  have HR := Lib.hid (fun k (hk : k < 20) w => c_l01Radius k hk w)
  have HP := Lib.hid (fun k (hk : k < 20) => rad_mul he hf k hk)
  have HMN := Lib.hid mn_lt
  have EG := Lib.hid (fun k => show fv .mul .f32 (fv .mul .f32 (rad k) e) t = gv e t k from rfl)
  have EN := Lib.hid (fun k => show Op.negFloat .f32 (mb k) = ng k from rfl)
  have EC := Lib.hid (fun k => show cl e t k = if gtm e t k then mb k else if ltm e t k then ng k else gv e t k from rfl)
  clear hf he
  have b0 : Below w.heap.size w (w.alloc (.cells #[.float .f32 0, .float .f32 0, .float .f32 0, .float .f32 0, .float .f32 0, .float .f32 0, .float .f32 0, .float .f32 0, .float .f32 0, .float .f32 0, .float .f32 0, .float .f32 0, .float .f32 0, .float .f32 0, .float .f32 0, .float .f32 0, .float .f32 0, .float .f32 0, .float .f32 0, .float .f32 0] 30)) := (Below.refl _ _).alloc (by simp) _
  have g0 : Holds (w.alloc (.cells #[.float .f32 0, .float .f32 0, .float .f32 0, .float .f32 0, .float .f32 0, .float .f32 0, .float .f32 0, .float .f32 0, .float .f32 0, .float .f32 0, .float .f32 0, .float .f32 0, .float .f32 0, .float .f32 0, .float .f32 0, .float .f32 0, .float .f32 0, .float .f32 0, .float .f32 0, .float .f32 0] 30)) w.heap.size 30 (row 20 fun _ => .float .f32 0) := by rw [zrow_eq]; exact Holds.new _ _ _
  go_enter Try.func43, Try.ntmps43
  go_wp2_with (first | (refine wl_newh 30 rfl (.tmp 5) (.tmp 9) rfl (row 20 fun _ => .float .f32 0) info_a20' (by rw [row_size]; rfl) rfl (by simp) (congrArg Value.agg zrow_eq) (rowf_one _) ?_; intro w2 hb2 g1; have g0 := g0.keep hb2; have b0 := b0.trans (hb2.mono b0.size); clear hb2))
  go_loopw [6] (fun i wr => ∃ (k : Nat) (F : Nat → Nat), k ≤ 20 ∧ i = .int .i64 k ∧ (∀ j, j < k → Gn e t j (F j)) ∧ Below w.heap.size w wr ∧ Holds wr w.heap.size 30 (row 20 fun _ => .float .f32 0) ∧ Holds wr (w.heap.size + 1) 30 (row 20 fun j => .float .f32 (F j))) (fun i _ => 20 - (intOf i).toNat)
  case atStart => exact ⟨0, fun _ => 0, by omega, rfl, fun j hj => by omega, b0, g0, g1⟩
  case round =>
    clear g0 b0 g1
    obtain ⟨k, F, hk, rfl, hall, b0, g0, g1⟩ := hrel
    have HA := Lib.hid hall
    clear hall
    by_cases hlt : k < 20
    · have hm := Lib.hid (fun w => HM.out k hlt w)
      have hr := Lib.hid (fun w => HR.out k hlt w)
      have hp := HP.out k hlt
      have hmn := HMN.out k hlt
      have en := EN.out k
      have hi0 : (0 : Int) ≤ (k : Int) := by omega
      have hi1 : (k : Int) < 20 := by omega
      cases ho : gok e t k
      · have hno := ho
        unfold gok at hno
        have HO := Lib.hid ho
        clear ho
        have hcw := g1.drew.at_ hlt
        have hfz := g1.drew.free k
        clear EC EN HMN HP EG HM HR
        generalize ng k = M at *
        generalize mb k = m at *
        go_wp2_with (first | (go_at_call 57; with_reducible refine (hm.out _).mono ?_; rintro e w1 ⟨rfl, rfl⟩) | (go_at_call 30; with_reducible refine (hr.out _).mono ?_; rintro e w1 ⟨rfl, rfl⟩))
        try (rename_i hKK; refine hKK _ _ ?_; clear hKK; go_simp; go_wp2_with (first | (go_at_call 57; with_reducible refine (hm.out _).mono ?_; rintro e w1 ⟨rfl, rfl⟩) | (go_at_call 30; with_reducible refine (hr.out _).mono ?_; rintro e w1 ⟨rfl, rfl⟩)))
        try (rename_i hKK; refine hKK _ _ ?_; clear hKK; go_simp; go_wp2_with (first | (go_at_call 57; with_reducible refine (hm.out _).mono ?_; rintro e w1 ⟨rfl, rfl⟩) | (go_at_call 30; with_reducible refine (hr.out _).mono ?_; rintro e w1 ⟨rfl, rfl⟩)))
        go_roundw
        case rel => exact ⟨k + 1, _, by omega, by go_num, gn_step HA.out (⟨fun q => (by rw [HO.out] at q; cases q), fun _ => nb_fin _, nb_lt _⟩), (b0.drew).setCell (by first | (simp; done) | (simp; omega)) _, (g0.drew).far (by first | (simp; done) | (simp; omega)) _, ((g1.drew).set_row k _).to (fun j _ => setG_row F k _ j)⟩
        case measure => simp [intOf]; omega
      · have hno := ho
        unfold gok at hno
        have HO := Lib.hid ho
        clear ho
        have eg := EG.out k
        have HL := Lib.hid (show gv e t k < 4294967296 from fv_lt hno)
        have hcw := g1.at_ hlt
        have hfz := g1.free k
        have EC := Lib.hid (EC.out k)
        have HLT := Lib.hid (cl_fin hlt HO.out).1
        cases h1 : gtm e t k
        · rw [h1] at EC
          unfold gtm at h1
          cases h2 : ltm e t k
          · rw [h2] at EC
            unfold ltm at h2
            have EC := Lib.hid (show cl e t k = gv e t k by rw [EC.out]; simp only [Bool.false_eq_true, if_false, if_true])
            have GN := Lib.hid (gn_of HO.out EC.out HLT.out)
            clear EC HLT
            clear EN HMN HP EG HM HR
            generalize gv e t k = g at *
            generalize ng k = M at *
            generalize mb k = m at *
            go_wp2_with (first | (go_at_call 57; with_reducible refine (hm.out _).mono ?_; rintro e w1 ⟨rfl, rfl⟩) | (go_at_call 30; with_reducible refine (hr.out _).mono ?_; rintro e w1 ⟨rfl, rfl⟩))
            try (rename_i hKK; refine hKK _ _ ?_; clear hKK; go_simp; go_wp2_with (first | (go_at_call 57; with_reducible refine (hm.out _).mono ?_; rintro e w1 ⟨rfl, rfl⟩) | (go_at_call 30; with_reducible refine (hr.out _).mono ?_; rintro e w1 ⟨rfl, rfl⟩)))
            try (rename_i hKK; refine hKK _ _ ?_; clear hKK; go_simp; go_wp2_with (first | (go_at_call 57; with_reducible refine (hm.out _).mono ?_; rintro e w1 ⟨rfl, rfl⟩) | (go_at_call 30; with_reducible refine (hr.out _).mono ?_; rintro e w1 ⟨rfl, rfl⟩)))
            go_roundw
            case rel => exact ⟨k + 1, _, by omega, by go_num, gn_step HA.out (GN.out), (b0).setCell (by first | (simp; done) | (simp; omega)) _, (g0).far (by first | (simp; done) | (simp; omega)) _, ((g1).set_row k _).to (fun j _ => setG_row F k _ j)⟩
            case measure => simp [intOf]; omega
          · rw [h2] at EC
            unfold ltm at h2
            have EC := Lib.hid (show cl e t k = ng k by rw [EC.out]; simp only [Bool.false_eq_true, if_false, if_true])
            have GN := Lib.hid (gn_of HO.out EC.out HLT.out)
            clear EC HLT
            clear EN HMN HP EG HM HR
            generalize gv e t k = g at *
            generalize ng k = M at *
            generalize mb k = m at *
            go_wp2_with (first | (go_at_call 57; with_reducible refine (hm.out _).mono ?_; rintro e w1 ⟨rfl, rfl⟩) | (go_at_call 30; with_reducible refine (hr.out _).mono ?_; rintro e w1 ⟨rfl, rfl⟩))
            try (rename_i hKK; refine hKK _ _ ?_; clear hKK; go_simp; go_wp2_with (first | (go_at_call 57; with_reducible refine (hm.out _).mono ?_; rintro e w1 ⟨rfl, rfl⟩) | (go_at_call 30; with_reducible refine (hr.out _).mono ?_; rintro e w1 ⟨rfl, rfl⟩)))
            try (rename_i hKK; refine hKK _ _ ?_; clear hKK; go_simp; go_wp2_with (first | (go_at_call 57; with_reducible refine (hm.out _).mono ?_; rintro e w1 ⟨rfl, rfl⟩) | (go_at_call 30; with_reducible refine (hr.out _).mono ?_; rintro e w1 ⟨rfl, rfl⟩)))
            go_roundw
            case rel => exact ⟨k + 1, _, by omega, by go_num, gn_step HA.out (GN.out), (b0).setCell (by first | (simp; done) | (simp; omega)) _, (g0).far (by first | (simp; done) | (simp; omega)) _, ((g1).set_row k _).to (fun j _ => setG_row F k _ j)⟩
            case measure => simp [intOf]; omega
        · rw [h1] at EC
          unfold gtm at h1
          have EC := Lib.hid (show cl e t k = mb k by rw [EC.out]; simp only [if_true])
          have GN := Lib.hid (gn_of HO.out EC.out HLT.out)
          clear EC HLT
          clear EN HMN HP EG HM HR
          generalize gv e t k = g at *
          generalize ng k = M at *
          generalize mb k = m at *
          go_wp2_with (first | (go_at_call 57; with_reducible refine (hm.out _).mono ?_; rintro e w1 ⟨rfl, rfl⟩) | (go_at_call 30; with_reducible refine (hr.out _).mono ?_; rintro e w1 ⟨rfl, rfl⟩))
          try (rename_i hKK; refine hKK _ _ ?_; clear hKK; go_simp; go_wp2_with (first | (go_at_call 57; with_reducible refine (hm.out _).mono ?_; rintro e w1 ⟨rfl, rfl⟩) | (go_at_call 30; with_reducible refine (hr.out _).mono ?_; rintro e w1 ⟨rfl, rfl⟩)))
          try (rename_i hKK; refine hKK _ _ ?_; clear hKK; go_simp; go_wp2_with (first | (go_at_call 57; with_reducible refine (hm.out _).mono ?_; rintro e w1 ⟨rfl, rfl⟩) | (go_at_call 30; with_reducible refine (hr.out _).mono ?_; rintro e w1 ⟨rfl, rfl⟩)))
          go_roundw
          case rel => exact ⟨k + 1, _, by omega, by go_num, gn_step HA.out (GN.out), (b0).setCell (by first | (simp; done) | (simp; omega)) _, (g0).far (by first | (simp; done) | (simp; omega)) _, ((g1).set_row k _).to (fun j _ => setG_row F k _ j)⟩
          case measure => simp [intOf]; omega
    · have hk20 : k = 20 := by omega
      subst hk20
      go_wp2_with (first | (refine wl_load 30 Try.underlying30 info_a20 rfl _ rfl g1 rfl ?_) | (refine wl_store 30 info_a20 rfl _ _ rfl g0 (row_size _ _) rfl rfl (fun _ => rfl) ?_))
      exact ret_row rfl Try.underlying30 info_a20 (g0.row_ _) rfl rfl ⟨F, HA.out, rfl, below_setRow b0 (Nat.le_refl _) _⟩
theorem c_gainsAt (e t : Nat) (he : e < 4294967296) (hf : isfin e = true) (w : World) : Calls Try.prog 45 #[.float .f32 e, .float .f32 t] w fun en w' => ∃ F : Nat → Nat, (∀ k, k < 20 → Gn e t k (F k)) ∧ en = .returned (.agg (row 20 fun j => .float .f32 (F j))) ∧ Below w.heap.size w w' := by
  have HM := Lib.hid (fun k (hk : k < 20) w => c_mass k hk w)
  have HR := Lib.hid (fun k (hk : k < 20) w => c_radius k hk w)
  have HP := Lib.hid (fun k (hk : k < 20) => rad_mul he hf k hk)
  have HMN := Lib.hid mn_lt
  have EG := Lib.hid (fun k => show fv .mul .f32 (fv .mul .f32 (rad k) e) t = gv e t k from rfl)
  have EN := Lib.hid (fun k => show Op.negFloat .f32 (mb k) = ng k from rfl)
  have EC := Lib.hid (fun k => show cl e t k = if gtm e t k then mb k else if ltm e t k then ng k else gv e t k from rfl)
  clear hf he
  have b0 : Below w.heap.size w (w.alloc (.cells #[.float .f32 0, .float .f32 0, .float .f32 0, .float .f32 0, .float .f32 0, .float .f32 0, .float .f32 0, .float .f32 0, .float .f32 0, .float .f32 0, .float .f32 0, .float .f32 0, .float .f32 0, .float .f32 0, .float .f32 0, .float .f32 0, .float .f32 0, .float .f32 0, .float .f32 0, .float .f32 0] 30)) := (Below.refl _ _).alloc (by simp) _
  have g0 : Holds (w.alloc (.cells #[.float .f32 0, .float .f32 0, .float .f32 0, .float .f32 0, .float .f32 0, .float .f32 0, .float .f32 0, .float .f32 0, .float .f32 0, .float .f32 0, .float .f32 0, .float .f32 0, .float .f32 0, .float .f32 0, .float .f32 0, .float .f32 0, .float .f32 0, .float .f32 0, .float .f32 0, .float .f32 0] 30)) w.heap.size 30 (row 20 fun _ => .float .f32 0) := by rw [zrow_eq]; exact Holds.new _ _ _
  go_enter Try.func45, Try.ntmps45
  go_wp2_with (first | (refine wl_newh 30 rfl (.tmp 5) (.tmp 9) rfl (row 20 fun _ => .float .f32 0) info_a20' (by rw [row_size]; rfl) rfl (by simp) (congrArg Value.agg zrow_eq) (rowf_one _) ?_; intro w2 hb2 g1; have g0 := g0.keep hb2; have b0 := b0.trans (hb2.mono b0.size); clear hb2))
  go_loopw [10] (fun i wr => ∃ (k : Nat) (F : Nat → Nat), k ≤ 20 ∧ i = .int .i64 k ∧ (∀ j, j < k → Gn e t j (F j)) ∧ Below w.heap.size w wr ∧ Holds wr w.heap.size 30 (row 20 fun _ => .float .f32 0) ∧ Holds wr (w.heap.size + 1) 30 (row 20 fun j => .float .f32 (F j))) (fun i _ => 20 - (intOf i).toNat)
  case atStart => exact ⟨0, fun _ => 0, by omega, rfl, fun j hj => by omega, b0, g0, g1⟩
  case round =>
    clear g0 b0 g1
    obtain ⟨k, F, hk, rfl, hall, b0, g0, g1⟩ := hrel
    have HA := Lib.hid hall
    clear hall
    by_cases hlt : k < 20
    · have hm := Lib.hid (fun w => HM.out k hlt w)
      have hr := Lib.hid (fun w => HR.out k hlt w)
      have hp := HP.out k hlt
      have hmn := HMN.out k hlt
      have en := EN.out k
      have hi0 : (0 : Int) ≤ (k : Int) := by omega
      have hi1 : (k : Int) < 20 := by omega
      cases ho : gok e t k
      · have hno := ho
        unfold gok at hno
        have HO := Lib.hid ho
        clear ho
        have hcw := g1.drew.at_ hlt
        have hfz := g1.drew.free k
        clear EC EN HMN HP EG HM HR
        generalize ng k = M at *
        generalize mb k = m at *
        go_wp2_with (first | (go_at_call 58; with_reducible refine (hm.out _).mono ?_; rintro e w1 ⟨rfl, rfl⟩) | (go_at_call 32; with_reducible refine (hr.out _).mono ?_; rintro e w1 ⟨rfl, rfl⟩))
        try (rename_i hKK; refine hKK _ _ ?_; clear hKK; go_simp; go_wp2_with (first | (go_at_call 58; with_reducible refine (hm.out _).mono ?_; rintro e w1 ⟨rfl, rfl⟩) | (go_at_call 32; with_reducible refine (hr.out _).mono ?_; rintro e w1 ⟨rfl, rfl⟩)))
        try (rename_i hKK; refine hKK _ _ ?_; clear hKK; go_simp; go_wp2_with (first | (go_at_call 58; with_reducible refine (hm.out _).mono ?_; rintro e w1 ⟨rfl, rfl⟩) | (go_at_call 32; with_reducible refine (hr.out _).mono ?_; rintro e w1 ⟨rfl, rfl⟩)))
        go_roundw
        case rel => exact ⟨k + 1, _, by omega, by go_num, gn_step HA.out (⟨fun q => (by rw [HO.out] at q; cases q), fun _ => nb_fin _, nb_lt _⟩), (b0.drew).setCell (by first | (simp; done) | (simp; omega)) _, (g0.drew).far (by first | (simp; done) | (simp; omega)) _, ((g1.drew).set_row k _).to (fun j _ => setG_row F k _ j)⟩
        case measure => simp [intOf]; omega
      · have hno := ho
        unfold gok at hno
        have HO := Lib.hid ho
        clear ho
        have eg := EG.out k
        have HL := Lib.hid (show gv e t k < 4294967296 from fv_lt hno)
        have hcw := g1.at_ hlt
        have hfz := g1.free k
        have EC := Lib.hid (EC.out k)
        have HLT := Lib.hid (cl_fin hlt HO.out).1
        cases h1 : gtm e t k
        · rw [h1] at EC
          unfold gtm at h1
          cases h2 : ltm e t k
          · rw [h2] at EC
            unfold ltm at h2
            have EC := Lib.hid (show cl e t k = gv e t k by rw [EC.out]; simp only [Bool.false_eq_true, if_false, if_true])
            have GN := Lib.hid (gn_of HO.out EC.out HLT.out)
            clear EC HLT
            clear EN HMN HP EG HM HR
            generalize gv e t k = g at *
            generalize ng k = M at *
            generalize mb k = m at *
            go_wp2_with (first | (go_at_call 58; with_reducible refine (hm.out _).mono ?_; rintro e w1 ⟨rfl, rfl⟩) | (go_at_call 32; with_reducible refine (hr.out _).mono ?_; rintro e w1 ⟨rfl, rfl⟩))
            try (rename_i hKK; refine hKK _ _ ?_; clear hKK; go_simp; go_wp2_with (first | (go_at_call 58; with_reducible refine (hm.out _).mono ?_; rintro e w1 ⟨rfl, rfl⟩) | (go_at_call 32; with_reducible refine (hr.out _).mono ?_; rintro e w1 ⟨rfl, rfl⟩)))
            try (rename_i hKK; refine hKK _ _ ?_; clear hKK; go_simp; go_wp2_with (first | (go_at_call 58; with_reducible refine (hm.out _).mono ?_; rintro e w1 ⟨rfl, rfl⟩) | (go_at_call 32; with_reducible refine (hr.out _).mono ?_; rintro e w1 ⟨rfl, rfl⟩)))
            go_roundw
            case rel => exact ⟨k + 1, _, by omega, by go_num, gn_step HA.out (GN.out), (b0).setCell (by first | (simp; done) | (simp; omega)) _, (g0).far (by first | (simp; done) | (simp; omega)) _, ((g1).set_row k _).to (fun j _ => setG_row F k _ j)⟩
            case measure => simp [intOf]; omega
          · rw [h2] at EC
            unfold ltm at h2
            have EC := Lib.hid (show cl e t k = ng k by rw [EC.out]; simp only [Bool.false_eq_true, if_false, if_true])
            have GN := Lib.hid (gn_of HO.out EC.out HLT.out)
            clear EC HLT
            clear EN HMN HP EG HM HR
            generalize gv e t k = g at *
            generalize ng k = M at *
            generalize mb k = m at *
            go_wp2_with (first | (go_at_call 58; with_reducible refine (hm.out _).mono ?_; rintro e w1 ⟨rfl, rfl⟩) | (go_at_call 32; with_reducible refine (hr.out _).mono ?_; rintro e w1 ⟨rfl, rfl⟩))
            try (rename_i hKK; refine hKK _ _ ?_; clear hKK; go_simp; go_wp2_with (first | (go_at_call 58; with_reducible refine (hm.out _).mono ?_; rintro e w1 ⟨rfl, rfl⟩) | (go_at_call 32; with_reducible refine (hr.out _).mono ?_; rintro e w1 ⟨rfl, rfl⟩)))
            try (rename_i hKK; refine hKK _ _ ?_; clear hKK; go_simp; go_wp2_with (first | (go_at_call 58; with_reducible refine (hm.out _).mono ?_; rintro e w1 ⟨rfl, rfl⟩) | (go_at_call 32; with_reducible refine (hr.out _).mono ?_; rintro e w1 ⟨rfl, rfl⟩)))
            go_roundw
            case rel => exact ⟨k + 1, _, by omega, by go_num, gn_step HA.out (GN.out), (b0).setCell (by first | (simp; done) | (simp; omega)) _, (g0).far (by first | (simp; done) | (simp; omega)) _, ((g1).set_row k _).to (fun j _ => setG_row F k _ j)⟩
            case measure => simp [intOf]; omega
        · rw [h1] at EC
          unfold gtm at h1
          have EC := Lib.hid (show cl e t k = mb k by rw [EC.out]; simp only [if_true])
          have GN := Lib.hid (gn_of HO.out EC.out HLT.out)
          clear EC HLT
          clear EN HMN HP EG HM HR
          generalize gv e t k = g at *
          generalize ng k = M at *
          generalize mb k = m at *
          go_wp2_with (first | (go_at_call 58; with_reducible refine (hm.out _).mono ?_; rintro e w1 ⟨rfl, rfl⟩) | (go_at_call 32; with_reducible refine (hr.out _).mono ?_; rintro e w1 ⟨rfl, rfl⟩))
          try (rename_i hKK; refine hKK _ _ ?_; clear hKK; go_simp; go_wp2_with (first | (go_at_call 58; with_reducible refine (hm.out _).mono ?_; rintro e w1 ⟨rfl, rfl⟩) | (go_at_call 32; with_reducible refine (hr.out _).mono ?_; rintro e w1 ⟨rfl, rfl⟩)))
          try (rename_i hKK; refine hKK _ _ ?_; clear hKK; go_simp; go_wp2_with (first | (go_at_call 58; with_reducible refine (hm.out _).mono ?_; rintro e w1 ⟨rfl, rfl⟩) | (go_at_call 32; with_reducible refine (hr.out _).mono ?_; rintro e w1 ⟨rfl, rfl⟩)))
          go_roundw
          case rel => exact ⟨k + 1, _, by omega, by go_num, gn_step HA.out (GN.out), (b0).setCell (by first | (simp; done) | (simp; omega)) _, (g0).far (by first | (simp; done) | (simp; omega)) _, ((g1).set_row k _).to (fun j _ => setG_row F k _ j)⟩
          case measure => simp [intOf]; omega
    · have hk20 : k = 20 := by omega
      subst hk20
      go_wp2_with (first | (refine wl_load 30 Try.underlying30 info_a20 rfl _ rfl g1 rfl ?_) | (refine wl_store 30 info_a20 rfl _ _ rfl g0 (row_size _ _) rfl rfl (fun _ => rfl) ?_))
      exact ret_row rfl Try.underlying30 info_a20 (g0.row_ _) rfl rfl ⟨F, HA.out, rfl, below_setRow b0 (Nat.le_refl _) _⟩
end Go.Proofs.Ytjhognfkjdccfaa
