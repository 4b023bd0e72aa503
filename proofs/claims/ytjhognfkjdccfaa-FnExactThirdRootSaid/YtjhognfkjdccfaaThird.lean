/-
  Contracts: third roots, as a run of single steps tells them.
-/
import Derived.Test.YtjhognfkjdccfaaMade
import Derived.Test.YtjhognfkjdccfaaOpen
import Derived.Deep.LoopGhost
namespace Go.Proofs.Ytjhognfkjdccfaa
open Go.RowKit Fl
set_option maxRecDepth 20000
set_option maxHeartbeats 4000000
set_option linter.unusedSimpArgs false

def ge8 (b : Nat) : Bool := FloatKind.f64.format.order b 4620693217682128896 == some .gt || FloatKind.f64.format.order b 4620693217682128896 == some .eq
def lt1 (b : Nat) : Bool := FloatKind.f64.format.order b 4607182418800017408 == some .lt
def down : Nat → Nat → Nat → Option (Nat × Nat)
  | 0, _, _ => none
  | n + 1, b, x => if ge8 b then (floatBits .quo .f64 b 4620693217682128896).bind fun b' => (floatBits .mul .f64 x 4611686018427387904).bind fun x' => down n b' x' else some (b, x)
def up : Nat → Nat → Nat → Option (Nat × Nat)
  | 0, _, _ => none
  | n + 1, b, x => if lt1 b then (floatBits .mul .f64 b 4620693217682128896).bind fun b' => (floatBits .quo .f64 x 4611686018427387904).bind fun x' => up n b' x' else some (b, x)
def newt (b : Nat) : Nat → Nat → Option Nat
  | 0, r => some r
  | n + 1, r => (floatBits .mul .f64 r r).bind fun s => (floatBits .mul .f64 s r).bind fun c => (floatBits .mul .f64 4613937818241073152 r).bind fun t => (floatBits .mul .f64 t r).bind fun v =>
      (floatBits .sub .f64 c b).bind fun d => (floatBits .quo .f64 d v).bind fun e => (floatBits .sub .f64 r e).bind fun r' => newt b n r'
/-- the third root of an amount above 0 -/
def thirdGo (a : Nat) : Option Nat := (down 64 (cv a) 4607182418800017408).bind fun p => (up 64 p.1 p.2).bind fun q => (newt q.1 6 4609434218613702656).bind fun r => (floatBits .mul .f64 r q.2).bind fun y => floatToFloatBits .f64 y .f32
def third (a : Nat) : Option Nat := if a = 0 then some 0 else thirdGo a
theorem fok_some {op : BinOp} {k : FloatKind} {x y r : Nat} (h : floatBits op k x y = some r) : fok op k x y = true := (fok_of h).1
theorem fv_is {op : BinOp} {k : FloatKind} {x y r : Nat} (h : floatBits op k x y = some r) : fv op k x y = r := (fok_of h).2
theorem ord_nz {a : Nat} (ha : amtB a = true) (h0 : a ≠ 0) : (FloatKind.f32.format.order a 0 == some .eq) = false := by
  have hl := amt_lt ha
  rw [ord_zero (by omega) (isnum_of_le (by omega)), if_neg (by omega), if_pos (by omega)]; rfl
theorem amt_cvok {a : Nat} (ha : amtB a = true) : cvok a = true := cvok_fin (by have := amt_lt ha; omega) (amt_fin ha)
theorem c_l01Third (a : Nat) (ha : amtB a = true) (v : Nat) (hv : third a = some v) (w : World) : Calls Try.prog 34 #[.float .f32 a] w fun e w' => e = .returned (.float .f32 v) ∧ w = w' := by
  unfold third at hv
  by_cases h0 : a = 0
  · rw [if_pos h0] at hv
    subst h0
    cases hv
    have hord := order00
    go_enter Try.func34, Try.ntmps34
    go_wp2
    go_ret
    exact ⟨rfl, rfl⟩
  rw [if_neg h0] at hv
  unfold thirdGo at hv
  rw [Option.bind_eq_some_iff] at hv
  obtain ⟨⟨B1, X1⟩, hd, hv⟩ := hv
  rw [Option.bind_eq_some_iff] at hv
  obtain ⟨⟨B, X⟩, hu, hv⟩ := hv
  rw [Option.bind_eq_some_iff] at hv
  obtain ⟨R, hn, hv⟩ := hv
  rw [Option.bind_eq_some_iff] at hv
  obtain ⟨Y, hm, hv⟩ := hv
  have HD := Lib.hid hd
  have HU := Lib.hid hu
  have HN := Lib.hid hn
  have HY := Lib.hid hm
  have hord := ord_nz ha h0
  have hcv := fun (w : World) => run_cv (P := Try.prog) w 22 26 (by kernel_rfl) Try.underlying26 a (amt_cvok ha)
  have hcw := fun (w : World) => run_convert_float_float (P := Try.prog) w 26 22 .f64 .f32 Y v (by kernel_rfl) Try.underlying22 hv
  clear hd hu hn hm hv h0 ha
  go_enter Try.func34, Try.ntmps34
  go_wp2
  go_loopg [3, 4] 64 (fun k b x wr => w = wr ∧ ∃ bn xn, b = .float .f64 bn ∧ x = .float .f64 xn ∧ Hid (down k bn xn = some (B1, X1)))
  case atStart => exact ⟨rfl, _, _, rfl, rfl, HD⟩
  case round =>
    obtain ⟨rfl, b, x, rfl, rfl, H⟩ := hrel
    cases gk with
    | zero => exact absurd H.out (by unfold down; simp)
    | succ k =>
      have h := H.out
      unfold down at h
      cases hc : ge8 b
      · rw [hc] at h
        simp only [Bool.false_eq_true, if_false, Option.some.injEq, Prod.mk.injEq] at h
        obtain ⟨rfl, rfl⟩ := h
        unfold ge8 at hc
        clear H HD
        go_wp2
        go_loopg [3, 4] 64 (fun k b x wr => w = wr ∧ ∃ bn xn, b = .float .f64 bn ∧ x = .float .f64 xn ∧ Hid (up k bn xn = some (B, X)))
        case atStart => exact ⟨rfl, _, _, rfl, rfl, HU⟩
        case round =>
          clear hc HU
          obtain ⟨rfl, b, x, rfl, rfl, H⟩ := hrel
          cases gk with
          | zero => exact absurd H.out (by unfold up; simp)
          | succ k =>
            have h := H.out
            unfold up at h
            cases hc : lt1 b
            · rw [hc] at h
              simp only [Bool.false_eq_true, if_false, Option.some.injEq, Prod.mk.injEq] at h
              obtain ⟨rfl, rfl⟩ := h
              unfold lt1 at hc
              clear H
              go_wp2
              go_loopg [5, 6] 6 (fun k r i wr => w = wr ∧ ∃ rn, r = .float .f64 rn ∧ k ≤ 6 ∧ i = .int .i64 ((6 - k : Nat) : Int) ∧ Hid (newt b k rn = some R))
              case atStart => exact ⟨rfl, _, rfl, by omega, rfl, HN⟩
              case round =>
                clear hc HN
                obtain ⟨rfl, r, rfl, hk, rfl, H⟩ := hrel
                cases gk with
                | zero =>
                  have h := H.out
                  unfold newt at h
                  cases h
                  have hy := fok_some HY.out
                  have hy2 := fv_is HY.out
                  clear H
                  go_wp2
                  go_ret
                  exact ⟨rfl, rfl⟩
                | succ k =>
                  have h := H.out
                  unfold newt at h
                  rw [Option.bind_eq_some_iff] at h
                  obtain ⟨s, qs, h⟩ := h
                  rw [Option.bind_eq_some_iff] at h
                  obtain ⟨c, qc, h⟩ := h
                  rw [Option.bind_eq_some_iff] at h
                  obtain ⟨t, qt, h⟩ := h
                  rw [Option.bind_eq_some_iff] at h
                  obtain ⟨vv, qv, h⟩ := h
                  rw [Option.bind_eq_some_iff] at h
                  obtain ⟨d, qd, h⟩ := h
                  rw [Option.bind_eq_some_iff] at h
                  obtain ⟨e, qe, h⟩ := h
                  rw [Option.bind_eq_some_iff] at h
                  obtain ⟨r', qrp, h⟩ := h
                  have H := Lib.hid h
                  have os := fok_some qs
                  have fs := fv_is qs
                  have oc := fok_some qc
                  have fc := fv_is qc
                  have ot := fok_some qt
                  have ft := fv_is qt
                  have ov := fok_some qv
                  have fv := fv_is qv
                  have od := fok_some qd
                  have fd := fv_is qd
                  have oe := fok_some qe
                  have fe := fv_is qe
                  have orp := fok_some qrp
                  have frp := fv_is qrp
                  clear h qs qc qt qv qd qe qrp
                  have hlt : ((6 - (k + 1) : Nat) : Int) < 6 := by omega
                  have hi0 : (0 : Int) ≤ ((6 - (k + 1) : Nat) : Int) := by omega
                  have hi1 : IntKind.i64.wrap (((6 - (k + 1) : Nat) : Int) + 1) = ((6 - k : Nat) : Int) := by rw [IntWalk.i64_in _ (by omega)]; omega
                  go_wp2
                  go_roundg k
                  case rel => exact ⟨rfl, _, rfl, by omega, congrArg (Value.int .i64) (by omega), H⟩
                  case measure => omega
            · rw [hc] at h
              simp only [if_true] at h
              rw [Option.bind_eq_some_iff] at h
              obtain ⟨b', qb, h⟩ := h
              rw [Option.bind_eq_some_iff] at h
              obtain ⟨x', qx, h⟩ := h
              have H := Lib.hid h
              have ob := fok_some qb
              have fb := fv_is qb
              have ox := fok_some qx
              have fx := fv_is qx
              unfold lt1 at hc
              clear h qb qx
              go_wp2
              go_roundg k
              case rel => exact ⟨rfl, _, _, rfl, rfl, H⟩
              case measure => omega
      · rw [hc] at h
        simp only [if_true] at h
        rw [Option.bind_eq_some_iff] at h
        obtain ⟨b', qb, h⟩ := h
        rw [Option.bind_eq_some_iff] at h
        obtain ⟨x', qx, h⟩ := h
        have H := Lib.hid h
        have ob := fok_some qb
        have fb := fv_is qb
        have ox := fok_some qx
        have fx := fv_is qx
        unfold ge8 at hc
        clear h qb qx
        go_wp2
        go_roundg k
        case rel => exact ⟨rfl, _, _, rfl, rfl, H⟩
        case measure => omega
theorem c_thirdRoot (a : Nat) (ha : amtB a = true) (v : Nat) (hv : third a = some v) (w : World) : Calls Try.prog 36 #[.float .f32 a] w fun e w' => e = .returned (.float .f32 v) ∧ w = w' := by
  unfold third at hv
  by_cases h0 : a = 0
  · rw [if_pos h0] at hv
    subst h0
    cases hv
    have hord := order00
    go_enter Try.func36, Try.ntmps36
    go_wp2
    go_ret
    exact ⟨rfl, rfl⟩
  rw [if_neg h0] at hv
  unfold thirdGo at hv
  rw [Option.bind_eq_some_iff] at hv
  obtain ⟨⟨B1, X1⟩, hd, hv⟩ := hv
  rw [Option.bind_eq_some_iff] at hv
  obtain ⟨⟨B, X⟩, hu, hv⟩ := hv
  rw [Option.bind_eq_some_iff] at hv
  obtain ⟨R, hn, hv⟩ := hv
  rw [Option.bind_eq_some_iff] at hv
  obtain ⟨Y, hm, hv⟩ := hv
  have HD := Lib.hid hd
  have HU := Lib.hid hu
  have HN := Lib.hid hn
  have HY := Lib.hid hm
  have hord := ord_nz ha h0
  have hcv := fun (w : World) => run_cv (P := Try.prog) w 22 26 (by kernel_rfl) Try.underlying26 a (amt_cvok ha)
  have hcw := fun (w : World) => run_convert_float_float (P := Try.prog) w 26 22 .f64 .f32 Y v (by kernel_rfl) Try.underlying22 hv
  clear hd hu hn hm hv h0 ha
  go_enter Try.func36, Try.ntmps36
  go_wp2
  go_loopg [3, 4] 64 (fun k b x wr => w = wr ∧ ∃ bn xn, b = .float .f64 bn ∧ x = .float .f64 xn ∧ Hid (down k bn xn = some (B1, X1)))
  case atStart => exact ⟨rfl, _, _, rfl, rfl, HD⟩
  case round =>
    obtain ⟨rfl, b, x, rfl, rfl, H⟩ := hrel
    cases gk with
    | zero => exact absurd H.out (by unfold down; simp)
    | succ k =>
      have h := H.out
      unfold down at h
      cases hc : ge8 b
      · rw [hc] at h
        simp only [Bool.false_eq_true, if_false, Option.some.injEq, Prod.mk.injEq] at h
        obtain ⟨rfl, rfl⟩ := h
        unfold ge8 at hc
        clear H HD
        go_wp2
        go_loopg [3, 4] 64 (fun k b x wr => w = wr ∧ ∃ bn xn, b = .float .f64 bn ∧ x = .float .f64 xn ∧ Hid (up k bn xn = some (B, X)))
        case atStart => exact ⟨rfl, _, _, rfl, rfl, HU⟩
        case round =>
          clear hc HU
          obtain ⟨rfl, b, x, rfl, rfl, H⟩ := hrel
          cases gk with
          | zero => exact absurd H.out (by unfold up; simp)
          | succ k =>
            have h := H.out
            unfold up at h
            cases hc : lt1 b
            · rw [hc] at h
              simp only [Bool.false_eq_true, if_false, Option.some.injEq, Prod.mk.injEq] at h
              obtain ⟨rfl, rfl⟩ := h
              unfold lt1 at hc
              clear H
              go_wp2
              go_loopg [5, 24] 6 (fun k r i wr => w = wr ∧ ∃ rn, r = .float .f64 rn ∧ k ≤ 6 ∧ i = .int .i64 ((6 - k : Nat) : Int) ∧ Hid (newt b k rn = some R))
              case atStart => exact ⟨rfl, _, rfl, by omega, rfl, HN⟩
              case round =>
                clear hc HN
                obtain ⟨rfl, r, rfl, hk, rfl, H⟩ := hrel
                cases gk with
                | zero =>
                  have h := H.out
                  unfold newt at h
                  cases h
                  have hy := fok_some HY.out
                  have hy2 := fv_is HY.out
                  clear H
                  go_wp2
                  go_ret
                  exact ⟨rfl, rfl⟩
                | succ k =>
                  have h := H.out
                  unfold newt at h
                  rw [Option.bind_eq_some_iff] at h
                  obtain ⟨s, qs, h⟩ := h
                  rw [Option.bind_eq_some_iff] at h
                  obtain ⟨c, qc, h⟩ := h
                  rw [Option.bind_eq_some_iff] at h
                  obtain ⟨t, qt, h⟩ := h
                  rw [Option.bind_eq_some_iff] at h
                  obtain ⟨vv, qv, h⟩ := h
                  rw [Option.bind_eq_some_iff] at h
                  obtain ⟨d, qd, h⟩ := h
                  rw [Option.bind_eq_some_iff] at h
                  obtain ⟨e, qe, h⟩ := h
                  rw [Option.bind_eq_some_iff] at h
                  obtain ⟨r', qrp, h⟩ := h
                  have H := Lib.hid h
                  have os := fok_some qs
                  have fs := fv_is qs
                  have oc := fok_some qc
                  have fc := fv_is qc
                  have ot := fok_some qt
                  have ft := fv_is qt
                  have ov := fok_some qv
                  have fv := fv_is qv
                  have od := fok_some qd
                  have fd := fv_is qd
                  have oe := fok_some qe
                  have fe := fv_is qe
                  have orp := fok_some qrp
                  have frp := fv_is qrp
                  clear h qs qc qt qv qd qe qrp
                  have hlt : ((6 - (k + 1) : Nat) : Int) < 6 := by omega
                  have hi0 : (0 : Int) ≤ ((6 - (k + 1) : Nat) : Int) := by omega
                  have hi1 : IntKind.i64.wrap (((6 - (k + 1) : Nat) : Int) + 1) = ((6 - k : Nat) : Int) := by rw [IntWalk.i64_in _ (by omega)]; omega
                  go_wp2
                  go_roundg k
                  case rel => exact ⟨rfl, _, rfl, by omega, congrArg (Value.int .i64) (by omega), H⟩
                  case measure => omega
            · rw [hc] at h
              simp only [if_true] at h
              rw [Option.bind_eq_some_iff] at h
              obtain ⟨b', qb, h⟩ := h
              rw [Option.bind_eq_some_iff] at h
              obtain ⟨x', qx, h⟩ := h
              have H := Lib.hid h
              have ob := fok_some qb
              have fb := fv_is qb
              have ox := fok_some qx
              have fx := fv_is qx
              unfold lt1 at hc
              clear h qb qx
              go_wp2
              go_roundg k
              case rel => exact ⟨rfl, _, _, rfl, rfl, H⟩
              case measure => omega
      · rw [hc] at h
        simp only [if_true] at h
        rw [Option.bind_eq_some_iff] at h
        obtain ⟨b', qb, h⟩ := h
        rw [Option.bind_eq_some_iff] at h
        obtain ⟨x', qx, h⟩ := h
        have H := Lib.hid h
        have ob := fok_some qb
        have fb := fv_is qb
        have ox := fok_some qx
        have fx := fv_is qx
        unfold ge8 at hc
        clear h qb qx
        go_wp2
        go_roundg k
        case rel => exact ⟨rfl, _, _, rfl, rfl, H⟩
        case measure => omega
end Go.Proofs.Ytjhognfkjdccfaa
