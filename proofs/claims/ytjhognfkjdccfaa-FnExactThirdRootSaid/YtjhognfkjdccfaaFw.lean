/-
  Floats in a walk: what an operation gives where it is valid, and where it is not (a NaN off the tape).
-/
import Derived.WalkKit
import Derived.WalkLawsBesides
import Derived.WalkSpells
import Derived.Lib.Hide
import Derived.Deep.QuietTactic
import Derived.BigQuiet
import Derived.Deep.Draws
import Derived.Outline
import Derived.Test.YtjhognfkjdccfaaFl
namespace Go.Proofs.Ytjhognfkjdccfaa
open Go.RowKit Fl

/-- is the operation valid? -/
def fok (op : BinOp) (k : FloatKind) (x y : Nat) : Bool := (floatBits op k x y).isSome
/-- what a valid operation gives -/
def fv (op : BinOp) (k : FloatKind) (x y : Nat) : Nat := (floatBits op k x y).getD 0
/-- a NaN off the tape -/
def nb (k : FloatKind) (t : Nat) : Nat := (Question.nanBits k 0 0).cut t
def arith (op : BinOp) : Bool := match op with | .add | .sub | .mul | .quo => true | _ => false

theorem fv_some {op : BinOp} {k : FloatKind} {x y : Nat} (h : fok op k x y = true) : floatBits op k x y = some (fv op k x y) := by
  unfold fok at h; unfold fv
  cases e : floatBits op k x y <;> simp_all
theorem fok_of {op : BinOp} {k : FloatKind} {x y r : Nat} (h : floatBits op k x y = some r) : fok op k x y = true ∧ fv op k x y = r := by
  unfold fok fv; rw [h]; exact ⟨rfl, rfl⟩

@[go_sem] theorem run_fok {P : Program} (w : World) (op : BinOp) (t : TypeId) (k : FloatKind) (x y : Nat) (h : fok op k x y = true) :
    (binOp op t (.float k x) (.float k y)).run P w = .ok (.float k (fv op k x y)) w := run_float_arith w op t k x y _ (fv_some h)

theorem cut_nb (k : FloatKind) (x y t : Nat) : (Question.nanBits k x y).cut t = nb k t := by cases k <;> rfl

theorem run_fno {P : Program} (w : World) (op : BinOp) (t : TypeId) (k : FloatKind) (x y : Nat) (h : fok op k x y = false) (ha : arith op = true) :
    (binOp op t (.float k x) (.float k y)).run P w = .ok (.float k (nb k (w.tape w.drawn (.nanBits k x y)))) w.drew := by
  unfold fok floatBits at h
  cases op <;> simp only [arith] at ha <;> first | cases ha | skip
  all_goals
    simp only [Option.isSome_eq_false_iff, Option.isNone_iff_eq_none] at h
    simp [binOp, Op.floatArith, h, choose, Sem.run, Question.forced, cut_nb]
@[go_sem] theorem run_fno_add {P : Program} (w : World) (t : TypeId) (k : FloatKind) (x y : Nat) (h : fok .add k x y = false) :
    (binOp .add t (.float k x) (.float k y)).run P w = .ok (.float k (nb k (w.tape w.drawn (.nanBits k x y)))) w.drew := run_fno w .add t k x y h rfl
@[go_sem] theorem run_fno_sub {P : Program} (w : World) (t : TypeId) (k : FloatKind) (x y : Nat) (h : fok .sub k x y = false) :
    (binOp .sub t (.float k x) (.float k y)).run P w = .ok (.float k (nb k (w.tape w.drawn (.nanBits k x y)))) w.drew := run_fno w .sub t k x y h rfl
@[go_sem] theorem run_fno_mul {P : Program} (w : World) (t : TypeId) (k : FloatKind) (x y : Nat) (h : fok .mul k x y = false) :
    (binOp .mul t (.float k x) (.float k y)).run P w = .ok (.float k (nb k (w.tape w.drawn (.nanBits k x y)))) w.drew := run_fno w .mul t k x y h rfl
@[go_sem] theorem run_fno_quo {P : Program} (w : World) (t : TypeId) (k : FloatKind) (x y : Nat) (h : fok .quo k x y = false) :
    (binOp .quo t (.float k x) (.float k y)).run P w = .ok (.float k (nb k (w.tape w.drawn (.nanBits k x y)))) w.drew := run_fno w .quo t k x y h rfl

theorem fmt_ok (k : FloatKind) : 1 ≤ k.format.fractionBits ∧ k.format.binade ≤ k.format.infRung := by
  cases k <;> exact ⟨by decide, by decide⟩

theorem nb_nan (k : FloatKind) (t : Nat) : k.format.infRung < nb k t % k.format.signWeight := by
  cases k
  · show 2139095040 < ((t % 2) * 2 ^ 31 + 0x7f800000 + 1 + (t / 2) % (2 ^ 23 - 1)) % 2147483648
    have h := Nat.mod_lt (t / 2) (show 0 < 2 ^ 23 - 1 by omega)
    generalize t / 2 % (2 ^ 23 - 1) = s at h ⊢
    rw [show (t % 2) * 2 ^ 31 + 0x7f800000 + 1 + s = 2147483648 * (t % 2) + (2139095041 + s) by omega, Nat.mul_add_mod, Nat.mod_eq_of_lt (by omega)]
    omega
  · show 9218868437227405312 < ((t % 2) * 2 ^ 63 + 0x7ff0000000000000 + 1 + (t / 2) % (2 ^ 52 - 1)) % 9223372036854775808
    have h := Nat.mod_lt (t / 2) (show 0 < 2 ^ 52 - 1 by omega)
    generalize t / 2 % (2 ^ 52 - 1) = s at h ⊢
    rw [show (t % 2) * 2 ^ 63 + 0x7ff0000000000000 + 1 + s = 9223372036854775808 * (t % 2) + (9218868437227405313 + s) by omega, Nat.mul_add_mod, Nat.mod_eq_of_lt (by omega)]
    omega

@[go_sem] theorem order_nb_left (k : FloatKind) (t y : Nat) : k.format.order (nb k t) y = none := order_nan_left _ (fmt_ok k).2 (nb_nan k t) y
@[go_sem] theorem order_nb_right (k : FloatKind) (t y : Nat) : k.format.order y (nb k t) = none := order_nan_right _ (fmt_ok k).2 (nb_nan k t) y

/-! ### narrow words -/
/-- finite -/
def isfin (x : Nat) : Bool := decide (x % 2147483648 < 2139095040)
/-- no NaN -/
def isnum (x : Nat) : Bool := decide (x % 2147483648 ≤ 2139095040)
/-- an amount -/
def amtB (x : Nat) : Bool := decide (x < 2139095040)

theorem num_of {x : Nat} (hx : x < 4294967296) (h : isnum x = true) : num FloatKind.f32.format x := by
  have h := of_decide_eq_true h
  exact ⟨h, hx⟩
theorem isnum_of_fin {x : Nat} (h : isfin x = true) : isnum x = true := by
  have h := of_decide_eq_true h
  exact decide_eq_true (by omega)
theorem isnum_of_le {x : Nat} (h : x ≤ 2139095040) : isnum x = true := decide_eq_true (by omega)
theorem num_of_le {x : Nat} (h : x ≤ 2139095040) : num FloatKind.f32.format x := num_of (by omega) (isnum_of_le h)

theorem ord_num {x y : Nat} (hx : num FloatKind.f32.format x) (hy : num FloatKind.f32.format y) : FloatKind.f32.format.order x y = some (compare (key FloatKind.f32.format x) (key FloatKind.f32.format y)) :=
  order_key _ (fmt_ok .f32).2 hx hy
theorem ord_pos {x y : Nat} (hx : x ≤ 2139095040) (hy : y ≤ 2139095040) : FloatKind.f32.format.order x y = some (compare (x : Int) (y : Int)) := by
  rw [ord_num (num_of_le hx) (num_of_le hy)]
  have e : ∀ z : Nat, z ≤ 2139095040 → key FloatKind.f32.format z = z := fun z hz => by
    show (if z < 2147483648 then (z : Int) else _) = _
    rw [if_pos (by omega)]
  rw [e x hx, e y hy]
theorem ord_nan_l {x : Nat} (h : isnum x = false) (y : Nat) : FloatKind.f32.format.order x y = none :=
  order_nan_left _ (fmt_ok .f32).2 (by have := of_decide_eq_false h; show 2139095040 < x % 2147483648; omega) y
theorem ord_nan_r {x : Nat} (h : isnum x = false) (y : Nat) : FloatKind.f32.format.order y x = none :=
  order_nan_right _ (fmt_ok .f32).2 (by have := of_decide_eq_false h; show 2139095040 < x % 2147483648; omega) y
theorem ord_self {x : Nat} (hx : x < 4294967296) (h : isnum x = true) : FloatKind.f32.format.order x x = some .eq := by
  rw [ord_num (num_of hx h) (num_of hx h)]; simp

/-- 'a - a' -/
theorem sub_fin {x : Nat} (hx : x < 4294967296) (h : isfin x = true) : fok .sub .f32 x x = true ∧ fv .sub .f32 x x = 0 := by
  have h := of_decide_eq_true h
  apply fok_of
  show FloatKind.f32.format.sub x x = some 0
  rcases Nat.lt_or_ge x 2147483648 with k | k
  · exact sub_self_fin FloatKind.f32.format false x (by show x < 2139095040; omega)
  · have := sub_self_fin FloatKind.f32.format true (x - 2147483648) (by show _ < 2139095040; omega)
    have e : FloatKind.f32.format.word true (x - 2147483648) = x := by show 2147483648 + _ = x; omega
    rw [e] at this; exact this
theorem sub_inf {x : Nat} (hx : x < 4294967296) (h : isfin x = false) : fok .sub .f32 x x = false := by
  have h := of_decide_eq_false h
  have : FloatKind.f32.format.sub x x = none := by
    rcases Nat.lt_or_ge 2139095040 (x % 2147483648) with k | k
    · exact sub_nan_left _ (fmt_ok .f32).2 k x
    · rcases Nat.lt_or_ge x 2147483648 with k' | k'
      · have e : x = FloatKind.f32.format.word false FloatKind.f32.format.infRung := by show x = 2139095040; omega
        rw [e]; exact sub_self_inf _ (fmt_ok .f32).2 false
      · have e : x = FloatKind.f32.format.word true FloatKind.f32.format.infRung := by show x = 2147483648 + 2139095040; omega
        rw [e]; exact sub_self_inf _ (fmt_ok .f32).2 true
  unfold fok
  show (FloatKind.f32.format.sub x x).isSome = false
  rw [this]; rfl
theorem order00 : FloatKind.f32.format.order 0 0 = some .eq := by rw [ord_pos (by omega) (by omega)]; rfl

theorem amt_fin {x : Nat} (h : amtB x = true) : isfin x = true := by
  have := of_decide_eq_true h
  exact decide_eq_true (by omega)
/-! ### narrow to wide -/
/-- a narrow number made wide -/
def cv (x : Nat) : Nat := (floatToFloatBits .f32 x .f64).getD 0

theorem cv_fin (s : Bool) (r : Nat) (h : r < 2139095040) : ∃ q, floatToFloatBits .f32 (FloatKind.f32.format.word s r) .f64 = some (FloatKind.f64.format.word s q) ∧ sv FloatKind.f64.format q = sv FloatKind.f32.format r * 2 ^ 925 ∧ q < FloatKind.f64.format.infRung := by
  have hr := read_word FloatKind.f32.format s r h
  have hexn : exn FloatKind.f32.format r ≤ 253 := by
    show r / 8388608 - 1 ≤ 253
    omega
  obtain ⟨q, h1, h2, h3⟩ := nearest_exact FloatKind.f64.format (fmt_ok .f64).1 s (mgn FloatKind.f32.format r) (925 + exn FloatKind.f32.format r) (FloatKind.f32.format.leastPlace + (exn FloatKind.f32.format r : Int))
    (by have := mgn_lt FloatKind.f32.format r
        have e1 : FloatKind.f32.format.binade = 8388608 := rfl
        have e2 : FloatKind.f64.format.binade = 4503599627370496 := rfl
        omega)
    (by have e1 : FloatKind.f32.format.leastPlace = -149 := rfl
        have e2 : FloatKind.f64.format.leastPlace = -1074 := rfl
        omega)
    (by have e1 : FloatKind.f64.format.infRung = 2047 * 4503599627370496 := rfl
        have e2 : FloatKind.f64.format.binade = 4503599627370496 := rfl
        rw [e1, e2]
        exact Nat.mul_lt_mul_of_pos_right (by omega) (by omega))
  refine ⟨q, ?_, ?_, h3⟩
  · unfold floatToFloatBits
    rw [if_neg (by decide)]
    have e : FloatKind.f32.decode (FloatKind.f32.format.word s r) = .number s (mgn FloatKind.f32.format r) (FloatKind.f32.format.leastPlace + (exn FloatKind.f32.format r : Int)) := hr
    rw [e]
    have e2 : FloatKind.f64.encode (.number s (mgn FloatKind.f32.format r) (FloatKind.f32.format.leastPlace + (exn FloatKind.f32.format r : Int))) = FloatKind.f64.format.word s q := h1
    simp only [e2]
    have e3 : (FloatKind.f64.decode (FloatKind.f64.format.word s q)).isInfinity = false := read_inf_iff _ s q h3
    rw [e3]; rfl
  · have gen : ∀ a b c : Nat, a * 2 ^ (b + c) = a * 2 ^ c * 2 ^ b := fun a b c => by rw [Nat.pow_add, Nat.mul_comm (2 ^ b), Nat.mul_assoc]
    exact h2.trans (gen _ _ _)

theorem cv_inf (s : Bool) : floatToFloatBits .f32 (FloatKind.f32.format.word s 2139095040) .f64 = some (FloatKind.f64.format.word s FloatKind.f64.format.infRung) := by
  cases s
  · kernel_rfl
  · kernel_rfl

theorem cv_num {x : Nat} (hx : x < 4294967296) (h : isnum x = true) : floatToFloatBits .f32 x .f64 = some (cv x) ∧ num FloatKind.f64.format (cv x) := by
  obtain ⟨s, r, rfl, hr⟩ := word_of_num (num_of hx h)
  have hr' : r ≤ 2139095040 := hr
  rcases Nat.lt_or_ge r 2139095040 with k | k
  · obtain ⟨q, h1, h2, h3⟩ := cv_fin s r k
    unfold cv
    rw [h1]
    exact ⟨rfl, num_word _ s q (Nat.le_of_lt h3)⟩
  · have : r = 2139095040 := by omega
    subst this
    unfold cv
    rw [cv_inf]
    exact ⟨rfl, num_word _ s _ (Nat.le_refl _)⟩

/-- which words can be made wide without a question -/
def cvok (x : Nat) : Bool := decide (x < 4294967296) && isnum x
theorem cvok_of {x : Nat} (hx : x < 4294967296) (h : isnum x = true) : cvok x = true := by simp [cvok, hx, h]

theorem run_cv {P : Program} (w : World) (src dst : TypeId) (hs : (P.underlying src).isSome = true) (hd : P.underlying dst = some (.float .f64)) (x : Nat) (h : cvok x = true) :
    (convert src dst (.float .f32 x)).run P w = .ok (.float .f64 (cv x)) w := by
  simp only [cvok, Bool.and_eq_true, decide_eq_true_eq] at h
  exact run_convert_float_float w src dst .f32 .f64 x _ hs hd (cv_num h.1 h.2).1

theorem ord64_self {x : Nat} (h : num FloatKind.f64.format x) : FloatKind.f64.format.order x x = some .eq := by
  rw [order_key _ (fmt_ok .f64).2 h h]; simp
theorem ord64_zero {x : Nat} (h : num FloatKind.f64.format x) (h0 : x ≠ 0) (h1 : x ≠ 9223372036854775808) : (FloatKind.f64.format.order x 0 == some .eq) = false := by
  show (FloatKind.f64.format.order x (FloatKind.f64.format.word false 0) == some .eq) = false
  rw [order_key _ (fmt_ok .f64).2 h (num_word FloatKind.f64.format false 0 (Nat.zero_le _))]
  show (some (compare (key FloatKind.f64.format x) (key FloatKind.f64.format 0)) == some .eq) = false
  have e0 : key FloatKind.f64.format 0 = 0 := rfl
  have e : key FloatKind.f64.format x = if x < 9223372036854775808 then (x : Int) else -((x - 9223372036854775808 : Nat) : Int) := rfl
  have hn : key FloatKind.f64.format x ≠ 0 := by
    rw [e]; split <;> omega
  rw [e0]
  rcases Int.lt_trichotomy (key FloatKind.f64.format x) 0 with q | q | q
  · rw [Int.compare_eq_lt.2 q]; rfl
  · exact absurd q hn
  · rw [Int.compare_eq_gt.2 q]; rfl
end Go.Proofs.Ytjhognfkjdccfaa
