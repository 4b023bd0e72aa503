/-
  Arguments opened by their outer form alone.
-/
import Derived.Test.YtjhognfkjdccfaaBase
import Derived.ProofKit
import Derived.OpenShut
namespace Go.Proofs.Ytjhognfkjdccfaa
open Go.ChangeShapes Go.WideShapes Go.ChangeAt Go.RowKit

section
variable {P : Program} {w : World} {base : Nat}
theorem cell_f32 {t : TypeId} {v : Value} (ht : P.underlying t = some (.float .f32)) (h : Cell.okWide P w .any base t v) : ∃ b, v = .float .f32 b ∧ b < 4294967296 := by
  simp only [Cell.okWide, ht] at h
  cases v <;> simp_all [Cell.ok]
  obtain ⟨rfl, h⟩ := h
  exact h
theorem cell_i64 {t : TypeId} {v : Value} (ht : P.underlying t = some (.int .i64)) (h : Cell.okWide P w .any base t v) : ∃ n, v = .int .i64 n ∧ -9223372036854775808 ≤ n ∧ n ≤ 9223372036854775807 := by
  simp only [Cell.okWide, ht] at h
  cases v <;> simp_all [Cell.ok]
  obtain ⟨rfl, h⟩ := h
  exact h
theorem op_f32 {t : TypeId} {v : Value} (ht : P.underlying t = some (.float .f32)) (h : Value.okWide P w .any base t v) : ∃ b, v = .float .f32 b ∧ b < 4294967296 := by
  simp only [Value.okWide, ht] at h
  exact cell_f32 ht h
theorem op_i64 {t : TypeId} {v : Value} (ht : P.underlying t = some (.int .i64)) (h : Value.okWide P w .any base t v) : ∃ n, v = .int .i64 n ∧ -9223372036854775808 ≤ n ∧ n ≤ 9223372036854775807 := by
  simp only [Value.okWide, ht] at h
  exact cell_i64 ht h

def bitsOf : Option Value → Nat | some (.float .f32 b) => b | _ => 0
def intAt : Option Value → Int | some (.int .i64 b) => b | _ => 0

theorem row_f32 {t e : TypeId} {n : Nat} {cs : Array Value} (he : P.underlying e = some (.float .f32)) (hts : P.cellTypes P.depth t = some (List.replicate n e)) (hsz : cs.size = n) (h : Row.okWide P w .any base t cs) :
    ∃ f : Nat → Nat, cs = row n (fun j => .float .f32 (f j)) ∧ ∀ j, f j < 4294967296 := by
  obtain ⟨ts, h1, _, h2⟩ := h
  rw [hts] at h1
  obtain rfl := Option.some.inj h1
  have key : ∀ j, j < n → ∃ b, cs[j]? = some (.float .f32 b) ∧ b < 4294967296 := by
    intro j hj
    obtain ⟨u, hu, hc⟩ := h2 j (cs[j]'(by omega)) (Array.getElem?_eq_getElem (by omega))
    rw [List.length_replicate, Nat.mod_eq_of_lt hj, List.getElem?_replicate, if_pos hj] at hu
    obtain rfl := Option.some.inj hu
    obtain ⟨b, hb, hlt⟩ := cell_f32 he hc
    exact ⟨b, by rw [Array.getElem?_eq_getElem (by omega), hb], hlt⟩
  refine ⟨fun j => bitsOf cs[j]?, ?_, ?_⟩
  · refine row_of cs n hsz _ fun j hj => ?_
    obtain ⟨b, hb, _⟩ := key j hj
    show cs[j]'(by omega) = .float .f32 (bitsOf cs[j]?)
    rw [hb]
    rw [Array.getElem?_eq_getElem (by omega)] at hb
    exact Option.some.inj hb
  · intro j
    rcases Nat.lt_or_ge j n with hj | hj
    · obtain ⟨b, hb, hlt⟩ := key j hj
      simp only [hb]; exact hlt
    · have : cs[j]? = none := Array.getElem?_eq_none (by omega)
      simp only [this]; decide

theorem row_i64 {t e : TypeId} {n : Nat} {cs : Array Value} (he : P.underlying e = some (.int .i64)) (hts : P.cellTypes P.depth t = some (List.replicate n e)) (hsz : cs.size = n) (h : Row.okWide P w .any base t cs) :
    ∃ f : Nat → Int, cs = row n (fun j => .int .i64 (f j)) ∧ ∀ j, -9223372036854775808 ≤ f j ∧ f j ≤ 9223372036854775807 := by
  obtain ⟨ts, h1, _, h2⟩ := h
  rw [hts] at h1
  obtain rfl := Option.some.inj h1
  have key : ∀ j, j < n → ∃ b, cs[j]? = some (.int .i64 b) ∧ -9223372036854775808 ≤ b ∧ b ≤ 9223372036854775807 := by
    intro j hj
    obtain ⟨u, hu, hc⟩ := h2 j (cs[j]'(by omega)) (Array.getElem?_eq_getElem (by omega))
    rw [List.length_replicate, Nat.mod_eq_of_lt hj, List.getElem?_replicate, if_pos hj] at hu
    obtain rfl := Option.some.inj hu
    obtain ⟨b, hb, hlt⟩ := cell_i64 he hc
    exact ⟨b, by rw [Array.getElem?_eq_getElem (by omega), hb], hlt⟩
  refine ⟨fun j => intAt cs[j]?, ?_, ?_⟩
  · refine row_of cs n hsz _ fun j hj => ?_
    obtain ⟨b, hb, _⟩ := key j hj
    show cs[j]'(by omega) = .int .i64 (intAt cs[j]?)
    rw [hb]
    rw [Array.getElem?_eq_getElem (by omega)] at hb
    exact Option.some.inj hb
  · intro j
    rcases Nat.lt_or_ge j n with hj | hj
    · obtain ⟨b, hb, hlt⟩ := key j hj
      simp only [hb]; exact hlt
    · have : cs[j]? = none := Array.getElem?_eq_none (by omega)
      simp only [this]; decide

theorem op_arr_f32 {t e : TypeId} {m n : Nat} {e' : TypeId} {v : Value} (ht : P.underlying t = some (.array m e')) (he : P.underlying e = some (.float .f32)) (hts : P.cellTypes P.depth t = some (List.replicate n e)) (hc : P.cellsOf t = n)
    (h : Value.okWide P w .any base t v) : ∃ f : Nat → Nat, v = .agg (row n (fun j => .float .f32 (f j))) ∧ ∀ j, f j < 4294967296 := by
  simp only [Value.okWide, ht] at h
  obtain ⟨cs, rfl, hsz, hr⟩ := h
  obtain ⟨f, rfl, hf⟩ := row_f32 he hts (hsz.trans hc) hr
  exact ⟨f, rfl, hf⟩
theorem op_str_i64 {t e : TypeId} {fs : Array Field} {n : Nat} {v : Value} (ht : P.underlying t = some (.struct fs)) (he : P.underlying e = some (.int .i64)) (hts : P.cellTypes P.depth t = some (List.replicate n e)) (hc : P.cellsOf t = n)
    (h : Value.okWide P w .any base t v) : ∃ f : Nat → Int, v = .agg (row n (fun j => .int .i64 (f j))) ∧ ∀ j, -9223372036854775808 ≤ f j ∧ f j ≤ 9223372036854775807 := by
  simp only [Value.okWide, ht] at h
  obtain ⟨cs, rfl, hsz, hr⟩ := h
  obtain ⟨f, rfl, hf⟩ := row_i64 he hts (hsz.trans hc) hr
  exact ⟨f, rfl, hf⟩
/-- two narrow numbers in a struct -/
theorem op_two_f32 {t e : TypeId} {fs : Array Field} {v : Value} (ht : P.underlying t = some (.struct fs)) (he : P.underlying e = some (.float .f32)) (hts : P.cellTypes P.depth t = some (List.replicate 2 e)) (hc : P.cellsOf t = 2)
    (h : Value.okWide P w .any base t v) : ∃ a b : Nat, v = .agg #[.float .f32 a, .float .f32 b] ∧ a < 4294967296 ∧ b < 4294967296 := by
  simp only [Value.okWide, ht] at h
  obtain ⟨cs, rfl, hsz, hr⟩ := h
  obtain ⟨f, rfl, hf⟩ := row_f32 he hts (hsz.trans hc) hr
  refine ⟨f 0, f 1, ?_, hf 0, hf 1⟩
  congr 1
  apply Array.ext
  · simp [row]
  · intro j h1 h2
    have : j = 0 ∨ j = 1 := by simp [row] at h1; omega
    rcases this with rfl | rfl <;> simp [row]
end

theorem own : ownKnob Try.prog.godebug = none := by kernel_rfl
theorem laidOut : laidOutB Try.prog = true := by kernel_rfl
end Go.Proofs.Ytjhognfkjdccfaa
