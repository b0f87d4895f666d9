
/-
  Names and numbers as bars, as lists of bytes. No program in sight; no conditions.
-/
import Derived.Test.YtnlieclfajebbaaBars
import Derived.Test.YtnlieclfajebbaaPad
import Derived.Test.YtnlieclfajebbaaStrs
import Derived.Test.YtnlieclfajebbaaInts
import Derived.Test.YtnlieclfajebbaaDecR
set_option linter.unusedVariables false
set_option linter.unusedSimpArgs false
namespace Go.Proofs.Ytnlieclfajebbaa

def topN (xs : List Int) : Nat → Int
  | 0 => 0
  | k + 1 => if topN xs k < at0 xs k then at0 xs k else topN xs k
def wideN (nm : List (List UInt8)) : Nat → Nat
  | 0 => 0
  | k + 1 => if wideN nm k < (nm0 nm k).length then (nm0 nm k).length else wideN nm k
theorem topN_bd {xs : List Int} (h : ∀ i, I64 (at0 xs i)) (k : Nat) : 0 ≤ topN xs k ∧ topN xs k ≤ 9223372036854775807 := by
  induction k with
  | zero => simp [topN]
  | succ k ih =>
    have hk := h k
    unfold I64 at hk
    simp only [topN]
    split <;> omega
theorem wideN_bd {nm : List (List UInt8)} (h : ∀ i, (nm0 nm i).length ≤ 60) (k : Nat) : wideN nm k ≤ 60 := by
  induction k with
  | zero => simp [wideN]
  | succ k ih =>
    have hk := h k
    simp only [wideN]
    split <;> omega
def barN (xs : List Int) (top long : Int) (i : Nat) : Nat := (barV (at0 xs i) top long).toNat
def lineA (nm : List (List UInt8)) (wide i : Nat) : List UInt8 := padL (nm0 nm i) wide ++ [32, 124]
def lineC (xs : List Int) (i : Nat) : List UInt8 := [32] ++ decI (at0 xs i) ++ [10]
def lineL (nm : List (List UInt8)) (xs : List Int) (wide : Nat) (top long : Int) (i : Nat) : List UInt8 := lineA nm wide i ++ List.replicate (barN xs top long i) 61 ++ lineC xs i
def textL (nm : List (List UInt8)) (xs : List Int) (wide : Nat) (top long : Int) : Nat → List UInt8
  | 0 => []
  | k + 1 => textL nm xs wide top long k ++ lineL nm xs wide top long k
theorem barN_bd (xs : List Int) (top long : Int) (i : Nat) : barN xs top long i ≤ 200 := by
  unfold barN
  obtain ⟨h0, h1, h2⟩ := bar_bd (at0 xs i) top long
  by_cases hb : barBad (at0 xs i) top long
  · have := (h1 hb).1; omega
  · have := (h2 hb).2.1
    unfold barBad at hb
    omega
theorem lineL_len {nm : List (List UInt8)} {xs : List Int} {wide : Nat} {top long : Int} {i : Nat} (h : (nm0 nm i).length ≤ 60) (hw : wide ≤ 60) : (lineL nm xs wide top long i).length ≤ 300 := by
  have h1 := barN_bd xs top long i
  have h2 := decI_len (at0 xs i)
  have h3 := pad_len (nm0 nm i) wide
  unfold lineL lineA lineC
  simp only [List.length_append, List.length_replicate, List.length_cons, List.length_nil]
  omega
theorem textL_len {nm : List (List UInt8)} {xs : List Int} {wide : Nat} {top long : Int} (h : ∀ i, (nm0 nm i).length ≤ 60) (hw : wide ≤ 60) (k : Nat) : (textL nm xs wide top long k).length ≤ 300 * k := by
  induction k with
  | zero => simp [textL]
  | succ k ih =>
    have := lineL_len (xs := xs) (top := top) (long := long) (h k) hw
    simp only [textL, List.length_append]
    omega
def badAt (xs : List Int) (top long : Int) : Nat → Bool
  | 0 => false
  | k + 1 => badAt xs top long k || decide (barBad (at0 xs k) top long)
theorem badAt_hit {xs : List Int} {top long : Int} {k n : Nat} (h : k < n) (hb : barBad (at0 xs k) top long) : badAt xs top long n = true := by
  induction n with
  | zero => omega
  | succ n ih =>
    simp only [badAt, Bool.or_eq_true, decide_eq_true_eq]
    by_cases e : k < n
    · exact .inl (ih e)
    · obtain rfl : k = n := by omega
      exact .inr hb
/-- Bars; why there are none. -/
def barsT (nm : List (List UInt8)) (xs : List Int) (long : Int) : List UInt8 := if nm.length = xs.length then (if badAt xs (topN xs xs.length) long xs.length = true then [] else textL nm xs (wideN nm xs.length) (topN xs xs.length) long xs.length) else []
def barsE (nm : List (List UInt8)) (xs : List Int) (long : Int) : Int := if nm.length = xs.length then (if badAt xs (topN xs xs.length) long xs.length = true then 22 else 0) else 22
theorem bars_no {nm : List (List UInt8)} {xs : List Int} {long : Int} (h : nm.length ≠ xs.length) : barsT nm xs long = [] ∧ barsE nm xs long = 22 := by
  unfold barsT barsE; rw [if_neg h, if_neg h]; exact ⟨rfl, rfl⟩
theorem bars_bad {nm : List (List UInt8)} {xs : List Int} {long : Int} (h : badAt xs (topN xs xs.length) long xs.length = true) : barsT nm xs long = [] ∧ barsE nm xs long = 22 := by
  unfold barsT barsE
  rw [if_pos h, if_pos h]
  exact ⟨by split <;> rfl, by split <;> rfl⟩
theorem bars_ok {nm : List (List UInt8)} {xs : List Int} {long : Int} (hl : nm.length = xs.length) (h : badAt xs (topN xs xs.length) long xs.length = false) : barsT nm xs long = textL nm xs (wideN nm xs.length) (topN xs xs.length) long xs.length ∧ barsE nm xs long = 0 := by
  unfold barsT barsE
  rw [if_pos hl, if_pos hl, h]
  exact ⟨rfl, rfl⟩
theorem rep_one (k : Nat) : Go.Lib.repeatL [61] k = List.replicate k (61 : UInt8) := by
  induction k with
  | zero => rfl
  | succ k ih => rw [List.replicate_succ, ← ih]; rfl
end Go.Proofs.Ytnlieclfajebbaa
