
/-
  hoistwaylaw34.Within of two sets: what it makes sure of. Condition: the number of floors fits.
-/
import Derived.Test.YtejcgagblpkmoaaDoorRef03f
import Derived.Test.YtejcgagblpkmoaaDoorEqSet
import Derived.Test.YtejcgagblpkmoaaDoorDataC
set_option linter.unusedVariables false
set_option linter.unusedSimpArgs false
namespace Go.Proofs.YtejcgagblpkmoaaDoor
open Go.Joins Go.ChangeShapes Go.WideShapes Go.ChangeAt Go.RowKit Go.Deep

/-- All are below a number. -/
def inF (fl : Int) (x y : Nat) : Prop := ∀ n : Int, memB x y n = true → n < fl
def sameB (fl : Int) (x y : Nat) : Bool := ((mkX (rngF x y 0 fl) : Nat) : Int) == (x : Int) && ((mkY (rngF x y 0 fl) : Nat) : Int) == (y : Int)
theorem same_in {fl : Int} {x y : Nat} (h : sameB fl x y = true) : inF fl x y := by
  intro n hn
  unfold sameB at h
  simp only [Bool.and_eq_true, beq_iff_eq] at h
  have h1 : mkX (rngF x y 0 fl) = x := by omega
  have h2 : mkY (rngF x y 0 fl) = y := by omega
  by_cases ho : n < 0 ∨ 128 ≤ n
  · rw [mem_out ho] at hn; cases hn
  · have := mem_mk (rngF x y 0 fl) n (by omega) (by omega)
    rw [h1, h2, hn] at this
    unfold rngF at this
    have := this.symm
    simp only [Bool.and_eq_true, decide_eq_true_eq] at this
    omega
end Go.Proofs.YtejcgagblpkmoaaDoor
