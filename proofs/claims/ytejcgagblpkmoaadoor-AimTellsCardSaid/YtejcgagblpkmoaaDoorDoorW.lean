
/-
  bits.Without: a set without a number. Condition: the number fits. And what a set has, counted.
-/
import Derived.Test.YtejcgagblpkmoaaDoorDoorS
import Derived.Test.YtejcgagblpkmoaaDoorRef03h
import Derived.Test.YtejcgagblpkmoaaDoorRef03g
set_option linter.unusedVariables false
set_option linter.unusedSimpArgs false
namespace Go.Proofs.YtejcgagblpkmoaaDoor
open Go.Joins Go.ChangeShapes Go.WideShapes Go.ChangeAt Go.RowKit Go.Deep

theorem sub_none {x : Nat} (hx : Wd x) : subW x 0 = x := by
  show x &&& (2 ^ 64 - 1) = x
  rw [Nat.and_two_pow_sub_one_eq_mod]
  exact Nat.mod_eq_of_lt hx
theorem with_or (x : Nat) (n : Int) : withX x n = x ||| withX 0 n := by
  unfold withX
  split <;> simp
theorem with_orY (y : Nat) (n : Int) : withY y n = y ||| withY 0 n := by
  unfold withY
  split <;> simp
theorem popN_zero (n : Nat) : popN 0 n = 0 := by
  induction n with
  | zero => rfl
  | succ n ih => simp [popN, ih]
theorem popN_succ (x n : Nat) : popN x (n + 1) = popN x n + (if x.testBit n then 1 else 0) := rfl
/-- How many of the first n there are. -/
theorem pre_count (x y n : Nat) (hn : n ≤ 128) : (preI x y n).length = popN x (min n 64) + popN y (n - 64) := by
  induction n with
  | zero => simp [preI, popN]
  | succ n ih =>
    have h := ih (by omega)
    have e : (preI x y (n + 1)).length = (preI x y n).length + (if memB x y (n : Int) then 1 else 0) := by
      cases hb : bitsF x y n with
      | true =>
        rw [pre_yes hb]
        unfold bitsF at hb
        rw [hb]
        simp
      | false =>
        rw [pre_no hb]
        unfold bitsF at hb
        rw [hb]
        simp
    rw [e, h, mem_nat]
    by_cases h64 : n < 64
    · rw [if_pos h64, show min (n + 1) 64 = n + 1 by omega, show min n 64 = n by omega, show n + 1 - 64 = 0 by omega, show n - 64 = 0 by omega, popN_succ x n]
      omega
    · rw [if_neg h64, if_pos (show n < 128 by omega), show min (n + 1) 64 = 64 by omega, show min n 64 = 64 by omega, show n + 1 - 64 = (n - 64) + 1 by omega, popN_succ y (n - 64)]
      omega
theorem items_count (x y : Nat) : (items x y).length = popN x 64 + popN y 64 := pre_count x y 128 (by omega)
end Go.Proofs.YtejcgagblpkmoaaDoor
