
/-
  Quotients, rounded down and up, and what is left: nums.Ceil, nums.Mod, and hoistwayref01's three. Condition: the arguments fit their kinds.
-/
import Derived.Test.YtnlieclfajebbaaNumsDiv
set_option linter.unusedVariables false
set_option linter.unusedSimpArgs false
namespace Go.Proofs.Ytnlieclfajebbaa
open Go.Joins Go.ChangeShapes Go.WideShapes Go.ChangeAt Go.RowKit Go.Deep

/-- The quotient, rounded up. -/
def quoC (a b : Int) : Int := if szR a b = 0 then quoF a b else quoF a b + 1
/-- What is left of the quotient, rounded down. -/
def modF (a b : Int) : Int := if szR a b = 0 then 0 else if (a < 0) = (b < 0) then (if a < 0 then -szR a b else szR a b) else if a < 0 then b - szR a b else szR a b + b
def fitB (n : Int) : Bool := decide (n ≤ 9223372036854775807)

end Go.Proofs.Ytnlieclfajebbaa
