
/-
  Quotients, rounded down and up, and what is left: nums and hoistwayref01. Condition: the arguments fit their kinds.
-/
import Derived.Test.YtnlieclfajebbaaNums
set_option linter.unusedVariables false
set_option linter.unusedSimpArgs false
namespace Go.Proofs.Ytnlieclfajebbaa
open Go.Joins Go.ChangeShapes Go.WideShapes Go.ChangeAt Go.RowKit Go.Deep

/-- The quotient, rounded down (b isn't 0). -/
def quoF (a b : Int) : Int := if (a < 0) = (b < 0) then szQ a b else if szR a b = 0 then -szQ a b else -szQ a b - 1
def fitV (n : Int) : Int := if n ≤ 9223372036854775807 then n else 0
def fitE (n : Int) : Int := if n ≤ 9223372036854775807 then 0 else 10

end Go.Proofs.Ytnlieclfajebbaa
