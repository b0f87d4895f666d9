
/-
  Trips within bounds, those that are done: hoistwaylaw24.Great, trip.done. Condition: there are at most 100 trips.
-/
import Derived.Test.YtnegolclofgboaaTrip
import Derived.Test.YtnegolclofgboaaOwnI
set_option linter.unusedVariables false
set_option linter.unusedSimpArgs false
namespace Go.Proofs.Ytnegolclofgboaa
open Go.Joins Go.ChangeShapes Go.WideShapes Go.ChangeAt Go.RowKit Go.Deep

/-- A trip whose ticks may be. -/
def fineT (t : Trip) : Prop := (-1 ≤ t.arrive ∧ t.arrive ≤ 1073741824) ∧ (-1 ≤ t.board ∧ t.board ≤ 1073741824) ∧ (-1 ≤ t.alight ∧ t.alight ≤ 1073741824)
def fineTs (xs : List Trip) : Prop := xs.length ≤ 100 ∧ ∀ (i : Nat) (t : Trip), xs[i]? = some t → fineT t
def GreatPost (xs : List Trip) (w : World) (e : Ending) (w' : World) : Prop := ∃ b : Bool, e = .returned (.bool b) ∧ (b = false → fineTs xs) ∧ Below w.heap.size w w'
end Go.Proofs.Ytnegolclofgboaa
