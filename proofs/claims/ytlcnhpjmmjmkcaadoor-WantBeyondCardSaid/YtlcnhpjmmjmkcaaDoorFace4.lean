
/-
  (Sight).Stop. Conditions: at most 1000 riders, floors within a million, directions -1, 0, 1.
-/
import Derived.Test.YtlcnhpjmmjmkcaaDoorFace3
set_option linter.unusedVariables false
set_option linter.unusedSimpArgs false
namespace Go.Proofs.YtlcnhpjmmjmkcaaDoor
open Go.Joins Go.ChangeShapes Go.WideShapes Go.ChangeAt Go.RowKit Go.Deep

/-- Does a car stop? -/
def stopB (s : Sgt) (c : Car) (f : Int) : Bool := memB (ridX c) (ridY c) f || (if c.dir = 0 then callB s f 1 || callB s f (-1) else callB s f c.dir || (callB s f (-c.dir) && !beyB s f c.dir))
end Go.Proofs.YtlcnhpjmmjmkcaaDoor
