
/-
  (Sight).Call, Beyond, Of, Stop. Conditions: floors within a million, directions -1, 0, 1.
-/
import Derived.Test.YtlcnhpjmmjmkcaaDoorFace
import Derived.Test.YtlcnhpjmmjmkcaaDoorEqSet
set_option linter.unusedVariables false
set_option linter.unusedSimpArgs false
namespace Go.Proofs.YtlcnhpjmmjmkcaaDoor
open Go.Joins Go.ChangeShapes Go.WideShapes Go.ChangeAt Go.RowKit Go.Deep

def callB (s : Sgt) (f d : Int) : Bool := if 0 < d then memB s.ux s.uy f else if d < 0 then memB s.dx s.dy f else false
def beyB (s : Sgt) (f d : Int) : Bool := !((beyX s.wx f d : Int) == 0 && (beyY s.wy f d : Int) == 0)
end Go.Proofs.YtlcnhpjmmjmkcaaDoor
