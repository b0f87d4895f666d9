
/-
  Layer 1: quotients by nought, 'is', and the chapter's example. No conditions beyond the kinds.
-/
import Derived.Test.YtnlieclfajebbaaNumsDiv2
set_option linter.unusedVariables false
set_option linter.unusedSimpArgs false
namespace Go.Proofs.Ytnlieclfajebbaa
open Go.Joins Go.ChangeShapes Go.WideShapes Go.ChangeAt Go.RowKit Go.Deep

end Go.Proofs.Ytnlieclfajebbaa
