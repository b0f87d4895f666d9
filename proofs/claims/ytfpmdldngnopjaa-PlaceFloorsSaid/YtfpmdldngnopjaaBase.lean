/-
  The seat's closed facts: the program's set-up word, and that its table of types is laid out.
-/
import Derived.Test.YtfpmdldngnopjaaRows
import Derived.Test.YtfpmdldngnopjaaRead
import Derived.WalkLawsBesides
import Derived.BigQuiet
import Derived.Deep.QuietTactic
namespace Go.Proofs.Ytfpmdldngnopjaa
theorem Base.own : ownKnob Try.prog.godebug = none := by kernel_rfl
theorem Base.laidOut : laidOutB Try.prog = true := by kernel_rfl
end Go.Proofs.Ytfpmdldngnopjaa
