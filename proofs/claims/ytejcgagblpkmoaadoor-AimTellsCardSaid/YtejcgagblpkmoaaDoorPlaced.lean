
/-
  Contracts of the package place: each function computes what its name says, for numbers within bounds.
-/
import Derived.Test.YtejcgagblpkmoaaDoorSetW2
set_option linter.unusedVariables false
set_option linter.unusedSimpArgs false
namespace Go.Proofs.YtejcgagblpkmoaaDoor
open Go.ChangeShapes Go.WideShapes Go.ChangeAt Go.RowKit Go.Deep

theorem place_At (a b : Int) (w : World) (h : -4611686018427387904 ≤ a * b) (h' : a * b ≤ 4611686018427387904) :
    Calls Tryd.prog 25 #[.int .i64 a, .int .i64 b] w fun e w' => e = .returned (.int .i64 (a * b)) ∧ w = w' := by
  go_enter Tryd.func25, Tryd.ntmps25
  go_wp2
  go_ret
  exact ⟨rfl, rfl⟩

theorem place_Floor (pos gap : Int) (w : World) (h0 : 0 ≤ pos) (h1 : pos ≤ 1152921504606846976) (g1 : 1 ≤ gap) (g2 : gap ≤ 1152921504606846976) :
    Calls Tryd.prog 48 #[.int .i64 pos, .int .i64 gap] w fun e w' => e = .returned (.tuple #[.int .i64 (pos / gap), .bool (pos % gap == 0)]) ∧ ∃ n, w' = w.drewN n := by
  go_enter Tryd.func48, Tryd.ntmps48
  go_wp2
  go_quiet (fail)
  go_wp2
  go_ret2
  exact ⟨rfl, _, rfl⟩

def nextN (pos gap dir : Int) : Int := if pos % gap = 0 then 0 else if 0 < dir then (pos / gap + 1) * gap - pos else pos - pos / gap * gap
def nextF (pos gap dir : Int) : Int := if pos % gap = 0 then pos / gap else if 0 < dir then pos / gap + 1 else pos / gap

end Go.Proofs.YtejcgagblpkmoaaDoor
