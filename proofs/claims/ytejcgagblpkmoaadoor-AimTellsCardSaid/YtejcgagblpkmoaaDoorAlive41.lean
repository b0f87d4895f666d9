
/-
  The chapter's example of layer 41. Conditions: the library's table lies as laid.
-/
import Derived.Test.YtejcgagblpkmoaaDoorAim
import Derived.Test.YtejcgagblpkmoaaDoorAlive34
set_option linter.unusedVariables false
set_option linter.unusedSimpArgs false
namespace Go.Proofs.YtejcgagblpkmoaaDoor
open Go.Joins Go.ChangeShapes Go.WideShapes Go.ChangeAt Go.RowKit Go.Deep
def scA : Scen := { floors := 3, gap := 1, cars := 1, capacity := 1, open_ := 1, dwell := 1, close := 1, transfer := 1, segs := [⟨1, 1, 0⟩], disp := 1, horizon := 9, bins := 1, width := 1 }
theorem alive41 (w : World) (hT : Tab w) : Calls Tryd.prog 20 #[] w fun e w' => e = .returned (.bool true) ∧ Below w.heap.size w w' := by
  have hs : scA.small := by unfold Scen.small; decide
  have hok : EtaOk scA carE := ⟨hs, by decide, by decide, by decide, by decide⟩
  have hv : aimC scA carE 0 0 0 2 = 8 := by
    unfold aimC
    rw [places_zero, eta_none, items_zero, mem_zero, mem_zero]
    decide
  have cE := fun w A C hT => aim_Cost scA A C carE none 0 0 0 0 0 0 2 w wd0 wd0 (by decide) hok (by decide) (by decide) (by decide) hT
  rw [hv] at cE
  clear hv hs hok
  go_enter Tryd.func20, Tryd.ntmps20
  go_wp2_with fail
  refine (cE _ _ _ (hT.below (below_alloc1 _ _))).mono ?_
  rintro e w1 ⟨rfl, hb⟩
  have hf1 : Below w.heap.size w w1 := (below_alloc1 _ _).trans (hb.mono (by simp))
  clear hb
  go_wp2
  go_ret
  exact ⟨rfl, hf1⟩
end Go.Proofs.YtejcgagblpkmoaaDoor
