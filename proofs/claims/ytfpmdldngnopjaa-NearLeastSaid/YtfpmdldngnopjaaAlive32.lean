/-
  The chapter's example of layer 32.
-/
import Derived.Test.YtfpmdldngnopjaaNearCost
set_option linter.unusedVariables false
set_option linter.unusedSimpArgs false
namespace Go.Proofs.Ytfpmdldngnopjaa
open Go.Joins Go.ChangeShapes Go.WideShapes Go.ChangeAt Go.RowKit Go.Deep
def scB : Scen := { floors := 4, gap := 1, cars := 1, capacity := 1, open_ := 1, dwell := 1, close := 1, transfer := 1, segs := [⟨1, 1, 0⟩], disp := 1, horizon := 9, bins := 1, width := 1 }
def carB : Car := { pos := 0, dir := 1, mode := 0, left := 0, waited := false, riders := [] }
theorem alive32 (w : World) : Calls Try.prog 40 #[] w fun e w' => e = .returned (.bool true) ∧ Below w.heap.size w w' := by
  have hs : scB.small := by unfold Scen.small; decide
  have hcost : costOf scB carB 2 (-1) = 5 := by decide
  have hl1 : leastN [3, 1, 1] 3 = 1 := by decide
  have hl0 : leastN [] 0 = -1 := rfl
  go_enter Try.func40, Try.ntmps40
  go_wp2_with fail
  refine (near_Cost scB _ _ carB _ _ 2 (-1) _ hs (by omega) (by omega) (by decide) (by decide)).mono ?_
  rintro e w1 ⟨rfl, hb⟩
  have hf1 : Below w.heap.size w w1 := (below_alloc1 _ _).trans (hb.mono (by simp))
  clear hb
  go_wp2_with fail
  refine (near_Least _ _ [3, 1, 1] _ (fun _ => ⟨_, 0, rfl, ?_, ?_⟩) (by simp)).mono ?_
  · simp
  · intro i hi
    match i, hi with
    | 0, _ => simp; rfl
    | 1, _ => simp; rfl
    | 2, _ => simp; rfl
  rintro e w2 ⟨rfl, rfl⟩
  go_wp2_with fail
  refine (near_Least _ _ [] _ (fun h => by simp at h) (by simp)).mono ?_
  rintro e w3 ⟨rfl, rfl⟩
  go_wp2
  go_ret
  exact ⟨rfl, hf1.alloc hf1.size _⟩
end Go.Proofs.Ytfpmdldngnopjaa
