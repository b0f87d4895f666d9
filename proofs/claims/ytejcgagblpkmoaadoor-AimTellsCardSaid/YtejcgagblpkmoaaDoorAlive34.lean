
/-
  The chapter's example of layer 34. Conditions: the library's table lies as laid.
-/
import Derived.Test.YtejcgagblpkmoaaDoorEtaBest
set_option linter.unusedVariables false
set_option linter.unusedSimpArgs false
namespace Go.Proofs.YtejcgagblpkmoaaDoor
open Go.Joins Go.ChangeShapes Go.WideShapes Go.ChangeAt Go.RowKit Go.Deep
def scE : Scen := { floors := 5, gap := 2, cars := 1, capacity := 1, open_ := 1, dwell := 1, close := 1, transfer := 1, segs := [⟨1, 1, 0⟩], disp := 1, horizon := 9, bins := 1, width := 1 }
def carE : Car := { pos := 0, dir := 0, mode := 0, left := 0, waited := false, riders := [] }
theorem places_zero (g : Int) : places 0 0 g = [] := by
  rw [places_nil]
  apply List.eq_nil_iff_forall_not_mem.2
  intro a ha
  unfold items preI bitsF at ha
  simp [mem_zero] at ha
theorem eta_none (s : Scen) (c : Car) (tp dir : Int) : etaOf s c [] tp dir = doorOf s c + farOf c.pos tp := by
  unfold etaOf
  rw [if_pos (.inl rfl)]
  unfold dirW
  show doorOf s c + farOf c.pos tp + s.stop 1 * ((0 : Nat) : Int) = _
  simp
theorem alive34 (w : World) (hT : Tab w) : Calls Tryd.prog 10 #[] w fun e w' => e = .returned (.bool true) ∧ Below w.heap.size w w' := by
  have hs : scE.small := by unfold Scen.small; decide
  have hok : EtaOk scE carE := ⟨hs, by decide, by decide, by decide, by decide⟩
  have hv : etaOf scE carE (places 0 0 2) (3 * 2) 1 = 6 := by rw [places_zero, eta_none]; decide
  have cE := fun w A C hT => eta_Of scE A C carE none 0 0 0 3 1 w wd0 wd0 (by decide) hok (by decide) hT
  rw [show scE.gap = 2 from rfl, hv] at cE
  clear hv hs hok
  go_enter Tryd.func10, Tryd.ntmps10
  go_wp2_with fail
  refine (cE _ _ _ (hT.below (below_alloc1 _ _))).mono ?_
  rintro e w1 ⟨rfl, hb⟩
  have hf1 : Below w.heap.size w w1 := (below_alloc1 _ _).trans (hb.mono (by simp))
  clear hb
  go_wp2
  go_ret
  exact ⟨rfl, hf1⟩
end Go.Proofs.YtejcgagblpkmoaaDoor
