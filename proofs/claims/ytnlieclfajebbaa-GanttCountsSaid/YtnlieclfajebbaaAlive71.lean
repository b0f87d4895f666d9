
/-
  The chapter's example: hoistwaylaw71.alive.
-/
import Derived.Test.YtnlieclfajebbaaRow
set_option linter.unusedVariables false
set_option linter.unusedSimpArgs false
namespace Go.Proofs.Ytnlieclfajebbaa
open Go.Joins Go.ChangeShapes Go.WideShapes Go.ChangeAt Go.RowKit Go.Deep

def zeroLeg : Leg := ⟨0, 0, 0, false⟩
theorem zeroLegs {w : World} {g : Nat} (h : Blk w g 98 #[.int .i64 0, .int .i64 0, .int .i64 0, .bool false]) : Legs w (some ⟨g, 0, none⟩) [zeroLeg] := fun _ => by
  refine ⟨g, 0, rfl, h.lt, fun i a hi j u hj => ?_⟩
  rw [h.cell]
  have hi2 : i = 0 := by
    have := (List.getElem?_eq_some_iff.1 hi).1
    simp at this
    omega
  have hj7 : j < 4 := (List.getElem?_eq_some_iff.1 hj).1
  subst hi2
  simp at hi
  subst hi
  have : j = 0 ∨ j = 1 ∨ j = 2 ∨ j = 3 := by omega
  rcases this with rfl | rfl | rfl | rfl <;> exact hj
theorem zeroFine : fineLs [zeroLeg] := by
  refine ⟨by simp, fun i hi => ?_, fun i hi => ?_⟩
  · have : i = 0 := by simp at hi; omega
    subst this
    simp [legAt, zeroLeg, fineL]
  · simp at hi
set_option maxRecDepth 20000 in
theorem zeroRow : rowL [zeroLeg] 3 9 3 = [46, 46, 46] := by decide +kernel
set_option maxRecDepth 20000 in
set_option maxHeartbeats 4000000 in
theorem alive71 (w : World) : Calls Try.prog 27 #[] w fun e w' => e = .returned (.bool true) ∧ Below w.heap.size w w' := by
  go_enter Try.func27, Try.ntmps27
  go_wp2_with fail
  have hA := Blk.new w 98 #[.int .i64 0, .int .i64 0, .int .i64 0, .bool false]
  have cR := gantt_Row (some ⟨w.heap.size, 0, none⟩) 1 [zeroLeg] 3 9 _ (zeroLegs hA) zeroFine (by omega) (by omega) (by omega) (by omega) (fun i h0 h1 => by omega)
  rw [show rowL [zeroLeg] 3 9 (3 : Int).toNat = [46, 46, 46] from zeroRow] at cR
  have CR := Lib.hid cR
  clear hA cR
  refine CR.out.mono ?_
  rintro e w' ⟨rfl, hb⟩
  go_wp2
  go_ret
  exact ⟨rfl, (Joins.below_alloc1 w _).trans (hb.mono (by simp))⟩
end Go.Proofs.Ytnlieclfajebbaa
