
/-
  The chapter's example: hoistwaylaw38.alive.
-/
import Derived.Test.YtemakmnoncmpbaaDiff
set_option linter.unusedVariables false
set_option linter.unusedSimpArgs false
namespace Go.Proofs.Ytemakmnoncmpbaa
open Go.Joins Go.ChangeShapes Go.WideShapes Go.ChangeAt Go.RowKit Go.Deep

abbrev Trips38 (w : World) (A : Option Addr) (xs : List Trip) : Prop := Elems 7 Trip.cells w A xs
theorem same_nil (w : World) : Calls Try.prog 9 #[.agg #[.slice none 0 0, .slice none 0 0, .int .i64 0], .agg #[.slice none 0 0, .slice none 0 0, .int .i64 0]] w fun e w' => e = .returned (.bool true) ∧ Below w.heap.size w w' := by
  have cT : ∀ w, Calls Try.prog 6 #[.slice none 0 0, .slice none 0 0] w fun e w' => e = .returned (.tuple #[.int .i64 0, .bool false]) ∧ ∃ n, w' = w.drewN n := fun w => diff_Trips none none 0 0 [] [] w (fun h => by simp at h) (fun h => by simp at h) (by simp) (by simp)
  have CT := Lib.hid cT
  clear cT
  go_enter Try.func9, Try.ntmps9
  go_wp2_with fail
  refine (CT.out _).mono ?_
  rintro e w' ⟨rfl, n, rfl⟩
  go_wp2
  go_loopw [37] (fun i wr => i = .int .i64 0 ∧ wr = ((w.alloc (.cells #[.slice none 0 0, .slice none 0 0, .int .i64 0] 25)).alloc (.cells #[.slice none 0 0, .slice none 0 0, .int .i64 0] 25)).drewN n) (fun i _ => 0)
  case atStart => exact ⟨rfl, rfl⟩
  case round =>
    obtain ⟨rfl, rfl⟩ := hrel
    go_wp2
    go_ret
    exact ⟨rfl, below_drewN (Joins.below_alloc2 _ _ _) _⟩
def zeroT8 : Trip := ⟨0, 0, 0, 0, 0, 0, 0⟩
theorem zero1 {w : World} {g : Nat} (h : Blk w g 28 #[.int .i64 0, .int .i64 0, .int .i64 0, .int .i64 0, .int .i64 0, .int .i64 0, .int .i64 0]) : Trips38 w (some ⟨g, 0, none⟩) [zeroT8] := fun _ => by
  refine ⟨g, 0, rfl, h.lt, fun i a hi j u hj => ?_⟩
  rw [h.cell]
  have hi2 : i = 0 := by
    have := (List.getElem?_eq_some_iff.1 hi).1
    simp at this
    omega
  have hj7 : j < 7 := (List.getElem?_eq_some_iff.1 hj).1
  subst hi2
  simp at hi
  subst hi
  have : j = 0 ∨ j = 1 ∨ j = 2 ∨ j = 3 ∨ j = 4 ∨ j = 5 ∨ j = 6 := by omega
  rcases this with rfl | rfl | rfl | rfl | rfl | rfl | rfl <;> exact hj
theorem zero2 {w : World} {g : Nat} (h : Blk w g 28 #[.int .i64 0, .int .i64 0, .int .i64 0, .int .i64 0, .int .i64 0, .int .i64 0, .int .i64 0, .int .i64 0, .int .i64 0, .int .i64 0, .int .i64 0, .int .i64 0, .int .i64 0, .int .i64 0]) : Trips38 w (some ⟨g, 0, none⟩) [zeroT8, zeroT8] := fun _ => by
  refine ⟨g, 0, rfl, h.lt, fun i a hi j u hj => ?_⟩
  rw [h.cell]
  have hi2 : i = 0 ∨ i = 1 := by
    have := (List.getElem?_eq_some_iff.1 hi).1
    simp at this
    omega
  have hj7 : j < 7 := (List.getElem?_eq_some_iff.1 hj).1
  rcases hi2 with rfl | rfl
  all_goals
    simp at hi
    subst hi
    have : j = 0 ∨ j = 1 ∨ j = 2 ∨ j = 3 ∨ j = 4 ∨ j = 5 ∨ j = 6 := by omega
    rcases this with rfl | rfl | rfl | rfl | rfl | rfl | rfl <;> exact hj
theorem alive38 (w : World) : Calls Try.prog 11 #[] w fun e w' => e = .returned (.bool true) ∧ Below w.heap.size w w' := by
  go_enter Try.func11, Try.ntmps11
  go_wp2_with fail
  have hA := (Blk.new w 28 #[.int .i64 0, .int .i64 0, .int .i64 0, .int .i64 0, .int .i64 0, .int .i64 0, .int .i64 0]).alloc (.cells #[.int .i64 0, .int .i64 0, .int .i64 0, .int .i64 0, .int .i64 0, .int .i64 0, .int .i64 0, .int .i64 0, .int .i64 0, .int .i64 0, .int .i64 0, .int .i64 0, .int .i64 0, .int .i64 0] 28)
  have hB := Blk.new (w.alloc (.cells #[.int .i64 0, .int .i64 0, .int .i64 0, .int .i64 0, .int .i64 0, .int .i64 0, .int .i64 0] 28)) 28 #[.int .i64 0, .int .i64 0, .int .i64 0, .int .i64 0, .int .i64 0, .int .i64 0, .int .i64 0, .int .i64 0, .int .i64 0, .int .i64 0, .int .i64 0, .int .i64 0, .int .i64 0, .int .i64 0]
  rw [alloc_size] at hB
  have cT := diff_Trips (some ⟨w.heap.size, 0, none⟩) (some ⟨w.heap.size + 1, 0, none⟩) 1 2 [zeroT8] [zeroT8, zeroT8] _ (zero1 hA) (zero2 hB) (by simp) (by simp)
  rw [show scanI (partsB [zeroT8] [zeroT8, zeroT8]) (max [zeroT8].length [zeroT8, zeroT8].length) (max [zeroT8].length [zeroT8, zeroT8].length) = 1 from by decide +kernel, show scanB (partsB [zeroT8] [zeroT8, zeroT8]) (max [zeroT8].length [zeroT8, zeroT8].length) (max [zeroT8].length [zeroT8, zeroT8].length) = true from by decide +kernel] at cT
  have CT := Lib.hid cT
  clear hA hB cT
  refine CT.out.mono ?_
  rintro e w' ⟨rfl, n, rfl⟩
  go_wp2_with fail
  refine (same_nil _).mono ?_
  rintro e w2 ⟨rfl, hb2⟩
  go_wp2
  go_ret
  exact ⟨rfl, (below_drewN (Joins.below_alloc2 w _ _) n).trans (hb2.mono (by simp; omega))⟩
end Go.Proofs.Ytemakmnoncmpbaa
