
/-
  The chapter's example of the wants. Condition: the library's table lies as laid.
-/
import Derived.Test.YtlcnhpjmmjmkcaaDoorNearest
import Derived.Test.YtlcnhpjmmjmkcaaDoorBetween
set_option linter.unusedVariables false
set_option linter.unusedSimpArgs false
set_option linter.unnecessarySimpa false
namespace Go.Proofs.YtlcnhpjmmjmkcaaDoor
open Go.Joins Go.ChangeShapes Go.WideShapes Go.ChangeAt Go.RowKit Go.Deep

theorem of_259 (w : World) : Calls Tryd.prog 28 #[.slice (some ⟨w.heap.size, 0, none⟩) 3 3] (w.alloc (.cells #[.int .i64 2, .int .i64 5, .int .i64 9] 3)) fun e w' => e = .returned (.agg #[.int .u64 548, .int .u64 0]) ∧ Below w.heap.size w w' := by
  have hk : Blk (w.alloc (.cells #[.int .i64 2, .int .i64 5, .int .i64 9] 3)) w.heap.size 3 #[.int .i64 2, .int .i64 5, .int .i64 9] := Blk.new _ _ _
  have h := bits_Of (some ⟨w.heap.size, 0, none⟩) 3 [2, 5, 9] (w.alloc (.cells #[.int .i64 2, .int .i64 5, .int .i64 9] 3)) (fun _ => ⟨_, 0, rfl, hk.lt, fun i hi => by
    have := hk.cell i
    match i, hi with
    | 0, _ => simpa [at0] using this
    | 1, _ => simpa [at0] using this
    | 2, _ => simpa [at0] using this⟩) (by simp) (fun i => by
      match i with
      | 0 => unfold I64 at0; simp
      | 1 => unfold I64 at0; simp
      | 2 => unfold I64 at0; simp
      | _ + 3 => unfold I64 at0; simp [List.getD])
  have e1 : ofX (at0 [2, 5, 9]) 3 = 548 := by decide +kernel
  have e2 : ofY (at0 [2, 5, 9]) 3 = 0 := by decide +kernel
  refine h.mono fun e w' ⟨a, b⟩ => ⟨?_, (below_alloc1 _ _).trans (b.mono (by simp))⟩
  rw [a]
  show Ending.returned (sv (ofX (at0 [2, 5, 9]) 3) (ofY (at0 [2, 5, 9]) 3)) = _
  rw [e1, e2]
  rfl
theorem wd548 : Wd 548 := by show 548 < _; omega
theorem wd00 : Wd 0 := by show 0 < 18446744073709551616; omega
set_option maxRecDepth 20000 in
set_option maxHeartbeats 4000000 in
theorem alive30 (w : World) (hT : Tab w) : Calls Tryd.prog 16 #[] w fun e w' => e = .returned (.bool true) ∧ Below w.heap.size w w' := by
  have cO := of_259
  have cN := fun w hT => want_Nearest 548 0 5 1 w wd548 wd00 (by omega) (by unfold I64; omega) hT
  have cB := fun w hT => want_Between 548 0 9 2 w wd548 wd00 (by unfold I64; omega) (by unfold I64; omega) hT
  rw [show hdL (beyL 548 0 5 1) = (9, true) by decide +kernel] at cN
  rw [show cntB 9 2 (items 548 0) = 1 by decide +kernel] at cB
  unfold sv at *
  have CO := Lib.hid cO
  have CN := Lib.hid cN
  have CB := Lib.hid cB
  have HT := Lib.hid hT
  clear cO cN cB hT
  have hB := Below.refl w.heap.size w
  go_enter Tryd.func16, Tryd.ntmps16
  go_wp2_with (first | (go_at_call 28; refine (CO.out _).mono ?_; rintro e w2 ⟨rfl, hb⟩; replace hB := hB.trans (hb.mono hB.size); clear hb) | (go_at_call 10; refine (CN.out _ (HT.out.below hB)).mono ?_; rintro e w2 ⟨rfl, hb⟩; replace hB := hB.trans (hb.mono hB.size); clear hb) | (go_at_call 14; refine (CB.out _ (HT.out.below hB)).mono ?_; rintro e w2 ⟨rfl, hb⟩; replace hB := hB.trans (hb.mono hB.size); clear hb))
  go_ret
  exact ⟨rfl, hB⟩
end Go.Proofs.YtlcnhpjmmjmkcaaDoor
