
/-
  The chapter's example of the sets. Condition: the library's table lies as laid.
-/
import Derived.Test.YtlcnhpjmmjmkcaaDoorDoorS
import Derived.Test.YtlcnhpjmmjmkcaaDoorEqSet
set_option linter.unusedVariables false
set_option linter.unusedSimpArgs false
set_option linter.unnecessarySimpa false
namespace Go.Proofs.YtlcnhpjmmjmkcaaDoor
open Go.Joins Go.ChangeShapes Go.WideShapes Go.ChangeAt Go.RowKit Go.Deep

theorem of_two (w : World) : Calls Tryd.prog 28 #[.slice (some ⟨w.heap.size, 0, none⟩) 2 2] (w.alloc (.cells #[.int .i64 3, .int .i64 70] 3)) fun e w' => e = .returned (.agg #[.int .u64 8, .int .u64 64]) ∧ Below w.heap.size w w' := by
  have hk : Blk (w.alloc (.cells #[.int .i64 3, .int .i64 70] 3)) w.heap.size 3 #[.int .i64 3, .int .i64 70] := Blk.new _ _ _
  have h := bits_Of (some ⟨w.heap.size, 0, none⟩) 2 [3, 70] (w.alloc (.cells #[.int .i64 3, .int .i64 70] 3)) (fun _ => ⟨_, 0, rfl, hk.lt, fun i hi => by
    have := hk.cell i
    match i, hi with
    | 0, _ => simpa [at0] using this
    | 1, _ => simpa [at0] using this⟩) (by simp) (fun i => by
      match i with
      | 0 => unfold I64 at0; simp
      | 1 => unfold I64 at0; simp
      | _ + 2 => unfold I64 at0; simp [List.getD])
  have e1 : ofX (at0 [3, 70]) 2 = 8 := by decide +kernel
  have e2 : ofY (at0 [3, 70]) 2 = 64 := by decide +kernel
  refine h.mono fun e w' ⟨a, b⟩ => ⟨?_, (below_alloc1 _ _).trans (b.mono (by simp))⟩
  rw [a]
  show Ending.returned (sv (ofX (at0 [3, 70]) 2) (ofY (at0 [3, 70]) 2)) = _
  rw [e1, e2]
  rfl
theorem of_one (w : World) : Calls Tryd.prog 28 #[.slice (some ⟨w.heap.size, 0, none⟩) 1 1] (w.alloc (.cells #[.int .i64 65] 3)) fun e w' => e = .returned (.agg #[.int .u64 0, .int .u64 2]) ∧ Below w.heap.size w w' := by
  have hk : Blk (w.alloc (.cells #[.int .i64 65] 3)) w.heap.size 3 #[.int .i64 65] := Blk.new _ _ _
  have h := bits_Of (some ⟨w.heap.size, 0, none⟩) 1 [65] (w.alloc (.cells #[.int .i64 65] 3)) (fun _ => ⟨_, 0, rfl, hk.lt, fun i hi => by
    have := hk.cell i
    match i, hi with
    | 0, _ => simpa [at0] using this⟩) (by simp) (fun i => by
      match i with
      | 0 => unfold I64 at0; simp
      | _ + 1 => unfold I64 at0; simp [List.getD])
  have e1 : ofX (at0 [65]) 1 = 0 := by decide +kernel
  have e2 : ofY (at0 [65]) 1 = 2 := by decide +kernel
  refine h.mono fun e w' ⟨a, b⟩ => ⟨?_, (below_alloc1 _ _).trans (b.mono (by simp))⟩
  rw [a]
  show Ending.returned (sv (ofX (at0 [65]) 1) (ofY (at0 [65]) 1)) = _
  rw [e1, e2]
  rfl
theorem wd8 : Wd 8 := by show 8 < _; omega
theorem wd64 : Wd 64 := by show 64 < _; omega
set_option maxRecDepth 20000 in
set_option maxHeartbeats 4000000 in
theorem alive03 (w : World) (hT : Tab w) : Calls Tryd.prog 19 #[] w fun e w' => e = .returned (.bool true) ∧ Below w.heap.size w w' := by
  have cO := of_two
  have cO1 := of_one
  have cN := fun w hT => bits_Next 8 64 4 w wd8 wd64 (by unfold I64; omega) hT
  have cP := fun w => bits_Prev_pos 8 64 69 w wd8 wd64 (by omega)
  have cS := fun w => bits_Shift 8 64 (-5) w wd8 wd64 (by unfold I64; omega)
  have cC := fun w => bits_Count 8 64 w wd8 wd64
  rw [show nextI (fromX 8 4) (fromY 64 4) = 70 by decide +kernel, show nextB (fromX 8 4) (fromY 64 4) = true by decide +kernel] at cN
  rw [show prevI (prevX 8 69) (prevY 64 69) = 3 by decide +kernel, show nextB (prevX 8 69) (prevY 64 69) = true by decide +kernel] at cP
  rw [show shX 8 64 (-5) = 0 by decide +kernel, show shY 8 64 (-5) = 2 by decide +kernel] at cS
  rw [show ((popN 8 64 : Nat) : Int) + ((popN 64 64 : Nat) : Int) = 2 by decide +kernel] at cC
  have hq := fun w => run_set2 0 2 0 2 w
  unfold sv at *
  have CO := Lib.hid cO
  have CO1 := Lib.hid cO1
  have CN := Lib.hid cN
  have CP := Lib.hid cP
  have CS := Lib.hid cS
  have CC := Lib.hid cC
  have HT := Lib.hid hT
  clear cO cO1 cN cP cS cC hT
  go_enter Tryd.func19, Tryd.ntmps19
  go_wp2_with (go_at_call 28; refine (CO.out w).mono ?_)
  rintro e w2 ⟨rfl, hB⟩
  go_wp2_with (with_reducible refine hold_slot 9 ?_)
  have k0 : Blk (w2.alloc (.cells #[.int .u64 8, .int .u64 64] 24)) w2.heap.size 24 #[.int .u64 8, .int .u64 64] := Blk.new _ _ _
  replace hB := bel_at hB (.cells #[.int .u64 8, .int .u64 64] 24)
  generalize w2.alloc (.cells #[.int .u64 8, .int .u64 64] 24) = w3 at *
  (try clear k0c k0f k0z); have k0c := fun i => Blk.cell k0 i; have k0f := fun i => Blk.free k0 i; have k0z := Blk.lt k0
  unfold Hold
  go_wp2_with (first | ((with_reducible refine wpList_here ?_ ?_); (· exact Eq.refl true); first | ((with_reducible refine wpList_grow 2 ?_ ?_); (· exact Eq.refl true))) | ((with_reducible refine wp_region_any_here ?_ ?_); (· exact Eq.refl true); first | ((with_reducible refine wp_region_drawn 2 ?_ ?_ ?_ ?_); (· exact Eq.refl true); (· kernel_rfl); (· kernel_rfl)) | refine wp_region_grow (by kernel_rfl) (by kernel_rfl) ?_)); (try simp only [List.take_succ_cons, List.take_zero, List.drop_succ_cons, List.drop_zero]); (repeat (go_big_quiet_step ((first | (go_at_call 44; with_reducible exact grow_of (CN.out _ ((HT.out.below hB).below (Grow.below _)))) | (go_at_call 45; with_reducible exact grow_of (CP.out _)))))); (first | (refine wpQuiet_nil ?_; intro w' hb; replace hB := Below.trans hB (Below.mono hb (Below.size hB)); replace k0 := Blk.below k0 hb (Blk.lt k0); (try clear k0c k0f k0z); have k0c := fun i => Blk.cell k0 i; have k0f := fun i => Blk.free k0 i; have k0z := Blk.lt k0) | skip)
  all_goals (try (go_wp2_with (first | ((with_reducible refine wpList_here ?_ ?_); (· exact Eq.refl true); first | ((with_reducible refine wpList_grow 2 ?_ ?_); (· exact Eq.refl true))) | ((with_reducible refine wp_region_any_here ?_ ?_); (· exact Eq.refl true); first | ((with_reducible refine wp_region_drawn 2 ?_ ?_ ?_ ?_); (· exact Eq.refl true); (· kernel_rfl); (· kernel_rfl)) | refine wp_region_grow (by kernel_rfl) (by kernel_rfl) ?_)); (try simp only [List.take_succ_cons, List.take_zero, List.drop_succ_cons, List.drop_zero]); (repeat (go_big_quiet_step ((first | (go_at_call 44; with_reducible exact grow_of (CN.out _ ((HT.out.below hB).below (Grow.below _)))) | (go_at_call 45; with_reducible exact grow_of (CP.out _)))))); (first | (refine wpQuiet_nil ?_; intro w' hb; replace hB := Below.trans hB (Below.mono hb (Below.size hB)); replace k0 := Blk.below k0 hb (Blk.lt k0); (try clear k0c k0f k0z); have k0c := fun i => Blk.cell k0 i; have k0f := fun i => Blk.free k0 i; have k0z := Blk.lt k0) | skip)))
  all_goals (try (go_wp2_with (first | ((with_reducible refine wpList_here ?_ ?_); (· exact Eq.refl true); first | ((with_reducible refine wpList_grow 2 ?_ ?_); (· exact Eq.refl true))) | ((with_reducible refine wp_region_any_here ?_ ?_); (· exact Eq.refl true); first | ((with_reducible refine wp_region_drawn 2 ?_ ?_ ?_ ?_); (· exact Eq.refl true); (· kernel_rfl); (· kernel_rfl)) | refine wp_region_grow (by kernel_rfl) (by kernel_rfl) ?_)); (try simp only [List.take_succ_cons, List.take_zero, List.drop_succ_cons, List.drop_zero]); (repeat (go_big_quiet_step ((first | (go_at_call 44; with_reducible exact grow_of (CN.out _ ((HT.out.below hB).below (Grow.below _)))) | (go_at_call 45; with_reducible exact grow_of (CP.out _)))))); (first | (refine wpQuiet_nil ?_; intro w' hb; replace hB := Below.trans hB (Below.mono hb (Below.size hB)); replace k0 := Blk.below k0 hb (Blk.lt k0); (try clear k0c k0f k0z); have k0c := fun i => Blk.cell k0 i; have k0f := fun i => Blk.free k0 i; have k0z := Blk.lt k0) | skip)))
  refine (CS.out _).mono ?_
  rintro e w4 ⟨rfl, hb4⟩
  replace hB := hB.trans (hb4.mono hB.size)
  replace k0 := k0.below hb4 k0.lt
  (try clear k0c k0f k0z); have k0c := fun i => Blk.cell k0 i; have k0f := fun i => Blk.free k0 i; have k0z := Blk.lt k0
  go_wp2_with (go_at_call 28; refine (CO1.out _).mono ?_)
  rintro e w5 ⟨rfl, hb5⟩
  replace hB := hB.trans (hb5.mono hB.size)
  replace k0 := k0.below hb5 k0.lt
  (try clear k0c k0f k0z); have k0c := fun i => Blk.cell k0 i; have k0f := fun i => Blk.free k0 i; have k0z := Blk.lt k0
  go_wp2_with (go_at_call 29; refine (CC.out _).mono ?_)
  rintro e w6 ⟨rfl, hb6⟩
  replace hB := hB.trans (hb6.mono hB.size)
  go_wp2
  go_ret
  exact ⟨rfl, hB⟩
end Go.Proofs.YtlcnhpjmmjmkcaaDoor
