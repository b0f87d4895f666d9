
/-
  The chapter's example of layer 31.
-/
import Derived.Test.YtlcnhpjmmjmkcaaFace4
import Derived.Test.YtlcnhpjmmjmkcaaRel
set_option linter.unusedVariables false
set_option linter.unusedSimpArgs false
namespace Go.Proofs.Ytlcnhpjmmjmkcaa
open Go.Joins Go.ChangeShapes Go.WideShapes Go.ChangeAt Go.RowKit Go.Deep

abbrev car31 : Car := ⟨0, 1, 0, 0, false, []⟩
theorem blk_stays {w1 w2 : World} {b : Nat} {t : TypeId} {cs : Array Value} (h : Blk w1 b t cs) (hb : Below w1.heap.size w1 w2) : Blk w2 b t cs := h.below hb h.lt
/-- The facts of the region's values. -/
def rel31 (W : World) (cv sv0 so sg : Value) (i : Nat) (v : Value) (w : World) : Prop := match i with
  | 0 => v = cv
  | 1 => v = sv0
  | 2 => ∃ b, v = .slice (some ⟨b, 0, none⟩) 1 1 ∧ Blk w b 3 #[.int .i64 3]
  | 3 => v = so
  | 4 => v = sg
  | 5 => ∃ b, v = .pointer (some ⟨b, 0, none⟩) ∧ W.heap.size ≤ b ∧ Blk w b 32 #[.int .u64 0, .int .u64 0, .int .u64 0, .int .u64 0, .int .u64 0, .int .u64 0]
  | _ => True
theorem rel31_stays (W : World) (cv sv0 so sg : Value) : ∀ i v w1 w2, rel31 W cv sv0 so sg i v w1 → Below w1.heap.size w1 w2 → rel31 W cv sv0 so sg i v w2 := by
  intro i v w1 w2 h hb
  unfold rel31 at *
  split <;> simp only at h <;> try exact h
  · obtain ⟨b, e, h⟩ := h; exact ⟨b, e, blk_stays h hb⟩
  · obtain ⟨b, e, h1, h⟩ := h; exact ⟨b, e, h1, blk_stays h hb⟩
theorem ints_one {w : World} {b : Nat} {t : TypeId} {x : Int} (h : Blk w b t #[.int .i64 x]) : Ints w (some ⟨b, 0, none⟩) [x] := fun _ => ⟨b, 0, rfl, h.lt, fun i hi => by
  match i, hi with
  | 0, _ => exact h.cell 0⟩
set_option maxRecDepth 20000 in
set_option maxHeartbeats 8000000 in
theorem alive31 (w : World) : Calls Try.prog 11 #[] w fun e w' => e = .returned (.bool true) ∧ Below w.heap.size w w' := by
  have cO := fun A C w hx => bits_Of A C [3] w hx (by decide) (fun i => by match i with | 0 => (unfold I64; decide) | k + 1 => (show I64 ((([3] : List Int)).getD (k + 1) 0); simp [I64]))
  have cS := fun A C w => face_See car31 A C 4 0 0 (ofX (at0 [3]) 1) (ofY (at0 [3]) 1) w (fun h => by simp [car31] at h) (by decide) (fun i => by (show I64 _); simp [car31, dst, rid, I64]; try decide) (by unfold I64; decide) (by unfold Wd; decide) (by unfold Wd; decide) (wd_of _ 1).1 (wd_of _ 1).2
  have hso : (seeOf car31 4 0 0 (ofX (at0 [3]) 1) (ofY (at0 [3]) 1)).ok := see_ok (by unfold Wd; decide) (by unfold Wd; decide) (wd_of _ 1).1 (wd_of _ 1).2
  have cF := fun w => sight_Of _ 3 1 w hso (by decide) (by decide)
  have cT := fun A C w => sight_Stop _ car31 A C 3 w hso (fun h => by simp [car31] at h) (by decide) (fun i => by (show I64 _); simp [car31, dst, rid, I64]; try decide) (by decide) (by decide)
  have cT2 := fun A C w => sight_Stop _ car31 A C 2 w hso (fun h => by simp [car31] at h) (by decide) (fun i => by (show I64 _); simp [car31, dst, rid, I64]; try decide) (by decide) (by decide)
  rw [show faceOf (seeOf car31 4 0 0 (ofX (at0 [3]) 1) (ofY (at0 [3]) 1)) 3 1 = -1 by decide] at cF
  rw [show stopB (seeOf car31 4 0 0 (ofX (at0 [3]) 1) (ofY (at0 [3]) 1)) car31 3 = true by decide] at cT
  rw [show stopB (seeOf car31 4 0 0 (ofX (at0 [3]) 1) (ofY (at0 [3]) 1)) car31 2 = false by decide] at cT2
  clear hso
  generalize seeOf car31 4 0 0 (ofX (at0 [3]) 1) (ofY (at0 [3]) 1) = sg at *
  have CO := Lib.hid cO
  have CS := Lib.hid cS
  have CF := Lib.hid cF
  have cT := cT none 0
  have cT2 := cT2 none 0
  simp only [car31, Car.val, List.length_nil] at cT cT2
  have CT := Lib.hid cT
  have CT2 := Lib.hid cT2
  clear cO cS cF cT cT2
  go_enter Try.func11, Try.ntmps11
  go_wp2_with (first | ((with_reducible refine hold_list ?_ ?_); (· exact Eq.refl true)) | ((with_reducible refine hold_region ?_ ?_); (· exact Eq.refl true)) | (with_reducible refine hold_loop ?_))
  have k0 : Blk (w.alloc (.cells #[.int .i64 0, .int .i64 1, .int .i64 0, .int .i64 0, .bool false, .slice none 0 0] 25)) (w.heap.size) 25 #[.int .i64 0, .int .i64 1, .int .i64 0, .int .i64 0, .bool false, .slice none 0 0] := (blk_at (by simp))
  have hB : Below w.heap.size w (w.alloc (.cells #[.int .i64 0, .int .i64 1, .int .i64 0, .int .i64 0, .bool false, .slice none 0 0] 25)) := (bel_at (Below.refl _ _) (.cells #[.int .i64 0, .int .i64 1, .int .i64 0, .int .i64 0, .bool false, .slice none 0 0] 25))
  generalize (w.alloc (.cells #[.int .i64 0, .int .i64 1, .int .i64 0, .int .i64 0, .bool false, .slice none 0 0] 25)) = w1 at *
  (try clear k0c k0f k0z); have k0c := fun i => Blk.cell k0 i; have k0f := fun i => Blk.free k0 i; have k0z := Blk.lt k0
  unfold Hold
  refine wp_region_rel 6 [4, 5, 6, 7, 8, 2] (rel31 w1 (car31.val none 0) (sv 0 0) (sv (ofX (at0 [3]) 1) (ofY (at0 [3]) 1)) sg.val) (by kernel_rfl) (by kernel_rfl) (by rfl) (rel31_stays _ _ _ _ _) ?each ?tail
  case each =>
    refine ⟨?_, ?_, ?_, ?_, ?_, ?_, trivial⟩
    all_goals
      intro f w2 hb hl
      simp [leans, Region.binds, rel31, sv, Car.val] at hl
      have k1 := k0.below hb k0.lt
      have k1c := fun i => Blk.cell k1 i
      simp [grows, frm]
    · simp [execOp, go_sem, *, growsUpon]
      exact ⟨Below.refl _ _, rfl⟩
    · simp [execOp, go_sem, *, growsUpon]
      exact ⟨Below.refl _ _, rfl⟩
    · simp [execOp, go_sem, *, growsUpon]
      exact ⟨below_alloc1 _ _, w2.heap.size, rfl, Blk.new _ _ _⟩
    · obtain ⟨b, e, hb2⟩ := hl
      simp [execOp, go_sem, *, growsUpon]
      exact ⟨Below.refl _ _, (CO.out _ _ _ (ints_one hb2)).mono fun e w3 h => ⟨_, h.1, h.2, rfl⟩⟩
    · obtain ⟨e1, e2, e3⟩ := hl
      simp [execOp, go_sem, *, growsUpon]
      exact ⟨Below.refl _ _, (CS.out none 0 _).mono fun e w3 h => ⟨_, h.1, h.2, rfl⟩⟩
    · simp [execOp, go_sem, *, growsUpon]
      exact ⟨below_alloc1 _ _, w2.heap.size, rfl, hb.size, Blk.new _ _ _⟩
  case tail =>
    intro f w2 hb hl
    simp [allRel, rel31] at hl
    obtain ⟨⟨⟨⟨⟨e0, e1⟩, b2, e2, k2⟩, e3⟩, e4⟩, b5, e5, h5, k5⟩ := hl
    simp [frm, e0, e1, e2, e3, e4, e5]
    have hB := hB.trans (hb.mono hB.size)
    replace k0 := k0.below hb k0.lt
    have hne : w.heap.size ≠ b5 := by omega
    have hge : w.heap.size ≤ b5 := by omega
    clear k0c k0f k0z k2 e0 e1 e2 e3 e4 e5
    have k0c := fun i => Blk.cell k0 i
    have k5c := fun i => Blk.cell k5 i
    have k5f := fun i => Blk.free k5 i
    go_wp2_with (first | ((with_reducible refine hold_list ?_ ?_); (· exact Eq.refl true)) | ((with_reducible refine hold_region ?_ ?_); (· exact Eq.refl true)) | (with_reducible refine hold_loop ?_))
    have k6 := (((((k5.set_ 0 (.int .u64 (sg.wx : Int))).set_ 1 (.int .u64 (sg.wy : Int))).set_ 2 (.int .u64 (sg.ux : Int))).set_ 3 (.int .u64 (sg.uy : Int))).set_ 4 (.int .u64 (sg.dx : Int))).set_ 5 (.int .u64 (sg.dy : Int))
    have k7 := (((((k0.far (p := ⟨b5, 0, none⟩) hne (.int .u64 (sg.wx : Int))).far (p := ⟨b5, 1, none⟩) hne (.int .u64 (sg.wy : Int))).far (p := ⟨b5, 2, none⟩) hne (.int .u64 (sg.ux : Int))).far (p := ⟨b5, 3, none⟩) hne (.int .u64 (sg.uy : Int))).far (p := ⟨b5, 4, none⟩) hne (.int .u64 (sg.dx : Int))).far (p := ⟨b5, 5, none⟩) hne (.int .u64 (sg.dy : Int))
    replace hB := (((((hB.setCell (p := ⟨b5, 0, none⟩) hge (.int .u64 (sg.wx : Int))).setCell (p := ⟨b5, 1, none⟩) hge (.int .u64 (sg.wy : Int))).setCell (p := ⟨b5, 2, none⟩) hge (.int .u64 (sg.ux : Int))).setCell (p := ⟨b5, 3, none⟩) hge (.int .u64 (sg.uy : Int))).setCell (p := ⟨b5, 4, none⟩) hge (.int .u64 (sg.dx : Int))).setCell (p := ⟨b5, 5, none⟩) hge (.int .u64 (sg.dy : Int))
    generalize ((((((w2.setCell ⟨b5, 0, none⟩ (.int .u64 (sg.wx : Int))).setCell ⟨b5, 1, none⟩ (.int .u64 (sg.wy : Int))).setCell ⟨b5, 2, none⟩ (.int .u64 (sg.ux : Int))).setCell ⟨b5, 3, none⟩ (.int .u64 (sg.uy : Int))).setCell ⟨b5, 4, none⟩ (.int .u64 (sg.dx : Int))).setCell ⟨b5, 5, none⟩ (.int .u64 (sg.dy : Int))) = w3 at *
    clear k0 k5 k0c k5c k5f hb
    (try clear k6c k6f k6z); have k6c := fun i => Blk.cell k6 i; have k6f := fun i => Blk.free k6 i; have k6z := Blk.lt k6; (try clear k7c k7f k7z); have k7c := fun i => Blk.cell k7 i; have k7f := fun i => Blk.free k7 i; have k7z := Blk.lt k7
    unfold Hold
    go_wp2_with (first | ((with_reducible refine wpList_here ?_ ?_); (· exact Eq.refl true); first | ((with_reducible refine wpList_grow 12 ?_ ?_); (· exact Eq.refl true))) | ((with_reducible refine wp_region_any_here ?_ ?_); (· exact Eq.refl true); first | ((with_reducible refine wp_region_drawn 12 ?_ ?_ ?_ ?_); (· exact Eq.refl true); (· kernel_rfl); (· kernel_rfl)) | refine wp_region_grow (by kernel_rfl) (by kernel_rfl) ?_)); (try simp only [List.take_succ_cons, List.take_zero, List.drop_succ_cons, List.drop_zero]); (repeat (go_big_quiet_step ((first | (go_at_call 9; with_reducible exact grow_of (CF.out _)) | (go_at_call 10; with_reducible exact grow_of (CT.out _)) | (go_at_call 10; with_reducible exact grow_of (CT2.out _)))))); (first | (refine wpQuiet_nil ?_; intro w' hb; replace hB := Below.trans hB (Below.mono hb (Below.size hB)); replace k6 := Blk.below k6 hb (Blk.lt k6); replace k7 := Blk.below k7 hb (Blk.lt k7); (try clear k6c k6f k6z); have k6c := fun i => Blk.cell k6 i; have k6f := fun i => Blk.free k6 i; have k6z := Blk.lt k6; (try clear k7c k7f k7z); have k7c := fun i => Blk.cell k7 i; have k7f := fun i => Blk.free k7 i; have k7z := Blk.lt k7) | skip)
    all_goals (try (go_wp2_with (first | ((with_reducible refine wpList_here ?_ ?_); (· exact Eq.refl true); first | ((with_reducible refine wpList_grow 12 ?_ ?_); (· exact Eq.refl true))) | ((with_reducible refine wp_region_any_here ?_ ?_); (· exact Eq.refl true); first | ((with_reducible refine wp_region_drawn 12 ?_ ?_ ?_ ?_); (· exact Eq.refl true); (· kernel_rfl); (· kernel_rfl)) | refine wp_region_grow (by kernel_rfl) (by kernel_rfl) ?_)); (try simp only [List.take_succ_cons, List.take_zero, List.drop_succ_cons, List.drop_zero]); (repeat (go_big_quiet_step ((first | (go_at_call 9; with_reducible exact grow_of (CF.out _)) | (go_at_call 10; with_reducible exact grow_of (CT.out _)) | (go_at_call 10; with_reducible exact grow_of (CT2.out _)))))); (first | (refine wpQuiet_nil ?_; intro w' hb; replace hB := Below.trans hB (Below.mono hb (Below.size hB)); replace k6 := Blk.below k6 hb (Blk.lt k6); replace k7 := Blk.below k7 hb (Blk.lt k7); (try clear k6c k6f k6z); have k6c := fun i => Blk.cell k6 i; have k6f := fun i => Blk.free k6 i; have k6z := Blk.lt k6; (try clear k7c k7f k7z); have k7c := fun i => Blk.cell k7 i; have k7f := fun i => Blk.free k7 i; have k7z := Blk.lt k7) | skip)))
    all_goals (try (go_wp2_with (first | ((with_reducible refine wpList_here ?_ ?_); (· exact Eq.refl true); first | ((with_reducible refine wpList_grow 12 ?_ ?_); (· exact Eq.refl true))) | ((with_reducible refine wp_region_any_here ?_ ?_); (· exact Eq.refl true); first | ((with_reducible refine wp_region_drawn 12 ?_ ?_ ?_ ?_); (· exact Eq.refl true); (· kernel_rfl); (· kernel_rfl)) | refine wp_region_grow (by kernel_rfl) (by kernel_rfl) ?_)); (try simp only [List.take_succ_cons, List.take_zero, List.drop_succ_cons, List.drop_zero]); (repeat (go_big_quiet_step ((first | (go_at_call 9; with_reducible exact grow_of (CF.out _)) | (go_at_call 10; with_reducible exact grow_of (CT.out _)) | (go_at_call 10; with_reducible exact grow_of (CT2.out _)))))); (first | (refine wpQuiet_nil ?_; intro w' hb; replace hB := Below.trans hB (Below.mono hb (Below.size hB)); replace k6 := Blk.below k6 hb (Blk.lt k6); replace k7 := Blk.below k7 hb (Blk.lt k7); (try clear k6c k6f k6z); have k6c := fun i => Blk.cell k6 i; have k6f := fun i => Blk.free k6 i; have k6z := Blk.lt k6; (try clear k7c k7f k7z); have k7c := fun i => Blk.cell k7 i; have k7f := fun i => Blk.free k7 i; have k7z := Blk.lt k7) | skip)))
    go_ret
    exact ⟨rfl, hB⟩
end Go.Proofs.Ytlcnhpjmmjmkcaa
