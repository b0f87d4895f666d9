
/-
  The law EtaTells, walked. Conditions: the library's table lies as laid.
-/
import Derived.Test.YtejcgagblpkmoaaDoorAlive34
import Derived.Test.YtejcgagblpkmoaaDoorRef34B
set_option linter.unusedVariables false
set_option linter.unusedSimpArgs false
namespace Go.Proofs.YtejcgagblpkmoaaDoor
open Go.Joins Go.ChangeShapes Go.WideShapes Go.ChangeAt Go.RowKit Go.Deep

theorem cars_on {w w' : World} {cs : List Value} {xs : List Car} (h : RSlice 6 RCar w cs xs) (hb : Below w.heap.size w w') : RSlice 6 RCar w' cs xs := RSlice.stays RCar.stays _ _ _ _ h hb
theorem sets_on {w w' : World} {cs : List Value} {xs : List St} (h : RSlice 2 RSt w cs xs) (hb : Below w.heap.size w w') : RSlice 2 RSt w' cs xs := RSlice.stays RSt.stays _ _ _ _ h hb
theorem etas_ex (s : Scen) (cars : List Car) (sets : List St) (floor dir : Int) : ∃ E, Etas s cars sets floor dir E := by
  refine ⟨cars.mapIdx (fun i c => etaOf s c (places (stAt sets i).x (stAt sets i).y s.gap) (floor * s.gap) dir), by simp, fun i c h => ?_⟩
  unfold at0
  simp [List.getD, h]
set_option maxRecDepth 100000 in
set_option maxHeartbeats 4000000 in
theorem law_EtaTells (s : Scen) (A : Option Addr) (C : Nat) (cars : List Car) (A2 : Option Addr) (C2 : Nat) (sets : List St) (A3 : Option Addr) (C3 : Nat) (floor dir : Int) (w : World) (hI : I64 s.floors) (hs : RSlice 3 RSeg w [.slice A s.segs.length C] s.segs) (hc : RSlice 6 RCar w [.slice A2 cars.length C2] cars) (hst : RSlice 2 RSt w [.slice A3 sets.length C3] sets) (hT : Tab w) :
    Calls Tryd.prog 4 #[s.val A C, .slice A2 cars.length C2, .agg #[.slice A3 sets.length C3, .int .i64 floor, .int .i64 dir]] w fun e w' => e = .returned (.bool true) ∧ Below w.heap.size w w' := by
  have HI := Lib.hid hI
  have HT := Lib.hid hT
  clear hI hT
  go_enter Tryd.func4, Tryd.ntmps4
  go_wp2_with (first | ((with_reducible refine hold_list ?_ ?_); (· exact Eq.refl true)) | ((with_reducible refine hold_region ?_ ?_); (· exact Eq.refl true)) | (with_reducible refine hold_loop ?_))
  have k0 : Blk ((w.alloc (.cells (s.cells A C).toArray 25)).alloc (.cells #[.slice A3 sets.length C3, .int .i64 floor, .int .i64 dir] 32)) (w.heap.size) 25 (s.cells A C).toArray := (Blk.alloc (blk_at (by simp)) (.cells #[.slice A3 sets.length C3, .int .i64 floor, .int .i64 dir] 32))
  have k1 : Blk ((w.alloc (.cells (s.cells A C).toArray 25)).alloc (.cells #[.slice A3 sets.length C3, .int .i64 floor, .int .i64 dir] 32)) (w.heap.size + 1) 32 #[.slice A3 sets.length C3, .int .i64 floor, .int .i64 dir] := (blk_at (by simp))
  have hB : Below w.heap.size w ((w.alloc (.cells (s.cells A C).toArray 25)).alloc (.cells #[.slice A3 sets.length C3, .int .i64 floor, .int .i64 dir] 32)) := (bel_at (bel_at (Below.refl _ _) (.cells (s.cells A C).toArray 25)) (.cells #[.slice A3 sets.length C3, .int .i64 floor, .int .i64 dir] 32))
  generalize ((w.alloc (.cells (s.cells A C).toArray 25)).alloc (.cells #[.slice A3 sets.length C3, .int .i64 floor, .int .i64 dir] 32)) = w1 at *
  (try clear k0c k0f k0z); have k0c := fun i => Blk.cell k0 i; have k0f := fun i => Blk.free k0 i; have k0z := Blk.lt k0; (try clear k1c k1f k1z); have k1c := fun i => Blk.cell k1 i; have k1f := fun i => Blk.free k1 i; have k1z := Blk.lt k1
  unfold Hold
  have hs1 := RSlice.stays RSeg.stays _ _ _ _ hs hB
  have hc1 := RSlice.stays RCar.stays _ _ _ _ hc hB
  have hst1 := RSlice.stays RSt.stays _ _ _ _ hst hB
  have HT1 := Lib.hid (HT.out.below hB)
  clear hs hc hst HT
  go_wp2_with fail
  refine (within_any s A C cars A2 C2 _ hs1 hc1).mono ?_
  rintro e w3 ⟨b, rfl, hin, hb⟩
  replace hB := hB.trans (hb.mono hB.size)
  replace k0 := k0.below hb k0.lt
  replace k1 := k1.below hb k1.lt
  have hc3 := RSlice.stays RCar.stays _ _ _ _ hc1 hb
  have hst3 := RSlice.stays RSt.stays _ _ _ _ hst1 hb
  have HT3 := Lib.hid (HT1.out.below hb)
  clear k0c k0f k1c k1f hb hs1 hc1 hst1 HT1
  (try clear k0c k0f k0z); have k0c := fun i => Blk.cell k0 i; have k0f := fun i => Blk.free k0 i; have k0z := Blk.lt k0; (try clear k1c k1f k1z); have k1c := fun i => Blk.cell k1 i; have k1f := fun i => Blk.free k1 i; have k1z := Blk.lt k1
  cases b with
  | false =>
    clear hin
    go_wp2
    go_ret
    exact ⟨rfl, hB⟩
  | true =>
  have HIN := Lib.hid (hin rfl)
  clear hin
  go_wp2_with fail
  refine (within34_any s A C sets A3 C3 _ HI.out hst3).mono ?_
  rintro e w4 ⟨r, rfl, hin2, hb⟩
  replace hB := hB.trans (hb.mono hB.size)
  replace k0 := k0.below hb k0.lt
  replace k1 := k1.below hb k1.lt
  have hc4 := RSlice.stays RCar.stays _ _ _ _ hc3 hb
  have hst4 := RSlice.stays RSt.stays _ _ _ _ hst3 hb
  have HT4 := Lib.hid (HT3.out.below hb)
  clear k0c k0f k1c k1f hb hc3 hst3 HT3
  (try clear k0c k0f k0z); have k0c := fun i => Blk.cell k0 i; have k0f := fun i => Blk.free k0 i; have k0z := Blk.lt k0; (try clear k1c k1f k1z); have k1c := fun i => Blk.cell k1 i; have k1f := fun i => Blk.free k1 i; have k1z := Blk.lt k1
  cases r with
  | false =>
    clear hin2
    go_wp2
    go_ret
    exact ⟨rfl, hB⟩
  | true =>
  have HIN2 := Lib.hid (hin2 rfl)
  clear hin2
  have hin2 := HIN2.out
  obtain ⟨hfine, hall⟩ := HIN.out
  have hsm := small_of hfine
  obtain ⟨x1, x2, _⟩ := hfine
  by_cases hok : 0 ≤ floor ∧ floor < s.floors ∧ (dir = 1 ∨ dir = -1)
  · obtain ⟨f0, f1, hd⟩ := hok
    obtain ⟨E, hE⟩ := etas_ex s cars sets floor dir
    have cOf := fun i (c : Car) A5 C5 (h : cars[i]? = some c) w hT => eta_Of s A C c A5 C5 (stAt sets i).x (stAt sets i).y floor dir w (stAt_wd hst4 i).1 (stAt_wd hst4 i).2 x2 (etaOk_of hsm x2.1 (hall.2 i c h)) ⟨f0, by omega⟩ hT
    have cRf := fun i (c : Car) A5 C5 (h : cars[i]? = some c) w => ref34_Of s A C c A5 C5 (stAt sets i).x (stAt sets i).y floor dir w (stAt_wd hst4 i).1 (stAt_wd hst4 i).2 x2 (etaOk_of hsm x2.1 (hall.2 i c h)) ⟨f0, by omega⟩
    have cDo := fun i (c : Car) A5 C5 (h : cars[i]? = some c) w => eta_Door s A C c A5 C5 w (etaOk_of hsm x2.1 (hall.2 i c h))
    have cRd := fun i (c : Car) A5 C5 (h : cars[i]? = some c) w => ref34_Door s A C c A5 C5 w (etaOk_of hsm x2.1 (hall.2 i c h))
    have cBe := fun w hc hst hT => eta_Best s A C cars A2 C2 sets A3 C3 floor dir E w hsm x2 hc hall hst hin2.1 ⟨f0, by omega⟩ hE hT
    have cRb := fun w hc hst => ref34_Best s A C cars A2 C2 sets A3 C3 floor dir E w hsm x2 hc hall hst hin2.1 ⟨f0, by omega⟩ hE
    have q1 : decide (floor < 0) = false := decide_eq_false (by omega)
    have q2 : decide (s.floors ≤ floor) = false := decide_eq_false (by omega)
    generalize leastN E E.length = V at *
    have h16 := hall.1
    have h20 := hin2.1
    have COF := Lib.hid cOf
    have CRF := Lib.hid cRf
    have CDO := Lib.hid cDo
    have CRD := Lib.hid cRd
    have CBE := Lib.hid cBe
    have CRB := Lib.hid cRb
    have HB := Lib.hid hB
    have hself := bne_self_eq_false (α := Int)
    have d1 : ((dir != 1) = true ∧ (dir != -1) = false) ∨ (dir != 1) = false := by
      rcases hd with rfl | rfl
      · exact .inr rfl
      · exact .inl ⟨rfl, rfl⟩
    clear hE hin2 hall hsm x1 x2 f0 f1 hd cOf cRf cDo cRd cBe cRb hB
    have hB := Below.refl w4.heap.size w4
    rcases d1 with ⟨d1, d2⟩ | d1
    all_goals
      go_wp2
      go_loopw [7] (fun i wr => ∃ j : Nat, j ≤ cars.length ∧ i = .int .i64 j ∧ Below w4.heap.size w4 wr) (fun i _ => cars.length - (intOf i).toNat)
      case atStart => exact ⟨0, by omega, rfl, Below.refl _ _⟩
      case round =>
        obtain ⟨j, hj, rfl, hbq⟩ := hrel
        have k0r := k0.below hbq k0.lt
        have k1r := k1.below hbq k1.lt
        clear k0c k0f k0z k1c k1f k1z hB
        have k0z := k0.lt
        have k1z := k1.lt
        have hB := hbq
        (try clear k0rc k0rf k0rz); have k0rc := fun i => Blk.cell k0r i; have k0rf := fun i => Blk.free k0r i; have k0rz := Blk.lt k0r; (try clear k1rc k1rf k1rz); have k1rc := fun i => Blk.cell k1r i; have k1rf := fun i => Blk.free k1r i; have k1rz := Blk.lt k1r
        by_cases hjl : j < cars.length
        · obtain ⟨b, off, rfl, hbl, hce⟩ := slice_at hc4 (by omega)
          obtain ⟨c, hcj⟩ : ∃ c, cars[j]? = some c := ⟨_, List.getElem?_eq_getElem hjl⟩
          obtain ⟨es, ⟨A5, C5, rfl, _, _⟩, _, hcc⟩ := hce j c hcj
          have CO1 := Lib.hid (COF.out j c A5 C5 hcj)
          have CO2 := Lib.hid (CRF.out j c A5 C5 hcj)
          have CD1 := Lib.hid (CDO.out j c A5 C5 hcj)
          have CD2 := Lib.hid (CRD.out j c A5 C5 hcj)
          have HBL := Lib.hid hbl
          have HCC := Lib.hid hcc
          have z0 : ∀ w', Below w4.heap.size w4 w' → w'.cell? ⟨b, off + j * 6, none⟩ = some (.int .i64 c.pos) := fun w' h => (h.cell (p := ⟨b, off + j * 6, none⟩) HBL.out).trans (HCC.out 0 _ rfl)
          have z1 : ∀ w', Below w4.heap.size w4 w' → w'.cell? ⟨b, off + j * 6 + 1, none⟩ = some (.int .i64 c.dir) := fun w' h => (h.cell (p := ⟨b, off + j * 6 + 1, none⟩) HBL.out).trans (HCC.out 1 _ rfl)
          have z2 : ∀ w', Below w4.heap.size w4 w' → w'.cell? ⟨b, off + j * 6 + 2, none⟩ = some (.int .i64 c.mode) := fun w' h => (h.cell (p := ⟨b, off + j * 6 + 2, none⟩) HBL.out).trans (HCC.out 2 _ rfl)
          have z3 : ∀ w', Below w4.heap.size w4 w' → w'.cell? ⟨b, off + j * 6 + 3, none⟩ = some (.int .i64 c.left) := fun w' h => (h.cell (p := ⟨b, off + j * 6 + 3, none⟩) HBL.out).trans (HCC.out 3 _ rfl)
          have z4 : ∀ w', Below w4.heap.size w4 w' → w'.cell? ⟨b, off + j * 6 + 4, none⟩ = some (.bool c.waited) := fun w' h => (h.cell (p := ⟨b, off + j * 6 + 4, none⟩) HBL.out).trans (HCC.out 4 _ rfl)
          have z5 : ∀ w', Below w4.heap.size w4 w' → w'.cell? ⟨b, off + j * 6 + 5, none⟩ = some (.slice A5 c.riders.length C5) := fun w' h => (h.cell (p := ⟨b, off + j * 6 + 5, none⟩) HBL.out).trans (HCC.out 5 _ rfl)
          have zb : ∀ w', Below w4.heap.size w4 w' → b < w'.heap.size := fun w' h => Nat.lt_of_lt_of_le HBL.out h.size
          clear hce hcc hbl hcj hbq COF CRF CDO CRD CBE CRB hc4
          generalize etaOf s c (places (stAt sets j).x (stAt sets j).y s.gap) (floor * s.gap) dir = V2 at *
          by_cases hjs : j < sets.length
          · have q3 : decide ((j : Int) < (sets.length : Int)) = true := decide_eq_true (by omega)
            obtain ⟨b2, off2, rfl, hbl2, hce2⟩ := slice_at hst4 (by omega)
            obtain ⟨t, htj⟩ : ∃ t, sets[j]? = some t := ⟨_, List.getElem?_eq_getElem hjs⟩
            obtain ⟨es, ⟨rfl, hwx, hwy⟩, _, hcc2⟩ := hce2 j t htj
            have htt : stAt sets j = t := by unfold stAt; rw [htj]; rfl
            rw [htt] at CO1 CO2
            unfold sv at CO1 CO2
            have HBL2 := Lib.hid hbl2
            have HCC2 := Lib.hid hcc2
            have y0 : ∀ w', Below w4.heap.size w4 w' → w'.cell? ⟨b2, off2 + j * 2, none⟩ = some (.int .u64 (t.x : Int)) := fun w' h => (h.cell (p := ⟨b2, off2 + j * 2, none⟩) HBL2.out).trans (HCC2.out 0 _ rfl)
            have y1 : ∀ w', Below w4.heap.size w4 w' → w'.cell? ⟨b2, off2 + j * 2 + 1, none⟩ = some (.int .u64 (t.y : Int)) := fun w' h => (h.cell (p := ⟨b2, off2 + j * 2 + 1, none⟩) HBL2.out).trans (HCC2.out 1 _ rfl)
            have yb : ∀ w', Below w4.heap.size w4 w' → b2 < w'.heap.size := fun w' h => Nat.lt_of_lt_of_le HBL2.out h.size
            clear hce2 hcc2 hwx hwy htt htj hbl2 hst4
            go_wp2_with (first | ((with_reducible refine wpList_here ?_ ?_); (· exact Eq.refl true); first | ((with_reducible refine wpList_grow 99 ?_ ?_); (· exact Eq.refl true))) | ((with_reducible refine wp_region_any_here ?_ ?_); (· exact Eq.refl true); first | ((with_reducible refine wp_region_drawn 99 ?_ ?_ ?_ ?_); (· exact Eq.refl true); (· kernel_rfl); (· kernel_rfl)) | refine wp_region_grow (by kernel_rfl) (by kernel_rfl) ?_)); (try simp only [List.take_succ_cons, List.take_zero, List.drop_succ_cons, List.drop_zero]); (repeat (go_big_quiet_step ((first | (go_at_call 11; with_reducible exact grow_of (CD1.out _)) | (go_at_call 12; with_reducible exact grow_of (CD2.out _)) | (go_at_call 9; with_reducible exact grow_of (CO1.out _ ((HT4.out.below hB).below (Grow.below _)))) | (go_at_call 13; with_reducible exact grow_of (CO2.out _)))))); (first | (refine wpQuiet_nil ?_; intro w' hb; replace hB := Below.trans hB (Below.mono hb (Below.size hB)); replace k0r := Blk.below k0r hb (Blk.lt k0r); replace k1r := Blk.below k1r hb (Blk.lt k1r); (try clear k0rc k0rf k0rz); have k0rc := fun i => Blk.cell k0r i; have k0rf := fun i => Blk.free k0r i; have k0rz := Blk.lt k0r; (try clear k1rc k1rf k1rz); have k1rc := fun i => Blk.cell k1r i; have k1rf := fun i => Blk.free k1r i; have k1rz := Blk.lt k1r) | skip)
            all_goals (try (go_wp2_with (first | ((with_reducible refine wpList_here ?_ ?_); (· exact Eq.refl true); first | ((with_reducible refine wpList_grow 99 ?_ ?_); (· exact Eq.refl true))) | ((with_reducible refine wp_region_any_here ?_ ?_); (· exact Eq.refl true); first | ((with_reducible refine wp_region_drawn 99 ?_ ?_ ?_ ?_); (· exact Eq.refl true); (· kernel_rfl); (· kernel_rfl)) | refine wp_region_grow (by kernel_rfl) (by kernel_rfl) ?_)); (try simp only [List.take_succ_cons, List.take_zero, List.drop_succ_cons, List.drop_zero]); (repeat (go_big_quiet_step ((first | (go_at_call 11; with_reducible exact grow_of (CD1.out _)) | (go_at_call 12; with_reducible exact grow_of (CD2.out _)) | (go_at_call 9; with_reducible exact grow_of (CO1.out _ ((HT4.out.below hB).below (Grow.below _)))) | (go_at_call 13; with_reducible exact grow_of (CO2.out _)))))); (first | (refine wpQuiet_nil ?_; intro w' hb; replace hB := Below.trans hB (Below.mono hb (Below.size hB)); replace k0r := Blk.below k0r hb (Blk.lt k0r); replace k1r := Blk.below k1r hb (Blk.lt k1r); (try clear k0rc k0rf k0rz); have k0rc := fun i => Blk.cell k0r i; have k0rf := fun i => Blk.free k0r i; have k0rz := Blk.lt k0r; (try clear k1rc k1rf k1rz); have k1rc := fun i => Blk.cell k1r i; have k1rf := fun i => Blk.free k1r i; have k1rz := Blk.lt k1r) | skip)))
            all_goals (try (go_wp2_with (first | ((with_reducible refine wpList_here ?_ ?_); (· exact Eq.refl true); first | ((with_reducible refine wpList_grow 99 ?_ ?_); (· exact Eq.refl true))) | ((with_reducible refine wp_region_any_here ?_ ?_); (· exact Eq.refl true); first | ((with_reducible refine wp_region_drawn 99 ?_ ?_ ?_ ?_); (· exact Eq.refl true); (· kernel_rfl); (· kernel_rfl)) | refine wp_region_grow (by kernel_rfl) (by kernel_rfl) ?_)); (try simp only [List.take_succ_cons, List.take_zero, List.drop_succ_cons, List.drop_zero]); (repeat (go_big_quiet_step ((first | (go_at_call 11; with_reducible exact grow_of (CD1.out _)) | (go_at_call 12; with_reducible exact grow_of (CD2.out _)) | (go_at_call 9; with_reducible exact grow_of (CO1.out _ ((HT4.out.below hB).below (Grow.below _)))) | (go_at_call 13; with_reducible exact grow_of (CO2.out _)))))); (first | (refine wpQuiet_nil ?_; intro w' hb; replace hB := Below.trans hB (Below.mono hb (Below.size hB)); replace k0r := Blk.below k0r hb (Blk.lt k0r); replace k1r := Blk.below k1r hb (Blk.lt k1r); (try clear k0rc k0rf k0rz); have k0rc := fun i => Blk.cell k0r i; have k0rf := fun i => Blk.free k0r i; have k0rz := Blk.lt k0r; (try clear k1rc k1rf k1rz); have k1rc := fun i => Blk.cell k1r i; have k1rf := fun i => Blk.free k1r i; have k1rz := Blk.lt k1r) | skip)))
            go_roundw
            case rel => exact ⟨j + 1, by omega, by go_num, hB⟩
            case measure => simp [intOf]; omega
          · have q3 : decide ((j : Int) < (sets.length : Int)) = false := decide_eq_false (by omega)
            clear hst4 CO1 CO2
            go_wp2_with (first | ((with_reducible refine wpList_here ?_ ?_); (· exact Eq.refl true); first | ((with_reducible refine wpList_grow 99 ?_ ?_); (· exact Eq.refl true))) | ((with_reducible refine wp_region_any_here ?_ ?_); (· exact Eq.refl true); first | ((with_reducible refine wp_region_drawn 99 ?_ ?_ ?_ ?_); (· exact Eq.refl true); (· kernel_rfl); (· kernel_rfl)) | refine wp_region_grow (by kernel_rfl) (by kernel_rfl) ?_)); (try simp only [List.take_succ_cons, List.take_zero, List.drop_succ_cons, List.drop_zero]); (repeat (go_big_quiet_step ((first | (go_at_call 11; with_reducible exact grow_of (CD1.out _)) | (go_at_call 12; with_reducible exact grow_of (CD2.out _)))))); (first | (refine wpQuiet_nil ?_; intro w' hb; replace hB := Below.trans hB (Below.mono hb (Below.size hB)); replace k0r := Blk.below k0r hb (Blk.lt k0r); replace k1r := Blk.below k1r hb (Blk.lt k1r); (try clear k0rc k0rf k0rz); have k0rc := fun i => Blk.cell k0r i; have k0rf := fun i => Blk.free k0r i; have k0rz := Blk.lt k0r; (try clear k1rc k1rf k1rz); have k1rc := fun i => Blk.cell k1r i; have k1rf := fun i => Blk.free k1r i; have k1rz := Blk.lt k1r) | skip)
            all_goals (try (go_wp2_with (first | ((with_reducible refine wpList_here ?_ ?_); (· exact Eq.refl true); first | ((with_reducible refine wpList_grow 99 ?_ ?_); (· exact Eq.refl true))) | ((with_reducible refine wp_region_any_here ?_ ?_); (· exact Eq.refl true); first | ((with_reducible refine wp_region_drawn 99 ?_ ?_ ?_ ?_); (· exact Eq.refl true); (· kernel_rfl); (· kernel_rfl)) | refine wp_region_grow (by kernel_rfl) (by kernel_rfl) ?_)); (try simp only [List.take_succ_cons, List.take_zero, List.drop_succ_cons, List.drop_zero]); (repeat (go_big_quiet_step ((first | (go_at_call 11; with_reducible exact grow_of (CD1.out _)) | (go_at_call 12; with_reducible exact grow_of (CD2.out _)))))); (first | (refine wpQuiet_nil ?_; intro w' hb; replace hB := Below.trans hB (Below.mono hb (Below.size hB)); replace k0r := Blk.below k0r hb (Blk.lt k0r); replace k1r := Blk.below k1r hb (Blk.lt k1r); (try clear k0rc k0rf k0rz); have k0rc := fun i => Blk.cell k0r i; have k0rf := fun i => Blk.free k0r i; have k0rz := Blk.lt k0r; (try clear k1rc k1rf k1rz); have k1rc := fun i => Blk.cell k1r i; have k1rf := fun i => Blk.free k1r i; have k1rz := Blk.lt k1r) | skip)))
            all_goals (try (go_wp2_with (first | ((with_reducible refine wpList_here ?_ ?_); (· exact Eq.refl true); first | ((with_reducible refine wpList_grow 99 ?_ ?_); (· exact Eq.refl true))) | ((with_reducible refine wp_region_any_here ?_ ?_); (· exact Eq.refl true); first | ((with_reducible refine wp_region_drawn 99 ?_ ?_ ?_ ?_); (· exact Eq.refl true); (· kernel_rfl); (· kernel_rfl)) | refine wp_region_grow (by kernel_rfl) (by kernel_rfl) ?_)); (try simp only [List.take_succ_cons, List.take_zero, List.drop_succ_cons, List.drop_zero]); (repeat (go_big_quiet_step ((first | (go_at_call 11; with_reducible exact grow_of (CD1.out _)) | (go_at_call 12; with_reducible exact grow_of (CD2.out _)))))); (first | (refine wpQuiet_nil ?_; intro w' hb; replace hB := Below.trans hB (Below.mono hb (Below.size hB)); replace k0r := Blk.below k0r hb (Blk.lt k0r); replace k1r := Blk.below k1r hb (Blk.lt k1r); (try clear k0rc k0rf k0rz); have k0rc := fun i => Blk.cell k0r i; have k0rf := fun i => Blk.free k0r i; have k0rz := Blk.lt k0r; (try clear k1rc k1rf k1rz); have k1rc := fun i => Blk.cell k1r i; have k1rf := fun i => Blk.free k1r i; have k1rz := Blk.lt k1r) | skip)))
            go_roundw
            case rel => exact ⟨j + 1, by omega, by go_num, hB⟩
            case measure => simp [intOf]; omega
        · obtain rfl : j = cars.length := by omega
          have HC4 := Lib.hid (RSlice.stays RCar.stays _ _ _ _ hc4 hbq)
          have HST4 := Lib.hid (RSlice.stays RSt.stays _ _ _ _ hst4 hbq)
          have hv : (V == V) = true := by simp
          clear hc4 hst4 hbq COF CRF CDO CRD
          go_wp2_with (first | ((with_reducible refine wpList_here ?_ ?_); (· exact Eq.refl true); first | ((with_reducible refine wpList_grow 99 ?_ ?_); (· exact Eq.refl true))) | ((with_reducible refine wp_region_any_here ?_ ?_); (· exact Eq.refl true); first | ((with_reducible refine wp_region_drawn 99 ?_ ?_ ?_ ?_); (· exact Eq.refl true); (· kernel_rfl); (· kernel_rfl)) | refine wp_region_grow (by kernel_rfl) (by kernel_rfl) ?_)); (try simp only [List.take_succ_cons, List.take_zero, List.drop_succ_cons, List.drop_zero]); (repeat (go_big_quiet_step ((first | (go_at_call 14; with_reducible exact grow_of (CBE.out _ (cars_on HC4.out (Grow.below _)) (sets_on HST4.out (Grow.below _)) ((HT4.out.below hB).below (Grow.below _)))) | (go_at_call 15; with_reducible exact grow_of (CRB.out _ (cars_on HC4.out (Grow.below _)) (sets_on HST4.out (Grow.below _)))) | (go_at_call 10; with_reducible exact grow_of (alive34 _ ((HT4.out.below hB).below (Grow.below _)))))))); (first | (refine wpQuiet_nil ?_; intro w' hb; replace hB := Below.trans hB (Below.mono hb (Below.size hB)); replace k0r := Blk.below k0r hb (Blk.lt k0r); replace k1r := Blk.below k1r hb (Blk.lt k1r); (try clear k0rc k0rf k0rz); have k0rc := fun i => Blk.cell k0r i; have k0rf := fun i => Blk.free k0r i; have k0rz := Blk.lt k0r; (try clear k1rc k1rf k1rz); have k1rc := fun i => Blk.cell k1r i; have k1rf := fun i => Blk.free k1r i; have k1rz := Blk.lt k1r) | skip)
          all_goals (try (go_wp2_with (first | ((with_reducible refine wpList_here ?_ ?_); (· exact Eq.refl true); first | ((with_reducible refine wpList_grow 99 ?_ ?_); (· exact Eq.refl true))) | ((with_reducible refine wp_region_any_here ?_ ?_); (· exact Eq.refl true); first | ((with_reducible refine wp_region_drawn 99 ?_ ?_ ?_ ?_); (· exact Eq.refl true); (· kernel_rfl); (· kernel_rfl)) | refine wp_region_grow (by kernel_rfl) (by kernel_rfl) ?_)); (try simp only [List.take_succ_cons, List.take_zero, List.drop_succ_cons, List.drop_zero]); (repeat (go_big_quiet_step ((first | (go_at_call 14; with_reducible exact grow_of (CBE.out _ (cars_on HC4.out (Grow.below _)) (sets_on HST4.out (Grow.below _)) ((HT4.out.below hB).below (Grow.below _)))) | (go_at_call 15; with_reducible exact grow_of (CRB.out _ (cars_on HC4.out (Grow.below _)) (sets_on HST4.out (Grow.below _)))) | (go_at_call 10; with_reducible exact grow_of (alive34 _ ((HT4.out.below hB).below (Grow.below _)))))))); (first | (refine wpQuiet_nil ?_; intro w' hb; replace hB := Below.trans hB (Below.mono hb (Below.size hB)); replace k0r := Blk.below k0r hb (Blk.lt k0r); replace k1r := Blk.below k1r hb (Blk.lt k1r); (try clear k0rc k0rf k0rz); have k0rc := fun i => Blk.cell k0r i; have k0rf := fun i => Blk.free k0r i; have k0rz := Blk.lt k0r; (try clear k1rc k1rf k1rz); have k1rc := fun i => Blk.cell k1r i; have k1rf := fun i => Blk.free k1r i; have k1rz := Blk.lt k1r) | skip)))
          all_goals (try (go_wp2_with (first | ((with_reducible refine wpList_here ?_ ?_); (· exact Eq.refl true); first | ((with_reducible refine wpList_grow 99 ?_ ?_); (· exact Eq.refl true))) | ((with_reducible refine wp_region_any_here ?_ ?_); (· exact Eq.refl true); first | ((with_reducible refine wp_region_drawn 99 ?_ ?_ ?_ ?_); (· exact Eq.refl true); (· kernel_rfl); (· kernel_rfl)) | refine wp_region_grow (by kernel_rfl) (by kernel_rfl) ?_)); (try simp only [List.take_succ_cons, List.take_zero, List.drop_succ_cons, List.drop_zero]); (repeat (go_big_quiet_step ((first | (go_at_call 14; with_reducible exact grow_of (CBE.out _ (cars_on HC4.out (Grow.below _)) (sets_on HST4.out (Grow.below _)) ((HT4.out.below hB).below (Grow.below _)))) | (go_at_call 15; with_reducible exact grow_of (CRB.out _ (cars_on HC4.out (Grow.below _)) (sets_on HST4.out (Grow.below _)))) | (go_at_call 10; with_reducible exact grow_of (alive34 _ ((HT4.out.below hB).below (Grow.below _)))))))); (first | (refine wpQuiet_nil ?_; intro w' hb; replace hB := Below.trans hB (Below.mono hb (Below.size hB)); replace k0r := Blk.below k0r hb (Blk.lt k0r); replace k1r := Blk.below k1r hb (Blk.lt k1r); (try clear k0rc k0rf k0rz); have k0rc := fun i => Blk.cell k0r i; have k0rf := fun i => Blk.free k0r i; have k0rz := Blk.lt k0r; (try clear k1rc k1rf k1rz); have k1rc := fun i => Blk.cell k1r i; have k1rf := fun i => Blk.free k1r i; have k1rz := Blk.lt k1r) | skip)))
          go_ret
          exact ⟨rfl, HB.out.trans (hB.mono HB.out.size)⟩
  · clear hin2 hall hsm x1 x2 hc4 hst4
    by_cases hfl : floor < 0
    · have q1 : decide (floor < 0) = true := decide_eq_true hfl
      clear hok hfl
      go_wp2
      go_ret
      exact ⟨rfl, hB⟩
    · have q1 : decide (floor < 0) = false := decide_eq_false hfl
      by_cases hfl2 : s.floors ≤ floor
      · have q2 : decide (s.floors ≤ floor) = true := decide_eq_true hfl2
        clear hok hfl hfl2
        go_wp2
        go_ret
        exact ⟨rfl, hB⟩
      · have q2 : decide (s.floors ≤ floor) = false := decide_eq_false hfl2
        have d1 : (dir != 1) = true := by simp; omega
        have d2 : (dir != -1) = true := by simp; omega
        clear hok hfl hfl2
        go_wp2
        go_ret
        exact ⟨rfl, hB⟩
set_option maxRecDepth 100000 in
theorem walkEtaTells {H : Type} (W : World) (base : Nat) (enc : TypeId × Value → H) {v0 : Value} {d0 : DataW H} {p0 : List MemPlace} {v1 : Value} {d1 : DataW H} {p1 : List MemPlace} {v2 : Value} {d2 : DataW H} {p2 : List MemPlace}
    (h0 : DataW.Trod enc Tryd.prog W 0 (fun _ => true) true 25 v0 d0 p0) (h1 : DataW.Trod enc Tryd.prog W 0 (fun _ => true) true 34 v1 d1 p1) (h2 : DataW.Trod enc Tryd.prog W 0 (fun _ => true) true 32 v2 d2 p2)
    (o0 : Value.okWide Tryd.prog W .any base 25 v0) (o1 : Value.okWide Tryd.prog W .any base 34 v1) (o2 : Value.okWide Tryd.prog W .any base 32 v2) (hT : Tab W) :
    Calls Tryd.prog 4 #[v0, v1, v2] W fun e W' => e = .returned (.bool true) ∧ Below W.heap.size W W' := by
  obtain ⟨cs, rfl, n, hn⟩ := arg_agg (.inl ⟨_, Tryd.underlying25⟩) o0 h0
  obtain ⟨s, A, C, rfl, hok, hsl⟩ := read_Scen hn
  obtain ⟨n1, hn1⟩ := arg_slice Tryd.underlying34 o1 h1
  obtain ⟨cars, hcars⟩ := read_slice (size := 6) Tryd.underlying34 (by kernel_rfl) (by decide) (fun _ _ _ h => read_Car h) hn1
  obtain ⟨A2, C2, hv, _⟩ := id hcars
  injection hv with hv
  subst hv
  obtain ⟨cs, rfl, n2, hn2⟩ := arg_agg (.inl ⟨_, Tryd.underlying32⟩) o2 h2
  obtain ⟨sets, A3, C3, floor, dir, rfl, hst, _, _⟩ := read_Call34 hn2
  exact law_EtaTells s A C cars A2 C2 sets A3 C3 floor dir W hok.1 hsl hcars hst hT
end Go.Proofs.YtejcgagblpkmoaaDoor
