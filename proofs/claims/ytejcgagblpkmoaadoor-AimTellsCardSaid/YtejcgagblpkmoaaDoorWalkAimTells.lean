
/-
  The law AimTells, walked. Conditions: the library's table lies as laid.
-/
import Derived.Test.YtejcgagblpkmoaaDoorAimBest
import Derived.Test.YtejcgagblpkmoaaDoorAlive41
import Derived.Test.YtejcgagblpkmoaaDoorRef34B
set_option linter.unusedVariables false
set_option linter.unusedSimpArgs false
namespace Go.Proofs.YtejcgagblpkmoaaDoor
open Go.Joins Go.ChangeShapes Go.WideShapes Go.ChangeAt Go.RowKit Go.Deep

theorem cars_on {w w' : World} {cs : List Value} {xs : List Car} (h : RSlice 6 RCar w cs xs) (hb : Below w.heap.size w w') : RSlice 6 RCar w' cs xs := RSlice.stays RCar.stays _ _ _ _ h hb
theorem sets_on {w w' : World} {cs : List Value} {xs : List St} (h : RSlice 2 RSt w cs xs) (hb : Below w.heap.size w w') : RSlice 2 RSt w' cs xs := RSlice.stays RSt.stays _ _ _ _ h hb
theorem read_Call41 {H : Type} {enc : TypeId × Value → H} {w : World} {base : Nat} {spare : Nat → Bool} {held : Bool} {n : Nat} {cs : List Value} {x : DataW H × List MemPlace} (h : DataW.trod enc Tryd.prog w base spare held n 49 cs = some x) : ∃ (sets : List St) (A : Option Addr) (C : Nat) (i1 i2 fr ds : Int), cs = [.slice A sets.length C, .int .i64 i1, .int .i64 i2, .int .i64 fr, .int .i64 ds] ∧ RSlice 2 RSt w [.slice A sets.length C] sets := by
  obtain ⟨ys, m, _, _, hl, hyl, hf⟩ := DataW.trod_struct Tryd.underlying49 h
  rw [show Tryd.prog.cellsOf 49 = 5 by kernel_rfl] at hl
  have h0 := hf 0 _ rfl
  have h1 := hf 1 _ rfl
  rw [show Tryd.prog.cellsOf _ = 1 by kernel_rfl] at h0
  rw [show Tryd.prog.cellsOf _ = 4 by kernel_rfl] at h1
  match cs, hl with
  | [c0, c1, c2, c3, c4], _ =>
    rw [List.getElem?_eq_getElem (by rw [hyl]; decide)] at h0 h1
    change DataW.trod enc Tryd.prog w base spare held m 30 [c0] = _ at h0
    change DataW.trod enc Tryd.prog w base spare held m 47 [c1, c2, c3, c4] = _ at h1
    obtain ⟨a0, A0, C0, q0, r0⟩ := read_slice (size := 2) Tryd.underlying30 (by kernel_rfl) (by decide) (fun _ _ _ h => read_St h) h0
    injection q0 with q0; subst q0
    obtain ⟨hl2, m2, hf2⟩ := read_fields Tryd.underlying47 (by kernel_rfl) (by kernel_rfl) h1
    obtain ⟨d0, y0, e0, t0⟩ := hf2 0 _ rfl
    obtain ⟨d1, y1, e1, t1⟩ := hf2 1 _ rfl
    obtain ⟨d2, y2, e2, t2⟩ := hf2 2 _ rfl
    obtain ⟨d3, y3, e3, t3⟩ := hf2 3 _ rfl
    obtain ⟨a1, q1, w1⟩ := read_int (w := w) Tryd.underlying3 t0
    injection q1 with q1; subst q1
    obtain ⟨a2, q2, w2⟩ := read_int (w := w) Tryd.underlying3 t1
    injection q2 with q2; subst q2
    obtain ⟨a3, q3, w3⟩ := read_int (w := w) Tryd.underlying3 t2
    injection q3 with q3; subst q3
    obtain ⟨a4, q4, w4⟩ := read_int (w := w) Tryd.underlying3 t3
    injection q4 with q4; subst q4
    refine ⟨a0, A0, C0, a1, a2, a3, a4, ?_, ⟨A0, C0, rfl, r0⟩⟩
    simp at e0 e1 e2 e3
    subst e0 e1 e2 e3
    rfl
set_option maxRecDepth 100000 in
set_option maxHeartbeats 2000000 in
theorem law_AimTells (s : Scen) (A : Option Addr) (C : Nat) (cars : List Car) (A2 : Option Addr) (C2 : Nat) (sets : List St) (A3 : Option Addr) (C3 : Nat) (i1 i2 fr ds : Int) (w : World) (hI : I64 s.floors) (hs : RSlice 3 RSeg w [.slice A s.segs.length C] s.segs) (hc : RSlice 6 RCar w [.slice A2 cars.length C2] cars) (hst : RSlice 2 RSt w [.slice A3 sets.length C3] sets) (hT : Tab w) :
    Calls Tryd.prog 5 #[s.val A C, .slice A2 cars.length C2, .agg #[.slice A3 sets.length C3, .int .i64 i1, .int .i64 i2, .int .i64 fr, .int .i64 ds]] w fun e w' => e = .returned (.bool true) ∧ Below w.heap.size w w' := by
  obtain ⟨i0, hi, hz0, hz1, hz2⟩ := info_parts info_int
  have HI := Lib.hid hI
  have HT := Lib.hid hT
  clear hI hT
  go_enter Tryd.func5, Tryd.ntmps5
  go_wp2_with (first | ((with_reducible refine hold_list ?_ ?_); (· exact Eq.refl true)) | ((with_reducible refine hold_region ?_ ?_); (· exact Eq.refl true)) | (with_reducible refine hold_loop ?_))
  have k0 : Blk (((w.alloc (.cells (s.cells A C).toArray 25)).alloc (.cells #[.slice A3 sets.length C3, .int .i64 i1, .int .i64 i2, .int .i64 fr, .int .i64 ds] 49)).alloc (.cells #[.int .i64 i1, .int .i64 i2, .int .i64 fr, .int .i64 ds] 47)) (w.heap.size) 25 (s.cells A C).toArray := (Blk.alloc (Blk.alloc (blk_at (by simp)) (.cells #[.slice A3 sets.length C3, .int .i64 i1, .int .i64 i2, .int .i64 fr, .int .i64 ds] 49)) (.cells #[.int .i64 i1, .int .i64 i2, .int .i64 fr, .int .i64 ds] 47))
  have k1 : Blk (((w.alloc (.cells (s.cells A C).toArray 25)).alloc (.cells #[.slice A3 sets.length C3, .int .i64 i1, .int .i64 i2, .int .i64 fr, .int .i64 ds] 49)).alloc (.cells #[.int .i64 i1, .int .i64 i2, .int .i64 fr, .int .i64 ds] 47)) (w.heap.size + 1) 49 #[.slice A3 sets.length C3, .int .i64 i1, .int .i64 i2, .int .i64 fr, .int .i64 ds] := (Blk.alloc (blk_at (by simp)) (.cells #[.int .i64 i1, .int .i64 i2, .int .i64 fr, .int .i64 ds] 47))
  have k2 : Blk (((w.alloc (.cells (s.cells A C).toArray 25)).alloc (.cells #[.slice A3 sets.length C3, .int .i64 i1, .int .i64 i2, .int .i64 fr, .int .i64 ds] 49)).alloc (.cells #[.int .i64 i1, .int .i64 i2, .int .i64 fr, .int .i64 ds] 47)) (w.heap.size + 2) 47 #[.int .i64 i1, .int .i64 i2, .int .i64 fr, .int .i64 ds] := (blk_at (by simp))
  have hB : Below w.heap.size w (((w.alloc (.cells (s.cells A C).toArray 25)).alloc (.cells #[.slice A3 sets.length C3, .int .i64 i1, .int .i64 i2, .int .i64 fr, .int .i64 ds] 49)).alloc (.cells #[.int .i64 i1, .int .i64 i2, .int .i64 fr, .int .i64 ds] 47)) := (bel_at (bel_at (bel_at (Below.refl _ _) (.cells (s.cells A C).toArray 25)) (.cells #[.slice A3 sets.length C3, .int .i64 i1, .int .i64 i2, .int .i64 fr, .int .i64 ds] 49)) (.cells #[.int .i64 i1, .int .i64 i2, .int .i64 fr, .int .i64 ds] 47))
  generalize (((w.alloc (.cells (s.cells A C).toArray 25)).alloc (.cells #[.slice A3 sets.length C3, .int .i64 i1, .int .i64 i2, .int .i64 fr, .int .i64 ds] 49)).alloc (.cells #[.int .i64 i1, .int .i64 i2, .int .i64 fr, .int .i64 ds] 47)) = w1 at *
  (try clear k0c k0f k0z); have k0c := fun i => Blk.cell k0 i; have k0f := fun i => Blk.free k0 i; have k0z := Blk.lt k0; (try clear k1c k1f k1z); have k1c := fun i => Blk.cell k1 i; have k1f := fun i => Blk.free k1 i; have k1z := Blk.lt k1; (try clear k2c k2f k2z); have k2c := fun i => Blk.cell k2 i; have k2f := fun i => Blk.free k2 i; have k2z := Blk.lt k2
  unfold Hold
  have hs1 := RSlice.stays RSeg.stays _ _ _ _ hs hB
  have hc1 := RSlice.stays RCar.stays _ _ _ _ hc hB
  have hst1 := RSlice.stays RSt.stays _ _ _ _ hst hB
  have HT1 := Lib.hid (HT.out.below hB)
  clear hs hc hst HT
  go_wp2_with fail
  refine (within_any s A C cars A2 C2 _ hs1 hc1).mono ?_
  rintro e w3 ⟨b, rfl, hin, hb⟩
  replace hB := hB.trans (hb.mono hB.size)
  replace k0 := k0.below hb k0.lt
  replace k1 := k1.below hb k1.lt
  replace k2 := k2.below hb k2.lt
  have hc3 := RSlice.stays RCar.stays _ _ _ _ hc1 hb
  have hst3 := RSlice.stays RSt.stays _ _ _ _ hst1 hb
  have HT3 := Lib.hid (HT1.out.below hb)
  clear k0c k0f k1c k1f k2c k2f hb hs1 hc1 hst1 HT1
  (try clear k0c k0f k0z); have k0c := fun i => Blk.cell k0 i; have k0f := fun i => Blk.free k0 i; have k0z := Blk.lt k0; (try clear k1c k1f k1z); have k1c := fun i => Blk.cell k1 i; have k1f := fun i => Blk.free k1 i; have k1z := Blk.lt k1; (try clear k2c k2f k2z); have k2c := fun i => Blk.cell k2 i; have k2f := fun i => Blk.free k2 i; have k2z := Blk.lt k2
  cases b with
  | false =>
    clear hin
    go_wp2
    go_ret
    exact ⟨rfl, hB⟩
  | true =>
  have HIN := Lib.hid (hin rfl)
  clear hin
  go_wp2_with fail
  refine (within34_any s A C sets A3 C3 _ HI.out hst3).mono ?_
  rintro e w4 ⟨r, rfl, hin2, hb⟩
  replace hB := hB.trans (hb.mono hB.size)
  replace k0 := k0.below hb k0.lt
  replace k1 := k1.below hb k1.lt
  replace k2 := k2.below hb k2.lt
  have hc4 := RSlice.stays RCar.stays _ _ _ _ hc3 hb
  have hst4 := RSlice.stays RSt.stays _ _ _ _ hst3 hb
  have HT4 := Lib.hid (HT3.out.below hb)
  clear k0c k0f k1c k1f k2c k2f hb hc3 hst3 HT3
  (try clear k0c k0f k0z); have k0c := fun i => Blk.cell k0 i; have k0f := fun i => Blk.free k0 i; have k0z := Blk.lt k0; (try clear k1c k1f k1z); have k1c := fun i => Blk.cell k1 i; have k1f := fun i => Blk.free k1 i; have k1z := Blk.lt k1; (try clear k2c k2f k2z); have k2c := fun i => Blk.cell k2 i; have k2f := fun i => Blk.free k2 i; have k2z := Blk.lt k2
  cases r with
  | false =>
    clear hin2
    go_wp2
    go_ret
    exact ⟨rfl, hB⟩
  | true =>
  have HIN2 := Lib.hid (hin2 rfl)
  clear hin2
  have hin2 := HIN2.out
  obtain ⟨hfine, hall⟩ := HIN.out
  have hsm := small_of hfine
  obtain ⟨x1, x2, _⟩ := hfine
  by_cases hp0 : fr < 0
  · have q0 : decide (fr < 0) = true := decide_eq_true hp0
    clear hin2 hall hsm x1 x2 hc4 hst4 hp0
    go_wp2
    go_ret
    exact ⟨rfl, hB⟩
  have q0 : decide (fr < 0) = false := decide_eq_false hp0
  by_cases hp1 : s.floors ≤ fr
  · have q1 : decide (s.floors ≤ fr) = true := decide_eq_true hp1
    clear hin2 hall hsm x1 x2 hc4 hst4 hp1
    go_wp2
    go_ret
    exact ⟨rfl, hB⟩
  have q1 : decide (s.floors ≤ fr) = false := decide_eq_false hp1
  by_cases hp2 : ds < 0
  · have q2 : decide (ds < 0) = true := decide_eq_true hp2
    clear hin2 hall hsm x1 x2 hc4 hst4 hp2
    go_wp2
    go_ret
    exact ⟨rfl, hB⟩
  have q2 : decide (ds < 0) = false := decide_eq_false hp2
  by_cases hp3 : s.floors ≤ ds
  · have q3 : decide (s.floors ≤ ds) = true := decide_eq_true hp3
    clear hin2 hall hsm x1 x2 hc4 hst4 hp3
    go_wp2
    go_ret
    exact ⟨rfl, hB⟩
  have q3 : decide (s.floors ≤ ds) = false := decide_eq_false hp3
  by_cases hp4 : fr = ds
  · have q4 : (fr == ds) = true := by simp [hp4]
    clear hin2 hall hsm x1 x2 hc4 hst4 hp4 hp0 hp1 hp2 hp3
    go_wp2
    go_ret
    exact ⟨rfl, hB⟩
  have q4 : (fr == ds) = false := by simp [hp4]
  obtain ⟨E, hE⟩ := costs_ex s cars sets fr ds
  have cC := fun i (c : Car) A5 C5 (h : cars[i]? = some c) w hT => aim_Cost s A C c A5 C5 (stAt sets i).x (stAt sets i).y i1 i2 fr ds w (stAt_wd hst4 i).1 (stAt_wd hst4 i).2 x2 (etaOk_of hsm x2.1 (hall.2 i c h)) (hall.2 i c h).2.2.1 ⟨by omega, by omega⟩ ⟨by omega, by omega⟩ hT
  have cL := fun i (c : Car) A5 C5 (h : cars[i]? = some c) w => law41_cost s A C c A5 C5 (stAt sets i).x (stAt sets i).y i1 i2 fr ds w (stAt_wd hst4 i).1 (stAt_wd hst4 i).2 x2 (etaOk_of hsm x2.1 (hall.2 i c h)) (hall.2 i c h).2.2.1 ⟨by omega, by omega⟩ ⟨by omega, by omega⟩
  have cBe := fun w hc hst hT => aim_Best s A C cars A2 C2 sets A3 C3 i1 i2 fr ds E w hsm x2 hc hall hst hin2.1 ⟨by omega, by omega⟩ ⟨by omega, by omega⟩ hE hT
  obtain ⟨hEl, hEi⟩ := hE
  have cLe := fun A C w hI => ref_Least A C E w hI (by have := hall.1; omega)
  generalize leastN E E.length = LN at *
  have h16 := hall.1
  have h20 := hin2.1
  have CC := Lib.hid cC
  have CL := Lib.hid cL
  have CBE := Lib.hid cBe
  have CLE := Lib.hid cLe
  have HEI := Lib.hid hEi
  have HEL := Lib.hid hEl
  have HB := Lib.hid hB
  have K0 := Lib.hid k0
  have K1 := Lib.hid k1
  have K2 := Lib.hid k2
  have hself := bne_self_eq_false (α := Int)
  clear hin2 hall hsm x1 x2 hp0 hp1 hp2 hp3 hp4 cC cL cBe cLe hEi hEl hB
  go_wp2_with (with_reducible refine hold_loop ?_)
  unfold Hold
  clear k0 k0c k0f k0z k1 k1c k1f k1z k2 k2c k2f k2z
  go_loopw [8, 9] (fun v i wr => ∃ j : Nat, j ≤ cars.length ∧ i = .int .i64 j ∧ wr.ownsRow w4.heap.size 3 1 v j (intV (E.take j)) ∧ Below w4.heap.size w4 wr) (fun _ i _ => cars.length - (intOf i).toNat)
  case atStart => exact ⟨0, by omega, rfl, by rw [List.take_zero]; exact World.ownsRow_nil _ _ _ _, Below.refl _ _⟩
  case round =>
    obtain ⟨j, hj, rfl, hown, hbq⟩ := hrel
    by_cases hjl : j < cars.length
    · obtain ⟨b, off, rfl, hbl, hce⟩ := slice_at hc4 (by omega)
      obtain ⟨c, hcj⟩ : ∃ c, cars[j]? = some c := ⟨_, List.getElem?_eq_getElem hjl⟩
      obtain ⟨es, ⟨A5, C5, rfl, _, _⟩, _, hcc⟩ := hce j c hcj
      have hblr : b < wr.heap.size := Nat.lt_of_lt_of_le hbl hbq.size
      have HBL := Lib.hid hbl
      have HCC := Lib.hid hcc
      have z0 := hcc 0 _ rfl
      have z1 := hcc 1 _ rfl
      have z2 := hcc 2 _ rfl
      have z3 := hcc 3 _ rfl
      have z4 := hcc 4 _ rfl
      have z5 := hcc 5 _ rfl
      simp only [Nat.add_zero] at z0
      have CC1 := Lib.hid (CC.out j c A5 C5 hcj)
      have CL1 := Lib.hid (CL.out j c A5 C5 hcj)
      have hv := HEI.out j c hcj
      have htk : intV (E.take (j + 1)) = intV (E.take j) ++ [.int .i64 (aimC s c (stAt sets j).x (stAt sets j).y fr ds)] := by rw [← hv]; exact tk_succ (by rw [HEL.out]; exact hjl)
      have HTK := Lib.hid htk
      have HBQ := Lib.hid hbq
      have hgs := hbq.size
      have HO := Lib.hid hown
      have hat : (intV (E.take (j + 1)))[j]? = some (.int .i64 (aimC s c (stAt sets j).x (stAt sets j).y fr ds)) := by
        rw [htk, List.getElem?_append_right (by unfold intV; rw [List.length_map, List.length_take]; omega)]
        unfold intV
        rw [List.length_map, List.length_take, HEL.out, show j - min j cars.length = 0 by omega]
        rfl
      have HAT := Lib.hid hat
      have k0c := fun i => Blk.cell K0.out i
      have k0f := fun i => Blk.free K0.out i
      have k0z := K0.out.lt
      have k2c := fun i => Blk.cell K2.out i
      have k2f := fun i => Blk.free K2.out i
      have k2z := K2.out.lt
      have k1r := K1.out.below hbq K1.out.lt
      (try clear k1rc k1rf k1rz); have k1rc := fun i => Blk.cell k1r i; have k1rf := fun i => Blk.free k1r i; have k1rz := Blk.lt k1r
      clear hce hcc htk hbq hown hv hcj hat CC CL CBE CLE HEI hc4
      generalize aimC s c (stAt sets j).x (stAt sets j).y fr ds = V at *
      by_cases hjs : j < sets.length
      · have q5 : decide ((j : Int) < (sets.length : Int)) = true := decide_eq_true (by omega)
        obtain ⟨b2, off2, rfl, hbl2, hce2⟩ := slice_at hst4 (by omega)
        obtain ⟨t, htj⟩ : ∃ t, sets[j]? = some t := ⟨_, List.getElem?_eq_getElem hjs⟩
        obtain ⟨es, ⟨rfl, hwx, hwy⟩, _, hcc2⟩ := hce2 j t htj
        have htt : stAt sets j = t := by unfold stAt; rw [htj]; rfl
        rw [htt] at CC1 CL1
        unfold sv at CC1 CL1
        have y0 := (HBQ.out.cell (p := ⟨b2, off2 + j * 2 + 0, none⟩) hbl2).trans (hcc2 0 _ rfl)
        have y1 := (HBQ.out.cell (p := ⟨b2, off2 + j * 2 + 1, none⟩) hbl2).trans (hcc2 1 _ rfl)
        simp only [Nat.add_zero] at y0
        have hblr2 : b2 < wr.heap.size := Nat.lt_of_lt_of_le hbl2 hgs
        clear hce2 hcc2 hwx hwy htt htj hst4
        go_wp2_with (first | ((with_reducible refine hold_region ?_ ?_); (· exact Eq.refl true)))
        unfold Hold
        have hbd : Below w4.heap.size w4 (wr.alloc (.cells #[.int .u64 (t.x : Int), .int .u64 (t.y : Int)] 38)).drew := (HBQ.out.alloc hgs _).drew
        have kS : Blk (wr.alloc (.cells #[.int .u64 (t.x : Int), .int .u64 (t.y : Int)] 38)).drew wr.heap.size 38 #[.int .u64 (t.x : Int), .int .u64 (t.y : Int)] := (Blk.new wr 38 #[.int .u64 (t.x : Int), .int .u64 (t.y : Int)]).below (below_drewN (Below.refl _ _) 1) (Blk.lt (Blk.new wr 38 #[.int .u64 (t.x : Int), .int .u64 (t.y : Int)]))
        have hol := fun k hk => (HO.out.lt k hk).2
        have KS := Lib.hid kS
        have HC := Lib.hid (held_set hbd kS)
        have HBD := Lib.hid hbd
        have HO1 := Lib.hid ((HO.out.alloc (.cells #[.int .u64 (t.x : Int), .int .u64 (t.y : Int)] 38)).drew)
        have HOL := Lib.hid hol
        clear hbd kS hol
        go_region_held3 (fun w' => Below w4.heap.size w4 w' ∧ (∀ b o, b < w4.heap.size → w'.cell? ⟨b, o, none⟩ = w4.cell? ⟨b, o, none⟩) ∧ w'.cell? ⟨wr.heap.size, 0, none⟩ = some (.int .u64 (t.x : Int)) ∧ w'.cell? ⟨wr.heap.size, 1, none⟩ = some (.int .u64 (t.y : Int))) (first | exact HC.out | exact held_set hb2 kS2 | exact held_set (hb2.alloc hs2 _) (kS2.alloc _) | exact held_set hb4 kS4) (first | (go_at_call 16; refine (CL1.out _).mono ?_; rintro e w2 ⟨rfl, hb⟩; have hb2 : Below w4.heap.size w4 w2 := HBD.out.trans (hb.mono (HBD.out.size)); have hs2 := hb2.size; have ho2 := ownsRow_below HO1.out hb; have kS2 := KS.out.below hb KS.out.lt; clear hb) | (refine step_append_lies _ rfl _ _ 50 rfl w4.heap.size 3 i0 (.int .i64 0) 1 8 Tryd.underlying50 hi hz0 hz1 hz2 rfl (by decide) _ _ _ rfl (ho2.alloc _) ⟨w2.heap.size, 0, none⟩ 1 1 [.int .i64 V] rfl rfl (cell_one _ _ _) (one_cell _) (by decide) (by unfold maxLen; omega) (by omega) (by simp; omega) _ rfl ?_; intro g cap w5 hown' hgrow _ hglt; have hb4 : Below w4.heap.size w4 w5 := (hb2.alloc hs2 _).grown hgrow (by simp; omega) (fun k hk => (ho2.lt k hk).1); have kS4 := (kS2.alloc (.cells #[.int .i64 V] 3)).grown' hgrow (fun h => Nat.lt_irrefl _ (HOL.out _ h)); clear hgrow))
        rw [← HTK.out] at hown'
        have hB := hb4
        have k0 := K0.out.below hb4 K0.out.lt
        have k1 := K1.out.below hb4 K1.out.lt
        have k2 := K2.out.below hb4 K2.out.lt
        have k9 := kS4
        have hx := hown'.cellAt j (by omega)
        rw [HAT.out] at hx
        have HOWN := Lib.hid hown'
        have v0 := (hb4.cell (p := ⟨b, off + j * 6 + 0, none⟩) HBL.out).trans (HCC.out 0 _ rfl)
        have v1 := (hb4.cell (p := ⟨b, off + j * 6 + 1, none⟩) HBL.out).trans (HCC.out 1 _ rfl)
        have v2 := (hb4.cell (p := ⟨b, off + j * 6 + 2, none⟩) HBL.out).trans (HCC.out 2 _ rfl)
        have v3 := (hb4.cell (p := ⟨b, off + j * 6 + 3, none⟩) HBL.out).trans (HCC.out 3 _ rfl)
        have v4 := (hb4.cell (p := ⟨b, off + j * 6 + 4, none⟩) HBL.out).trans (HCC.out 4 _ rfl)
        have v5 := (hb4.cell (p := ⟨b, off + j * 6 + 5, none⟩) HBL.out).trans (HCC.out 5 _ rfl)
        simp only [Nat.add_zero] at v0
        have hbl5 : b < w5.heap.size := Nat.lt_of_lt_of_le HBL.out hb4.size
        clear k0c k0f k0z k2c k2f k2z k1r k1rc k1rf k1rz hown' kS4 kS2 hb2 hs2 ho2 hb4 KS HC HBD HO1 HOL
        (try clear k0c k0f k0z); have k0c := fun i => Blk.cell k0 i; have k0f := fun i => Blk.free k0 i; have k0z := Blk.lt k0; (try clear k1c k1f k1z); have k1c := fun i => Blk.cell k1 i; have k1f := fun i => Blk.free k1 i; have k1z := Blk.lt k1; (try clear k2c k2f k2z); have k2c := fun i => Blk.cell k2 i; have k2f := fun i => Blk.free k2 i; have k2z := Blk.lt k2; (try clear k9c k9f k9z); have k9c := fun i => Blk.cell k9 i; have k9f := fun i => Blk.free k9 i; have k9z := Blk.lt k9
        go_wp2_with (first | ((with_reducible refine wpList_here ?_ ?_); (· exact Eq.refl true); first | ((with_reducible refine wpList_grow 99 ?_ ?_); (· exact Eq.refl true))) | ((with_reducible refine wp_region_any_here ?_ ?_); (· exact Eq.refl true); first | ((with_reducible refine wp_region_drawn 99 ?_ ?_ ?_ ?_); (· exact Eq.refl true); (· kernel_rfl); (· kernel_rfl)) | refine wp_region_grow (by kernel_rfl) (by kernel_rfl) ?_)); (try simp only [List.take_succ_cons, List.take_zero, List.drop_succ_cons, List.drop_zero]); (repeat (go_big_quiet_step ((first | (go_at_call 17; with_reducible exact grow_of (CC1.out _ ((HT4.out.below hB).below (Grow.below _)))))))); (first | (refine wpQuiet_nil ?_; intro w' hb; replace hB := Below.trans hB (Below.mono hb (Below.size hB)); replace k0 := Blk.below k0 hb (Blk.lt k0); replace k1 := Blk.below k1 hb (Blk.lt k1); replace k2 := Blk.below k2 hb (Blk.lt k2); replace k9 := Blk.below k9 hb (Blk.lt k9); (try clear k0c k0f k0z); have k0c := fun i => Blk.cell k0 i; have k0f := fun i => Blk.free k0 i; have k0z := Blk.lt k0; (try clear k1c k1f k1z); have k1c := fun i => Blk.cell k1 i; have k1f := fun i => Blk.free k1 i; have k1z := Blk.lt k1; (try clear k2c k2f k2z); have k2c := fun i => Blk.cell k2 i; have k2f := fun i => Blk.free k2 i; have k2z := Blk.lt k2; (try clear k9c k9f k9z); have k9c := fun i => Blk.cell k9 i; have k9f := fun i => Blk.free k9 i; have k9z := Blk.lt k9) | skip)
        all_goals (try (go_wp2_with (first | ((with_reducible refine wpList_here ?_ ?_); (· exact Eq.refl true); first | ((with_reducible refine wpList_grow 99 ?_ ?_); (· exact Eq.refl true))) | ((with_reducible refine wp_region_any_here ?_ ?_); (· exact Eq.refl true); first | ((with_reducible refine wp_region_drawn 99 ?_ ?_ ?_ ?_); (· exact Eq.refl true); (· kernel_rfl); (· kernel_rfl)) | refine wp_region_grow (by kernel_rfl) (by kernel_rfl) ?_)); (try simp only [List.take_succ_cons, List.take_zero, List.drop_succ_cons, List.drop_zero]); (repeat (go_big_quiet_step ((first | (go_at_call 17; with_reducible exact grow_of (CC1.out _ ((HT4.out.below hB).below (Grow.below _)))))))); (first | (refine wpQuiet_nil ?_; intro w' hb; replace hB := Below.trans hB (Below.mono hb (Below.size hB)); replace k0 := Blk.below k0 hb (Blk.lt k0); replace k1 := Blk.below k1 hb (Blk.lt k1); replace k2 := Blk.below k2 hb (Blk.lt k2); replace k9 := Blk.below k9 hb (Blk.lt k9); (try clear k0c k0f k0z); have k0c := fun i => Blk.cell k0 i; have k0f := fun i => Blk.free k0 i; have k0z := Blk.lt k0; (try clear k1c k1f k1z); have k1c := fun i => Blk.cell k1 i; have k1f := fun i => Blk.free k1 i; have k1z := Blk.lt k1; (try clear k2c k2f k2z); have k2c := fun i => Blk.cell k2 i; have k2f := fun i => Blk.free k2 i; have k2z := Blk.lt k2; (try clear k9c k9f k9z); have k9c := fun i => Blk.cell k9 i; have k9f := fun i => Blk.free k9 i; have k9z := Blk.lt k9) | skip)))
        all_goals (try (go_wp2_with (first | ((with_reducible refine wpList_here ?_ ?_); (· exact Eq.refl true); first | ((with_reducible refine wpList_grow 99 ?_ ?_); (· exact Eq.refl true))) | ((with_reducible refine wp_region_any_here ?_ ?_); (· exact Eq.refl true); first | ((with_reducible refine wp_region_drawn 99 ?_ ?_ ?_ ?_); (· exact Eq.refl true); (· kernel_rfl); (· kernel_rfl)) | refine wp_region_grow (by kernel_rfl) (by kernel_rfl) ?_)); (try simp only [List.take_succ_cons, List.take_zero, List.drop_succ_cons, List.drop_zero]); (repeat (go_big_quiet_step ((first | (go_at_call 17; with_reducible exact grow_of (CC1.out _ ((HT4.out.below hB).below (Grow.below _)))))))); (first | (refine wpQuiet_nil ?_; intro w' hb; replace hB := Below.trans hB (Below.mono hb (Below.size hB)); replace k0 := Blk.below k0 hb (Blk.lt k0); replace k1 := Blk.below k1 hb (Blk.lt k1); replace k2 := Blk.below k2 hb (Blk.lt k2); replace k9 := Blk.below k9 hb (Blk.lt k9); (try clear k0c k0f k0z); have k0c := fun i => Blk.cell k0 i; have k0f := fun i => Blk.free k0 i; have k0z := Blk.lt k0; (try clear k1c k1f k1z); have k1c := fun i => Blk.cell k1 i; have k1f := fun i => Blk.free k1 i; have k1z := Blk.lt k1; (try clear k2c k2f k2z); have k2c := fun i => Blk.cell k2 i; have k2f := fun i => Blk.free k2 i; have k2z := Blk.lt k2; (try clear k9c k9f k9z); have k9c := fun i => Blk.cell k9 i; have k9f := fun i => Blk.free k9 i; have k9z := Blk.lt k9) | skip)))
        go_roundw
        case rel => exact ⟨j + 1, by omega, by go_num, ownsRow_below HOWN.out hb, hB⟩
        case measure => simp [intOf]; omega
      · have q5 : decide ((j : Int) < (sets.length : Int)) = false := decide_eq_false (by omega)
        have htt : stAt sets j = ⟨0, 0⟩ := by unfold stAt; rw [List.getElem?_eq_none (by omega)]; rfl
        rw [htt] at CC1 CL1
        unfold sv at CC1 CL1
        clear htt hst4
        go_wp2_with (first | ((with_reducible refine hold_region ?_ ?_); (· exact Eq.refl true)))
        unfold Hold
        have hbd : Below w4.heap.size w4 (wr.alloc (.cells #[.int .u64 ((0 : Nat) : Int), .int .u64 ((0 : Nat) : Int)] 38)).drew := (HBQ.out.alloc hgs _).drew
        have kS : Blk (wr.alloc (.cells #[.int .u64 ((0 : Nat) : Int), .int .u64 ((0 : Nat) : Int)] 38)).drew wr.heap.size 38 #[.int .u64 ((0 : Nat) : Int), .int .u64 ((0 : Nat) : Int)] := (Blk.new wr 38 #[.int .u64 ((0 : Nat) : Int), .int .u64 ((0 : Nat) : Int)]).below (below_drewN (Below.refl _ _) 1) (Blk.lt (Blk.new wr 38 #[.int .u64 ((0 : Nat) : Int), .int .u64 ((0 : Nat) : Int)]))
        have hol := fun k hk => (HO.out.lt k hk).2
        have KS := Lib.hid kS
        have HC := Lib.hid (held_set hbd kS)
        have HBD := Lib.hid hbd
        have HO1 := Lib.hid ((HO.out.alloc (.cells #[.int .u64 ((0 : Nat) : Int), .int .u64 ((0 : Nat) : Int)] 38)).drew)
        have HOL := Lib.hid hol
        clear hbd kS hol
        go_region_held3 (fun w' => Below w4.heap.size w4 w' ∧ (∀ b o, b < w4.heap.size → w'.cell? ⟨b, o, none⟩ = w4.cell? ⟨b, o, none⟩) ∧ w'.cell? ⟨wr.heap.size, 0, none⟩ = some (.int .u64 ((0 : Nat) : Int)) ∧ w'.cell? ⟨wr.heap.size, 1, none⟩ = some (.int .u64 ((0 : Nat) : Int))) (first | exact HC.out | exact held_set hb2 kS2 | exact held_set (hb2.alloc hs2 _) (kS2.alloc _) | exact held_set hb4 kS4) (first | (go_at_call 16; refine (CL1.out _).mono ?_; rintro e w2 ⟨rfl, hb⟩; have hb2 : Below w4.heap.size w4 w2 := HBD.out.trans (hb.mono (HBD.out.size)); have hs2 := hb2.size; have ho2 := ownsRow_below HO1.out hb; have kS2 := KS.out.below hb KS.out.lt; clear hb) | (refine step_append_lies _ rfl _ _ 50 rfl w4.heap.size 3 i0 (.int .i64 0) 1 8 Tryd.underlying50 hi hz0 hz1 hz2 rfl (by decide) _ _ _ rfl (ho2.alloc _) ⟨w2.heap.size, 0, none⟩ 1 1 [.int .i64 V] rfl rfl (cell_one _ _ _) (one_cell _) (by decide) (by unfold maxLen; omega) (by omega) (by simp; omega) _ rfl ?_; intro g cap w5 hown' hgrow _ hglt; have hb4 : Below w4.heap.size w4 w5 := (hb2.alloc hs2 _).grown hgrow (by simp; omega) (fun k hk => (ho2.lt k hk).1); have kS4 := (kS2.alloc (.cells #[.int .i64 V] 3)).grown' hgrow (fun h => Nat.lt_irrefl _ (HOL.out _ h)); clear hgrow))
        rw [← HTK.out] at hown'
        have hB := hb4
        have k0 := K0.out.below hb4 K0.out.lt
        have k1 := K1.out.below hb4 K1.out.lt
        have k2 := K2.out.below hb4 K2.out.lt
        have k9 := kS4
        have hx := hown'.cellAt j (by omega)
        rw [HAT.out] at hx
        have HOWN := Lib.hid hown'
        have v0 := (hb4.cell (p := ⟨b, off + j * 6 + 0, none⟩) HBL.out).trans (HCC.out 0 _ rfl)
        have v1 := (hb4.cell (p := ⟨b, off + j * 6 + 1, none⟩) HBL.out).trans (HCC.out 1 _ rfl)
        have v2 := (hb4.cell (p := ⟨b, off + j * 6 + 2, none⟩) HBL.out).trans (HCC.out 2 _ rfl)
        have v3 := (hb4.cell (p := ⟨b, off + j * 6 + 3, none⟩) HBL.out).trans (HCC.out 3 _ rfl)
        have v4 := (hb4.cell (p := ⟨b, off + j * 6 + 4, none⟩) HBL.out).trans (HCC.out 4 _ rfl)
        have v5 := (hb4.cell (p := ⟨b, off + j * 6 + 5, none⟩) HBL.out).trans (HCC.out 5 _ rfl)
        simp only [Nat.add_zero] at v0
        have hbl5 : b < w5.heap.size := Nat.lt_of_lt_of_le HBL.out hb4.size
        clear k0c k0f k0z k2c k2f k2z k1r k1rc k1rf k1rz hown' kS4 kS2 hb2 hs2 ho2 hb4 KS HC HBD HO1 HOL
        (try clear k0c k0f k0z); have k0c := fun i => Blk.cell k0 i; have k0f := fun i => Blk.free k0 i; have k0z := Blk.lt k0; (try clear k1c k1f k1z); have k1c := fun i => Blk.cell k1 i; have k1f := fun i => Blk.free k1 i; have k1z := Blk.lt k1; (try clear k2c k2f k2z); have k2c := fun i => Blk.cell k2 i; have k2f := fun i => Blk.free k2 i; have k2z := Blk.lt k2; (try clear k9c k9f k9z); have k9c := fun i => Blk.cell k9 i; have k9f := fun i => Blk.free k9 i; have k9z := Blk.lt k9
        go_wp2_with (first | ((with_reducible refine wpList_here ?_ ?_); (· exact Eq.refl true); first | ((with_reducible refine wpList_grow 99 ?_ ?_); (· exact Eq.refl true))) | ((with_reducible refine wp_region_any_here ?_ ?_); (· exact Eq.refl true); first | ((with_reducible refine wp_region_drawn 99 ?_ ?_ ?_ ?_); (· exact Eq.refl true); (· kernel_rfl); (· kernel_rfl)) | refine wp_region_grow (by kernel_rfl) (by kernel_rfl) ?_)); (try simp only [List.take_succ_cons, List.take_zero, List.drop_succ_cons, List.drop_zero]); (repeat (go_big_quiet_step ((first | (go_at_call 17; with_reducible exact grow_of (CC1.out _ ((HT4.out.below hB).below (Grow.below _)))))))); (first | (refine wpQuiet_nil ?_; intro w' hb; replace hB := Below.trans hB (Below.mono hb (Below.size hB)); replace k0 := Blk.below k0 hb (Blk.lt k0); replace k1 := Blk.below k1 hb (Blk.lt k1); replace k2 := Blk.below k2 hb (Blk.lt k2); replace k9 := Blk.below k9 hb (Blk.lt k9); (try clear k0c k0f k0z); have k0c := fun i => Blk.cell k0 i; have k0f := fun i => Blk.free k0 i; have k0z := Blk.lt k0; (try clear k1c k1f k1z); have k1c := fun i => Blk.cell k1 i; have k1f := fun i => Blk.free k1 i; have k1z := Blk.lt k1; (try clear k2c k2f k2z); have k2c := fun i => Blk.cell k2 i; have k2f := fun i => Blk.free k2 i; have k2z := Blk.lt k2; (try clear k9c k9f k9z); have k9c := fun i => Blk.cell k9 i; have k9f := fun i => Blk.free k9 i; have k9z := Blk.lt k9) | skip)
        all_goals (try (go_wp2_with (first | ((with_reducible refine wpList_here ?_ ?_); (· exact Eq.refl true); first | ((with_reducible refine wpList_grow 99 ?_ ?_); (· exact Eq.refl true))) | ((with_reducible refine wp_region_any_here ?_ ?_); (· exact Eq.refl true); first | ((with_reducible refine wp_region_drawn 99 ?_ ?_ ?_ ?_); (· exact Eq.refl true); (· kernel_rfl); (· kernel_rfl)) | refine wp_region_grow (by kernel_rfl) (by kernel_rfl) ?_)); (try simp only [List.take_succ_cons, List.take_zero, List.drop_succ_cons, List.drop_zero]); (repeat (go_big_quiet_step ((first | (go_at_call 17; with_reducible exact grow_of (CC1.out _ ((HT4.out.below hB).below (Grow.below _)))))))); (first | (refine wpQuiet_nil ?_; intro w' hb; replace hB := Below.trans hB (Below.mono hb (Below.size hB)); replace k0 := Blk.below k0 hb (Blk.lt k0); replace k1 := Blk.below k1 hb (Blk.lt k1); replace k2 := Blk.below k2 hb (Blk.lt k2); replace k9 := Blk.below k9 hb (Blk.lt k9); (try clear k0c k0f k0z); have k0c := fun i => Blk.cell k0 i; have k0f := fun i => Blk.free k0 i; have k0z := Blk.lt k0; (try clear k1c k1f k1z); have k1c := fun i => Blk.cell k1 i; have k1f := fun i => Blk.free k1 i; have k1z := Blk.lt k1; (try clear k2c k2f k2z); have k2c := fun i => Blk.cell k2 i; have k2f := fun i => Blk.free k2 i; have k2z := Blk.lt k2; (try clear k9c k9f k9z); have k9c := fun i => Blk.cell k9 i; have k9f := fun i => Blk.free k9 i; have k9z := Blk.lt k9) | skip)))
        all_goals (try (go_wp2_with (first | ((with_reducible refine wpList_here ?_ ?_); (· exact Eq.refl true); first | ((with_reducible refine wpList_grow 99 ?_ ?_); (· exact Eq.refl true))) | ((with_reducible refine wp_region_any_here ?_ ?_); (· exact Eq.refl true); first | ((with_reducible refine wp_region_drawn 99 ?_ ?_ ?_ ?_); (· exact Eq.refl true); (· kernel_rfl); (· kernel_rfl)) | refine wp_region_grow (by kernel_rfl) (by kernel_rfl) ?_)); (try simp only [List.take_succ_cons, List.take_zero, List.drop_succ_cons, List.drop_zero]); (repeat (go_big_quiet_step ((first | (go_at_call 17; with_reducible exact grow_of (CC1.out _ ((HT4.out.below hB).below (Grow.below _)))))))); (first | (refine wpQuiet_nil ?_; intro w' hb; replace hB := Below.trans hB (Below.mono hb (Below.size hB)); replace k0 := Blk.below k0 hb (Blk.lt k0); replace k1 := Blk.below k1 hb (Blk.lt k1); replace k2 := Blk.below k2 hb (Blk.lt k2); replace k9 := Blk.below k9 hb (Blk.lt k9); (try clear k0c k0f k0z); have k0c := fun i => Blk.cell k0 i; have k0f := fun i => Blk.free k0 i; have k0z := Blk.lt k0; (try clear k1c k1f k1z); have k1c := fun i => Blk.cell k1 i; have k1f := fun i => Blk.free k1 i; have k1z := Blk.lt k1; (try clear k2c k2f k2z); have k2c := fun i => Blk.cell k2 i; have k2f := fun i => Blk.free k2 i; have k2z := Blk.lt k2; (try clear k9c k9f k9z); have k9c := fun i => Blk.cell k9 i; have k9f := fun i => Blk.free k9 i; have k9z := Blk.lt k9) | skip)))
        go_roundw
        case rel => exact ⟨j + 1, by omega, by go_num, ownsRow_below HOWN.out hb, hB⟩
        case measure => simp [intOf]; omega
    · obtain rfl : j = cars.length := by omega
      have HC4 := Lib.hid (cars_on hc4 hbq)
      have HST4 := Lib.hid (sets_on hst4 hbq)
      rw [List.take_of_length_le (by rw [HEL.out]; omega)] at hown
      obtain ⟨A', C', rfl, hints⟩ := owns_ints_n hown HEL.out.symm
      have HX := Lib.hid hints
      have hB := hbq
      have k0 := K0.out.below hbq K0.out.lt
      have k1 := K1.out.below hbq K1.out.lt
      have k2 := K2.out.below hbq K2.out.lt
      (try clear k0c k0f k0z); have k0c := fun i => Blk.cell k0 i; have k0f := fun i => Blk.free k0 i; have k0z := Blk.lt k0; (try clear k1c k1f k1z); have k1c := fun i => Blk.cell k1 i; have k1f := fun i => Blk.free k1 i; have k1z := Blk.lt k1; (try clear k2c k2f k2z); have k2c := fun i => Blk.cell k2 i; have k2f := fun i => Blk.free k2 i; have k2z := Blk.lt k2
      have hv : (LN == LN) = true := by simp
      clear hc4 hst4 hbq hown hints CC CL HEI
      go_wp2_with (first | ((with_reducible refine wpList_here ?_ ?_); (· exact Eq.refl true); first | ((with_reducible refine wpList_grow 11 ?_ ?_); (· exact Eq.refl true))) | ((with_reducible refine wp_region_any_here ?_ ?_); (· exact Eq.refl true); first | ((with_reducible refine wp_region_drawn 99 ?_ ?_ ?_ ?_); (· exact Eq.refl true); (· kernel_rfl); (· kernel_rfl)) | refine wp_region_grow (by kernel_rfl) (by kernel_rfl) ?_)); (try simp only [List.take_succ_cons, List.take_zero, List.drop_succ_cons, List.drop_zero]); (repeat (go_big_quiet_step ((first | (go_at_call 18; with_reducible exact grow_of (CBE.out _ (cars_on HC4.out (Grow.below _)) (sets_on HST4.out (Grow.below _)) ((HT4.out.below hB).below (Grow.below _)))) | (go_at_call 19; with_reducible exact grow_draw (CLE.out _ _ _ (HX.out.below (Grow.below _)))) | (go_at_call 20; with_reducible exact grow_of (alive41 _ ((HT4.out.below hB).below (Grow.below _)))))))); (first | (refine wpQuiet_nil ?_; intro w' hb; replace hB := Below.trans hB (Below.mono hb (Below.size hB)); replace k0 := Blk.below k0 hb (Blk.lt k0); replace k1 := Blk.below k1 hb (Blk.lt k1); replace k2 := Blk.below k2 hb (Blk.lt k2); (try clear k0c k0f k0z); have k0c := fun i => Blk.cell k0 i; have k0f := fun i => Blk.free k0 i; have k0z := Blk.lt k0; (try clear k1c k1f k1z); have k1c := fun i => Blk.cell k1 i; have k1f := fun i => Blk.free k1 i; have k1z := Blk.lt k1; (try clear k2c k2f k2z); have k2c := fun i => Blk.cell k2 i; have k2f := fun i => Blk.free k2 i; have k2z := Blk.lt k2) | skip)
      all_goals (try (go_wp2_with (first | ((with_reducible refine wpList_here ?_ ?_); (· exact Eq.refl true); first | ((with_reducible refine wpList_grow 11 ?_ ?_); (· exact Eq.refl true))) | ((with_reducible refine wp_region_any_here ?_ ?_); (· exact Eq.refl true); first | ((with_reducible refine wp_region_drawn 99 ?_ ?_ ?_ ?_); (· exact Eq.refl true); (· kernel_rfl); (· kernel_rfl)) | refine wp_region_grow (by kernel_rfl) (by kernel_rfl) ?_)); (try simp only [List.take_succ_cons, List.take_zero, List.drop_succ_cons, List.drop_zero]); (repeat (go_big_quiet_step ((first | (go_at_call 18; with_reducible exact grow_of (CBE.out _ (cars_on HC4.out (Grow.below _)) (sets_on HST4.out (Grow.below _)) ((HT4.out.below hB).below (Grow.below _)))) | (go_at_call 19; with_reducible exact grow_draw (CLE.out _ _ _ (HX.out.below (Grow.below _)))) | (go_at_call 20; with_reducible exact grow_of (alive41 _ ((HT4.out.below hB).below (Grow.below _)))))))); (first | (refine wpQuiet_nil ?_; intro w' hb; replace hB := Below.trans hB (Below.mono hb (Below.size hB)); replace k0 := Blk.below k0 hb (Blk.lt k0); replace k1 := Blk.below k1 hb (Blk.lt k1); replace k2 := Blk.below k2 hb (Blk.lt k2); (try clear k0c k0f k0z); have k0c := fun i => Blk.cell k0 i; have k0f := fun i => Blk.free k0 i; have k0z := Blk.lt k0; (try clear k1c k1f k1z); have k1c := fun i => Blk.cell k1 i; have k1f := fun i => Blk.free k1 i; have k1z := Blk.lt k1; (try clear k2c k2f k2z); have k2c := fun i => Blk.cell k2 i; have k2f := fun i => Blk.free k2 i; have k2z := Blk.lt k2) | skip)))
      all_goals (try (go_wp2_with (first | ((with_reducible refine wpList_here ?_ ?_); (· exact Eq.refl true); first | ((with_reducible refine wpList_grow 11 ?_ ?_); (· exact Eq.refl true))) | ((with_reducible refine wp_region_any_here ?_ ?_); (· exact Eq.refl true); first | ((with_reducible refine wp_region_drawn 99 ?_ ?_ ?_ ?_); (· exact Eq.refl true); (· kernel_rfl); (· kernel_rfl)) | refine wp_region_grow (by kernel_rfl) (by kernel_rfl) ?_)); (try simp only [List.take_succ_cons, List.take_zero, List.drop_succ_cons, List.drop_zero]); (repeat (go_big_quiet_step ((first | (go_at_call 18; with_reducible exact grow_of (CBE.out _ (cars_on HC4.out (Grow.below _)) (sets_on HST4.out (Grow.below _)) ((HT4.out.below hB).below (Grow.below _)))) | (go_at_call 19; with_reducible exact grow_draw (CLE.out _ _ _ (HX.out.below (Grow.below _)))) | (go_at_call 20; with_reducible exact grow_of (alive41 _ ((HT4.out.below hB).below (Grow.below _)))))))); (first | (refine wpQuiet_nil ?_; intro w' hb; replace hB := Below.trans hB (Below.mono hb (Below.size hB)); replace k0 := Blk.below k0 hb (Blk.lt k0); replace k1 := Blk.below k1 hb (Blk.lt k1); replace k2 := Blk.below k2 hb (Blk.lt k2); (try clear k0c k0f k0z); have k0c := fun i => Blk.cell k0 i; have k0f := fun i => Blk.free k0 i; have k0z := Blk.lt k0; (try clear k1c k1f k1z); have k1c := fun i => Blk.cell k1 i; have k1f := fun i => Blk.free k1 i; have k1z := Blk.lt k1; (try clear k2c k2f k2z); have k2c := fun i => Blk.cell k2 i; have k2f := fun i => Blk.free k2 i; have k2z := Blk.lt k2) | skip)))
      all_goals (try (go_wp2_with (first | ((with_reducible refine wpList_here ?_ ?_); (· exact Eq.refl true); first | ((with_reducible refine wpList_grow 11 ?_ ?_); (· exact Eq.refl true))) | ((with_reducible refine wp_region_any_here ?_ ?_); (· exact Eq.refl true); first | ((with_reducible refine wp_region_drawn 99 ?_ ?_ ?_ ?_); (· exact Eq.refl true); (· kernel_rfl); (· kernel_rfl)) | refine wp_region_grow (by kernel_rfl) (by kernel_rfl) ?_)); (try simp only [List.take_succ_cons, List.take_zero, List.drop_succ_cons, List.drop_zero]); (repeat (go_big_quiet_step ((first | (go_at_call 18; with_reducible exact grow_of (CBE.out _ (cars_on HC4.out (Grow.below _)) (sets_on HST4.out (Grow.below _)) ((HT4.out.below hB).below (Grow.below _)))) | (go_at_call 19; with_reducible exact grow_draw (CLE.out _ _ _ (HX.out.below (Grow.below _)))) | (go_at_call 20; with_reducible exact grow_of (alive41 _ ((HT4.out.below hB).below (Grow.below _)))))))); (first | (refine wpQuiet_nil ?_; intro w' hb; replace hB := Below.trans hB (Below.mono hb (Below.size hB)); replace k0 := Blk.below k0 hb (Blk.lt k0); replace k1 := Blk.below k1 hb (Blk.lt k1); replace k2 := Blk.below k2 hb (Blk.lt k2); (try clear k0c k0f k0z); have k0c := fun i => Blk.cell k0 i; have k0f := fun i => Blk.free k0 i; have k0z := Blk.lt k0; (try clear k1c k1f k1z); have k1c := fun i => Blk.cell k1 i; have k1f := fun i => Blk.free k1 i; have k1z := Blk.lt k1; (try clear k2c k2f k2z); have k2c := fun i => Blk.cell k2 i; have k2f := fun i => Blk.free k2 i; have k2z := Blk.lt k2) | skip)))
      go_ret
      exact ⟨rfl, HB.out.trans (hB.mono HB.out.size)⟩
set_option maxRecDepth 100000 in
theorem walkAimTells {H : Type} (W : World) (base : Nat) (enc : TypeId × Value → H) {v0 : Value} {d0 : DataW H} {p0 : List MemPlace} {v1 : Value} {d1 : DataW H} {p1 : List MemPlace} {v2 : Value} {d2 : DataW H} {p2 : List MemPlace}
    (h0 : DataW.Trod enc Tryd.prog W 0 (fun _ => true) true 25 v0 d0 p0) (h1 : DataW.Trod enc Tryd.prog W 0 (fun _ => true) true 34 v1 d1 p1) (h2 : DataW.Trod enc Tryd.prog W 0 (fun _ => true) true 49 v2 d2 p2)
    (o0 : Value.okWide Tryd.prog W .any base 25 v0) (o1 : Value.okWide Tryd.prog W .any base 34 v1) (o2 : Value.okWide Tryd.prog W .any base 49 v2) (hT : Tab W) :
    Calls Tryd.prog 5 #[v0, v1, v2] W fun e W' => e = .returned (.bool true) ∧ Below W.heap.size W W' := by
  obtain ⟨cs, rfl, n, hn⟩ := arg_agg (.inl ⟨_, Tryd.underlying25⟩) o0 h0
  obtain ⟨s, A, C, rfl, hok, hsl⟩ := read_Scen hn
  obtain ⟨n1, hn1⟩ := arg_slice Tryd.underlying34 o1 h1
  obtain ⟨cars, hcars⟩ := read_slice (size := 6) Tryd.underlying34 (by kernel_rfl) (by decide) (fun _ _ _ h => read_Car h) hn1
  obtain ⟨A2, C2, hv, _⟩ := id hcars
  injection hv with hv
  subst hv
  obtain ⟨cs, rfl, n2, hn2⟩ := arg_agg (.inl ⟨_, Tryd.underlying49⟩) o2 h2
  obtain ⟨sets, A3, C3, i1, i2, fr, ds, rfl, hst⟩ := read_Call41 hn2
  exact law_AimTells s A C cars A2 C2 sets A3 C3 i1 i2 fr ds W hok.1 hsl hcars hst hT
end Go.Proofs.YtejcgagblpkmoaaDoor
