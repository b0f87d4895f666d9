
/-
  The law EtaLeast, walked. Conditions: the library's table lies as laid.
-/
import Derived.Test.YtejcgagblpkmoaaDoorAlive34
import Derived.Test.YtejcgagblpkmoaaDoorRel3
set_option linter.unusedVariables false
set_option linter.unusedSimpArgs false
namespace Go.Proofs.YtejcgagblpkmoaaDoor
open Go.Joins Go.ChangeShapes Go.WideShapes Go.ChangeAt Go.RowKit Go.Deep

/-- The car, its door closed, at rest. -/
def Car.rest (c : Car) : Car := { c with mode := 0, left := 0, dir := 0 }
theorem door_rest (s : Scen) (c : Car) : doorOf s c.rest = 0 := by
  unfold doorOf Car.rest
  simp
theorem eta_rest (s : Scen) (c : Car) (M : List Int) (tp dir : Int) : etaOf s c.rest M tp dir = farOf c.pos tp + s.stop 1 * (cntB c.pos tp M : Int) := by
  unfold etaOf
  rw [if_pos (.inl (ahead_zero _ _))]
  unfold dirW
  rw [door_rest, Int.zero_add]
  rfl
theorem cnt_mono (a b g : Int) {x y x3 y3 : Nat} (h : ∀ k : Int, memB x y k = true → memB x3 y3 k = true) : cntB a b (places x y g) ≤ cntB a b (places x3 y3 g) := by
  have hs : items x y = (items x3 y3).filter (fun k => memB x y k) := items_sift fun k => by
    cases h1 : memB x y k with
    | false => simp
    | true => rw [h k h1]; rfl
  unfold places
  rw [hs]
  exact List.Sublist.length_le (List.Sublist.filter _ (List.Sublist.map _ List.filter_sublist))
theorem both_in (x y x' y' : Nat) (k : Int) (h : memB x y k = true) : memB (mkX (bothF 1 x y x' y')) (mkY (bothF 1 x y x' y')) k = true := by
  by_cases ho : k < 0 ∨ 128 ≤ k
  · rw [mem_out ho] at h; cases h
  · rw [mem_mk _ k (by omega) (by omega)]
    unfold bothF bitsF
    rw [show ((k.toNat : Nat) : Int) = k by omega, h]
    unfold bothB
    simp
def relLst (n0 : Nat) (pa ps p0 v0 p1 v1 m : Value) (i : Nat) (v : Value) (w : World) : Prop := match i with
  | 0 => v = pa
  | 1 => v = ps
  | 2 => v = p0
  | 3 => v = v0
  | 4 => v = pa
  | 5 => v = ps
  | 6 => v = p1
  | 7 => v = v1
  | 8 => v = m
  | 9 => ∃ b, v = .pointer (some ⟨b, 0, none⟩) ∧ n0 ≤ b ∧ Blk w b 38 #[.int .u64 0, .int .u64 0]
  | _ => True
theorem relLst_stays (n0 : Nat) (pa ps p0 v0 p1 v1 m : Value) : ∀ i v w1 w2, relLst n0 pa ps p0 v0 p1 v1 m i v w1 → Below w1.heap.size w1 w2 → relLst n0 pa ps p0 v0 p1 v1 m i v w2 := by
  intro i v w1 w2 h hb
  unfold relLst at *
  split <;> simp only at h <;> first | exact h | (obtain ⟨b, e, hn, h⟩ := h; exact ⟨b, e, hn, h.below hb h.lt⟩)
theorem one_car {w : World} (c : Car) (A2 : Option Addr) (C2 : Nat) (hk : c.rest.ok) (hr : RSlice 2 RRider w [.slice A2 c.riders.length C2] c.riders) :
    RSlice 6 RCar (w.alloc (.cells #[.int .i64 c.pos, .int .i64 0, .int .i64 0, .int .i64 0, .bool c.waited, .slice A2 c.riders.length C2] 29)) [.slice (some ⟨w.heap.size, 0, none⟩) [c.rest].length 1] [c.rest] := by
  have hb := Blk.new w 29 #[.int .i64 c.pos, .int .i64 0, .int .i64 0, .int .i64 0, .bool c.waited, .slice A2 c.riders.length C2]
  refine ⟨_, _, rfl, Nat.le_refl _, by decide, fun _ => ⟨w.heap.size, 0, rfl, hb.lt, ?_⟩⟩
  intro i a hi
  match i, hi with
  | 0, hi =>
    injection hi with hi
    subst hi
    refine ⟨c.rest.cells A2 C2, ⟨A2, C2, rfl, hk, RSlice.stays RRider.stays _ _ _ _ hr (Joins.below_alloc1 _ _)⟩, rfl, ?_⟩
    intro j u hj
    have := hb.cell j
    rw [show 0 + 0 * 6 + j = j by omega, this]
    simpa using (show ([.int .i64 c.pos, .int .i64 0, .int .i64 0, .int .i64 0, .bool c.waited, .slice A2 c.riders.length C2] : List Value)[j]? = some u from hj)
set_option maxRecDepth 100000 in
set_option maxHeartbeats 1000000 in
theorem law_EtaLeast (s : Scen) (A : Option Addr) (C : Nat) (c : Car) (A2 : Option Addr) (C2 : Nat) (sets : List St) (A3 : Option Addr) (C3 : Nat) (floor dir : Int) (w : World) (hI : I64 s.floors) (hs : RSlice 3 RSeg w [.slice A s.segs.length C] s.segs) (hk : c.ok) (hr : RSlice 2 RRider w [.slice A2 c.riders.length C2] c.riders) (hst : RSlice 2 RSt w [.slice A3 sets.length C3] sets) (hT : Tab w) :
    Calls Tryd.prog 3 #[s.val A C, c.val A2 C2, .agg #[.slice A3 sets.length C3, .int .i64 floor, .int .i64 dir]] w fun e w' => e = .returned (.bool true) ∧ Below w.heap.size w w' := by
  have HI := Lib.hid hI
  have HT := Lib.hid hT
  clear hI hT
  have hko : c.rest.ok := ⟨hk.1, (by decide : (-9223372036854775808 : Int) ≤ 0 ∧ (0 : Int) ≤ 9223372036854775807), (by decide : (-9223372036854775808 : Int) ≤ 0 ∧ (0 : Int) ≤ 9223372036854775807), (by decide : (-9223372036854775808 : Int) ≤ 0 ∧ (0 : Int) ≤ 9223372036854775807)⟩
  have HKO := Lib.hid hko
  clear hk hko
  go_enter Tryd.func3, Tryd.ntmps3
  go_wp2_with (first | ((with_reducible refine hold_list ?_ ?_); (· exact Eq.refl true)) | ((with_reducible refine hold_region ?_ ?_); (· exact Eq.refl true)) | (with_reducible refine hold_loop ?_))
  have k0 : Blk (((w.alloc (.cells (s.cells A C).toArray 25)).alloc (.cells #[.int .i64 c.pos, .int .i64 0, .int .i64 0, .int .i64 0, .bool c.waited, .slice A2 c.riders.length C2] 29)).alloc (.cells #[.slice A3 sets.length C3, .int .i64 floor, .int .i64 dir] 32)) (w.heap.size) 25 (s.cells A C).toArray := (Blk.alloc (Blk.alloc (blk_at (by simp)) (.cells #[.int .i64 c.pos, .int .i64 0, .int .i64 0, .int .i64 0, .bool c.waited, .slice A2 c.riders.length C2] 29)) (.cells #[.slice A3 sets.length C3, .int .i64 floor, .int .i64 dir] 32))
  have k1 : Blk (((w.alloc (.cells (s.cells A C).toArray 25)).alloc (.cells #[.int .i64 c.pos, .int .i64 0, .int .i64 0, .int .i64 0, .bool c.waited, .slice A2 c.riders.length C2] 29)).alloc (.cells #[.slice A3 sets.length C3, .int .i64 floor, .int .i64 dir] 32)) (w.heap.size + 1) 29 #[.int .i64 c.pos, .int .i64 0, .int .i64 0, .int .i64 0, .bool c.waited, .slice A2 c.riders.length C2] := (Blk.alloc (blk_at (by simp)) (.cells #[.slice A3 sets.length C3, .int .i64 floor, .int .i64 dir] 32))
  have k2 : Blk (((w.alloc (.cells (s.cells A C).toArray 25)).alloc (.cells #[.int .i64 c.pos, .int .i64 0, .int .i64 0, .int .i64 0, .bool c.waited, .slice A2 c.riders.length C2] 29)).alloc (.cells #[.slice A3 sets.length C3, .int .i64 floor, .int .i64 dir] 32)) (w.heap.size + 2) 32 #[.slice A3 sets.length C3, .int .i64 floor, .int .i64 dir] := (blk_at (by simp))
  have hB : Below w.heap.size w (((w.alloc (.cells (s.cells A C).toArray 25)).alloc (.cells #[.int .i64 c.pos, .int .i64 0, .int .i64 0, .int .i64 0, .bool c.waited, .slice A2 c.riders.length C2] 29)).alloc (.cells #[.slice A3 sets.length C3, .int .i64 floor, .int .i64 dir] 32)) := (bel_at (bel_at (bel_at (Below.refl _ _) (.cells (s.cells A C).toArray 25)) (.cells #[.int .i64 c.pos, .int .i64 0, .int .i64 0, .int .i64 0, .bool c.waited, .slice A2 c.riders.length C2] 29)) (.cells #[.slice A3 sets.length C3, .int .i64 floor, .int .i64 dir] 32))
  generalize (((w.alloc (.cells (s.cells A C).toArray 25)).alloc (.cells #[.int .i64 c.pos, .int .i64 0, .int .i64 0, .int .i64 0, .bool c.waited, .slice A2 c.riders.length C2] 29)).alloc (.cells #[.slice A3 sets.length C3, .int .i64 floor, .int .i64 dir] 32)) = w1 at *
  (try clear k0c k0f k0z); have k0c := fun i => Blk.cell k0 i; have k0f := fun i => Blk.free k0 i; have k0z := Blk.lt k0; (try clear k1c k1f k1z); have k1c := fun i => Blk.cell k1 i; have k1f := fun i => Blk.free k1 i; have k1z := Blk.lt k1; (try clear k2c k2f k2z); have k2c := fun i => Blk.cell k2 i; have k2f := fun i => Blk.free k2 i; have k2z := Blk.lt k2
  unfold Hold
  have hs1 := RSlice.stays RSeg.stays _ _ _ _ hs hB
  have hr1 := RSlice.stays RRider.stays _ _ _ _ hr hB
  have hst1 := RSlice.stays RSt.stays _ _ _ _ hst hB
  have HT1 := Lib.hid (HT.out.below hB)
  clear hs hr hst HT
  go_wp2_with fail
  have ha : Below w1.heap.size w1 (w1.alloc (.cells #[.int .i64 c.pos, .int .i64 0, .int .i64 0, .int .i64 0, .bool c.waited, .slice A2 c.riders.length C2] 29)) := Joins.below_alloc1 _ _
  refine (within_any s A C [c.rest] (some ⟨w1.heap.size, 0, none⟩) 1 _ (RSlice.stays RSeg.stays _ _ _ _ hs1 ha) (one_car c A2 C2 HKO.out hr1)).mono ?_
  rintro e w3 ⟨b, rfl, hin, hb0⟩
  have hb : Below w1.heap.size w1 w3 := ha.trans (hb0.mono ha.size)
  replace hB := hB.trans (hb.mono hB.size)
  replace k0 := k0.below hb k0.lt
  replace k1 := k1.below hb k1.lt
  replace k2 := k2.below hb k2.lt
  have hst3 := RSlice.stays RSt.stays _ _ _ _ hst1 hb
  have HT3 := Lib.hid (HT1.out.below hb)
  clear k0c k0f k1c k1f k2c k2f hb hb0 ha hs1 hr1 hst1 HT1
  (try clear k0c k0f k0z); have k0c := fun i => Blk.cell k0 i; have k0f := fun i => Blk.free k0 i; have k0z := Blk.lt k0; (try clear k1c k1f k1z); have k1c := fun i => Blk.cell k1 i; have k1f := fun i => Blk.free k1 i; have k1z := Blk.lt k1; (try clear k2c k2f k2z); have k2c := fun i => Blk.cell k2 i; have k2f := fun i => Blk.free k2 i; have k2z := Blk.lt k2
  cases b with
  | false =>
    clear hin
    go_wp2
    go_ret
    exact ⟨rfl, hB⟩
  | true =>
  have HIN := Lib.hid (hin rfl)
  clear hin
  go_wp2_with fail
  refine (within34_any s A C sets A3 C3 _ HI.out hst3).mono ?_
  rintro e w4 ⟨r, rfl, hin2, hb⟩
  replace hB := hB.trans (hb.mono hB.size)
  replace k0 := k0.below hb k0.lt
  replace k1 := k1.below hb k1.lt
  replace k2 := k2.below hb k2.lt
  have hst4 := RSlice.stays RSt.stays _ _ _ _ hst3 hb
  have HT4 := Lib.hid (HT3.out.below hb)
  clear k0c k0f k1c k1f k2c k2f hb hst3 HT3
  (try clear k0c k0f k0z); have k0c := fun i => Blk.cell k0 i; have k0f := fun i => Blk.free k0 i; have k0z := Blk.lt k0; (try clear k1c k1f k1z); have k1c := fun i => Blk.cell k1 i; have k1f := fun i => Blk.free k1 i; have k1z := Blk.lt k1; (try clear k2c k2f k2z); have k2c := fun i => Blk.cell k2 i; have k2f := fun i => Blk.free k2 i; have k2z := Blk.lt k2
  cases r with
  | false =>
    clear hin2
    go_wp2
    go_ret
    exact ⟨rfl, hB⟩
  | true =>
  have HIN2 := Lib.hid (hin2 rfl)
  clear hin2
  have hin2 := HIN2.out
  obtain ⟨hfine, hall⟩ := HIN.out
  have hsm := small_of hfine
  obtain ⟨x1, x2, _⟩ := hfine
  have hh := high_bd hsm
  have hci := hall.2 0 c.rest rfl
  have hpos := hci.1
  have hco := etaOk_of hsm x2.1 hci
  by_cases hfl : floor < 0
  · have q1 : decide (floor < 0) = true := decide_eq_true hfl
    clear hfl hin2 hall hsm x1 x2 hst4 hh hci hco
    go_wp2
    go_ret
    exact ⟨rfl, hB⟩
  have q1 : decide (floor < 0) = false := decide_eq_false hfl
  by_cases hfl2 : s.floors ≤ floor
  · have q2 : decide (s.floors ≤ floor) = true := decide_eq_true hfl2
    clear hfl hfl2 hin2 hall hsm x1 x2 hst4 hh hci hco
    go_wp2
    go_ret
    exact ⟨rfl, hB⟩
  have q2 : decide (s.floors ≤ floor) = false := decide_eq_false hfl2
  by_cases hle : sets.length < 2
  · have q3 : decide ((sets.length : Int) < 2) = true := decide_eq_true (by omega)
    clear hfl hfl2 hin2 hall hsm x1 x2 hst4 hh hci hco hle
    go_wp2
    go_ret
    exact ⟨rfl, hB⟩
  have q3 : decide ((sets.length : Int) < 2) = false := decide_eq_false (by omega)
  have q4 : 0 < sets.length := by omega
  have q5 : 1 < sets.length := by omega
  have q6 : (1 : Int) < (sets.length : Int) := by omega
  obtain ⟨b, off, rfl, hbl, hce⟩ := slice_at hst4 (by omega)
  obtain ⟨t0, ht0⟩ : ∃ t, sets[0]? = some t := ⟨_, List.getElem?_eq_getElem (by omega)⟩
  obtain ⟨t1, ht1⟩ : ∃ t, sets[1]? = some t := ⟨_, List.getElem?_eq_getElem (by omega)⟩
  obtain ⟨es, ⟨rfl, hx0, hy0⟩, _, hcc0⟩ := hce 0 t0 ht0
  obtain ⟨es, ⟨rfl, hx1, hy1⟩, _, hcc1⟩ := hce 1 t1 ht1
  have HBL := Lib.hid hbl
  have HC0 := Lib.hid hcc0
  have HC1 := Lib.hid hcc1
  have y0 : ∀ w', Below w4.heap.size w4 w' → w'.cell? ⟨b, off, none⟩ = some (.int .u64 (t0.x : Int)) := fun w' h => (h.cell (p := ⟨b, off, none⟩) HBL.out).trans (by have := HC0.out 0 _ rfl; simpa using this)
  have y1 : ∀ w', Below w4.heap.size w4 w' → w'.cell? ⟨b, off + 1, none⟩ = some (.int .u64 (t0.y : Int)) := fun w' h => (h.cell (p := ⟨b, off + 1, none⟩) HBL.out).trans (by have := HC0.out 1 _ rfl; simpa using this)
  have y2 : ∀ w', Below w4.heap.size w4 w' → w'.cell? ⟨b, off + 2, none⟩ = some (.int .u64 (t1.x : Int)) := fun w' h => (h.cell (p := ⟨b, off + 2, none⟩) HBL.out).trans (by have := HC1.out 0 _ rfl; simpa using this)
  have y3 : ∀ w', Below w4.heap.size w4 w' → w'.cell? ⟨b, off + 3, none⟩ = some (.int .u64 (t1.y : Int)) := fun w' h => (h.cell (p := ⟨b, off + 3, none⟩) HBL.out).trans (by have := HC1.out 1 _ rfl; simpa using this)
  have y2' : ∀ w', Below w4.heap.size w4 w' → w'.cell? ⟨b, off + 1 * 2, none⟩ = some (.int .u64 (t1.x : Int)) := y2
  have y3' : ∀ w', Below w4.heap.size w4 w' → w'.cell? ⟨b, off + 1 * 2 + 1, none⟩ = some (.int .u64 (t1.y : Int)) := y3
  have yb : ∀ w', Below w4.heap.size w4 w' → b < w'.heap.size := fun w' h => Nat.lt_of_lt_of_le HBL.out h.size
  have cB := fun w => ref03_Both 1 t0.x t0.y t1.x t1.y w hx0 hy0 hx1 hy1 (by omega)
  have cE0 := fun w hT => eta_Of s A C c.rest A2 C2 0 0 floor 1 w wd0 wd0 x2 hco ⟨by omega, by omega⟩ hT
  have cE1 := fun w hT => eta_Of s A C c.rest A2 C2 t0.x t0.y floor 1 w hx0 hy0 x2 hco ⟨by omega, by omega⟩ hT
  have cE2 := fun w hT => eta_Of s A C c.rest A2 C2 (mkX (bothF 1 t0.x t0.y t1.x t1.y)) (mkY (bothF 1 t0.x t0.y t1.x t1.y)) floor 1 w (wd_mk _).1 (wd_mk _).2 x2 hco ⟨by omega, by omega⟩ hT
  rw [eta_rest] at cE0 cE1 cE2
  have hm := cnt_mono c.pos (floor * s.gap) s.gap (both_in t0.x t0.y t1.x t1.y)
  have hE := stop_bd hsm
  have hto := mul_bd (v := floor) ⟨by omega, by omega⟩ x2
  have hz : s.stop 1 * ((cntB c.pos (floor * s.gap) (places 0 0 s.gap) : Nat) : Int) = 0 := by
    rw [places_zero]
    show s.stop 1 * ((0 : Nat) : Int) = 0
    simp
  rw [hz, Int.add_zero] at cE0
  have hm1 : 0 ≤ s.stop 1 * ((cntB c.pos (floor * s.gap) (places t0.x t0.y s.gap) : Nat) : Int) := Int.mul_nonneg hE.1 (by omega)
  have hm2 : s.stop 1 * ((cntB c.pos (floor * s.gap) (places t0.x t0.y s.gap) : Nat) : Int) ≤ s.stop 1 * ((cntB c.pos (floor * s.gap) (places (mkX (bothF 1 t0.x t0.y t1.x t1.y)) (mkY (bothF 1 t0.x t0.y t1.x t1.y)) s.gap) : Nat) : Int) := Int.mul_le_mul_of_nonneg_left (by omega) hE.1
  have hfar : farOf c.pos (floor * s.gap) = max (floor * s.gap - c.pos) (-(floor * s.gap - c.pos)) := by unfold farOf; omega
  have hpos' : 0 ≤ c.pos ∧ c.pos ≤ 2048 := ⟨hpos.1, by have := hpos.2; change c.pos ≤ _ at this; omega⟩
  unfold sv Car.rest at *
  simp only at *
  generalize s.stop 1 * ((cntB c.pos (floor * s.gap) (places t0.x t0.y s.gap) : Nat) : Int) = P1 at *
  generalize s.stop 1 * ((cntB c.pos (floor * s.gap) (places (mkX (bothF 1 t0.x t0.y t1.x t1.y)) (mkY (bothF 1 t0.x t0.y t1.x t1.y)) s.gap) : Nat) : Int) = P2 at *
  generalize ((mkX (bothF 1 t0.x t0.y t1.x t1.y) : Nat) : Int) = m1 at *
  generalize ((mkY (bothF 1 t0.x t0.y t1.x t1.y) : Nat) : Int) = m2 at *
  rw [hfar] at cE0 cE1 cE2
  generalize htp : floor * s.gap = tp at *
  have e0 : IntKind.i64.wrap (floor * s.gap) = tp := by rw [htp]; exact IntWalk.i64_in _ (by omega)
  have e1 : IntKind.i64.wrap (tp - c.pos) = tp - c.pos := IntWalk.i64_in _ (by omega)
  have e2 : IntKind.i64.wrap (-(tp - c.pos)) = -(tp - c.pos) := IntWalk.i64_in _ (by omega)
  have g1 : decide (max (tp - c.pos) (-(tp - c.pos)) ≤ max (tp - c.pos) (-(tp - c.pos)) + P1) = true := decide_eq_true (by omega)
  have g2 : decide (max (tp - c.pos) (-(tp - c.pos)) + P1 ≤ max (tp - c.pos) (-(tp - c.pos)) + P2) = true := decide_eq_true (by omega)
  have g3 : decide (P1 ≤ P2) = true := decide_eq_true hm2
  have g4 : decide (0 ≤ P1) = true := decide_eq_true hm1
  have CB := Lib.hid cB
  have CE0 := Lib.hid cE0
  have CE1 := Lib.hid cE1
  have CE2 := Lib.hid cE2
  have HB := Lib.hid hB
  clear htp hfar hm hz hto hE cB cE0 cE1 cE2 hce hcc0 hcc1 hx0 hy0 hx1 hy1 ht0 ht1 hst4 hpos hpos' hco hci hh hfl hfl2 hle hin2 hall hsm x1 x2 hB hbl
  have hB := Below.refl w4.heap.size w4
  go_wp2_with (first | ((with_reducible refine hold_region ?_ ?_); (· exact Eq.refl true)))
  unfold Hold
  refine wp_region_rel 10 [56, 57, 58, 59, 60, 61, 62, 63, 64, 8] (relLst w4.heap.size (.pointer (some ⟨w.heap.size + 1 + 1, 0, none⟩)) (.slice (some ⟨b, off, none⟩) sets.length C3) (.pointer (some ⟨b, off, none⟩)) (.agg #[.int .u64 (t0.x : Int), .int .u64 (t0.y : Int)]) (.pointer (some ⟨b, off + 2, none⟩)) (.agg #[.int .u64 (t1.x : Int), .int .u64 (t1.y : Int)]) (.agg #[.int .u64 m1, .int .u64 m2])) (by kernel_rfl) (by kernel_rfl) (by kernel_rfl) (relLst_stays _ _ _ _ _ _ _ _) ?_ ?_
  · refine ⟨?_, ?_, ?_, ?_, ?_, ?_, ?_, ?_, ?_, ?_, trivial⟩
    all_goals
      intro f w6 hb hl2
      simp [leans, Region.binds, relLst] at hl2
      have j2 := k2.below hb k2.lt
      have j2c := fun i => Blk.cell j2 i
      simp [gop, Region.wanted, grows, frm]
      simp [execOp, go_sem, *, growsUpon]
    · exact ⟨Below.refl _ _, rfl⟩
    · exact ⟨Below.refl _ _, rfl⟩
    · exact ⟨Below.refl _ _, rfl⟩
    · exact ⟨Below.refl _ _, rfl⟩
    · exact ⟨Below.refl _ _, rfl⟩
    · exact ⟨Below.refl _ _, rfl⟩
    · exact ⟨Below.refl _ _, rfl⟩
    · exact ⟨Below.refl _ _, rfl⟩
    · exact ⟨Below.refl _ _, (CB.out _).mono fun e w3 h => ⟨_, h.1, h.2, rfl⟩⟩
    · exact ⟨below_alloc1 _ _, w6.heap.size, rfl, hb.size, Blk.new _ _ _⟩
  intro f w6 hb hl2
  simp [allRel, relLst] at hl2
  obtain ⟨⟨⟨⟨⟨⟨⟨⟨⟨e3', e4'⟩, e5'⟩, e6'⟩, e7'⟩, e8'⟩, e9'⟩, e10'⟩, e11'⟩, b9, e12', k9n, k9⟩ := hl2
  simp [frm, e3', e4', e5', e6', e7', e8', e9', e10', e11', e12']
  replace hB := hB.trans (hb.mono hB.size)
  replace k0 := k0.below hb k0.lt
  replace k1 := k1.below hb k1.lt
  replace k2 := k2.below hb k2.lt
  have z9 : w.heap.size + 1 + 1 < b9 := by omega
  clear hb e3' e4' e5' e6' e7' e8' e9' e10' e11' e12' k0c k0f k0z k1c k1f k1z k2c k2f k2z
  (try clear k0c k0f k0z); have k0c := fun i => Blk.cell k0 i; have k0f := fun i => Blk.free k0 i; have k0z := Blk.lt k0; (try clear k1c k1f k1z); have k1c := fun i => Blk.cell k1 i; have k1f := fun i => Blk.free k1 i; have k1z := Blk.lt k1; (try clear k2c k2f k2z); have k2c := fun i => Blk.cell k2 i; have k2f := fun i => Blk.free k2 i; have k2z := Blk.lt k2; (try clear k9c k9f k9z); have k9c := fun i => Blk.cell k9 i; have k9f := fun i => Blk.free k9 i; have k9z := Blk.lt k9
  go_wp2_with (with_reducible refine hold_slot 65 ?_)
  replace k9 := (Blk.set_ (Blk.set_ k9 0 (.int .u64 m1)) 1 (.int .u64 m2))
  replace k0 := (Blk.far (Blk.far k0 (p := ⟨b9, 0, none⟩) (by show _ ≠ b9; first | omega | (simp; omega)) (.int .u64 m1)) (p := ⟨b9, 1, none⟩) (by show _ ≠ b9; first | omega | (simp; omega)) (.int .u64 m2))
  replace k1 := (Blk.far (Blk.far k1 (p := ⟨b9, 0, none⟩) (by show _ ≠ b9; first | omega | (simp; omega)) (.int .u64 m1)) (p := ⟨b9, 1, none⟩) (by show _ ≠ b9; first | omega | (simp; omega)) (.int .u64 m2))
  replace k2 := (Blk.far (Blk.far k2 (p := ⟨b9, 0, none⟩) (by show _ ≠ b9; first | omega | (simp; omega)) (.int .u64 m1)) (p := ⟨b9, 1, none⟩) (by show _ ≠ b9; first | omega | (simp; omega)) (.int .u64 m2))
  replace hB := (Below.setCell (Below.setCell hB (p := ⟨b9, 0, none⟩) (by show _ ≤ b9; have := Below.size hB; first | omega | (simp; omega)) (.int .u64 m1)) (p := ⟨b9, 1, none⟩) (by show _ ≤ b9; have := Below.size hB; first | omega | (simp; omega)) (.int .u64 m2))
  generalize ((w6.setCell ⟨b9, 0, none⟩ (.int .u64 m1)).setCell ⟨b9, 1, none⟩ (.int .u64 m2)) = w7 at *
  (try clear k0c k0f k0z); have k0c := fun i => Blk.cell k0 i; have k0f := fun i => Blk.free k0 i; have k0z := Blk.lt k0; (try clear k1c k1f k1z); have k1c := fun i => Blk.cell k1 i; have k1f := fun i => Blk.free k1 i; have k1z := Blk.lt k1; (try clear k2c k2f k2z); have k2c := fun i => Blk.cell k2 i; have k2f := fun i => Blk.free k2 i; have k2z := Blk.lt k2; (try clear k9c k9f k9z); have k9c := fun i => Blk.cell k9 i; have k9f := fun i => Blk.free k9 i; have k9z := Blk.lt k9
  unfold Hold
  go_wp2_with (first | ((with_reducible refine wpList_here ?_ ?_); (· exact Eq.refl true); first | ((with_reducible refine wpList_grow 6 ?_ ?_); (· exact Eq.refl true)) | ((with_reducible refine wpList_grow 18 ?_ ?_); (· exact Eq.refl true))) | ((with_reducible refine wp_region_any_here ?_ ?_); (· exact Eq.refl true); first | ((with_reducible refine wp_region_drawn 99 ?_ ?_ ?_ ?_); (· exact Eq.refl true); (· kernel_rfl); (· kernel_rfl)) | refine wp_region_grow (by kernel_rfl) (by kernel_rfl) ?_)); (try simp only [List.take_succ_cons, List.take_zero, List.drop_succ_cons, List.drop_zero]); (repeat (go_big_quiet_step ((first | (go_at_call 9; with_reducible exact grow_of (CE0.out _ ((HT4.out.below hB).below (Grow.below _)))) | (go_at_call 9; with_reducible exact grow_of (CE1.out _ ((HT4.out.below hB).below (Grow.below _)))) | (go_at_call 9; with_reducible exact grow_of (CE2.out _ ((HT4.out.below hB).below (Grow.below _)))) | (go_at_call 10; with_reducible exact grow_of (alive34 _ ((HT4.out.below hB).below (Grow.below _)))))))); (first | (refine wpQuiet_nil ?_; intro w' hb; replace hB := Below.trans hB (Below.mono hb (Below.size hB)); replace k0 := Blk.below k0 hb (Blk.lt k0); replace k1 := Blk.below k1 hb (Blk.lt k1); replace k2 := Blk.below k2 hb (Blk.lt k2); replace k9 := Blk.below k9 hb (Blk.lt k9); (try clear k0c k0f k0z); have k0c := fun i => Blk.cell k0 i; have k0f := fun i => Blk.free k0 i; have k0z := Blk.lt k0; (try clear k1c k1f k1z); have k1c := fun i => Blk.cell k1 i; have k1f := fun i => Blk.free k1 i; have k1z := Blk.lt k1; (try clear k2c k2f k2z); have k2c := fun i => Blk.cell k2 i; have k2f := fun i => Blk.free k2 i; have k2z := Blk.lt k2; (try clear k9c k9f k9z); have k9c := fun i => Blk.cell k9 i; have k9f := fun i => Blk.free k9 i; have k9z := Blk.lt k9) | skip)
  all_goals (try (go_wp2_with (first | ((with_reducible refine wpList_here ?_ ?_); (· exact Eq.refl true); first | ((with_reducible refine wpList_grow 6 ?_ ?_); (· exact Eq.refl true)) | ((with_reducible refine wpList_grow 18 ?_ ?_); (· exact Eq.refl true))) | ((with_reducible refine wp_region_any_here ?_ ?_); (· exact Eq.refl true); first | ((with_reducible refine wp_region_drawn 99 ?_ ?_ ?_ ?_); (· exact Eq.refl true); (· kernel_rfl); (· kernel_rfl)) | refine wp_region_grow (by kernel_rfl) (by kernel_rfl) ?_)); (try simp only [List.take_succ_cons, List.take_zero, List.drop_succ_cons, List.drop_zero]); (repeat (go_big_quiet_step ((first | (go_at_call 9; with_reducible exact grow_of (CE0.out _ ((HT4.out.below hB).below (Grow.below _)))) | (go_at_call 9; with_reducible exact grow_of (CE1.out _ ((HT4.out.below hB).below (Grow.below _)))) | (go_at_call 9; with_reducible exact grow_of (CE2.out _ ((HT4.out.below hB).below (Grow.below _)))) | (go_at_call 10; with_reducible exact grow_of (alive34 _ ((HT4.out.below hB).below (Grow.below _)))))))); (first | (refine wpQuiet_nil ?_; intro w' hb; replace hB := Below.trans hB (Below.mono hb (Below.size hB)); replace k0 := Blk.below k0 hb (Blk.lt k0); replace k1 := Blk.below k1 hb (Blk.lt k1); replace k2 := Blk.below k2 hb (Blk.lt k2); replace k9 := Blk.below k9 hb (Blk.lt k9); (try clear k0c k0f k0z); have k0c := fun i => Blk.cell k0 i; have k0f := fun i => Blk.free k0 i; have k0z := Blk.lt k0; (try clear k1c k1f k1z); have k1c := fun i => Blk.cell k1 i; have k1f := fun i => Blk.free k1 i; have k1z := Blk.lt k1; (try clear k2c k2f k2z); have k2c := fun i => Blk.cell k2 i; have k2f := fun i => Blk.free k2 i; have k2z := Blk.lt k2; (try clear k9c k9f k9z); have k9c := fun i => Blk.cell k9 i; have k9f := fun i => Blk.free k9 i; have k9z := Blk.lt k9) | skip)))
  all_goals (try (go_wp2_with (first | ((with_reducible refine wpList_here ?_ ?_); (· exact Eq.refl true); first | ((with_reducible refine wpList_grow 6 ?_ ?_); (· exact Eq.refl true)) | ((with_reducible refine wpList_grow 18 ?_ ?_); (· exact Eq.refl true))) | ((with_reducible refine wp_region_any_here ?_ ?_); (· exact Eq.refl true); first | ((with_reducible refine wp_region_drawn 99 ?_ ?_ ?_ ?_); (· exact Eq.refl true); (· kernel_rfl); (· kernel_rfl)) | refine wp_region_grow (by kernel_rfl) (by kernel_rfl) ?_)); (try simp only [List.take_succ_cons, List.take_zero, List.drop_succ_cons, List.drop_zero]); (repeat (go_big_quiet_step ((first | (go_at_call 9; with_reducible exact grow_of (CE0.out _ ((HT4.out.below hB).below (Grow.below _)))) | (go_at_call 9; with_reducible exact grow_of (CE1.out _ ((HT4.out.below hB).below (Grow.below _)))) | (go_at_call 9; with_reducible exact grow_of (CE2.out _ ((HT4.out.below hB).below (Grow.below _)))) | (go_at_call 10; with_reducible exact grow_of (alive34 _ ((HT4.out.below hB).below (Grow.below _)))))))); (first | (refine wpQuiet_nil ?_; intro w' hb; replace hB := Below.trans hB (Below.mono hb (Below.size hB)); replace k0 := Blk.below k0 hb (Blk.lt k0); replace k1 := Blk.below k1 hb (Blk.lt k1); replace k2 := Blk.below k2 hb (Blk.lt k2); replace k9 := Blk.below k9 hb (Blk.lt k9); (try clear k0c k0f k0z); have k0c := fun i => Blk.cell k0 i; have k0f := fun i => Blk.free k0 i; have k0z := Blk.lt k0; (try clear k1c k1f k1z); have k1c := fun i => Blk.cell k1 i; have k1f := fun i => Blk.free k1 i; have k1z := Blk.lt k1; (try clear k2c k2f k2z); have k2c := fun i => Blk.cell k2 i; have k2f := fun i => Blk.free k2 i; have k2z := Blk.lt k2; (try clear k9c k9f k9z); have k9c := fun i => Blk.cell k9 i; have k9f := fun i => Blk.free k9 i; have k9z := Blk.lt k9) | skip)))
  all_goals (try (go_wp2_with (first | ((with_reducible refine wpList_here ?_ ?_); (· exact Eq.refl true); first | ((with_reducible refine wpList_grow 6 ?_ ?_); (· exact Eq.refl true)) | ((with_reducible refine wpList_grow 18 ?_ ?_); (· exact Eq.refl true))) | ((with_reducible refine wp_region_any_here ?_ ?_); (· exact Eq.refl true); first | ((with_reducible refine wp_region_drawn 99 ?_ ?_ ?_ ?_); (· exact Eq.refl true); (· kernel_rfl); (· kernel_rfl)) | refine wp_region_grow (by kernel_rfl) (by kernel_rfl) ?_)); (try simp only [List.take_succ_cons, List.take_zero, List.drop_succ_cons, List.drop_zero]); (repeat (go_big_quiet_step ((first | (go_at_call 9; with_reducible exact grow_of (CE0.out _ ((HT4.out.below hB).below (Grow.below _)))) | (go_at_call 9; with_reducible exact grow_of (CE1.out _ ((HT4.out.below hB).below (Grow.below _)))) | (go_at_call 9; with_reducible exact grow_of (CE2.out _ ((HT4.out.below hB).below (Grow.below _)))) | (go_at_call 10; with_reducible exact grow_of (alive34 _ ((HT4.out.below hB).below (Grow.below _)))))))); (first | (refine wpQuiet_nil ?_; intro w' hb; replace hB := Below.trans hB (Below.mono hb (Below.size hB)); replace k0 := Blk.below k0 hb (Blk.lt k0); replace k1 := Blk.below k1 hb (Blk.lt k1); replace k2 := Blk.below k2 hb (Blk.lt k2); replace k9 := Blk.below k9 hb (Blk.lt k9); (try clear k0c k0f k0z); have k0c := fun i => Blk.cell k0 i; have k0f := fun i => Blk.free k0 i; have k0z := Blk.lt k0; (try clear k1c k1f k1z); have k1c := fun i => Blk.cell k1 i; have k1f := fun i => Blk.free k1 i; have k1z := Blk.lt k1; (try clear k2c k2f k2z); have k2c := fun i => Blk.cell k2 i; have k2f := fun i => Blk.free k2 i; have k2z := Blk.lt k2; (try clear k9c k9f k9z); have k9c := fun i => Blk.cell k9 i; have k9f := fun i => Blk.free k9 i; have k9z := Blk.lt k9) | skip)))
  go_ret
  exact ⟨rfl, HB.out.trans (hB.mono HB.out.size)⟩
set_option maxRecDepth 100000 in
theorem walkEtaLeast {H : Type} (W : World) (base : Nat) (enc : TypeId × Value → H) {v0 : Value} {d0 : DataW H} {p0 : List MemPlace} {v1 : Value} {d1 : DataW H} {p1 : List MemPlace} {v2 : Value} {d2 : DataW H} {p2 : List MemPlace}
    (h0 : DataW.Trod enc Tryd.prog W 0 (fun _ => true) true 25 v0 d0 p0) (h1 : DataW.Trod enc Tryd.prog W 0 (fun _ => true) true 29 v1 d1 p1) (h2 : DataW.Trod enc Tryd.prog W 0 (fun _ => true) true 32 v2 d2 p2)
    (o0 : Value.okWide Tryd.prog W .any base 25 v0) (o1 : Value.okWide Tryd.prog W .any base 29 v1) (o2 : Value.okWide Tryd.prog W .any base 32 v2) (hT : Tab W) :
    Calls Tryd.prog 3 #[v0, v1, v2] W fun e W' => e = .returned (.bool true) ∧ Below W.heap.size W W' := by
  obtain ⟨cs, rfl, n, hn⟩ := arg_agg (.inl ⟨_, Tryd.underlying25⟩) o0 h0
  obtain ⟨s, A, C, rfl, hok, hsl⟩ := read_Scen hn
  obtain ⟨cs, rfl, n1, hn1⟩ := arg_agg (.inl ⟨_, Tryd.underlying29⟩) o1 h1
  obtain ⟨c, A2, C2, rfl, hk, hr⟩ := read_Car hn1
  obtain ⟨cs, rfl, n2, hn2⟩ := arg_agg (.inl ⟨_, Tryd.underlying32⟩) o2 h2
  obtain ⟨sets, A3, C3, floor, dir, rfl, hst, _, _⟩ := read_Call34 hn2
  exact law_EtaLeast s A C c A2 C2 sets A3 C3 floor dir W hok.1 hsl hk hr hst hT
end Go.Proofs.YtejcgagblpkmoaaDoor
