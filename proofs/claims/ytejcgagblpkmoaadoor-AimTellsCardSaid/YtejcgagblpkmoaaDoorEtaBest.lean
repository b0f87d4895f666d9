
/-
  eta.Best: the car that is to be there first. Conditions: the numbers lie within bounds; the library's table lies as laid.
-/
import Derived.Test.YtejcgagblpkmoaaDoorEtaOf
import Derived.Test.YtejcgagblpkmoaaDoorEtaS
import Derived.Test.YtejcgagblpkmoaaDoorLeast
set_option linter.unusedVariables false
set_option linter.unusedSimpArgs false
namespace Go.Proofs.YtejcgagblpkmoaaDoor
open Go.Joins Go.ChangeShapes Go.WideShapes Go.ChangeAt Go.RowKit Go.Deep

def stAt (sets : List St) (i : Nat) : St := (sets[i]?).getD ⟨0, 0⟩
theorem etaOk_of {s : Scen} {c : Car} (hs : s.small) (hg : 1 ≤ s.gap) (h : carIn s c) : EtaOk s c := by
  have hh := high_bd hs
  obtain ⟨⟨y1, y2⟩, ⟨y3, y4⟩, y5, ⟨y6, y7⟩, y8, y9⟩ := h
  exact ⟨hs, hg, ⟨y1, by omega⟩, ⟨y3, y4⟩, ⟨y6, y7⟩⟩
theorem wd0 : Wd 0 := by unfold Wd; omega
theorem stAt_wd {sets : List St} {w : World} {A : Option Addr} {C : Nat} (h : RSlice 2 RSt w [.slice A sets.length C] sets) (i : Nat) : Wd (stAt sets i).x ∧ Wd (stAt sets i).y := by
  unfold stAt
  cases hi : sets[i]? with
  | none => exact ⟨wd0, wd0⟩
  | some t =>
    obtain ⟨b, off, _, _, hce⟩ := slice_at h (by have := (List.getElem?_eq_some_iff.1 hi).1; omega)
    obtain ⟨es, ⟨_, hw⟩, _⟩ := hce i t hi
    exact hw
theorem tk_succ {xs : List Int} {j : Nat} (h : j < xs.length) : intV (xs.take (j + 1)) = intV (xs.take j) ++ [.int .i64 (at0 xs j)] := by
  unfold intV
  rw [List.take_succ_eq_append_getElem h, List.map_append]
  simp [at0, List.getD, List.getElem?_eq_getElem h]
def Etas (s : Scen) (cars : List Car) (sets : List St) (floor dir : Int) (E : List Int) : Prop := E.length = cars.length ∧ ∀ (i : Nat) (c : Car), cars[i]? = some c → at0 E i = etaOf s c (places (stAt sets i).x (stAt sets i).y s.gap) (floor * s.gap) dir
set_option maxRecDepth 100000 in
set_option maxHeartbeats 1000000 in
theorem eta_Best (s : Scen) (A : Option Addr) (C : Nat) (cars : List Car) (A2 : Option Addr) (C2 : Nat) (sets : List St) (A3 : Option Addr) (C3 : Nat) (floor dir : Int) (E : List Int) (w : World) (hs : s.small) (hg : 1 ≤ s.gap ∧ s.gap ≤ 16) (hc : RSlice 6 RCar w [.slice A2 cars.length C2] cars) (hin : allIn s cars) (hst : RSlice 2 RSt w [.slice A3 sets.length C3] sets) (hsl : sets.length ≤ 20) (hf : 0 ≤ floor ∧ floor ≤ 127) (hE : Etas s cars sets floor dir E) (hT : Tab w) :
    Calls Tryd.prog 14 #[s.val A C, .slice A2 cars.length C2, .slice A3 sets.length C3, .int .i64 floor, .int .i64 dir] w fun e w' => e = .returned (.int .i64 (leastN E E.length)) ∧ Below w.heap.size w w' := by
  obtain ⟨i0, hi, hz0, hz1, hz2⟩ := info_parts info_int
  have h16 := hin.1
  have HI := Lib.hid hin
  have HZ := Lib.hid hs
  obtain ⟨hEl, hEi⟩ := hE
  have HEI := Lib.hid hEi
  have HEL := Lib.hid hEl
  have HW := Lib.hid (stAt_wd hst)
  clear hin hs hEi hEl
  go_enter Tryd.func14, Tryd.ntmps14
  go_wp2_with (with_reducible refine hold_loop ?_)
  have k0 : Blk (w.alloc (.cells (s.cells A C).toArray 25)) (w.heap.size) 25 (s.cells A C).toArray := (blk_at (by simp))
  have hB : Below w.heap.size w (w.alloc (.cells (s.cells A C).toArray 25)) := (bel_at (Below.refl _ _) (.cells (s.cells A C).toArray 25))
  generalize (w.alloc (.cells (s.cells A C).toArray 25)) = w1 at *
  (try clear k0c k0f k0z); have k0c := fun i => Blk.cell k0 i; have k0f := fun i => Blk.free k0 i; have k0z := Blk.lt k0
  unfold Hold
  have hc1 := RSlice.stays RCar.stays _ _ _ _ hc hB
  have hst1 := RSlice.stays RSt.stays _ _ _ _ hst hB
  have HT := Lib.hid (hT.below hB)
  have K0 := Lib.hid k0
  have HB := Lib.hid hB
  clear hc hst hT hB k0 k0c k0f k0z
  go_loopw [11, 17] (fun v i wr => ∃ j : Nat, j ≤ cars.length ∧ i = .int .i64 j ∧ wr.ownsRow w1.heap.size 3 1 v j (intV (E.take j)) ∧ Below w1.heap.size w1 wr) (fun _ i _ => cars.length - (intOf i).toNat)
  case atStart => exact ⟨0, by omega, rfl, by rw [List.take_zero]; exact World.ownsRow_nil _ _ _ _, Below.refl _ _⟩
  case round =>
    obtain ⟨j, hj, rfl, hown, hbq⟩ := hrel
    have k0 := K0.out.below hbq K0.out.lt
    by_cases hjl : j < cars.length
    · obtain ⟨b, off, rfl, hbl, hce⟩ := slice_at hc1 (by omega)
      obtain ⟨c, hcj⟩ : ∃ c, cars[j]? = some c := ⟨_, List.getElem?_eq_getElem hjl⟩
      obtain ⟨es, ⟨A4, C4, rfl, hok, _⟩, _, hcc⟩ := hce j c hcj
      have hbs : ∀ p : Addr, p.block < w1.heap.size → wr.cell? p = w1.cell? p := fun p hp => hbq.cell hp
      have hblr : b < wr.heap.size := Nat.lt_of_lt_of_le hbl hbq.size
      have z0 := (hbs ⟨b, off + j * 6 + 0, none⟩ hbl).trans (hcc 0 _ rfl)
      have z1 := (hbs ⟨b, off + j * 6 + 1, none⟩ hbl).trans (hcc 1 _ rfl)
      have z2 := (hbs ⟨b, off + j * 6 + 2, none⟩ hbl).trans (hcc 2 _ rfl)
      have z3 := (hbs ⟨b, off + j * 6 + 3, none⟩ hbl).trans (hcc 3 _ rfl)
      have z4 := (hbs ⟨b, off + j * 6 + 4, none⟩ hbl).trans (hcc 4 _ rfl)
      have z5 := (hbs ⟨b, off + j * 6 + 5, none⟩ hbl).trans (hcc 5 _ rfl)
      simp only [Nat.add_zero] at z0
      have hco := etaOk_of HZ.out hg.1 (HI.out.2 j c hcj)
      have hv := HEI.out j c hcj
      have htk : intV (E.take (j + 1)) = intV (E.take j) ++ [.int .i64 (etaOf s c (places (stAt sets j).x (stAt sets j).y s.gap) (floor * s.gap) dir)] := by rw [← hv]; exact tk_succ (by rw [HEL.out]; exact hjl)
      have hw := HW.out j
      have CE := Lib.hid (fun w hT => eta_Of s A C c A4 C4 (stAt sets j).x (stAt sets j).y floor dir w hw.1 hw.2 hg hco hf hT)
      have HTK := Lib.hid htk
      have HBQ := Lib.hid hbq
      have hgs := hbq.size
      have HO := Lib.hid hown
      clear hbs hce hcc htk hbq hown hv hw hco hok
      (try clear k0c k0f k0z); have k0c := fun i => Blk.cell k0 i; have k0f := fun i => Blk.free k0 i; have k0z := Blk.lt k0
      generalize etaOf s c (places (stAt sets j).x (stAt sets j).y s.gap) (floor * s.gap) dir = V at *
      by_cases hjs : j < sets.length
      · obtain ⟨b2, off2, rfl, hbl2, hce2⟩ := slice_at hst1 (by omega)
        obtain ⟨t, htj⟩ : ∃ t, sets[j]? = some t := ⟨_, List.getElem?_eq_getElem hjs⟩
        obtain ⟨es, ⟨rfl, hwx, hwy⟩, _, hcc2⟩ := hce2 j t htj
        have htt : stAt sets j = t := by unfold stAt; rw [htj]; rfl
        rw [htt] at CE
        have y0 := (HBQ.out.cell (p := ⟨b2, off2 + j * 2 + 0, none⟩) hbl2).trans (hcc2 0 _ rfl)
        have y1 := (HBQ.out.cell (p := ⟨b2, off2 + j * 2 + 1, none⟩) hbl2).trans (hcc2 1 _ rfl)
        simp only [Nat.add_zero] at y0
        have hblr2 : b2 < wr.heap.size := Nat.lt_of_lt_of_le hbl2 hgs
        clear hce2 hcc2 hwx hwy htt htj hcj
        unfold sv at CE
        go_wp2_with fail
        refine (CE.out _ ((HT.out.below HBQ.out).below (Joins.below_alloc2 _ _ _))).mono ?_
        rintro e w2 ⟨rfl, hb⟩
        have hg2 : Below wr.heap.size wr w2 := (Joins.below_alloc2 _ _ _).trans (hb.mono (by simp; omega))
        have ho2 := ownsRow_below HO.out hg2
        have hb2 : Below w1.heap.size w1 w2 := HBQ.out.trans (hg2.mono HBQ.out.size)
        have hs2 : w1.heap.size ≤ w2.heap.size := hb2.size
        have HB2 := Lib.hid hb2
        clear hb hg2 hb2
        go_wp2_with (at_builtin; refine wpList_append_own _ rfl _ _ 50 rfl w1.heap.size 3 i0 (.int .i64 0) 1 8 Tryd.underlying50 hi hz0 hz1 hz2 rfl (by decide) _ _ _ rfl (ho2.alloc _) ⟨w2.heap.size, 0, none⟩ 1 1 [.int .i64 V] rfl rfl ?c1 ?c2 ?c3 ?c4 ?c5 ?_)
        case c1 => exact cell_one _ _ _
        case c2 => intro u hu; simp at hu; subst hu; rfl
        case c3 => unfold maxLen; omega
        case c4 => omega
        case c5 => simp; omega
        intro v' w4 hown' hgrow _
        rw [← HTK.out] at hown'
        have hb4 : Below w1.heap.size w1 w4 := (HB2.out.alloc hs2 _).grown hgrow (by simp; omega) (fun k hk => (ho2.lt k hk).1)
        clear hgrow
        go_wp2
        go_roundw
        case rel => exact ⟨j + 1, by omega, by go_num, hown', hb4⟩
        case measure => simp [intOf]; omega
      · have htt : stAt sets j = ⟨0, 0⟩ := by unfold stAt; rw [List.getElem?_eq_none (by omega)]; rfl
        rw [htt] at CE
        unfold sv at CE
        clear htt hcj
        go_wp2_with fail
        refine (CE.out _ ((HT.out.below HBQ.out).below (Joins.below_alloc2 _ _ _))).mono ?_
        rintro e w2 ⟨rfl, hb⟩
        have hg2 : Below wr.heap.size wr w2 := (Joins.below_alloc2 _ _ _).trans (hb.mono (by simp; omega))
        have ho2 := ownsRow_below HO.out hg2
        have hb2 : Below w1.heap.size w1 w2 := HBQ.out.trans (hg2.mono HBQ.out.size)
        have hs2 : w1.heap.size ≤ w2.heap.size := hb2.size
        have HB2 := Lib.hid hb2
        clear hb hg2 hb2
        go_wp2_with (at_builtin; refine wpList_append_own _ rfl _ _ 50 rfl w1.heap.size 3 i0 (.int .i64 0) 1 8 Tryd.underlying50 hi hz0 hz1 hz2 rfl (by decide) _ _ _ rfl (ho2.alloc _) ⟨w2.heap.size, 0, none⟩ 1 1 [.int .i64 V] rfl rfl ?c1 ?c2 ?c3 ?c4 ?c5 ?_)
        case c1 => exact cell_one _ _ _
        case c2 => intro u hu; simp at hu; subst hu; rfl
        case c3 => unfold maxLen; omega
        case c4 => omega
        case c5 => simp; omega
        intro v' w4 hown' hgrow _
        rw [← HTK.out] at hown'
        have hb4 : Below w1.heap.size w1 w4 := (HB2.out.alloc hs2 _).grown hgrow (by simp; omega) (fun k hk => (ho2.lt k hk).1)
        clear hgrow
        go_wp2
        go_roundw
        case rel => exact ⟨j + 1, by omega, by go_num, hown', hb4⟩
        case measure => simp [intOf]; omega
    · obtain rfl : j = cars.length := by omega
      rw [List.take_of_length_le (by rw [HEL.out]; omega)] at hown
      obtain ⟨A', C', rfl, hints⟩ := owns_ints_n hown HEL.out.symm
      have hl := near_Least A' C' E wr hints (by rw [HEL.out]; omega)
      have HL := Lib.hid hl
      have hfin : Below w.heap.size w wr := HB.out.trans (hbq.mono HB.out.size)
      clear hl hints hown
      go_wp2_with (first | (go_at_call 37; refine (HL.out).mono ?_; rintro e w' ⟨rfl, rfl⟩))
      go_ret
      exact ⟨rfl, hfin⟩
end Go.Proofs.YtejcgagblpkmoaaDoor
