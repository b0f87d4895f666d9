
/-
  hoistwayref34.Best: the car that is there first. Conditions: the numbers lie within bounds.
-/
import Derived.Test.YtejcgagblpkmoaaDoorEtaBest
import Derived.Test.YtejcgagblpkmoaaDoorRef34Of
set_option linter.unusedVariables false
set_option linter.unusedSimpArgs false
namespace Go.Proofs.YtejcgagblpkmoaaDoor
open Go.Joins Go.ChangeShapes Go.WideShapes Go.ChangeAt Go.RowKit Go.Deep

theorem held_set {W w' : World} {B : Nat} {t : TypeId} {x y : Value} (h : Below W.heap.size W w') (k : Blk w' B t #[x, y]) :
    Below W.heap.size W w' ∧ (∀ b o, b < W.heap.size → w'.cell? ⟨b, o, none⟩ = W.cell? ⟨b, o, none⟩) ∧ w'.cell? ⟨B, 0, none⟩ = some x ∧ w'.cell? ⟨B, 1, none⟩ = some y :=
  ⟨h, fun b o hlt => h.cell (p := ⟨b, o, none⟩) hlt, k.cell 0, k.cell 1⟩
theorem Blk.grown' {w w' : World} {B : Nat} {t : TypeId} {cs : Array Value} {row : Option Nat} (k : Blk w B t cs) (hg : w.grownBy w' row) (hne : row ≠ some B) : Blk w' B t cs :=
  (hg.block B k.lt (fun e => hne e.symm)).trans k
set_option maxRecDepth 100000 in
set_option maxHeartbeats 1000000 in
theorem ref34_Best (s : Scen) (A : Option Addr) (C : Nat) (cars : List Car) (A2 : Option Addr) (C2 : Nat) (sets : List St) (A3 : Option Addr) (C3 : Nat) (floor dir : Int) (E : List Int) (w : World) (hs : s.small) (hg : 1 ≤ s.gap ∧ s.gap ≤ 16) (hc : RSlice 6 RCar w [.slice A2 cars.length C2] cars) (hin : allIn s cars) (hst : RSlice 2 RSt w [.slice A3 sets.length C3] sets) (hsl : sets.length ≤ 20) (hf : 0 ≤ floor ∧ floor ≤ 127) (hE : Etas s cars sets floor dir E) :
    Calls Tryd.prog 15 #[s.val A C, .slice A2 cars.length C2, .slice A3 sets.length C3, .int .i64 floor, .int .i64 dir] w fun e w' => e = .returned (.int .i64 (leastN E E.length)) ∧ Below w.heap.size w w' := by
  obtain ⟨i0, hi, hz0, hz1, hz2⟩ := info_parts info_int
  have h16 := hin.1
  have HI := Lib.hid hin
  have HZ := Lib.hid hs
  obtain ⟨hEl, hEi⟩ := hE
  have HEI := Lib.hid hEi
  have HEL := Lib.hid hEl
  have HW := Lib.hid (stAt_wd hst)
  clear hin hs hEi hEl
  go_enter Tryd.func15, Tryd.ntmps15
  go_wp2_with (with_reducible refine hold_loop ?_)
  have k0 : Blk (w.alloc (.cells (s.cells A C).toArray 25)) (w.heap.size) 25 (s.cells A C).toArray := (blk_at (by simp))
  have hB : Below w.heap.size w (w.alloc (.cells (s.cells A C).toArray 25)) := (bel_at (Below.refl _ _) (.cells (s.cells A C).toArray 25))
  generalize (w.alloc (.cells (s.cells A C).toArray 25)) = w1 at *
  (try clear k0c k0f k0z); have k0c := fun i => Blk.cell k0 i; have k0f := fun i => Blk.free k0 i; have k0z := Blk.lt k0
  unfold Hold
  have hc1 := RSlice.stays RCar.stays _ _ _ _ hc hB
  have hst1 := RSlice.stays RSt.stays _ _ _ _ hst hB
  have K0 := Lib.hid k0
  have HB := Lib.hid hB
  clear hc hst hB k0 k0c k0f k0z
  go_loopw [11, 12] (fun v i wr => ∃ j : Nat, j ≤ cars.length ∧ i = .int .i64 j ∧ wr.ownsRow w1.heap.size 3 1 v j (intV (E.take j)) ∧ Below w1.heap.size w1 wr) (fun _ i _ => cars.length - (intOf i).toNat)
  case atStart => exact ⟨0, by omega, rfl, by rw [List.take_zero]; exact World.ownsRow_nil _ _ _ _, Below.refl _ _⟩
  case round =>
    obtain ⟨j, hj, rfl, hown, hbq⟩ := hrel
    by_cases hjl : j < cars.length
    · obtain ⟨b, off, rfl, hbl, hce⟩ := slice_at hc1 (by omega)
      obtain ⟨c, hcj⟩ : ∃ c, cars[j]? = some c := ⟨_, List.getElem?_eq_getElem hjl⟩
      obtain ⟨es, ⟨A4, C4, rfl, hok, _⟩, _, hcc⟩ := hce j c hcj
      have hblr : b < wr.heap.size := Nat.lt_of_lt_of_le hbl hbq.size
      have z0 := hcc 0 _ rfl
      have z1 := hcc 1 _ rfl
      have z2 := hcc 2 _ rfl
      have z3 := hcc 3 _ rfl
      have z4 := hcc 4 _ rfl
      have z5 := hcc 5 _ rfl
      simp only [Nat.add_zero] at z0
      have hco := etaOk_of HZ.out hg.1 (HI.out.2 j c hcj)
      have hv := HEI.out j c hcj
      have htk : intV (E.take (j + 1)) = intV (E.take j) ++ [.int .i64 (etaOf s c (places (stAt sets j).x (stAt sets j).y s.gap) (floor * s.gap) dir)] := by rw [← hv]; exact tk_succ (by rw [HEL.out]; exact hjl)
      have hw := HW.out j
      have CE := Lib.hid (fun w => ref34_Of s A C c A4 C4 (stAt sets j).x (stAt sets j).y floor dir w hw.1 hw.2 hg hco hf)
      have HTK := Lib.hid htk
      have HBQ := Lib.hid hbq
      have hgs := hbq.size
      have HO := Lib.hid hown
      clear hce hcc htk hbq hown hv hw hco hok
      have k1c := fun i => Blk.cell K0.out i
      have k1f := fun i => Blk.free K0.out i
      have k1z := K0.out.lt
      generalize etaOf s c (places (stAt sets j).x (stAt sets j).y s.gap) (floor * s.gap) dir = V at *
      by_cases hjs : j < sets.length
      · obtain ⟨b2, off2, rfl, hbl2, hce2⟩ := slice_at hst1 (by omega)
        obtain ⟨t, htj⟩ : ∃ t, sets[j]? = some t := ⟨_, List.getElem?_eq_getElem hjs⟩
        obtain ⟨es, ⟨rfl, hwx, hwy⟩, _, hcc2⟩ := hce2 j t htj
        have htt : stAt sets j = t := by unfold stAt; rw [htj]; rfl
        rw [htt] at CE
        have y0 := (HBQ.out.cell (p := ⟨b2, off2 + j * 2 + 0, none⟩) hbl2).trans (hcc2 0 _ rfl)
        have y1 := (HBQ.out.cell (p := ⟨b2, off2 + j * 2 + 1, none⟩) hbl2).trans (hcc2 1 _ rfl)
        simp only [Nat.add_zero] at y0
        have hblr2 : b2 < wr.heap.size := Nat.lt_of_lt_of_le hbl2 hgs
        clear hce2 hcc2 hwx hwy htt htj hcj
        unfold sv at CE
        go_wp2_with fail
        have hbd : Below w1.heap.size w1 (wr.alloc (.cells #[.int .u64 (t.x : Int), .int .u64 (t.y : Int)] 38)).drew := (HBQ.out.alloc hgs _).drew
        have kS : Blk (wr.alloc (.cells #[.int .u64 (t.x : Int), .int .u64 (t.y : Int)] 38)).drew wr.heap.size 38 #[.int .u64 (t.x : Int), .int .u64 (t.y : Int)] := (Blk.new wr 38 #[.int .u64 (t.x : Int), .int .u64 (t.y : Int)]).below (below_drewN (Below.refl _ _) 1) (Blk.lt (Blk.new wr 38 #[.int .u64 (t.x : Int), .int .u64 (t.y : Int)]))
        have hol := fun k hk => (HO.out.lt k hk).2
        have KS := Lib.hid kS
        have HC := Lib.hid (held_set hbd kS)
        have HBD := Lib.hid hbd
        have HO1 := Lib.hid ((HO.out.alloc (.cells #[.int .u64 (t.x : Int), .int .u64 (t.y : Int)] 38)).drew)
        have HOL := Lib.hid hol
        clear hbd kS hol
        go_region_held3 (fun w' => Below w1.heap.size w1 w' ∧ (∀ b o, b < w1.heap.size → w'.cell? ⟨b, o, none⟩ = w1.cell? ⟨b, o, none⟩) ∧ w'.cell? ⟨wr.heap.size, 0, none⟩ = some (.int .u64 (t.x : Int)) ∧ w'.cell? ⟨wr.heap.size, 1, none⟩ = some (.int .u64 (t.y : Int))) (first | exact HC.out | exact held_set hb2 kS2 | exact held_set (hb2.alloc hs2 _) (kS2.alloc _) | exact held_set hb4 kS4) (first | (go_at_call 13; refine (CE.out _).mono ?_; rintro e w2 ⟨rfl, hb⟩; have hb2 : Below w1.heap.size w1 w2 := HBD.out.trans (hb.mono (HBD.out.size)); have hs2 := hb2.size; have ho2 := ownsRow_below HO1.out hb; have kS2 := KS.out.below hb KS.out.lt; clear hb) | (refine step_append_lies _ rfl _ _ 50 rfl w1.heap.size 3 i0 (.int .i64 0) 1 8 Tryd.underlying50 hi hz0 hz1 hz2 rfl (by decide) _ _ _ rfl (ho2.alloc _) ⟨w2.heap.size, 0, none⟩ 1 1 [.int .i64 V] rfl rfl (cell_one _ _ _) (one_cell _) (by decide) (by unfold maxLen; omega) (by omega) (by simp; omega) _ rfl ?_; intro g cap w4 hown' hgrow _ _; have hb4 : Below w1.heap.size w1 w4 := (hb2.alloc hs2 _).grown hgrow (by simp; omega) (fun k hk => (ho2.lt k hk).1); have kS4 := (kS2.alloc (.cells #[.int .i64 V] 3)).grown' hgrow (fun h => Nat.lt_irrefl _ (HOL.out _ h)); clear hgrow))
        rw [← HTK.out] at hown'
        go_wp2
        go_roundw
        case rel => exact ⟨j + 1, by omega, by go_num, hown', hb4⟩
        case measure => simp [intOf]; omega
      · have htt : stAt sets j = ⟨0, 0⟩ := by unfold stAt; rw [List.getElem?_eq_none (by omega)]; rfl
        rw [htt] at CE
        unfold sv at CE
        clear htt hcj
        go_wp2_with fail
        have hbd : Below w1.heap.size w1 (wr.alloc (.cells #[.int .u64 ((0 : Nat) : Int), .int .u64 ((0 : Nat) : Int)] 38)).drew := (HBQ.out.alloc hgs _).drew
        have kS : Blk (wr.alloc (.cells #[.int .u64 ((0 : Nat) : Int), .int .u64 ((0 : Nat) : Int)] 38)).drew wr.heap.size 38 #[.int .u64 ((0 : Nat) : Int), .int .u64 ((0 : Nat) : Int)] := (Blk.new wr 38 #[.int .u64 ((0 : Nat) : Int), .int .u64 ((0 : Nat) : Int)]).below (below_drewN (Below.refl _ _) 1) (Blk.lt (Blk.new wr 38 #[.int .u64 ((0 : Nat) : Int), .int .u64 ((0 : Nat) : Int)]))
        have hol := fun k hk => (HO.out.lt k hk).2
        have KS := Lib.hid kS
        have HC := Lib.hid (held_set hbd kS)
        have HBD := Lib.hid hbd
        have HO1 := Lib.hid ((HO.out.alloc (.cells #[.int .u64 ((0 : Nat) : Int), .int .u64 ((0 : Nat) : Int)] 38)).drew)
        have HOL := Lib.hid hol
        clear hbd kS hol
        go_region_held3 (fun w' => Below w1.heap.size w1 w' ∧ (∀ b o, b < w1.heap.size → w'.cell? ⟨b, o, none⟩ = w1.cell? ⟨b, o, none⟩) ∧ w'.cell? ⟨wr.heap.size, 0, none⟩ = some (.int .u64 ((0 : Nat) : Int)) ∧ w'.cell? ⟨wr.heap.size, 1, none⟩ = some (.int .u64 ((0 : Nat) : Int))) (first | exact HC.out | exact held_set hb2 kS2 | exact held_set (hb2.alloc hs2 _) (kS2.alloc _) | exact held_set hb4 kS4) (first | (go_at_call 13; refine (CE.out _).mono ?_; rintro e w2 ⟨rfl, hb⟩; have hb2 : Below w1.heap.size w1 w2 := HBD.out.trans (hb.mono (HBD.out.size)); have hs2 := hb2.size; have ho2 := ownsRow_below HO1.out hb; have kS2 := KS.out.below hb KS.out.lt; clear hb) | (refine step_append_lies _ rfl _ _ 50 rfl w1.heap.size 3 i0 (.int .i64 0) 1 8 Tryd.underlying50 hi hz0 hz1 hz2 rfl (by decide) _ _ _ rfl (ho2.alloc _) ⟨w2.heap.size, 0, none⟩ 1 1 [.int .i64 V] rfl rfl (cell_one _ _ _) (one_cell _) (by decide) (by unfold maxLen; omega) (by omega) (by simp; omega) _ rfl ?_; intro g cap w4 hown' hgrow _ _; have hb4 : Below w1.heap.size w1 w4 := (hb2.alloc hs2 _).grown hgrow (by simp; omega) (fun k hk => (ho2.lt k hk).1); have kS4 := (kS2.alloc (.cells #[.int .i64 V] 3)).grown' hgrow (fun h => Nat.lt_irrefl _ (HOL.out _ h)); clear hgrow))
        rw [← HTK.out] at hown'
        go_wp2
        go_roundw
        case rel => exact ⟨j + 1, by omega, by go_num, hown', hb4⟩
        case measure => simp [intOf]; omega
    · obtain rfl : j = cars.length := by omega
      rw [List.take_of_length_le (by rw [HEL.out]; omega)] at hown
      obtain ⟨A', C', rfl, hints⟩ := owns_ints_n hown HEL.out.symm
      have hl := ref_Least A' C' E wr hints (by rw [HEL.out]; omega)
      have HL := Lib.hid hl
      have hfin : Below w.heap.size w wr := HB.out.trans (hbq.mono HB.out.size)
      clear hl hints hown
      go_wp2_with (first | (go_at_call 19; refine (HL.out).mono ?_; rintro e w' ⟨rfl, nq, rfl⟩))
      go_ret
      exact ⟨rfl, below_drewN hfin _⟩
end Go.Proofs.YtejcgagblpkmoaaDoor
