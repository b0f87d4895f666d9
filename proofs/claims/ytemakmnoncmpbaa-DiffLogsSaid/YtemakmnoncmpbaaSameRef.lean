
/-
  Logs by the document: hoistwayref37.Same. Conditions: at most 100 trips, 20 rows of at most 100 legs each.
-/
import Derived.Test.YtemakmnoncmpbaaSameLog
set_option linter.unusedVariables false
set_option linter.unusedSimpArgs false
namespace Go.Proofs.Ytemakmnoncmpbaa
open Go.Joins Go.ChangeShapes Go.WideShapes Go.ChangeAt Go.RowKit Go.Deep

set_option maxHeartbeats 4000000 in
theorem ref37_Same (s t : Log) (tA lA tA2 lA2 : Option Addr) (tC lC tC2 lC2 : Nat) (w : World) (hx1 : TripsOf w tA s.trips) (hx : LegRows w lA s.legs) (hy1 : TripsOf w tA2 t.trips) (hy : LegRows w lA2 t.legs) (hs : smallLog s) (ht : smallLog t) :
    Calls Try.prog 10 #[s.val tA tC lA lC, t.val tA2 tC2 lA2 lC2] w fun e w' => e = .returned (.bool (logB s t)) ∧ Below w.heap.size w w' := by
  obtain ⟨ts, ls, used⟩ := s
  obtain ⟨ts2, ls2, used2⟩ := t
  unfold Log.val
  obtain ⟨s0, s1, s2⟩ := hs
  obtain ⟨s5, s3, s4⟩ := ht
  simp only at *
  have HX := Lib.hid hx
  have HY := Lib.hid hy
  have HX1 := Lib.hid hx1
  have HY1 := Lib.hid hy1
  have S2 := Lib.hid s2
  have S4 := Lib.hid s4
  clear hx hy s2 s4 hx1 hy1
  by_cases hu : used = used2
  rotate_left
  · have R := Lib.hid (logB_used (a := ⟨ts, ls, used⟩) (b := ⟨ts2, ls2, used2⟩) hu)
    have hne : (used != used2) = true := by simpa using hu
    clear hu
    go_enter Try.func10, Try.ntmps10
    go_wp2
    go_ret
    exact ⟨ret_bool R.out.symm, Joins.below_alloc2 _ _ _⟩
  · subst hu
    by_cases hm : ts.length = ts2.length
    rotate_left
    · have R := Lib.hid (logB_trips (a := ⟨ts, ls, used⟩) (b := ⟨ts2, ls2, used⟩) (tripsB_len hm))
      have hne : ((ts.length : Int) != (ts2.length : Int)) = true := by simp; omega
      clear hm
      go_enter Try.func10, Try.ntmps10
      go_wp2
      go_ret
      exact ⟨ret_bool R.out.symm, Joins.below_alloc2 _ _ _⟩
    · have HM := Lib.hid hm
      have hnm : ((ts.length : Int) != (ts2.length : Int)) = false := by simp; omega
      clear hm
      by_cases hl : ls.length = ls2.length
      rotate_left
      · have R := Lib.hid (logB_rows (a := ⟨ts, ls, used⟩) (b := ⟨ts2, ls2, used⟩) (rowsB_len hl))
        have hne : ((ls.length : Int) != (ls2.length : Int)) = true := by simp; omega
        clear hl
        go_enter Try.func10, Try.ntmps10
        go_wp2
        go_ret
        exact ⟨ret_bool R.out.symm, Joins.below_alloc2 _ _ _⟩
      · have HL := Lib.hid hl
        have hne : ((ls.length : Int) != (ls2.length : Int)) = false := by simp; omega
        clear hl
        go_enter Try.func10, Try.ntmps10
        go_wp2_with (first | ((with_reducible refine hold_list ?_ ?_); (· exact Eq.refl true)) | ((with_reducible refine hold_region ?_ ?_); (· exact Eq.refl true)) | (with_reducible refine hold_loop ?_))
        have k0 : Blk ((w.alloc (.cells #[.slice tA ts.length tC, .slice lA ls.length lC, .int .i64 used] 25)).alloc (.cells #[.slice tA2 ts2.length tC2, .slice lA2 ls2.length lC2, .int .i64 used] 25)) (w.heap.size) 25 #[.slice tA ts.length tC, .slice lA ls.length lC, .int .i64 used] := (Blk.alloc (blk_at (by simp)) (.cells #[.slice tA2 ts2.length tC2, .slice lA2 ls2.length lC2, .int .i64 used] 25))
        have k1 : Blk ((w.alloc (.cells #[.slice tA ts.length tC, .slice lA ls.length lC, .int .i64 used] 25)).alloc (.cells #[.slice tA2 ts2.length tC2, .slice lA2 ls2.length lC2, .int .i64 used] 25)) (w.heap.size + 1) 25 #[.slice tA2 ts2.length tC2, .slice lA2 ls2.length lC2, .int .i64 used] := (blk_at (by simp))
        have hB : Below w.heap.size w ((w.alloc (.cells #[.slice tA ts.length tC, .slice lA ls.length lC, .int .i64 used] 25)).alloc (.cells #[.slice tA2 ts2.length tC2, .slice lA2 ls2.length lC2, .int .i64 used] 25)) := (bel_at (bel_at (Below.refl _ _) (.cells #[.slice tA ts.length tC, .slice lA ls.length lC, .int .i64 used] 25)) (.cells #[.slice tA2 ts2.length tC2, .slice lA2 ls2.length lC2, .int .i64 used] 25))
        generalize ((w.alloc (.cells #[.slice tA ts.length tC, .slice lA ls.length lC, .int .i64 used] 25)).alloc (.cells #[.slice tA2 ts2.length tC2, .slice lA2 ls2.length lC2, .int .i64 used] 25)) = w1 at *
        (try clear k0c k0f k0z); have k0c := fun i => Blk.cell k0 i; have k0f := fun i => Blk.free k0 i; have k0z := Blk.lt k0; (try clear k1c k1f k1z); have k1c := fun i => Blk.cell k1 i; have k1f := fun i => Blk.free k1 i; have k1z := Blk.lt k1
        unfold Hold
        clear hne hnm
        have HB := Lib.hid hB
        clear hB
        go_loopw [5] (fun i wr => ∃ k : Nat, k ≤ ts.length ∧ i = .int .i64 k ∧ Hid (∀ j, j < k → tripEq (tripAtD ts j) (tripAtD ts2 j) = true) ∧ Below w1.heap.size w1 wr) (fun i _ => ts.length - (intOf i).toNat)
        case atStart => exact ⟨0, by omega, rfl, fun j hj => by omega, Below.refl _ _⟩
        case round =>
          obtain ⟨k, hk, rfl, hpre, hb⟩ := hrel
          have hbw := HB.out.trans (hb.mono HB.out.size)
          replace k0 := Blk.below k0 hb k0.lt
          replace k1 := Blk.below k1 hb k1.lt
          (try clear k0c k0f k0z); have k0c := fun i => Blk.cell k0 i; have k0f := fun i => Blk.free k0 i; have k0z := Blk.lt k0; (try clear k1c k1f k1z); have k1c := fun i => Blk.cell k1 i; have k1f := fun i => Blk.free k1 i; have k1z := Blk.lt k1
          by_cases hkl : k < ts.length
          · have hkl2 : k < ts2.length := by have := HM.out; omega
            obtain ⟨b, off, rfl, hbl, hce⟩ := HX1.out (by omega)
            obtain ⟨b2, off2, rfl, hbl2, hce2⟩ := HY1.out (by omega)
            obtain ⟨t, ht⟩ := at_some hkl
            obtain ⟨u, hu⟩ := at_some hkl2
            have z := fun j v h => (hbw.cell (p := ⟨b, off + k * 7 + j, none⟩) hbl).trans (hce k t ht j v h)
            have y := fun j v h => (hbw.cell (p := ⟨b2, off2 + k * 7 + j, none⟩) hbl2).trans (hce2 k u hu j v h)
            have z0 := z 0 _ rfl
            have z1 := z 1 _ rfl
            have z2 := z 2 _ rfl
            have z3 := z 3 _ rfl
            have z4 := z 4 _ rfl
            have z5 := z 5 _ rfl
            have z6 := z 6 _ rfl
            have y0 := y 0 _ rfl
            have y1 := y 1 _ rfl
            have y2 := y 2 _ rfl
            have y3 := y 3 _ rfl
            have y4 := y 4 _ rfl
            have y5 := y 5 _ rfl
            have y6 := y 6 _ rfl
            simp only [Nat.add_zero] at z0 y0
            have i0 : (0 : Int) ≤ (k : Int) := by omega
            have i1 : (k : Int) < (ts.length : Int) := by omega
            have i2 : (k : Int) < (ts2.length : Int) := by omega
            have hq := fun w => run_trips t u w
            cases hr : tripEq t u
            · rw [hr] at hq
              have R := Lib.hid (logB_trips (a := ⟨ts, ls, used⟩) (b := ⟨ts2, ls2, used⟩) (tripsB_not ht hu hr))
              clear hce hce2 hr ht hu z y
              go_wp2_with fail
              go_quiet (fail)
              clear hq
              go_wp2
              go_ret
              exact ⟨ret_bool R.out.symm, below_drewN hbw _⟩
            · rw [hr] at hq
              have hpre2 : Hid (∀ j, j < k + 1 → tripEq (tripAtD ts j) (tripAtD ts2 j) = true) := fun j hj => by
                by_cases e : j < k
                · exact hpre.out j e
                · obtain rfl : j = k := by omega
                  rw [tripAtD_of ht, tripAtD_of hu]; exact hr
              clear hce hce2 hr ht hu z y
              go_wp2_with fail
              go_quiet (fail)
              clear hq
              go_wp2
              go_roundw
              case rel => exact ⟨k + 1, by omega, by go_num, hpre2, below_drewN hb _⟩
              case measure => simp [intOf]; omega
          · obtain rfl : k = ts.length := by omega
            have HT := Lib.hid (tripsB_all HM.out hpre.out)
            have HBW := Lib.hid hbw
            clear hb hbw hpre hkl hk HB
            obtain ⟨w2, rfl⟩ : ∃ w2 : World, w2 = wr := ⟨_, rfl⟩
            go_wp2_with (with_reducible refine hold_loop ?_)
            unfold Hold
            go_loopw [6] (fun i wr => ∃ k : Nat, k ≤ ls.length ∧ i = .int .i64 k ∧ Hid (∀ j, j < k → legsB (rowD ls j) (rowD ls2 j) = true) ∧ Below w2.heap.size w2 wr) (fun i _ => ls.length - (intOf i).toNat)
            case atStart => exact ⟨0, by omega, rfl, fun j hj => by omega, Below.refl _ _⟩
            case round =>
              obtain ⟨k, hk, rfl, hpre, hb⟩ := hrel
              have hbw := HBW.out.trans (hb.mono HBW.out.size)
              replace k0 := Blk.below k0 hb k0.lt
              replace k1 := Blk.below k1 hb k1.lt
              (try clear k0c k0f k0z); have k0c := fun i => Blk.cell k0 i; have k0f := fun i => Blk.free k0 i; have k0z := Blk.lt k0; (try clear k1c k1f k1z); have k1c := fun i => Blk.cell k1 i; have k1f := fun i => Blk.free k1 i; have k1z := Blk.lt k1
              by_cases hkl : k < ls.length
              · have hkl2 : k < ls2.length := by have := HL.out; omega
                obtain ⟨b, off, rfl, hbl, hce⟩ := HX.out (by omega)
                obtain ⟨b2, off2, rfl, hbl2, hce2⟩ := HY.out (by omega)
                obtain ⟨xs, hg⟩ := at_some hkl
                obtain ⟨ys, hg2⟩ := at_some hkl2
                obtain ⟨A', C', z, hel⟩ := hce k xs hg
                obtain ⟨A2', C2', y, hel2⟩ := hce2 k ys hg2
                replace z := (hbw.cell (p := ⟨b, off + k, none⟩) hbl).trans z
                replace y := (hbw.cell (p := ⟨b2, off2 + k, none⟩) hbl2).trans y
                have hzb : b < wr.heap.size := by have := hbw.size; omega
                have hzb2 : b2 < wr.heap.size := by have := hbw.size; omega
                have i0 : (0 : Int) ≤ (k : Int) := by omega
                have i1 : (k : Int) < (ls.length : Int) := by omega
                have i2 : (k : Int) < (ls2.length : Int) := by omega
                have cL := fun (g : Grow wr) => ref37_legs A' A2' C' C2' xs ys g.world ((hel.below hbw).below g.below) ((hel2.below hbw).below g.below) (S2.out k xs hg) (S4.out k ys hg2)
                cases hr : legsB xs ys
                · rw [hr] at cL
                  have CL := Lib.hid cL
                  have R := Lib.hid (logB_rows (a := ⟨ts, ls, used⟩) (b := ⟨ts2, ls2, used⟩) (rowsB_not hg hg2 hr))
                  clear cL hce hce2 hel hel2 hr hg hg2
                  go_wp2_with fail
                  refine wp_region_grow (by kernel_rfl) (by kernel_rfl) ?_
                  repeat (go_big_quiet_step ((first | (go_at_call 14; with_reducible exact grow_of (CL.out _)))))
                  refine wpQuiet_nil ?_
                  intro w3 hb3
                  go_wp2
                  go_ret
                  exact ⟨ret_bool R.out.symm, hbw.trans (hb3.mono hbw.size)⟩
                · rw [hr] at cL
                  have CL := Lib.hid cL
                  have hpre2 : Hid (∀ j, j < k + 1 → legsB (rowD ls j) (rowD ls2 j) = true) := fun j hj => by
                    by_cases e : j < k
                    · exact hpre.out j e
                    · obtain rfl : j = k := by omega
                      rw [rowD_of hg, rowD_of hg2]; exact hr
                  clear cL hce hce2 hel hel2 hr hg hg2
                  go_wp2_with fail
                  refine wp_region_grow (by kernel_rfl) (by kernel_rfl) ?_
                  repeat (go_big_quiet_step ((first | (go_at_call 14; with_reducible exact grow_of (CL.out _)))))
                  refine wpQuiet_nil ?_
                  intro w3 hb3
                  go_wp2
                  go_roundw
                  case rel => exact ⟨k + 1, by omega, by go_num, hpre2, hb.trans (hb3.mono hb.size)⟩
                  case measure => simp [intOf]; omega
              · obtain rfl : k = ls.length := by omega
                have R := Lib.hid (logB_all (a := ⟨ts, ls, used⟩) (b := ⟨ts2, ls2, used⟩) HT.out rfl (rowsB_all HL.out hpre.out))
                go_wp2
                go_ret
                exact ⟨ret_bool R.out.symm, hbw⟩
end Go.Proofs.Ytemakmnoncmpbaa
