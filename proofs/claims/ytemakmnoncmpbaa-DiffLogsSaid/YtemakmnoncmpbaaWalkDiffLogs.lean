
/-
  The statement DiffLogs, walked.
-/
import Derived.Test.YtemakmnoncmpbaaSameRef
import Derived.Test.YtemakmnoncmpbaaAlive38
import Derived.Test.YtemakmnoncmpbaaArgA
set_option linter.unusedVariables false
set_option linter.unusedSimpArgs false
namespace Go.Proofs.Ytemakmnoncmpbaa
open Go.Joins Go.ChangeShapes Go.WideShapes Go.ChangeAt Go.RowKit Go.Deep

theorem scan_stepI {p : Nat → Bool} {n j : Nat} (h : j < n) : scanI p n (n - j) = if p j = true then (j : Int) else scanI p n (n - (j + 1)) := by
  obtain ⟨d, rfl⟩ : ∃ d, n = j + 1 + d := ⟨n - (j + 1), by omega⟩
  rw [show j + 1 + d - j = d + 1 by omega, show j + 1 + d - (j + 1) = d by omega]
  simp only [scanI]
  rw [show j + 1 + d - 1 - d = j by omega]
theorem scan_stepB {p : Nat → Bool} {n j : Nat} (h : j < n) : scanB p n (n - j) = if p j = true then true else scanB p n (n - (j + 1)) := by
  obtain ⟨d, rfl⟩ : ∃ d, n = j + 1 + d := ⟨n - (j + 1), by omega⟩
  rw [show j + 1 + d - j = d + 1 by omega, show j + 1 + d - (j + 1) = d by omega]
  simp only [scanB]
  rw [show j + 1 + d - 1 - d = j by omega]
theorem val_bool {a b : Bool} (h : a = b) : Value.bool a = .bool b := by rw [h]
set_option maxRecDepth 20000 in
set_option maxHeartbeats 8000000 in
theorem logs_1 (s t : Log) (tA lA tA2 lA2 : Option Addr) (tC lC tC2 lC2 : Nat) (w : World) (hx1 : TripsOf w tA s.trips) (hx : LegRows w lA s.legs) (hy1 : TripsOf w tA2 t.trips) (hy : LegRows w lA2 t.legs) :
    Calls Try.prog 3 #[s.val tA tC lA lC, t.val tA2 tC2 lA2 lC2] w fun e w' => e = .returned (.bool true) ∧ Below w.heap.size w w' := by
  have cG := fun w' (hb : Below w.heap.size w w') => great37 s tA lA tC lC w' (hx.below hb)
  have cG2 := fun w' (hb : Below w.heap.size w w') => great37 t tA2 lA2 tC2 lC2 w' (hy.below hb)
  have cS := fun w' (hb : Below w.heap.size w w') hs ht => diff_Same s t tA lA tA2 lA2 tC lC tC2 lC2 w' (hx1.below hb) (hx.below hb) (hy1.below hb) (hy.below hb) hs ht
  have cR := fun w' (hb : Below w.heap.size w w') hs ht => ref37_Same s t tA lA tA2 lA2 tC lC tC2 lC2 w' (hx1.below hb) (hx.below hb) (hy1.below hb) (hy.below hb) hs ht
  have cS2 := fun w' (hb : Below w.heap.size w w') hs => diff_Same s s tA lA tA lA tC lC tC lC w' (hx1.below hb) (hx.below hb) (hx1.below hb) (hx.below hb) hs hs
  rw [logB_refl] at cS2
  generalize logB s t = r at *
  obtain ⟨ts, ls, used⟩ := s
  obtain ⟨ts2, ls2, used2⟩ := t
  unfold Log.val at *
  simp only at *
  have HX := Lib.hid hx
  have HY := Lib.hid hy
  have HX1 := Lib.hid hx1
  have HY1 := Lib.hid hy1
  have CG := Lib.hid cG
  have CG2 := Lib.hid cG2
  have CS := Lib.hid cS
  have CR := Lib.hid cR
  have CS2 := Lib.hid cS2
  clear hx hy hx1 hy1 cG cG2 cS cR cS2
  go_enter Try.func3, Try.ntmps3
  go_wp2_with (first | ((with_reducible refine hold_list ?_ ?_); (· exact Eq.refl true)) | ((with_reducible refine hold_region ?_ ?_); (· exact Eq.refl true)) | (with_reducible refine hold_loop ?_))
  have k0 : Blk ((w.alloc (.cells #[.slice tA ts.length tC, .slice lA ls.length lC, .int .i64 used] 25)).alloc (.cells #[.slice tA2 ts2.length tC2, .slice lA2 ls2.length lC2, .int .i64 used2] 25)) (w.heap.size) 25 #[.slice tA ts.length tC, .slice lA ls.length lC, .int .i64 used] := (Blk.alloc (blk_at (by simp)) (.cells #[.slice tA2 ts2.length tC2, .slice lA2 ls2.length lC2, .int .i64 used2] 25))
  have k1 : Blk ((w.alloc (.cells #[.slice tA ts.length tC, .slice lA ls.length lC, .int .i64 used] 25)).alloc (.cells #[.slice tA2 ts2.length tC2, .slice lA2 ls2.length lC2, .int .i64 used2] 25)) (w.heap.size + 1) 25 #[.slice tA2 ts2.length tC2, .slice lA2 ls2.length lC2, .int .i64 used2] := (blk_at (by simp))
  have hB : Below w.heap.size w ((w.alloc (.cells #[.slice tA ts.length tC, .slice lA ls.length lC, .int .i64 used] 25)).alloc (.cells #[.slice tA2 ts2.length tC2, .slice lA2 ls2.length lC2, .int .i64 used2] 25)) := (bel_at (bel_at (Below.refl _ _) (.cells #[.slice tA ts.length tC, .slice lA ls.length lC, .int .i64 used] 25)) (.cells #[.slice tA2 ts2.length tC2, .slice lA2 ls2.length lC2, .int .i64 used2] 25))
  generalize ((w.alloc (.cells #[.slice tA ts.length tC, .slice lA ls.length lC, .int .i64 used] 25)).alloc (.cells #[.slice tA2 ts2.length tC2, .slice lA2 ls2.length lC2, .int .i64 used2] 25)) = w1 at *
  (try clear k0c k0f k0z); have k0c := fun i => Blk.cell k0 i; have k0f := fun i => Blk.free k0 i; have k0z := Blk.lt k0; (try clear k1c k1f k1z); have k1c := fun i => Blk.cell k1 i; have k1f := fun i => Blk.free k1 i; have k1z := Blk.lt k1
  unfold Hold
  go_wp2_with fail
  refine (CG.out _ hB).mono ?_
  rintro e w2 ⟨g1, rfl, hf, hb1⟩
  have hB2 := hB.trans (hb1.mono hB.size)
  replace k0 := Blk.below k0 hb1 k0.lt
  replace k1 := Blk.below k1 hb1 k1.lt
  clear CG hb1 hB
  (try clear k0c k0f k0z); have k0c := fun i => Blk.cell k0 i; have k0f := fun i => Blk.free k0 i; have k0z := Blk.lt k0; (try clear k1c k1f k1z); have k1c := fun i => Blk.cell k1 i; have k1f := fun i => Blk.free k1 i; have k1z := Blk.lt k1
  cases g1
  rotate_left
  · go_wp2
    go_ret
    exact ⟨rfl, hB2⟩
  · have HF := Lib.hid (hf rfl)
    clear hf
    go_wp2_with fail
    refine (CG2.out _ hB2).mono ?_
    rintro e w3 ⟨g2, rfl, hf, hb1⟩
    have hB := hB2.trans (hb1.mono hB2.size)
    replace k0 := Blk.below k0 hb1 k0.lt
    replace k1 := Blk.below k1 hb1 k1.lt
    clear CG2 hb1 hB2
    (try clear k0c k0f k0z); have k0c := fun i => Blk.cell k0 i; have k0f := fun i => Blk.free k0 i; have k0z := Blk.lt k0; (try clear k1c k1f k1z); have k1c := fun i => Blk.cell k1 i; have k1f := fun i => Blk.free k1 i; have k1z := Blk.lt k1
    cases g2
    rotate_left
    · go_wp2
      go_ret
      exact ⟨rfl, hB⟩
    · have HG := Lib.hid (hf rfl)
      clear hf
      have htl : ts.length ≤ 100 := HF.out.1
      have htl2 : ts2.length ≤ 100 := HG.out.1
      have hll : ls.length ≤ 20 := HF.out.2.1
      have hll2 : ls2.length ≤ 20 := HG.out.2.1
      have cT := fun w' (hb : Below w.heap.size w w') => diff_Trips tA tA2 tC tC2 ts ts2 w' (HX1.out.below hb) (HY1.out.below hb) htl htl2
      have CT := Lib.hid cT
      clear cT
      obtain ⟨n, hn⟩ : ∃ n, n = max ts.length ts2.length := ⟨_, rfl⟩
      have hnn : n ≤ 100 := by omega
      have HN := Lib.hid hn
      have P1 : Hid (∀ j, j < n → ts.length ≤ j ∨ ts2.length ≤ j → partsB ts ts2 j = true) := fun j _ h => parts_out h
      rcases Nat.lt_or_ge ts.length ts2.length with hm | hm <;> rcases Nat.lt_or_ge ls2.length ls.length with hm2 | hm2
      all_goals
        clear hn
        have HB := Lib.hid hB
        clear hB
        go_wp2_with (with_reducible refine hold_loop ?_)
        unfold Hold
        go_loopw [5, 6, 7] (fun u v i wr => ∃ c : Nat, c ≤ n ∧ i = .int .i64 ((c : Int) - 1) ∧ u = .int .i64 (scanI (partsB ts ts2) n (n - c)) ∧ v = .bool (scanB (partsB ts ts2) n (n - c)) ∧ Below w3.heap.size w3 wr) (fun _ _ i _ => (intOf i + 1).toNat)
        case atStart => exact ⟨n, Nat.le_refl _, val_int (by have := HN.out; omega), by rw [Nat.sub_self]; rfl, by rw [Nat.sub_self]; rfl, Below.refl _ _⟩
        case round =>
          obtain ⟨c, hc, hrest⟩ := hrel
          have hb := hrest.2.2.2
          have hbw := HB.out.trans (hb.mono HB.out.size)
          replace k0 := Blk.below k0 hb k0.lt
          replace k1 := Blk.below k1 hb k1.lt
          (try clear k0c k0f k0z); have k0c := fun i => Blk.cell k0 i; have k0f := fun i => Blk.free k0 i; have k0z := Blk.lt k0; (try clear k1c k1f k1z); have k1c := fun i => Blk.cell k1 i; have k1f := fun i => Blk.free k1 i; have k1z := Blk.lt k1
          rcases c with _ | j
          · clear hm
            rw [show (((0 : Nat) : Int) - 1) = -1 by omega] at hrest
            obtain ⟨rfl, rfl, rfl, _⟩ := hrest
            clear hc hb
            rw [Nat.sub_zero] at *
            have EI := Lib.hid (show scanI (partsB ts ts2) n n = scanI (partsB ts ts2) (max ts.length ts2.length) (max ts.length ts2.length) by rw [← HN.out])
            have EB := Lib.hid (show scanB (partsB ts ts2) n n = scanB (partsB ts ts2) (max ts.length ts2.length) (max ts.length ts2.length) by rw [← HN.out])
            generalize scanI (partsB ts ts2) (max ts.length ts2.length) (max ts.length ts2.length) = qi at *
            generalize scanB (partsB ts ts2) (max ts.length ts2.length) (max ts.length ts2.length) = qb at *
            rw [EI.out, EB.out]
            obtain ⟨w4, rfl⟩ : ∃ w4 : World, w4 = wr := ⟨_, rfl⟩
            have HB4 := Lib.hid hbw
            clear hbw EI EB HB
            go_wp2_with fail
            refine (CT.out _ HB4.out).mono ?_
            rintro e w' ⟨rfl, nq, rfl⟩
            have HB5 := Lib.hid (below_drewN HB4.out nq)
            replace k0 := Blk.drewN k0 nq
            replace k1 := Blk.drewN k1 nq
            clear HB4
            generalize w4.drewN nq = w5 at *
            (try clear k0c k0f k0z); have k0c := fun i => Blk.cell k0 i; have k0f := fun i => Blk.free k0 i; have k0z := Blk.lt k0; (try clear k1c k1f k1z); have k1c := fun i => Blk.cell k1 i; have k1f := fun i => Blk.free k1 i; have k1z := Blk.lt k1
            clear CT
            go_wp2_with (with_reducible refine hold_loop ?_)
            unfold Hold
            go_loopw [10] (fun i wr => ∃ k : Nat, k ≤ ls.length ∧ k ≤ ls2.length ∧ i = .int .i64 k ∧ Below w5.heap.size w5 wr) (fun i _ => ls.length - (intOf i).toNat)
            case atStart => exact ⟨0, by omega, by omega, rfl, Below.refl _ _⟩
            case round =>
              obtain ⟨k, hk, hk2, rfl, hb⟩ := hrel
              have hbw := HB5.out.trans (hb.mono HB5.out.size)
              replace k0 := Blk.below k0 hb k0.lt
              replace k1 := Blk.below k1 hb k1.lt
              (try clear k0c k0f k0z); have k0c := fun i => Blk.cell k0 i; have k0f := fun i => Blk.free k0 i; have k0z := Blk.lt k0; (try clear k1c k1f k1z); have k1c := fun i => Blk.cell k1 i; have k1f := fun i => Blk.free k1 i; have k1z := Blk.lt k1
              by_cases hkl : k < ls.length ∧ k < ls2.length
              · obtain ⟨hkl, hkl2⟩ := hkl
                obtain ⟨b, off, rfl, hbl, hce⟩ := HX.out (by omega)
                obtain ⟨b2, off2, rfl, hbl2, hce2⟩ := HY.out (by omega)
                obtain ⟨xs, hg⟩ := at_some hkl
                obtain ⟨ys, hg2⟩ := at_some hkl2
                obtain ⟨A', C', z, hel⟩ := hce k xs hg
                obtain ⟨A2', C2', y, hel2⟩ := hce2 k ys hg2
                replace z := (hbw.cell (p := ⟨b, off + k, none⟩) hbl).trans z
                replace y := (hbw.cell (p := ⟨b2, off2 + k, none⟩) hbl2).trans y
                have hzb : b < wr.heap.size := by have := hbw.size; omega
                have hzb2 : b2 < wr.heap.size := by have := hbw.size; omega
                have i0 : (0 : Int) ≤ (k : Int) := by omega
                have i1 : (k : Int) < (ls.length : Int) := by omega
                have i2 : (k : Int) < (ls2.length : Int) := by omega
                have cL := fun (g : Grow wr) => diff_Legs A' A2' C' C2' xs ys g.world ((hel.below hbw).below g.below) ((hel2.below hbw).below g.below) (HF.out.2.2 k xs hg) (HG.out.2.2 k ys hg2)
                have cE := fun (g : Grow wr) => slices_legs A' A2' C' C2' xs ys g.world ((hel.below hbw).below g.below) ((hel2.below hbw).below g.below) (HF.out.2.2 k xs hg) (HG.out.2.2 k ys hg2)
                generalize legsB xs ys = q at *
                have CL := Lib.hid cL
                have CE := Lib.hid cE
                clear cL cE hce hce2 hel hel2 hg hg2
                cases q
                all_goals
                  go_wp2_with fail
                  refine wp_region_grow (by kernel_rfl) (by kernel_rfl) ?_
                  repeat (go_big_quiet_step ((first | (go_at_call 7; with_reducible exact grow_of (CL.out _)) | (go_at_call 8; with_reducible exact grow_of (CE.out _)))))
                  refine wpQuiet_nil ?_
                  intro w6 hb6
                  go_wp2
                  go_roundw
                  case rel => exact ⟨k + 1, by omega, by omega, by go_num, hb.trans (hb6.mono hb.size)⟩
                  case measure => simp [intOf]; omega
              · have hB6 := hbw
                clear hb HB5
                have cS := fun (g : Grow wr) => CS.out g.world (hbw.trans (g.below.mono hbw.size)) HF.out HG.out
                have cR := fun (g : Grow wr) => CR.out g.world (hbw.trans (g.below.mono hbw.size)) HF.out HG.out
                have cS2 := fun (g : Grow wr) => CS2.out g.world (hbw.trans (g.below.mono hbw.size)) HF.out
                have DS := Lib.hid cS
                have DR := Lib.hid cR
                have DS2 := Lib.hid cS2
                have HB6 := Lib.hid hbw
                clear cS cR cS2 hbw hB6
                cases r <;> cases qb <;>
                 (go_wp2_with fail
                  refine wp_region_grow (by kernel_rfl) (by kernel_rfl) ?_
                  repeat (go_big_quiet_step ((first | (go_at_call 9; with_reducible exact grow_of (DS.out _)) | (go_at_call 10; with_reducible exact grow_of (DR.out _)) | (go_at_call 9; with_reducible exact grow_of (DS2.out _)) | (go_at_call 11; with_reducible exact grow_of (alive38 _)))))
                  refine wpQuiet_nil ?_
                  intro w7 hb7
                  go_wp2
                  go_ret
                  exact ⟨rfl, HB6.out.trans (hb7.mono HB6.out.size)⟩)
          · clear hm hm2
            rw [show (((j + 1 : Nat) : Int) - 1) = (j : Int) by omega] at hrest
            obtain ⟨rfl, rfl, rfl, _⟩ := hrest
            have sI := scan_stepI (p := partsB ts ts2) (n := n) (j := j) (by omega)
            have sB := scan_stepB (p := partsB ts ts2) (n := n) (j := j) (by omega)
            have i0 : (0 : Int) ≤ (j : Int) := by omega
            rcases Nat.lt_or_ge j ts.length with hjx | hjx
            rotate_left
            · have d1 : decide ((ts.length : Int) ≤ (j : Int)) = true := decide_eq_true (by omega)
              have d2 : decide (ts.length ≤ j) = true := decide_eq_true hjx
              rw [if_pos (P1.out j (by omega) (.inl hjx))] at sI sB
              have SI := Lib.hid sI
              have SB := Lib.hid sB
              clear sI sB
              go_wp2_with fail
              go_quiet (fail)
              go_wp2
              go_roundw
              case rel => exact ⟨j, by omega, rfl, by rw [SI.out], by rw [SB.out], below_drewN hb _⟩
              case measure => first | (simp [intOf]; done) | (simp [intOf]; omega)
            · have d1 : decide ((ts.length : Int) ≤ (j : Int)) = false := decide_eq_false (by omega)
              have d2 : decide (ts.length ≤ j) = false := decide_eq_false (by omega)
              rcases Nat.lt_or_ge j ts2.length with hjy | hjy
              rotate_left
              · have d3 : decide ((ts2.length : Int) ≤ (j : Int)) = true := decide_eq_true (by omega)
                have d4 : decide (ts2.length ≤ j) = true := decide_eq_true hjy
                rw [if_pos (P1.out j (by omega) (.inr hjy))] at sI sB
                have SI := Lib.hid sI
                have SB := Lib.hid sB
                clear sI sB
                go_wp2_with fail
                go_quiet (fail)
                go_wp2
                go_roundw
                case rel => exact ⟨j, by omega, rfl, by rw [SI.out], by rw [SB.out], below_drewN hb _⟩
                case measure => first | (simp [intOf]; done) | (simp [intOf]; omega)
              · have d3 : decide ((ts2.length : Int) ≤ (j : Int)) = false := decide_eq_false (by omega)
                have d4 : decide (ts2.length ≤ j) = false := decide_eq_false (by omega)
                obtain ⟨b, off, rfl, hbl, hce⟩ := HX1.out (by omega)
                obtain ⟨b2, off2, rfl, hbl2, hce2⟩ := HY1.out (by omega)
                obtain ⟨t, ht⟩ := at_some hjx
                obtain ⟨u, hu⟩ := at_some hjy
                have z := fun i v h => (hbw.cell (p := ⟨b, off + j * 7 + i, none⟩) hbl).trans (hce j t ht i v h)
                have y := fun i v h => (hbw.cell (p := ⟨b2, off2 + j * 7 + i, none⟩) hbl2).trans (hce2 j u hu i v h)
                have z0 := z 0 _ rfl
                have z1 := z 1 _ rfl
                have z2 := z 2 _ rfl
                have z3 := z 3 _ rfl
                have z4 := z 4 _ rfl
                have z5 := z 5 _ rfl
                have z6 := z 6 _ rfl
                have y0 := y 0 _ rfl
                have y1 := y 1 _ rfl
                have y2 := y 2 _ rfl
                have y3 := y 3 _ rfl
                have y4 := y 4 _ rfl
                have y5 := y 5 _ rfl
                have y6 := y 6 _ rfl
                simp only [Nat.add_zero] at z0 y0
                have i1 : (j : Int) < (ts.length : Int) := by omega
                have i2 : (j : Int) < (ts2.length : Int) := by omega
                have hq := fun w => run_trips t u w
                have hpk := parts_in ht hu
                cases hr : tripEq t u
                · rw [hr] at hq hpk
                  simp only [Bool.not_false, Bool.not_true] at hpk
                  rw [if_pos hpk] at sI sB
                  have SI := Lib.hid sI
                  have SB := Lib.hid sB
                  clear sI sB hce hce2 hr ht hu z y hpk
                  go_wp2_with fail
                  go_quiet (fail)
                  clear hq
                  go_wp2
                  go_roundw
                  case rel => exact ⟨j, by omega, rfl, by rw [SI.out], by rw [SB.out], below_drewN hb _⟩
                  case measure => first | (simp [intOf]; done) | (simp [intOf]; omega)
                · rw [hr] at hq hpk
                  simp only [Bool.not_false, Bool.not_true] at hpk
                  rw [if_neg (by rw [hpk]; decide)] at sI sB
                  have SI := Lib.hid sI
                  have SB := Lib.hid sB
                  clear sI sB hce hce2 hr ht hu z y hpk
                  go_wp2_with fail
                  go_quiet (fail)
                  clear hq
                  go_wp2
                  go_roundw
                  case rel => exact ⟨j, by omega, rfl, by rw [SI.out], by rw [SB.out], below_drewN hb _⟩
                  case measure => first | (simp [intOf]; done) | (simp [intOf]; omega)

theorem walkDiffLogs {H : Type} (W : World) (base : Nat) (enc : TypeId × Value → H) {v0 : Value} {d0 : DataW H} {p0 : List MemPlace} {v1 : Value} {d1 : DataW H} {p1 : List MemPlace}
    (h0 : DataW.Trod enc Try.prog W 0 (fun _ => true) true 25 v0 d0 p0) (h1 : DataW.Trod enc Try.prog W 0 (fun _ => true) true 25 v1 d1 p1)
    (o0 : Value.okWide Try.prog W .any base 25 v0) (o1 : Value.okWide Try.prog W .any base 25 v1) :
    Calls Try.prog 3 #[v0, v1] W fun e W' => e = .returned (.bool true) ∧ Below W.heap.size W W' := by
  obtain ⟨cs0, rfl, n0, hn0⟩ := arg_agg (.inl ⟨_, Try.underlying25⟩) o0 h0
  obtain ⟨s, tA, tC, lA, lC, rfl, _, r0, r1⟩ := read_Log hn0
  obtain ⟨cs1, rfl, n1, hn1⟩ := arg_agg (.inl ⟨_, Try.underlying25⟩) o1 h1
  obtain ⟨t, tA2, tC2, lA2, lC2, rfl, _, r2, r3⟩ := read_Log hn1
  exact logs_1 s t tA lA tA2 lA2 tC lC tC2 lC2 W (elems_of (ok := Trip.ok) (fun _ _ _ h => h.1) r0) (rows2_of (fun _ _ _ h => h.1) r1) (elems_of (ok := Trip.ok) (fun _ _ _ h => h.1) r2) (rows2_of (fun _ _ _ h => h.1) r3)
end Go.Proofs.Ytemakmnoncmpbaa
