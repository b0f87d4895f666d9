
/-
  The statement FigureWays, walked.
-/
import Derived.Test.YtnegolclofgboaaInterval
import Derived.Test.YtnegolclofgboaaBusy
import Derived.Test.YtnegolclofgboaaApp
import Derived.Test.YtnegolclofgboaaEqI
import Derived.Test.YtnegolclofgboaaFigT
import Derived.Test.YtnegolclofgboaaArgI
import Derived.Test.YtnegolclofgboaaArgA
import Derived.Test.YtnegolclofgboaaShelf
set_option linter.unusedVariables false
set_option linter.unusedSimpArgs false
namespace Go.Proofs.Ytnegolclofgboaa
open Go.Joins Go.ChangeShapes Go.WideShapes Go.ChangeAt Go.RowKit Go.Deep

theorem opensAll_at {xss : List (List Leg)} {pos h : Int} {k : Nat} {xs : List Leg} (hx : xss[k]? = some xs) : (opensAll xss pos h)[k]? = some (opensOf xs pos h) := by simp [opensAll, hx]
theorem opensOf_len {ls : List Leg} {pos h : Int} (hf : fineRow h ls) : (opensOf ls pos h).length ≤ 300 := Nat.le_trans (opensN_len _ _ _ _) (doorsOf_bd hf).1
theorem sane_all {Z : List Int} (h : ∀ x ∈ Z, -2147483648 ≤ x ∧ x ≤ 2147483648) : sane Z Z.length := by
  have : ∀ n, n ≤ Z.length → sane (Z.take n) n := fun n => by
    induction n with
    | zero => intro _; exact sane_nil 0
    | succ n ih =>
      intro hn
      rw [List.take_succ_eq_append_getElem (by omega)]
      exact sane_snoc (ih (by omega)) (h _ (List.getElem_mem _))
  have h1 := this Z.length (Nat.le_refl _)
  rwa [List.take_length] at h1
theorem opens_sane {xss : List (List Leg)} {h : Int} (hf : fine35 xss h) : sane (opensAll xss 0 h).flatten (opensAll xss 0 h).flatten.length := by
  refine sane_all (fun x hx => ?_)
  obtain ⟨ys, hys, hxy⟩ := List.mem_flatten.1 hx
  obtain ⟨xs, hxs, rfl⟩ := List.mem_map.1 hys
  obtain ⟨i, hi⟩ := List.getElem?_of_mem hxs
  obtain ⟨d1, d2⟩ := doorsOf_bd (hf.2.2 i xs hi)
  obtain ⟨s, hs, rfl⟩ := opensN_mem xs 0 (doorsOf xs h) (doorsOf xs h).length (Nat.le_refl _) x hxy
  have := d2 s hs
  omega
theorem farOf_bd {ls : List Leg} {h : Int} (hf : fineRow h ls) : 0 ≤ farOf ls h ∧ farOf ls h ≤ 5153960755200 := by
  unfold farOf
  by_cases h0 : ls.length = 0
  · rw [if_pos h0]; simp [farN]
  · rw [if_neg h0]
    have h3 := hf.2.2 (by omega)
    have h4 := (hf.2.1.2.1 0 (by omega)).2.2
    have := farN_bd (P := wayP ls) (t0 := (legAt ls 0).tick) (h - (legAt ls 0).tick).toNat (fun k hk => wayP_wide hf.2.1 (by omega)) _ (Nat.le_refl _)
    omega
set_option maxRecDepth 20000 in
set_option maxHeartbeats 16000000 in
theorem ways35_1 (lA : Option Addr) (lC : Nat) (xss : List (List Leg)) (pos h : Int) (w : World) (hx : LegRows w lA xss) (hh : -9223372036854775808 ≤ h ∧ h ≤ 9223372036854775807) :
    Calls Try.prog 4 #[.slice lA xss.length lC, .int .i64 pos, .int .i64 h] w fun e w' => e = .returned (.bool true) ∧ Below w.heap.size w w' := by
  have cG := great35 lA lC xss h w hx hh
  have cP := fun w' (hb : Below w.heap.size w w') hf => fig_Openings lA lC xss pos h w' (hx.below hb) hf
  have cI := fun w' (hb : Below w.heap.size w w') hf => fig_Interval lA lC xss h w' (hx.below hb) hf
  have cB := fun w' (hb : Below w.heap.size w w') hf => fig_Busy lA lC xss h w' (hx.below hb) hf
  have cF := fun w' (hb : Below w.heap.size w w') hf => fig_Far lA lC xss h w' (hx.below hb) hf
  have CG := Lib.hid cG
  have CP := Lib.hid cP
  have CI := Lib.hid cI
  have CB := Lib.hid cB
  have CF := Lib.hid cF
  have HX := Lib.hid hx
  have hlq : (opensAll xss pos h).length = xss.length := by simp [opensAll]
  clear cG cP cI cB cF hx hh
  go_enter Try.func4, Try.ntmps4
  go_wp2_with fail
  refine CG.out.mono ?_
  rintro e w1 ⟨g, rfl, hg, hb1⟩
  cases g
  rotate_left
  · clear hg
    go_wp2
    go_ret
    exact ⟨rfl, hb1⟩
  have HF := Lib.hid (hg rfl)
  have hl10 : xss.length ≤ 10 := HF.out.1
  obtain ⟨hh0, hh1⟩ := HF.out.2.1
  have HB1 := Lib.hid hb1
  clear hg hb1 CG
  go_wp2_with fail
  refine (CP.out _ HB1.out HF.out).mono ?_
  rintro e w2 ⟨gA, gC, rfl, hir, hb2⟩
  have HB2 := Lib.hid (HB1.out.trans (hb2.mono HB1.out.size))
  have HGOT := Lib.hid hir
  rw [hlq]
  have HLQ := Lib.hid hlq
  clear hb2 hir HB1 CP hlq
  go_wp2_with (with_reducible refine hold_loop ?_)
  unfold Hold
  have hs2 := HB2.out.size
  go_loopw [11, 8, 9, 10] (fun i v n f wr => ∃ k : Nat, k ≤ xss.length ∧ i = .int .i64 k ∧ Hid (wr.ownsRow w2.heap.size 3 1 v (flatK (opensAll xss 0 h) k).length (intV (flatK (opensAll xss 0 h) k))) ∧ n = .int .i64 (busyN xss h k) ∧ f = .int .i64 (farsN xss h k) ∧ Hid ((flatK (opensAll xss 0 h) k).length ≤ k * 300) ∧ Hid (0 ≤ busyN xss h k ∧ busyN xss h k ≤ (k : Int) * 90000) ∧ Hid (0 ≤ farsN xss h k ∧ farsN xss h k ≤ (k : Int) * 5153960755200) ∧ Below w2.heap.size w2 wr) (fun i _ _ _ _ => xss.length - (intOf i).toNat)
  case atStart => exact ⟨0, by omega, rfl, World.ownsRow_nil _ _ _ _, rfl, rfl, by show _ ≤ _; simp [flatK], by show _ ∧ _; simp [busyN], by show _ ∧ _; simp [farsN], Below.refl _ _⟩
  case round =>
    obtain ⟨k, hk, rfl, hown, rfl, rfl, hfl, hbn, hfn, hb⟩ := hrel
    have hbw := HB2.out.trans (hb.mono HB2.out.size)
    by_cases hkl : k < xss.length
    · obtain ⟨b, off, rfl, hbl, hce⟩ := HX.out (by omega)
      obtain ⟨xs, hgx⟩ := at_some hkl
      obtain ⟨A', C', z, hel⟩ := hce k xs hgx
      replace z := (hbw.cell (p := ⟨b, off + k, none⟩) hbl).trans z
      have hfr := HF.out.2.2 k xs hgx
      obtain ⟨b2, off2, rfl, hbl2, hce2⟩ := HGOT.out (by rw [HLQ.out]; omega)
      obtain ⟨A2, C2, y, hin⟩ := hce2 k _ (opensAll_at hgx)
      replace y := (hb.cell (p := ⟨b2, off2 + k, none⟩) hbl2).trans y
      have hzb : b < wr.heap.size := by have := hbw.size; omega
      have hzb2 : b2 < wr.heap.size := by have := hb.size; omega
      have i0 : (0 : Int) ≤ (k : Int) := by omega
      have i1 : (k : Int) < (xss.length : Int) := by omega
      have hcP := opensOf_len (pos := pos) hfr
      have hc0 := opensOf_len (pos := 0) hfr
      have cO := fun w' (hb' : Below w.heap.size w w') => law35_openings A' C' xs pos h w' (hel.below hb') hfr ⟨hh0, hh1⟩
      have cZ := fun w' (hb' : Below w.heap.size w w') => law35_openings A' C' xs 0 h w' (hel.below hb') hfr ⟨hh0, hh1⟩
      have cD := fun w' (hb' : Below w.heap.size w w') => ref25_Doors A' C' xs h w' (hel.below hb') hfr ⟨hh0, hh1⟩
      have cW := fun w' (hb' : Below w.heap.size w w') => ref25_Far A' C' xs h w' (hel.below hb') hfr ⟨hh0, hh1⟩
      have hing := fun w' (hb' : Below wr.heap.size wr w') => (hin.below hb).below hb'
      have CO := Lib.hid cO
      have CZ := Lib.hid cZ
      have CD := Lib.hid cD
      have CW := Lib.hid cW
      have HG := Lib.hid hing
      have HFR := Lib.hid hfr
      have HGX := Lib.hid hgx
      clear cO cZ cD cW hing hce hce2 hin hel hfr hgx
      have hfk : flatK (opensAll xss 0 h) (k + 1) = flatK (opensAll xss 0 h) k ++ opensOf xs 0 h := flatK_succ (opensAll_at HGX.out)
      have hbk : busyN xss h (k + 1) = busyN xss h k + longN (doorsOf xs h) (doorsOf xs h).length := by
        simp only [busyN]
        rw [show xss.getD k [] = xs by simp [List.getD, HGX.out]]
      have hff : farsN xss h (k + 1) = farsN xss h k + farOf xs h := by
        simp only [farsN]
        rw [show xss.getD k [] = xs by simp [List.getD, HGX.out]]
      have HFK := Lib.hid hfk
      have HBK := Lib.hid hbk
      have HFF := Lib.hid hff
      clear hfk hbk hff
      generalize hOO : opensOf xs pos h = O at *
      clear hOO
      go_wp2_with fail
      go_region_held3 (fun w' => w'.cell? ⟨b, off + k, none⟩ = some (.slice A' xs.length C') ∧ w'.cell? ⟨b2, off2 + k, none⟩ = some (.slice A2 O.length C2)) (first | exact ⟨z, y⟩ | exact ⟨keepc hb3 z, keepc hb3 y⟩ | assumption) (first | (go_at_call 17; refine (CO.out _ ?hbq).mono ?_; (first | exact hbw.drew | exact hbw); rintro e w3 ⟨v, rfl, ho3, hb3'⟩; have hb3 : Below wr.heap.size wr w3 := (Below.refl wr.heap.size wr).drew.trans hb3'; clear hb3'; obtain ⟨A3, C3, rfl, hi3⟩ := owns_ints ho3) | (go_at_call 16; refine (equal_same A2 A3 C2 C3 O w3 (HG.out _ ?hbr) hi3 (by omega)).mono ?_; (first | assumption | exact hb3); rintro e w4 ⟨rfl, q, rfl⟩))
      have hba : Below wr.heap.size wr (w3.drewN q) := below_drewN hb3 q
      generalize w3.drewN q = wa at *
      have z2 := keepc hba z
      have HBA := Lib.hid (hb.trans (hba.mono hb.size))
      have HBAW := Lib.hid (hbw.trans (hba.mono hbw.size))
      have HO := Lib.hid (ownsRow_below hown.out hba)
      have hzb5 : b < w2.heap.size := by omega
      clear hb3 hi3 ho3 y hba hb hbw hown z hcP hzb hzb2
      go_wp2_with fail
      refine (CZ.out _ HBAW.out).mono ?_
      rintro e w4 ⟨v, rfl, ho4, hb4⟩
      have h44 := ownsRow_below HO.out hb4
      have hb44 := HBA.out.trans (hb4.mono HBA.out.size)
      have H44 := Lib.hid h44
      have HB44 := Lib.hid hb44
      have HO4 := Lib.hid ho4
      have z4 := keepc hb4 z2
      have hfl2 := hfl.out
      have hkb : k * 300 ≤ 3000 := by omega
      clear h44 hb44 ho4 hb4 z2
      go_wp2_with (at_builtin; refine app_row w2.heap.size _ _ v _ _ (opensOf xs 0 h) rfl rfl H44.out HO4.out (by omega) HB44.out.size ?_)
      intro v' w5 hown5 hb5
      have hb55 := HB44.out.trans hb5
      have z5 : w5.cell? ⟨b, off + k, none⟩ = some (.slice A' xs.length C') := (hb5.cell (p := ⟨b, off + k, none⟩) hzb5).trans z4
      have hb5w : Below w.heap.size w w5 := HB2.out.trans (hb55.mono HB2.out.size)
      have hown6 : Hid (w5.ownsRow w2.heap.size 3 1 v' (flatK (opensAll xss 0 h) (k + 1)).length (intV (flatK (opensAll xss 0 h) (k + 1)))) := by
        rw [HFK.out, List.length_append, show intV (flatK (opensAll xss 0 h) k ++ opensOf xs 0 h) = intV (flatK (opensAll xss 0 h) k) ++ intV (opensOf xs 0 h) by simp [intV]]
        exact hown5
      have hfl6 : Hid ((flatK (opensAll xss 0 h) (k + 1)).length ≤ (k + 1) * 300) := by
        show _ ≤ _
        rw [HFK.out, List.length_append]; omega
      have HB55 := Lib.hid hb55
      have HB5W := Lib.hid hb5w
      clear hown5 hb5 hb55 hb5w z4 hfl2 hkb
      go_wp2_with fail
      refine (CW.out _ HB5W.out).mono ?_
      rintro e w6 ⟨rfl, hb6⟩
      have hfar0 := hfn.out
      have hfar1 := farOf_bd HFR.out
      have hff1 := HFF.out
      have hfr6 : Hid (0 ≤ farsN xss h (k + 1) ∧ farsN xss h (k + 1) ≤ ((k + 1 : Nat) : Int) * 5153960755200) := by show _ ∧ _; omega
      have z6 := keepc hb6 z5
      have HB6 := Lib.hid (HB55.out.trans (hb6.mono HB55.out.size))
      have HB6W := Lib.hid (HB5W.out.trans (hb6.mono HB5W.out.size))
      have HO6 := Lib.hid (ownsRow_below hown6.out hb6)
      have hkb2 : (k : Int) * 5153960755200 ≤ 10 * 5153960755200 := by omega
      clear hff1 hb6 z5 hown6
      go_wp2_with fail
      refine (CD.out _ HB6W.out).mono ?_
      rintro e w7 ⟨A7, C7, rfl, hel7, hb7⟩
      obtain ⟨d1, d2⟩ := doorsOf_bd HFR.out
      have hlb := longN_bd (D := doorsOf xs h) (fun s hs => by have := d2 s hs; omega)
      have hsl : ∀ j s, (doorsOf xs h)[j]? = some s → longN (doorsOf xs h) (j + 1) = longN (doorsOf xs h) j + (s.hi - s.lo) := fun j s hs => by
        simp only [longN]; rw [spnAt_of hs]
      have hz0 : longN (doorsOf xs h) 0 = 0 := rfl
      have hbk := HBK.out
      generalize longN (doorsOf xs h) = G at *
      generalize doorsOf xs h = D at *
      have HBK2 := Lib.hid hbk
      have D2 := Lib.hid d2
      have HLB := Lib.hid hlb
      have HSL := Lib.hid hsl
      have HZ0 := Lib.hid hz0
      have HE := Lib.hid hel7
      have HB7 := Lib.hid (HB6.out.trans (hb7.mono HB6.out.size))
      have HO7 := Lib.hid (ownsRow_below HO6.out hb7)
      have hbn0 := hbn.out
      clear d2 hlb hsl hz0 hbk hel7 hb7 z6
      go_wp2_with (with_reducible refine hold_loop ?_)
      unfold Hold
      go_loopw [13, 9] (fun i n wr => ∃ j q : Nat, j ≤ D.length ∧ i = .int .i64 j ∧ n = .int .i64 (busyN xss h k + G j) ∧ wr = w7.drewN q) (fun i _ _ => D.length - (intOf i).toNat)
      case atStart => exact ⟨0, 0, by omega, rfl, val_int (by have := HZ0.out; omega), rfl⟩
      case round =>
        obtain ⟨j, q, hj, rfl, rfl, rfl⟩ := hrel
        have hl0 := HLB.out j hj
        have hjb : (j : Int) * 300 ≤ 300 * 300 := by omega
        have hkb3 : (k : Int) * 90000 ≤ 900000 := by omega
        by_cases hjl : j < D.length
        · obtain ⟨b8, off8, rfl, hbl8, hce8⟩ := HE.out (by omega)
          obtain ⟨s, hs⟩ := at_some hjl
          have y0 := hce8 j s hs 0 _ rfl
          have y1 := hce8 j s hs 1 _ rfl
          simp only [Nat.add_zero] at y0
          have hsb := D2.out s (List.mem_of_getElem? hs)
          have hst := HSL.out j s hs
          obtain ⟨lo, hi'⟩ := s
          simp only at y0 y1 hsb hst
          have HS := Lib.hid hst
          have i0j : (0 : Int) ≤ (j : Int) := by omega
          have i1j : (j : Int) < (D.length : Int) := by omega
          have e1 : IntKind.i64.wrap (hi' - lo) = hi' - lo := wrap_in (by omega)
          have e2 : IntKind.i64.wrap (busyN xss h k + G j + (hi' - lo)) = busyN xss h k + G j + (hi' - lo) := wrap_in (by omega)
          clear hce8 hs hst
          go_wp2_with fail
          go_quiet (fail)
          clear e1 e2
          go_wp2
          go_roundw
          case rel => exact ⟨j + 1, _, by omega, by go_num, val_int (by have := HS.out; omega), rfl⟩
          case measure => simp [intOf]; omega
        · obtain rfl : j = D.length := by omega
          have hbk := HBK2.out
          have hbn6 : Hid (0 ≤ busyN xss h (k + 1) ∧ busyN xss h (k + 1) ≤ ((k + 1 : Nat) : Int) * 90000) := by show _ ∧ _; omega
          clear hbk
          go_wp2
          go_roundw
          case rel => exact ⟨k + 1, by omega, by go_num, ownsRow_below HO7.out (below_drewN (Below.refl _ _) _), val_int HBK2.out.symm, val_int HFF.out.symm, hfl6, hbn6, hfr6, below_drewN HB7.out _⟩
          case measure => simp [intOf]; omega
    · obtain rfl : k = xss.length := by omega
      have hYl : (opensAll xss 0 h).length = xss.length := by simp [opensAll]
      have hZe : flatK (opensAll xss 0 h) xss.length = (opensAll xss 0 h).flatten := by rw [← hYl, flatK_all]
      have cI := CI.out wr hbw HF.out
      have hsane := opens_sane HF.out
      rw [hZe] at hown hfl
      generalize (opensAll xss 0 h).flatten = Z at *
      obtain ⟨A', C', rfl, hints⟩ := owns_ints hown.out
      have CI2 := Lib.hid cI
      have HI := Lib.hid hints
      have HBW := Lib.hid hbw
      have hz10 : xss.length * 300 ≤ 3000 := by omega
      have hz3 : Z.length ≤ 3000 := Nat.le_trans hfl.out hz10
      clear cI hints hbw hown hYl hZe hfl CI hb
      go_wp2_with fail
      refine CI2.out.mono ?_
      rintro e w6 ⟨rfl, hb6⟩
      have hb6w := HBW.out.trans (hb6.mono HBW.out.size)
      have hi6 := HI.out.below hb6
      by_cases h2 : Z.length < 2
      · have h1 : ivF Z = ⟨0, 0, 0⟩ := by unfold ivF; rw [if_pos h2]
        have h3 : ivB Z = false := by unfold ivB; exact decide_eq_false (by omega)
        rw [h1, h3]
        have HB6 := Lib.hid hb6w
        clear h1 h3 hb6 hb6w CI2 hi6
        go_wp2_with fail
        have k0 := Blk.new w6 51 #[.int .i64 0, .int .i64 0, .int .i64 0]
        have hB7 := HB6.out.alloc HB6.out.size (.cells #[.int .i64 0, .int .i64 0, .int .i64 0] 51)
        generalize w6.alloc (.cells #[.int .i64 0, .int .i64 0, .int .i64 0] 51) = w7 at *
        refine (CB.out _ hB7 HF.out).mono ?_
        rintro e w8 ⟨rfl, hb8⟩
        have hB8 := hB7.trans (hb8.mono hB7.size)
        replace k0 := Blk.below k0 hb8 k0.lt
        clear hb8 hB7
        go_wp2_with fail
        refine (CF.out _ hB8 HF.out).mono ?_
        rintro e w9 ⟨rfl, hb9⟩
        have hB9 := hB8.trans (hb9.mono hB8.size)
        replace k0 := Blk.below k0 hb9 k0.lt
        clear hb9 hB8
        (try clear k0c k0f k0z); have k0c := fun i => Blk.cell k0 i; have k0f := fun i => Blk.free k0 i; have k0z := Blk.lt k0
        have e1 : (busyN xss h xss.length != busyN xss h xss.length) = false := by simp
        have e2 : (farsN xss h xss.length != farsN xss h xss.length) = false := by simp
        go_wp2_with (go_at_call 23; refine (alive35 _).mono ?_; rintro e w' ⟨rfl, hb10⟩)
        go_ret
        exact ⟨rfl, hB9.trans (hb10.mono hB9.size)⟩
      · have h1 : ivF Z = ofF (Lib.maxOf Z - Lib.minOf Z) ((Z.length : Int) - 1) := by unfold ivF; rw [if_neg h2]
        have h3 : ivB Z = true := by unfold ivB; exact decide_eq_true (by omega)
        rw [h1, h3]
        obtain ⟨_, ⟨s1, s2⟩, ⟨s3, s4⟩, s5⟩ := hsane
        have hof : ofF (Lib.maxOf Z - Lib.minOf Z) ((Z.length : Int) - 1) = ⟨(Lib.maxOf Z - Lib.minOf Z) / ((Z.length : Int) - 1), (Lib.maxOf Z - Lib.minOf Z) % ((Z.length : Int) - 1), (Z.length : Int) - 1⟩ := by unfold ofF; rw [if_neg (by omega)]
        rw [hof]
        obtain ⟨b, off, rfl, hbl, hce⟩ := hi6 (by omega)
        have hmax := fun (w' : World) (hc : ∀ j, j < Z.length → w'.cell? ⟨b, off + j, none⟩ = some (.int .i64 (Z.getD j 0))) => Try.slices_Max_int b off Z.length C' Z w' (by omega) (Nat.le_refl _) (by omega) hc
        have hmin := fun (w' : World) (hc : ∀ j, j < Z.length → w'.cell? ⟨b, off + j, none⟩ = some (.int .i64 (Z.getD j 0))) => Try.slices_Min_int b off Z.length C' Z w' (by omega) (Nat.le_refl _) (by omega) hc
        rw [List.take_length] at hmax hmin
        have HMAX := Lib.hid hmax
        have HMIN := Lib.hid hmin
        have HCE := Lib.hid hce
        have HB6 := Lib.hid hb6w
        clear h1 h3 hb6 hb6w CI2 hi6 hof hmax hmin hce
        generalize Lib.maxOf Z = mx at *
        generalize Lib.minOf Z = mn at *
        have q1 := quo_in (x := mx - mn) (m := (Z.length : Int) - 1) (by omega) (by omega)
        have r1 := Int.emod_nonneg (mx - mn) (show (Z.length : Int) - 1 ≠ 0 by omega)
        have r2 := Int.emod_lt_of_pos (mx - mn) (show (0 : Int) < (Z.length : Int) - 1 by omega)
        have t1 : (mx - mn).tdiv ((Z.length : Int) - 1) = (mx - mn) / ((Z.length : Int) - 1) := Int.tdiv_eq_ediv_of_nonneg (by omega)
        have t2 : (mx - mn).tmod ((Z.length : Int) - 1) = (mx - mn) % ((Z.length : Int) - 1) := Int.tmod_eq_emod_of_nonneg (by omega)
        generalize hqq : (mx - mn) / ((Z.length : Int) - 1) = qq at *
        generalize hrr : (mx - mn) % ((Z.length : Int) - 1) = rr at *
        have T1 := Lib.hid t1
        have T2 := Lib.hid t2
        have HQQ := Lib.hid hqq
        have HRR := Lib.hid hrr
        clear t1 t2 hqq hrr
        go_wp2_with fail
        have k0 := Blk.new w6 51 #[.int .i64 qq, .int .i64 rr, .int .i64 ((Z.length : Int) - 1)]
        have hB66 := Joins.below_alloc1 w6 (.cells #[.int .i64 qq, .int .i64 rr, .int .i64 ((Z.length : Int) - 1)] 51)
        generalize w6.alloc (.cells #[.int .i64 qq, .int .i64 rr, .int .i64 ((Z.length : Int) - 1)] 51) = w7 at *
        have hB7 := HB6.out.trans (hB66.mono HB6.out.size)
        refine (CB.out _ hB7 HF.out).mono ?_
        rintro e w8 ⟨rfl, hb8⟩
        have hB8 := hB7.trans (hb8.mono hB7.size)
        have hB68 := hB66.trans (hb8.mono hB66.size)
        replace k0 := Blk.below k0 hb8 k0.lt
        clear hb8 hB7 hB66
        go_wp2_with fail
        refine (CF.out _ hB8 HF.out).mono ?_
        rintro e w9 ⟨rfl, hb9⟩
        have hB9 := hB8.trans (hb9.mono hB8.size)
        have hB69 := hB68.trans (hb9.mono hB68.size)
        replace k0 := Blk.below k0 hb9 k0.lt
        clear hb9 hB8 hB68
        (try clear k0c k0f k0z); have k0c := fun i => Blk.cell k0 i; have k0f := fun i => Blk.free k0 i; have k0z := Blk.lt k0
        have hc9 : ∀ j, j < Z.length → w9.cell? ⟨b, off + j, none⟩ = some (.int .i64 (Z.getD j 0)) := fun j hj => (hB69.cell (p := ⟨b, off + j, none⟩) hbl).trans (HCE.out j hj)
        have cMx := HMAX.out w9 hc9
        have cMn := HMIN.out w9 hc9
        have CMX := Lib.hid cMx
        have CMN := Lib.hid cMn
        have HB9 := Lib.hid hB9
        clear hc9 cMx cMn hB9 hB69
        have e1 : (busyN xss h xss.length != busyN xss h xss.length) = false := by simp
        have e2 : (farsN xss h xss.length != farsN xss h xss.length) = false := by simp
        go_wp2_with fail
        refine CMX.out.mono ?_
        rintro e w' ⟨rfl, rfl⟩
        go_wp2_with fail
        refine CMN.out.mono ?_
        rintro e w' ⟨rfl, rfl⟩
        go_wp2_with fail
        have t1 := T1.out
        have t2 := T2.out
        have t3 : IntKind.i64.wrap ((Z.length : Int) - 1) = (Z.length : Int) - 1 := wrap_in (by omega)
        have t4 : (((Z.length : Int) - 1) == 0) = false := beq_eq_false_iff_ne.2 (by omega)
        have t5 : IntKind.i64.wrap qq = qq := wrap_in (by omega)
        have t6 : IntKind.i64.wrap rr = rr := wrap_in (by omega)
        have t7 := HQQ.out
        have t8 := HRR.out
        refine wp_region_grow (by kernel_rfl) (by kernel_rfl) ?_
        repeat (go_big_quiet_step ((first | (go_at_call 23; with_reducible exact grow_of (alive35 _)))))
        refine wpQuiet_nil ?_
        intro w10 hb10
        clear t1 t2 t3 t4 t5 t6 t7 t8
        go_wp2
        go_ret
        exact ⟨rfl, HB9.out.trans (hb10.mono HB9.out.size)⟩
set_option maxRecDepth 100000 in
theorem walkFigureWays {H : Type} (W : World) (base : Nat) (enc : TypeId × Value → H) {v0 : Value} {d0 : DataW H} {p0 : List MemPlace} {v1 : Value} {d1 : DataW H} {p1 : List MemPlace} {v2 : Value} {d2 : DataW H} {p2 : List MemPlace}
    (h0 : DataW.Trod enc Try.prog W 0 (fun _ => true) true 22 v0 d0 p0) (h1 : DataW.Trod enc Try.prog W 0 (fun _ => true) true 3 v1 d1 p1) (h2 : DataW.Trod enc Try.prog W 0 (fun _ => true) true 3 v2 d2 p2)
    (o0 : Value.okWide Try.prog W .any base 22 v0) (o1 : Value.okWide Try.prog W .any base 3 v1) (o2 : Value.okWide Try.prog W .any base 3 v2) :
    Calls Try.prog 4 #[v0, v1, v2] W fun e W' => e = .returned (.bool true) ∧ Below W.heap.size W W' := by
  obtain ⟨n, hn⟩ := arg_slice Try.underlying22 o0 h0
  obtain ⟨xss, hxs⟩ := read_slice (size := 1) Try.underlying22 (by kernel_rfl) (by decide) (fun _ _ _ h => read_slice (size := 4) Try.underlying44 (by kernel_rfl) (by decide) (fun _ _ _ h => read_Leg h) h) hn
  obtain ⟨lA, lC, rfl, _, _⟩ := slice_len hxs
  obtain ⟨pos, rfl, _, _⟩ := arg_int o1 h1
  obtain ⟨h, rfl, c1, c2⟩ := arg_int o2 h2
  exact ways35_1 lA lC xss pos h W (rows2_of (fun _ _ _ h => h.1) hxs) ⟨c1, c2⟩
end Go.Proofs.Ytnegolclofgboaa
