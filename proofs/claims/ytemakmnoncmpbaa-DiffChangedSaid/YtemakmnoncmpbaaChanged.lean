
/-
  Which trips have become others: diff.Changed. Conditions: at most 100 trips each, whose numbers fit.
-/
import Derived.Test.YtemakmnoncmpbaaMapT
import Derived.Test.YtemakmnoncmpbaaOwnI
import Derived.Test.YtemakmnoncmpbaaSeq
set_option linter.unusedVariables false
set_option linter.unusedSimpArgs false
namespace Go.Proofs.Ytemakmnoncmpbaa
open Go Go.Joins Go.ChangeShapes Go.WideShapes Go.ChangeAt Go.RowKit Go.Deep

theorem cell_at {W : World} {n : Nat} (h : W.heap.size = n) (x : Value) (t : TypeId) : ∀ j u, [x][j]? = some u → (W.alloc (.cells #[x] t)).cell? ((⟨n, 0, none⟩ : Addr).add j) = some u := by
  subst h
  exact cell_one _ _ _
def RetChg (r : List Int) (w : World) (e : Ending) (w' : World) : Prop := ∃ A C, e = .returned (.slice A r.length C) ∧ Ints w' A r ∧ Below w.heap.size w w'
set_option maxRecDepth 20000 in
set_option maxHeartbeats 4000000 in
theorem diff_Changed (A B : Option Addr) (C D : Nat) (xs ys : List Trip) (w : World) (hx : Elems 7 Trip.cells w A xs) (hy : Elems 7 Trip.cells w B ys) (hl : xs.length ≤ 100) (hl2 : ys.length ≤ 100)
    (ox : ∀ (i : Nat) (t : Trip), xs[i]? = some t → t.ok) (oy : ∀ (i : Nat) (t : Trip), ys[i]? = some t → t.ok) :
    Calls Try.prog 13 #[.slice A xs.length C, .slice B ys.length D] w (RetChg (chgN (mapF xs xs.length) ys ys.length) w) := by
  have HX := Lib.hid hx
  have HY := Lib.hid hy
  have OX := Lib.hid ox
  have OY := Lib.hid oy
  clear hx hy ox oy
  have hmm := @run_makeMap Try.prog
  go_enter Try.func13, Try.ntmps13
  go_wp2
  clear hmm
  have hm0 := mapIs_made w
  have hb0 := Joins.below_alloc1 w (.map #[] 0)
  generalize w.alloc (.map #[] 0) = w1 at *
  go_loopw [16, 7] (fun i _ wr => ∃ k : Nat, k ≤ xs.length ∧ i = .int .i64 k ∧ Hid (MapIs wr w.heap.size k (mapF xs k)) ∧ Below w.heap.size w wr) (fun i _ _ => xs.length - (intOf i).toNat)
  case atStart => exact ⟨0, by omega, rfl, hm0, hb0⟩
  case round =>
    obtain ⟨k, hk, rfl, hown, hb⟩ := hrel
    by_cases hkl : k < xs.length
    · obtain ⟨b, off, rfl, hbl, hce⟩ := HX.out (by omega)
      obtain ⟨t, ht⟩ := at_some hkl
      have z := fun i v h => (hb.cell (p := ⟨b, off + k * 7 + i, none⟩) hbl).trans (hce k t ht i v h)
      have z0 := z 0 _ rfl
      have z1 := z 1 _ rfl
      have z2 := z 2 _ rfl
      have z3 := z 3 _ rfl
      have z4 := z 4 _ rfl
      have z5 := z 5 _ rfl
      have z6 := z 6 _ rfl
      simp only [Nat.add_zero] at z0
      have hid := (OX.out k t ht).1
      have hst : mapF xs (k + 1) = putF (mapF xs k) t.id t := by simp only [mapF]; rw [tripAtD_of ht]
      have HST := Lib.hid hst
      have HB := Lib.hid hb
      have hzz := hb.size
      clear hce ht z hst hb
      go_wp2_with (at_mapUpdate; refine wpList_put_trip rfl _ _ _ rfl w.heap.size k (mapF xs k) rfl (hown.out.alloc _) (by unfold maxLen; omega) t.id t rfl rfl hid ?_)
      intro w3 hown3 hgr
      have hb3 := below_grown (below_of_alloc HB.out _) hgr (Nat.le_refl _)
      rw [← HST.out] at hown3
      have H3 := Lib.hid hown3
      clear hgr hown3
      go_wp2
      go_roundw
      case rel => exact ⟨k + 1, by omega, by go_num, H3, hb3⟩
      case measure => simp [intOf]; omega
    · obtain rfl : k = xs.length := by omega
      have HB := Lib.hid hb
      have hzz := hb.size
      obtain ⟨w2, rfl⟩ : ∃ w2 : World, w2 = wr := ⟨_, rfl⟩
      clear hb hkl hk hm0 hb0
      have hbm := hown.out.lt
      generalize mapF xs xs.length = f at *
      have HM := Lib.hid hown
      clear hown
      obtain ⟨i0, hi, hz0, hz1, hz2⟩ := info_parts info_int
      go_wp2_with (with_reducible refine hold_loop ?_)
      unfold Hold
      go_loopw [27, 8, 10, 11, 12] (fun i v _ _ _ wr => ∃ k : Nat, k ≤ ys.length ∧ i = .int .i64 k ∧ Hid (wr.ownsRow w2.heap.size 3 1 v (chgN f ys k).length (intV (chgN f ys k))) ∧ Below w2.heap.size w2 wr) (fun i _ _ _ _ _ => ys.length - (intOf i).toNat)
      case atStart => exact ⟨0, by omega, rfl, World.ownsRow_nil _ _ _ _, Below.refl _ _⟩
      case round =>
        obtain ⟨k, hk, rfl, hown, hb⟩ := hrel
        have hbw : Below w.heap.size w wr := HB.out.trans (hb.mono HB.out.size)
        by_cases hkl : k < ys.length
        · obtain ⟨b, off, rfl, hbl, hce⟩ := HY.out (by omega)
          obtain ⟨t, ht⟩ := at_some hkl
          have z := fun i v h => (hbw.cell (p := ⟨b, off + k * 7 + i, none⟩) hbl).trans (hce k t ht i v h)
          have z0 := z 0 _ rfl
          have z1 := z 1 _ rfl
          have z2 := z 2 _ rfl
          have z3 := z 3 _ rfl
          have z4 := z 4 _ rfl
          have z5 := z 5 _ rfl
          have z6 := z 6 _ rfl
          simp only [Nat.add_zero] at z0
          have hid := (OY.out k t ht).1
          have hm3 : MapIs wr w.heap.size xs.length f := HM.out.out.below hb hbm
          have hst : chgN f ys (k + 1) = if isChg f t = true then chgN f ys k ++ [t.id] else chgN f ys k := by simp only [chgN]; rw [tripAtD_of ht]
          have hln := chgN_len f ys k
          have HC := Lib.hid hb
          have hz3 := hb.size
          clear hce ht z hb hbw
          obtain ⟨u, hu⟩ : ∃ u, lookV (f t.id) = u := ⟨_, rfl⟩
          unfold isChg at hst
          cases hq : (f t.id).isSome
          · rw [hq, Bool.false_and, if_neg (by decide)] at hst
            have HST := Lib.hid hst
            have HU := Lib.hid hu
            have HQ := Lib.hid hq
            have HM3 := Lib.hid (hm3.alloc (.cells t.cells.toArray 28))
            clear hst hu hq hm3
            go_wp2_with (at_lookup; refine wpList_look_trip rfl _ _ rfl w.heap.size xs.length f rfl HM3.out t.id rfl hid u false HU.out HQ.out ?_)
            go_wp2
            go_roundw
            case rel => exact ⟨k + 1, by omega, by go_num, by rw [HST.out]; exact ownsRow_below hown.out (((Below.refl _ _).alloc (Nat.le_refl _) _).alloc (by simp) _), (HC.out.alloc hz3 _).alloc (by simp; omega) _⟩
            case measure => simp [intOf]; omega
          · rw [hq, Bool.true_and, hu] at hst
            have hqq := fun w => run_trips u t w
            cases hr : tripEq u t
            · rw [hr, if_pos (by decide)] at hst
              rw [hr] at hqq
              have HST := Lib.hid hst
              have HU := Lib.hid hu
              have HQ := Lib.hid hq
              have HM3 := Lib.hid (hm3.alloc (.cells t.cells.toArray 28))
              clear hst hu hq hm3 hr
              have hbx : Below wr.heap.size wr ((wr.alloc (.cells t.cells.toArray 28)).alloc (.cells u.cells.toArray 28)) := ((Below.refl _ _).alloc (Nat.le_refl _) _).alloc (by simp) _
              have HO := Lib.hid (ownsRow_below hown.out hbx)
              have HC2 := Lib.hid ((HC.out.alloc hz3 (.cells t.cells.toArray 28)).alloc (by simp; omega) (.cells u.cells.toArray 28))
              clear hown hbx
              go_wp2_with (first | (at_lookup; refine wpList_look_trip rfl _ _ rfl w.heap.size xs.length f rfl HM3.out t.id rfl hid u true HU.out HQ.out ?_) | (at_builtin; refine wpList_append_own _ rfl _ _ 37 rfl w2.heap.size 3 i0 (.int .i64 0) 1 8 Try.underlying37 hi hz0 hz1 hz2 rfl (by decide) _ _ _ rfl (HO.out.alloc _) _ 1 1 [.int .i64 t.id] rfl rfl ?c1 ?c2 ?c3 ?c4 ?c5 ?_))
              case c1 => exact cell_at (by simp) _ _
              case c2 => intro u hu; simp at hu; subst hu; rfl
              case c3 => unfold maxLen; omega
              case c4 => omega
              case c5 => simp; omega
              intro v' w4 hown' hgrow _
              have hb4 : Below w2.heap.size w2 w4 := (HC2.out.alloc (by simp; omega) _).grown hgrow (by simp; omega) (fun k hk => (HO.out.lt k hk).1)
              have hown2 : Hid (w4.ownsRow w2.heap.size 3 1 v' (chgN f ys (k + 1)).length (intV (chgN f ys (k + 1)))) := by
                rw [HST.out, intV_snoc, List.length_append]
                exact hown'
              clear hgrow hown' hqq
              go_wp2
              go_roundw
              case rel => exact ⟨k + 1, by omega, by go_num, hown2, hb4⟩
              case measure => simp [intOf]; omega
            · rw [hr, if_neg (by decide)] at hst
              rw [hr] at hqq
              have HST := Lib.hid hst
              have HU := Lib.hid hu
              have HQ := Lib.hid hq
              have HM3 := Lib.hid (hm3.alloc (.cells t.cells.toArray 28))
              clear hst hu hq hm3 hr
              go_wp2_with (at_lookup; refine wpList_look_trip rfl _ _ rfl w.heap.size xs.length f rfl HM3.out t.id rfl hid u true HU.out HQ.out ?_)
              go_wp2
              clear hqq
              go_roundw
              case rel => exact ⟨k + 1, by omega, by go_num, by rw [HST.out]; exact ownsRow_below hown.out (((Below.refl _ _).alloc (Nat.le_refl _) _).alloc (by simp) _), (HC.out.alloc hz3 _).alloc (by simp; omega) _⟩
              case measure => simp [intOf]; omega
        · obtain rfl : k = ys.length := by omega
          obtain ⟨A', C', rfl, hints⟩ := owns_ints hown.out
          have HI := Lib.hid hints
          have HBW := Lib.hid hbw
          clear hints hbw hown
          go_wp2
          go_ret
          exact ⟨A', C', rfl, HI.out, HBW.out⟩
end Go.Proofs.Ytemakmnoncmpbaa
