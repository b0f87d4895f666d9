
/-
  The statement DiffChanged, walked.
-/
import Derived.Test.YtemakmnoncmpbaaChanged
import Derived.Test.YtemakmnoncmpbaaAlive38
import Derived.Test.YtemakmnoncmpbaaEqI
import Derived.Test.YtemakmnoncmpbaaArgA
set_option linter.unusedVariables false
set_option linter.unusedSimpArgs false
namespace Go.Proofs.Ytemakmnoncmpbaa
open Go Go.Joins Go.ChangeShapes Go.WideShapes Go.ChangeAt Go.RowKit Go.Deep

theorem isChg_no {xs : List Trip} {t : Trip} (h : lastN xs t.id xs.length = -1) : isChg (mapF xs xs.length) t = false := by
  unfold isChg
  rw [mapF_last, if_neg (by omega)]
  rfl
theorem isChg_at {xs : List Trip} {t u : Trip} {p : Nat} (h : lastN xs t.id xs.length = p) (hu : xs[p]? = some u) : isChg (mapF xs xs.length) t = !tripEq u t := by
  unfold isChg
  rw [mapF_last, if_pos (by omega), h, Int.toNat_natCast, tripAtD_of hu]
  simp [lookV]
set_option maxRecDepth 20000 in
set_option maxHeartbeats 8000000 in
theorem changed_1 (A B : Option Addr) (C D : Nat) (xs ys : List Trip) (w : World) (hx : Elems 7 Trip.cells w A xs) (hy : Elems 7 Trip.cells w B ys)
    (ox : ∀ (i : Nat) (t : Trip), xs[i]? = some t → t.ok) (oy : ∀ (i : Nat) (t : Trip), ys[i]? = some t → t.ok) :
    Calls Try.prog 4 #[.slice A xs.length C, .slice B ys.length D] w fun e w' => e = .returned (.bool true) ∧ Below w.heap.size w w' := by
  by_cases h1 : 100 < xs.length
  · go_enter Try.func4, Try.ntmps4
    go_wp2
    go_ret
    exact ⟨rfl, Below.refl _ _⟩
  · by_cases h2 : 100 < ys.length
    · go_enter Try.func4, Try.ntmps4
      go_wp2
      go_ret
      exact ⟨rfl, Below.refl _ _⟩
    · have cC := fun w' (hb : Below w.heap.size w w') => diff_Changed A B C D xs ys w' (hx.below hb) (hy.below hb) (by omega) (by omega) ox oy
      have hin : ∀ t, isChg (mapF xs xs.length) t = true → lastN xs t.id xs.length ≠ -1 := fun t h e => by rw [isChg_no e] at h; cases h
      have hno : ∀ t, lastN xs t.id xs.length = -1 → isChg (mapF xs xs.length) t = false := fun t h => isChg_no h
      have hat : ∀ t p u, lastN xs t.id xs.length = ((p : Nat) : Int) → xs[p]? = some u → isChg (mapF xs xs.length) t = !tripEq u t := fun t p u h hu => isChg_at h hu
      have hbd := fun id => lastN_bd xs id xs.length
      have hG := fun k => chgN_len (mapF xs xs.length) ys k
      have hs0 : ∀ k t, ys[k]? = some t → chgN (mapF xs xs.length) ys (k + 1) = if isChg (mapF xs xs.length) t = true then chgN (mapF xs xs.length) ys k ++ [t.id] else chgN (mapF xs xs.length) ys k := fun k t ht => by
        simp only [chgN]
        rw [tripAtD_of ht]
      generalize mapF xs xs.length = f at *
      have HX := Lib.hid hx
      have HY := Lib.hid hy
      have CC := Lib.hid cC
      have HNO := Lib.hid hno
      have HAT := Lib.hid hat
      have HBD := Lib.hid hbd
      have HG := Lib.hid hG
      have HS := Lib.hid hs0
      clear hx hy ox oy cC hin hno hat hbd hG hs0
      obtain ⟨i0, hi, hz0, hz1, hz2⟩ := info_parts info_int
      go_enter Try.func4, Try.ntmps4
      go_wp2
      go_loopw [6, 5, 7, 8] (fun i v _ _ wr => ∃ k : Nat, k ≤ ys.length ∧ i = .int .i64 k ∧ Hid (wr.ownsRow w.heap.size 3 1 v (chgN f ys k).length (intV (chgN f ys k))) ∧ Below w.heap.size w wr) (fun i _ _ _ _ => ys.length - (intOf i).toNat)
      case atStart => exact ⟨0, by omega, rfl, World.ownsRow_nil _ _ _ _, Below.refl _ _⟩
      case round =>
        obtain ⟨k, hk, rfl, hown, hb⟩ := hrel
        obtain ⟨w2, rfl⟩ : ∃ w2 : World, w2 = wr := ⟨_, rfl⟩
        by_cases hkl : k < ys.length
        rotate_left
        · obtain rfl : k = ys.length := by omega
          obtain ⟨A', C', rfl, hints⟩ := owns_ints hown.out
          have hg := HG.out ys.length
          generalize chgN f ys ys.length = r at *
          have HI := Lib.hid hints
          have HB := Lib.hid hb
          clear hints hb hown
          go_wp2_with (go_at_call 13; refine (CC.out _ HB.out).mono ?_)
          rintro e w3 ⟨A2, C2, rfl, hi2, hb3⟩
          have HB3 := Lib.hid (HB.out.trans (hb3.mono HB.out.size))
          have cE := equal_same A2 A' C2 C' r w3 hi2 (HI.out.below hb3) (by omega)
          have CE := Lib.hid cE
          clear hi2 hb3 cE
          go_wp2_with (go_at_call 12; refine CE.out.mono ?_)
          rintro e w4 ⟨rfl, q, rfl⟩
          go_wp2_with (go_at_call 11; refine (alive38 _).mono ?_)
          rintro e w5 ⟨rfl, hb5⟩
          have hb6 := (below_drewN HB3.out q).trans (hb5.mono (below_drewN HB3.out q).size)
          clear hb5
          go_wp2
          go_ret
          exact ⟨rfl, hb6⟩
        · obtain ⟨b, off, rfl, hbl, hce⟩ := HY.out (by omega)
          obtain ⟨t, ht⟩ := at_some hkl
          have z := fun i v h => (hb.cell (p := ⟨b, off + k * 7 + i, none⟩) hbl).trans (hce k t ht i v h)
          have HZ := Lib.hid z
          have HC := Lib.hid hb
          have hzz := hb.size
          have HT := Lib.hid ht
          have i0k : (0 : Int) ≤ (k : Int) := by omega
          have i1k : (k : Int) < (ys.length : Int) := by omega
          clear hce z hb ht
          have hzb : b < w2.heap.size := by omega
          go_wp2
          go_loopw [7, 8] (fun l j wr => ∃ m n : Nat, m ≤ xs.length ∧ j = .int .i64 m ∧ l = .int .i64 (lastN xs t.id m) ∧ wr = w2.drewN n) (fun _ j _ => xs.length - (intOf j).toNat)
          case atStart => exact ⟨0, 0, by omega, rfl, rfl, rfl⟩
          case round =>
            obtain ⟨m, n, hm, rfl, rfl, rfl⟩ := hrel
            have z0 := HZ.out 0 _ rfl
            have z1 := HZ.out 1 _ rfl
            have z2 := HZ.out 2 _ rfl
            have z3 := HZ.out 3 _ rfl
            have z4 := HZ.out 4 _ rfl
            have z5 := HZ.out 5 _ rfl
            have z6 := HZ.out 6 _ rfl
            simp only [Nat.add_zero] at z0
            by_cases hml : m < xs.length
            · obtain ⟨b2, off2, rfl, hbl2, hce2⟩ := HX.out (by omega)
              obtain ⟨u, hu⟩ := at_some hml
              have y0 := (HC.out.cell (p := ⟨b2, off2 + m * 7 + 0, none⟩) hbl2).trans (hce2 m u hu 0 _ rfl)
              simp only [Nat.add_zero] at y0
              have i0m : (0 : Int) ≤ (m : Int) := by omega
              have i1m : (m : Int) < (xs.length : Int) := by omega
              have hst : lastN xs t.id (m + 1) = if u.id = t.id then (m : Int) else lastN xs t.id m := by simp only [lastN]; rw [tripAtD_of hu]
              clear hce2 hu
              by_cases hid : u.id = t.id
              · rw [if_pos hid] at hst
                have e1 : (u.id == t.id) = true := by simpa using hid
                have HST := Lib.hid hst
                clear hst hid
                go_wp2_with fail
                go_quiet (fail)
                go_wp2
                go_roundw
                case rel => exact ⟨m + 1, _, by omega, by go_num, by rw [HST.out], rfl⟩
                case measure => simp [intOf]; omega
              · rw [if_neg hid] at hst
                have e1 : (u.id == t.id) = false := by simpa using hid
                have HST := Lib.hid hst
                clear hst hid
                go_wp2_with fail
                go_quiet (fail)
                go_wp2
                go_roundw
                case rel => exact ⟨m + 1, _, by omega, by go_num, by rw [HST.out], rfl⟩
                case measure => simp [intOf]; omega
            · obtain rfl : m = xs.length := by omega
              have hst := HS.out k t HT.out
              have hbd := HBD.out t.id
              have hno := HNO.out t
              have hat := HAT.out t
              have hlk := HG.out k
              generalize lastN xs t.id xs.length = l at hno hat hbd ⊢
              clear hm hml
              by_cases hneg : l = -1
              · subst hneg
                rw [hno rfl, if_neg (by decide)] at hst
                have HST := Lib.hid hst
                clear hst hno hat hbd
                go_wp2_with fail
                go_quiet (fail)
                go_wp2
                go_roundw
                case rel => exact ⟨k + 1, by omega, by go_num, by rw [HST.out]; exact ownsRow_below hown.out (below_drewN (Below.refl _ _) _), below_drewN HC.out _⟩
                case measure => simp [intOf]; omega
              · obtain ⟨p, rfl⟩ : ∃ p : Nat, l = p := ⟨l.toNat, by omega⟩
                have hpl : p < xs.length := by omega
                obtain ⟨b2, off2, rfl, hbl2, hce2⟩ := HX.out (by omega)
                obtain ⟨u, hu⟩ := at_some hpl
                have y := fun i v h => (HC.out.cell (p := ⟨b2, off2 + p * 7 + i, none⟩) hbl2).trans (hce2 p u hu i v h)
                have y0 := y 0 _ rfl
                have y1 := y 1 _ rfl
                have y2 := y 2 _ rfl
                have y3 := y 3 _ rfl
                have y4 := y 4 _ rfl
                have y5 := y 5 _ rfl
                have y6 := y 6 _ rfl
                simp only [Nat.add_zero] at y0
                rw [hat p u rfl hu] at hst
                have i0p : (0 : Int) ≤ (p : Int) := by omega
                have i1p : (p : Int) < (xs.length : Int) := by omega
                have hq := fun w => run_trips u t w
                have hzb2 : b2 < w2.heap.size := by omega
                cases hr : tripEq u t
                · rw [hr] at hq hst
                  rw [Bool.not_false, if_pos rfl] at hst
                  have HST := Lib.hid hst
                  clear hst hno hat hbd hce2 hr hu y hneg
                  go_wp2_with fail
                  go_quiet (fail)
                  clear hq y0 y1 y2 y3 y4 y5 y6
                  go_wp2_with (at_builtin; refine wpList_append_own _ rfl _ _ 37 rfl w.heap.size 3 i0 (.int .i64 0) 1 8 Try.underlying37 hi hz0 hz1 hz2 rfl (by decide) _ _ _ rfl ((ownsRow_below hown.out (below_drewN (Below.refl _ _) _)).alloc _) _ 1 1 [.int .i64 t.id] rfl rfl ?c1 ?c2 ?c3 ?c4 ?c5 ?_)
                  case c1 => exact cell_at (by simp) _ _
                  case c2 => intro u hu; simp at hu; subst hu; rfl
                  case c3 => unfold maxLen; omega
                  case c4 => omega
                  case c5 => simp; omega
                  intro v' w4 hown' hgrow _
                  have hb4 : Below w.heap.size w w4 := ((below_drewN HC.out _).alloc (by simp; omega) _).grown hgrow (by simp; omega) (fun k hk => (hown.out.lt k hk).1)
                  have hown2 : Hid (w4.ownsRow w.heap.size 3 1 v' (chgN f ys (k + 1)).length (intV (chgN f ys (k + 1)))) := by
                    rw [HST.out, intV_snoc, List.length_append]
                    exact hown'
                  clear hgrow hown'
                  go_wp2
                  go_roundw
                  case rel => exact ⟨k + 1, by omega, by go_num, hown2, hb4⟩
                  case measure => simp [intOf]; omega
                · rw [hr] at hq hst
                  rw [Bool.not_true, if_neg (by decide)] at hst
                  have HST := Lib.hid hst
                  clear hst hno hat hbd hce2 hr hu y hneg
                  go_wp2_with fail
                  go_quiet (fail)
                  clear hq
                  go_wp2
                  go_roundw
                  case rel => exact ⟨k + 1, by omega, by go_num, by rw [HST.out]; exact ownsRow_below hown.out (below_drewN (Below.refl _ _) _), below_drewN HC.out _⟩
                  case measure => simp [intOf]; omega
theorem walkDiffChanged {H : Type} (W : World) (base : Nat) (enc : TypeId × Value → H) {v0 : Value} {d0 : DataW H} {p0 : List MemPlace} {v1 : Value} {d1 : DataW H} {p1 : List MemPlace}
    (h0 : DataW.Trod enc Try.prog W 0 (fun _ => true) true 22 v0 d0 p0) (h1 : DataW.Trod enc Try.prog W 0 (fun _ => true) true 22 v1 d1 p1)
    (o0 : Value.okWide Try.prog W .any base 22 v0) (o1 : Value.okWide Try.prog W .any base 22 v1) :
    Calls Try.prog 4 #[v0, v1] W fun e W' => e = .returned (.bool true) ∧ Below W.heap.size W W' := by
  obtain ⟨n, hn⟩ := arg_slice Try.underlying22 o0 h0
  obtain ⟨xs, hxs⟩ := read_slice (size := 7) Try.underlying22 (by kernel_rfl) (by decide) (fun _ _ _ h => read_Trip h) hn
  obtain ⟨A, C, rfl, _, _⟩ := slice_len hxs
  obtain ⟨n, hn⟩ := arg_slice Try.underlying22 o1 h1
  obtain ⟨ys, hys⟩ := read_slice (size := 7) Try.underlying22 (by kernel_rfl) (by decide) (fun _ _ _ h => read_Trip h) hn
  obtain ⟨B, D, rfl, _, _⟩ := slice_len hys
  exact changed_1 A B C D xs ys W (elems_of (ok := Trip.ok) (fun _ _ _ h => h.1) hxs) (elems_of (ok := Trip.ok) (fun _ _ _ h => h.1) hys) (oks_of (fun _ _ _ h => h.2) hxs) (oks_of (fun _ _ _ h => h.2) hys)
end Go.Proofs.Ytemakmnoncmpbaa
