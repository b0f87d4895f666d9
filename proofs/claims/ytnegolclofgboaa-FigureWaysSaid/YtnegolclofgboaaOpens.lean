
/-
  The ticks at which doors open at a place, by cars: figure.Openings. Condition: the legs are within bounds.
-/
import Derived.Test.YtnegolclofgboaaOpen
set_option linter.unusedVariables false
set_option linter.unusedSimpArgs false
namespace Go.Proofs.Ytnegolclofgboaa
open Go.Joins Go.ChangeShapes Go.WideShapes Go.ChangeAt Go.RowKit Go.Deep

/-- A slice of slices of numbers. -/
def IntRows (w : World) (A : Option Addr) (yss : List (List Int)) : Prop :=
  0 < yss.length → ∃ b off, A = some ⟨b, off, none⟩ ∧ b < w.heap.size ∧ ∀ (i : Nat) (ys : List Int), yss[i]? = some ys → ∃ A' C', w.cell? ⟨b, off + i, none⟩ = some (.slice A' ys.length C') ∧ Ints w A' ys
theorem IntRows.below {w w' : World} {A : Option Addr} {yss : List (List Int)} (h : IntRows w A yss) (hb : Below w.heap.size w w') : IntRows w' A yss := fun hp => by
  obtain ⟨b, off, hA, hlt, hc⟩ := h hp
  refine ⟨b, off, hA, Nat.lt_of_lt_of_le hlt hb.size, fun i ys hi => ?_⟩
  obtain ⟨A', C', h1, h2⟩ := hc i ys hi
  exact ⟨A', C', (hb.cell (p := ⟨b, off + i, none⟩) hlt).trans h1, h2.below hb⟩
/-- Numbers that lie elsewhere than a block. -/
def IntsN (w : World) (ob : Option Nat) (A : Option Addr) (ys : List Int) : Prop :=
  0 < ys.length → ∃ b off, A = some ⟨b, off, none⟩ ∧ b < w.heap.size ∧ some b ≠ ob ∧ ∀ i, i < ys.length → w.cell? ⟨b, off + i, none⟩ = some (.int .i64 (at0 ys i))
theorem IntsN.ints {w : World} {ob : Option Nat} {A : Option Addr} {ys : List Int} (h : IntsN w ob A ys) : Ints w A ys := fun hp => by
  obtain ⟨b, off, h1, h2, _, h4⟩ := h hp
  exact ⟨b, off, h1, h2, h4⟩
theorem IntsN.below {w w' : World} {ob : Option Nat} {A : Option Addr} {ys : List Int} (h : IntsN w ob A ys) (hb : Below w.heap.size w w') : IntsN w' ob A ys := fun hp => by
  obtain ⟨b, off, h1, h2, h3, h4⟩ := h hp
  exact ⟨b, off, h1, Nat.lt_of_lt_of_le h2 hb.size, h3, fun i hi => (hb.cell (p := ⟨b, off + i, none⟩) h2).trans (h4 i hi)⟩
theorem IntsN.step {w w' : World} {ob : Option Nat} {A : Option Addr} {ys : List Int} {g : Nat} (h : IntsN w ob A ys) (hg : w.grownBy w' ob) (hat : ob = some g ∨ g = w.heap.size) : IntsN w' (some g) A ys := fun hp => by
  obtain ⟨b, off, h1, h2, h3, h4⟩ := h hp
  refine ⟨b, off, h1, Nat.lt_of_lt_of_le h2 hg.size, ?_, fun i hi => ?_⟩
  · rcases hat with e | e
    · rw [← e]; exact h3
    · intro e2; injection e2 with e2; omega
  · rw [← h4 i hi]
    exact World.grownBy.cell_far hg ⟨b, off + i, none⟩ h2 h3
theorem intsN_of_own {w : World} {base : Nat} {e : TypeId} {v : Value} {ys : List Int} {ob : Option Nat} (h : w.ownsRow base e 1 v ys.length (intV ys)) (hob : ∀ k, ob = some k → k < base) : ∃ A C, v = .slice A ys.length C ∧ IntsN w ob A ys := by
  rcases h.2 with ⟨rfl, hz⟩ | ⟨g, cap, cur, rfl, hbg, hg, hnc, hcm, hcs, htake⟩
  · exact ⟨none, 0, by rw [hz], fun hp => by omega⟩
  · refine ⟨_, _, rfl, fun hp => ⟨g, 0, rfl, (Array.getElem?_eq_some_iff.1 hg).1, fun e => by have := hob g e.symm; omega, fun i hi => ?_⟩⟩
    have := h.cellAt i (by omega)
    rw [Nat.zero_add, this]
    simp [intV, at0, List.getD, List.getElem?_eq_getElem hi]
theorem info_row : (Try.prog.info? 41).map (fun i => (i.zero, i.size, i.bytes)) = some (some (.slice none 0 0), 1, 24) := by kernel_rfl
def opensAll (xss : List (List Leg)) (pos h : Int) : List (List Int) := xss.map fun xs => opensOf xs pos h
/-- The rows of the first k cars. -/
def rowsK (xss : List (List Leg)) (pos h : Int) (k : Nat) (vs : List Value) (w : World) (ob : Option Nat) : Prop := vs.length = k ∧ ∀ (i : Nat) (xs : List Leg), i < k → xss[i]? = some xs → ∃ A' C', vs[i]? = some (.slice A' (opensOf xs pos h).length C') ∧ IntsN w ob A' (opensOf xs pos h)
theorem rowsK.below {xss : List (List Leg)} {pos h : Int} {k : Nat} {vs : List Value} {w w' : World} {ob : Option Nat} (hr : rowsK xss pos h k vs w ob) (hb : Below w.heap.size w w') : rowsK xss pos h k vs w' ob := ⟨hr.1, fun i xs hi hx => by
  obtain ⟨A, C, h1, h2⟩ := hr.2 i xs hi hx
  exact ⟨A, C, h1, h2.below hb⟩⟩
theorem rowsK.step {xss : List (List Leg)} {pos h : Int} {k g : Nat} {vs : List Value} {w w' : World} {ob : Option Nat} (hr : rowsK xss pos h k vs w ob) (hg : w.grownBy w' ob) (hat : ob = some g ∨ g = w.heap.size) : rowsK xss pos h k vs w' (some g) := ⟨hr.1, fun i xs hi hx => by
  obtain ⟨A, C, h1, h2⟩ := hr.2 i xs hi hx
  exact ⟨A, C, h1, h2.step hg hat⟩⟩
def RetIntRows (yss : List (List Int)) (w : World) (e : Ending) (w' : World) : Prop := ∃ A C, e = .returned (.slice A yss.length C) ∧ IntRows w' A yss ∧ Below w.heap.size w w'
theorem rows_out {xss : List (List Leg)} {pos h : Int} {vs : List Value} {w : World} {base : Nat} {e : TypeId} {v : Value} (hown : w.ownsRow base e 1 v vs.length vs) (hr : rowsK xss pos h xss.length vs w v.ownBlock) : ∃ A C, v = .slice A (opensAll xss pos h).length C ∧ IntRows w A (opensAll xss pos h) := by
  have hl : (opensAll xss pos h).length = vs.length := by simp [opensAll, hr.1]
  rw [hl]
  rcases hown.2 with ⟨rfl, hz⟩ | ⟨g, cap, cur, rfl, hbg, hg, hnc, hcm, hcs, htake⟩
  · exact ⟨none, 0, by rw [hz], fun hp => by omega⟩
  · refine ⟨_, _, rfl, fun hp => ⟨g, 0, rfl, (Array.getElem?_eq_some_iff.1 hg).1, fun i ys hi => ?_⟩⟩
    have hil : i < xss.length := by have := (List.getElem?_eq_some_iff.1 hi).1; simp [opensAll] at this; exact this
    obtain ⟨xs, hxs⟩ := at_some hil
    have hys : ys = opensOf xs pos h := by simp [opensAll, hxs] at hi; exact hi.symm
    obtain ⟨A', C', h1, h2⟩ := hr.2 i xs hil hxs
    rw [hys]
    refine ⟨A', C', ?_, h2.ints⟩
    have := hown.cellAt i (by have := hr.1; omega)
    rw [Nat.zero_add, this, h1]

set_option maxRecDepth 20000 in
set_option maxHeartbeats 16000000 in
theorem fig_Openings (lA : Option Addr) (lC : Nat) (xss : List (List Leg)) (pos h : Int) (w : World) (hx : LegRows w lA xss) (hf : fine35 xss h) :
    Calls Try.prog 15 #[.slice lA xss.length lC, .int .i64 pos, .int .i64 h] w (RetIntRows (opensAll xss pos h) w) := by
  obtain ⟨i0, hi, hz0, hz1, hz2⟩ := info_parts info_int
  obtain ⟨i1, hj, hy0, hy1, hy2⟩ := info_parts info_row
  obtain ⟨hl, hh, hr⟩ := hf
  have HX := Lib.hid hx
  have HR := Lib.hid hr
  clear hx hr
  go_enter Try.func15, Try.ntmps15
  go_wp2
  go_loopw [18, 7] (fun i v wr => ∃ (k : Nat) (vs : List Value), k ≤ xss.length ∧ i = .int .i64 k ∧ Hid (wr.ownsRow w.heap.size 41 1 v vs.length vs) ∧ Hid (rowsK xss pos h k vs wr v.ownBlock) ∧ Below w.heap.size w wr) (fun i _ _ => xss.length - (intOf i).toNat)
  case atStart => exact ⟨0, [], by omega, rfl, World.ownsRow_nil _ _ _ _, ⟨rfl, fun i xs hi => by omega⟩, Below.refl _ _⟩
  case round =>
    obtain ⟨k, vs, hk, rfl, hown, hrow, hb⟩ := hrel
    by_cases hkl : k < xss.length
    rotate_left
    · obtain rfl : k = xss.length := by omega
      obtain ⟨A', C', rfl, hir⟩ := rows_out hown.out hrow.out
      have HI := Lib.hid hir
      have HB := Lib.hid hb
      clear hir hown hrow hb
      go_wp2
      go_ret
      exact ⟨A', C', rfl, HI.out, HB.out⟩
    · obtain ⟨b, off, rfl, hbl, hce⟩ := HX.out (by omega)
      obtain ⟨xs, hgx⟩ := at_some hkl
      obtain ⟨A', C', z, hel⟩ := hce k xs hgx
      replace z := (hb.cell (p := ⟨b, off + k, none⟩) hbl).trans z
      have hfr := HR.out k xs hgx
      have cD := track_Doors A' C' xs h wr (hel.below hb) hfr.2.1 hh
      have cA := fun (t : Int) (w' : World) (hb' : Below wr.heap.size wr w') (ht : -2147483648 ≤ t ∧ t ≤ 2147483648) => track_At A' C' xs t w' ((hel.below hb).below hb') hfr.2.1 ht
      obtain ⟨d1, d2⟩ := doorsOf_bd hfr
      have hwB : ∀ s ∈ doorsOf xs h, wayB xs s.lo = true := fun s hs => wayB_in (d2 s hs).1 (d2 s hs).2.1
      have hlen := fun k => opensN_len xs pos (doorsOf xs h) k
      have hst : ∀ k s, (doorsOf xs h)[k]? = some s → opensN xs pos (doorsOf xs h) (k + 1) = if wayP xs s.lo = pos then opensN xs pos (doorsOf xs h) k ++ [s.lo] else opensN xs pos (doorsOf xs h) k := fun k s hs => by
        simp only [opensN]
        rw [spnAt_of hs]
      have hz : opensN xs pos (doorsOf xs h) 0 = [] := rfl
      have hoo : opensOf xs pos h = opensN xs pos (doorsOf xs h) (doorsOf xs h).length := rfl
      have hnext : ∀ (w' : World) (ob : Option Nat) (A C), IntsN w' ob A (opensOf xs pos h) → rowsK xss pos h k vs w' ob → rowsK xss pos h (k + 1) (vs ++ [.slice A (opensOf xs pos h).length C]) w' ob := fun w' ob A C hi hr => by
        refine ⟨by simp [hr.1], fun i xs' hi' hx' => ?_⟩
        by_cases e : i < k
        · obtain ⟨A2, C2, h1, h2⟩ := hr.2 i xs' e hx'
          exact ⟨A2, C2, by rw [List.getElem?_append_left (by have := hr.1; omega)]; exact h1, h2⟩
        · obtain rfl : i = k := by omega
          rw [hgx] at hx'
          injection hx' with hx'
          subst hx'
          exact ⟨A, C, by rw [List.getElem?_append_right (by have := hr.1; omega)]; simp [hr.1], hi⟩
      rw [hoo] at hnext
      generalize opensN xs pos (doorsOf xs h) = G at *
      generalize doorsOf xs h = D at *
      have CD := Lib.hid cD
      have CA := Lib.hid cA
      have D2 := Lib.hid d2
      have HLEN := Lib.hid hlen
      have HST := Lib.hid hst
      have HZ := Lib.hid hz
      have HNX := Lib.hid hnext
      have HWB := Lib.hid hwB
      have HB := Lib.hid hb
      have hsr := hb.size
      clear cD cA d2 hlen hst hz hnext hwB hb hce hgx hel hfr hoo
      obtain ⟨wo, rfl⟩ : ∃ wo : World, wo = wr := ⟨_, rfl⟩
      go_wp2_with (go_at_call 38; refine CD.out.mono ?_)
      rintro e w2 ⟨A2, C2, rfl, hel2, hb2⟩
      have HE := Lib.hid hel2
      have HB2 := Lib.hid hb2
      have hs2 := hb2.size
      clear hel2 hb2 CD
      go_wp2_with (with_reducible refine hold_loop ?_)
      unfold Hold
      go_loopw [26, 10] (fun i v wr => ∃ j : Nat, j ≤ D.length ∧ i = .int .i64 j ∧ Hid (wr.ownsRow w2.heap.size 3 1 v (G j).length (intV (G j))) ∧ Below w2.heap.size w2 wr) (fun i _ _ => D.length - (intOf i).toNat)
      case atStart => exact ⟨0, by omega, rfl, by rw [HZ.out]; exact World.ownsRow_nil _ _ _ _, Below.refl _ _⟩
      case round =>
        obtain ⟨j, hjd, rfl, hown2, hb⟩ := hrel
        have hbo : Below wo.heap.size wo wr := HB2.out.trans (hb.mono HB2.out.size)
        by_cases hjl : j < D.length
        · obtain ⟨b2, off2, rfl, hbl2, hce2⟩ := (HE.out.below hb) (by omega)
          obtain ⟨s, hs⟩ := at_some hjl
          have y0 := hce2 j s hs 0 _ rfl
          have y1 := hce2 j s hs 1 _ rfl
          simp only [Nat.add_zero] at y0
          have hsb := D2.out s (List.mem_of_getElem? hs)
          have hwb := HWB.out s (List.mem_of_getElem? hs)
          have hst := HST.out j s hs
          have hlk := HLEN.out j
          obtain ⟨lo, hi'⟩ := s
          simp only at y0 y1 hsb hst hwb
          have hbx := hbo.alloc hbo.size (.cells #[.int .i64 lo, .int .i64 hi'] 49)
          have cA := CA.out lo _ hbx (by omega)
          rw [hwb] at cA
          generalize wayP xs lo = p at *
          generalize wayD xs lo = d at *
          have CA2 := Lib.hid cA
          have HB3 := Lib.hid (hb.alloc hb.size (.cells #[.int .i64 lo, .int .i64 hi'] 49))
          have ho3 := ownsRow_below hown2.out ((Below.refl _ _).alloc (Nat.le_refl _) (.cells #[.int .i64 lo, .int .i64 hi'] 49))
          have HO3 := Lib.hid ho3
          have hszr := hb.size
          clear cA hce2 hs hb hbo hbx hwb ho3
          by_cases hp : p = pos
          · rw [if_pos hp] at hst
            have e1 : (p == pos) = true := by simpa using hp
            have HS := Lib.hid hst
            clear hst hp
            go_wp2_with (first | (go_at_call 39; refine CA2.out.mono ?_; rintro e w3 ⟨rfl, nq, rfl⟩) | (at_builtin; refine wpList_append_own _ rfl _ _ 41 rfl w2.heap.size 3 i0 (.int .i64 0) 1 8 Try.underlying41 hi hz0 hz1 hz2 rfl (by decide) _ _ _ rfl ((ownsRow_below HO3.out (below_drewN (Below.refl _ _) _)).alloc _) _ 1 1 [.int .i64 lo] rfl rfl ?c1 ?c2 ?c3 ?c4 ?c5 ?_))
            try (case c1 => exact cell_at (by simp) _ _)
            case c2 => first | (intro u hu; simp at hu; subst hu; rfl) | rfl
            case c3 => unfold maxLen; omega
            case c4 => omega
            case c5 => simp; omega
            intro v' w4 hown' hgrow _
            have hb5 : Below w2.heap.size w2 w4 := ((below_drewN HB3.out nq).alloc (by simp; omega) _).grown hgrow (by simp; omega) (fun i hi => (HO3.out.lt i hi).1)
            have hown3 : Hid (w4.ownsRow w2.heap.size 3 1 v' (G (j + 1)).length (intV (G (j + 1)))) := by
              rw [HS.out, intV_snoc, List.length_append]
              exact hown'
            clear hgrow hown'
            go_wp2
            go_roundw
            case rel => exact ⟨j + 1, by omega, by go_num, hown3, hb5⟩
            case measure => simp [intOf]; omega
          · rw [if_neg hp] at hst
            have e1 : (p == pos) = false := by simpa using hp
            have HS := Lib.hid hst
            clear hst hp
            go_wp2_with (go_at_call 39; refine CA2.out.mono ?_; rintro e w3 ⟨rfl, nq, rfl⟩)
            go_roundw
            case rel => exact ⟨j + 1, by omega, by go_num, by rw [HS.out]; exact ownsRow_below HO3.out (below_drewN (Below.refl _ _) _), below_drewN HB3.out _⟩
            case measure => simp [intOf]; omega
        · obtain rfl : j = D.length := by omega
          have hbx := HB.out.trans (hbo.mono HB.out.size)
          have hownr := ownsRow_below hown.out hbo
          have hrowr := hrow.out.below hbo
          obtain ⟨A3, C3, rfl, hin⟩ := intsN_of_own (ob := _) hown2.out (fun i hi => Nat.lt_of_lt_of_le (hown.out.lt i hi).2 hs2)
          have hba := (Below.refl wr.heap.size wr).alloc (Nat.le_refl _) (.cells #[.slice A3 (G D.length).length C3] 41)
          have hrow2 := hrowr.below hba
          have hin2 := hin.below hba
          have hown5 := hownr.alloc (.cells #[.slice A3 (G D.length).length C3] 41)
          have hvl := hrow.out.1
          have HRW := Lib.hid hrow2
          have HIN := Lib.hid hin2
          have HO5 := Lib.hid hown5
          have HBX := Lib.hid (hbx.alloc hbx.size (.cells #[.slice A3 (G D.length).length C3] 41))
          have hvb : vs.length ≤ 10 := by omega
          have hszr := hbx.size
          clear hrow hown hown2 hownr hrowr hin hba hrow2 hin2 hown5 hbx hbo hb hvl
          go_wp2_with (at_builtin; refine wpList_append_lies _ rfl _ _ 39 rfl w.heap.size 41 i1 (.slice none 0 0) 1 24 Try.underlying39 hj hy0 hy1 hy2 rfl (by decide) _ _ _ rfl HO5.out _ 1 1 [.slice A3 (G D.length).length C3] rfl rfl ?c1 ?c2 (by decide) ?c3 ?c4 ?c5 (wr.heap.size + 1) ?c6 ?_)
          try (case c1 => exact cell_at (by simp) _ _)
          case c2 => first | (intro u hu; simp at hu; subst hu; rfl) | rfl
          case c3 => unfold maxLen; omega
          case c4 => omega
          case c5 => simp; omega
          try (case c6 => simp)
          intro g cap w4 hown4 hgrow hat hlt
          have hb5 : Below w.heap.size w w4 := HBX.out.grown hgrow (by simp; omega) (fun i hi => (HO5.out.lt i hi).1)
          have hat2 : _ ∨ g = (wr.alloc (.cells #[.slice A3 (G D.length).length C3] 41)).heap.size := hat.imp id (fun e => by rw [e]; simp)
          have hrk := HNX.out w4 (some g) A3 C3 (HIN.out.step hgrow hat2) (HRW.out.step hgrow hat2)
          have HRK := Lib.hid hrk
          have HO4 := Lib.hid hown4
          clear hgrow hat hat2 hrk hown4
          go_wp2
          go_roundw
          case rel => exact ⟨k + 1, vs ++ [.slice A3 (G D.length).length C3], by omega, by go_num, by rw [List.length_append]; exact HO4.out, HRK, hb5⟩
          case measure => simp [intOf]; omega
end Go.Proofs.Ytnegolclofgboaa
