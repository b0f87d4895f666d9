
/-
  For how long doors are open, how far all go: figure.Busy, figure.Far. Condition: the legs are within bounds.
-/
import Derived.Test.YtnegolclofgboaaOpen
set_option linter.unusedVariables false
set_option linter.unusedSimpArgs false
namespace Go.Proofs.Ytnegolclofgboaa
open Go.Joins Go.ChangeShapes Go.WideShapes Go.ChangeAt Go.RowKit Go.Deep

/-- How long the first k spans are. -/
def longN (D : List Spn) : Nat → Int
  | 0 => 0
  | k + 1 => longN D k + ((spnAt D k).hi - (spnAt D k).lo)
/-- Of the first k cars. -/
def busyN (xss : List (List Leg)) (h : Int) : Nat → Int
  | 0 => 0
  | k + 1 => busyN xss h k + longN (doorsOf (xss.getD k []) h) (doorsOf (xss.getD k []) h).length
def farsN (xss : List (List Leg)) (h : Int) : Nat → Int
  | 0 => 0
  | k + 1 => farsN xss h k + farOf (xss.getD k []) h
theorem longN_bd {D : List Spn} (h : ∀ s ∈ D, s.lo < s.hi ∧ s.hi ≤ s.lo + 300) (k : Nat) (hk : k ≤ D.length) : 0 ≤ longN D k ∧ longN D k ≤ (k : Int) * 300 := by
  induction k with
  | zero => simp [longN]
  | succ k ih =>
    have h1 := ih (by omega)
    obtain ⟨s, hs⟩ := at_some (show k < D.length by omega)
    have h2 := h s (List.mem_of_getElem? hs)
    simp only [longN]
    rw [spnAt_of hs]
    omega
set_option maxRecDepth 20000 in
set_option maxHeartbeats 8000000 in
theorem fig_Busy (lA : Option Addr) (lC : Nat) (xss : List (List Leg)) (h : Int) (w : World) (hx : LegRows w lA xss) (hf : fine35 xss h) :
    Calls Try.prog 21 #[.slice lA xss.length lC, .int .i64 h] w fun e w' => e = .returned (.int .i64 (busyN xss h xss.length)) ∧ Below w.heap.size w w' := by
  obtain ⟨hl, hh, hr⟩ := hf
  have HX := Lib.hid hx
  have HR := Lib.hid hr
  clear hx hr
  go_enter Try.func21, Try.ntmps21
  go_wp2
  go_loopw [12, 5] (fun i v wr => ∃ k : Nat, k ≤ xss.length ∧ i = .int .i64 k ∧ v = .int .i64 (busyN xss h k) ∧ (0 ≤ busyN xss h k ∧ busyN xss h k ≤ (k : Int) * 90000) ∧ Below w.heap.size w wr) (fun i _ _ => xss.length - (intOf i).toNat)
  case atStart => exact ⟨0, by omega, rfl, rfl, by simp [busyN], Below.refl _ _⟩
  case round =>
    obtain ⟨k, hk, rfl, rfl, ⟨g0, g1⟩, hb⟩ := hrel
    by_cases hkl : k < xss.length
    rotate_left
    · obtain rfl : k = xss.length := by omega
      go_wp2
      go_ret
      exact ⟨rfl, hb⟩
    · obtain ⟨b, off, rfl, hbl, hce⟩ := HX.out (by omega)
      obtain ⟨xs, hgx⟩ := at_some hkl
      obtain ⟨A', C', z, hel⟩ := hce k xs hgx
      replace z := (hb.cell (p := ⟨b, off + k, none⟩) hbl).trans z
      have hfr := HR.out k xs hgx
      have cD := track_Doors A' C' xs h wr (hel.below hb) hfr.2.1 hh
      obtain ⟨d1, d2⟩ := doorsOf_bd hfr
      have hlb := longN_bd (D := doorsOf xs h) (fun s hs => by have := d2 s hs; omega)
      have hst : busyN xss h (k + 1) = busyN xss h k + longN (doorsOf xs h) (doorsOf xs h).length := by
        simp only [busyN]
        rw [show xss.getD k [] = xs by simp [List.getD, hgx]]
      have hsl : ∀ j s, (doorsOf xs h)[j]? = some s → longN (doorsOf xs h) (j + 1) = longN (doorsOf xs h) j + (s.hi - s.lo) := fun j s hs => by
        simp only [longN]; rw [spnAt_of hs]
      have hz : longN (doorsOf xs h) 0 = 0 := rfl
      have hlast := hlb _ (Nat.le_refl _)
      generalize longN (doorsOf xs h) = G at *
      generalize doorsOf xs h = D at *
      have CD := Lib.hid cD
      have D2 := Lib.hid d2
      have HLB := Lib.hid hlb
      have HSL := Lib.hid hsl
      have HZ := Lib.hid hz
      have HB := Lib.hid hb
      have HST := Lib.hid hst
      clear cD d2 hlb hsl hz hb hce hgx hel hfr hst
      generalize busyN xss h k = B0 at *
      go_wp2_with (go_at_call 38; refine CD.out.mono ?_)
      rintro e w2 ⟨A2, C2, rfl, hel2, hb2⟩
      have HE := Lib.hid hel2
      have hb3 := HB.out.trans (hb2.mono HB.out.size)
      have HB3 := Lib.hid hb3
      clear hel2 hb2 hb3 CD
      go_wp2_with (with_reducible refine hold_loop ?_)
      unfold Hold
      go_loopw [20, 5] (fun i v wr => ∃ j : Nat, j ≤ D.length ∧ i = .int .i64 j ∧ v = .int .i64 (B0 + G j) ∧ Below w2.heap.size w2 wr) (fun i _ _ => D.length - (intOf i).toNat)
      case atStart => exact ⟨0, by omega, rfl, val_int (by have := HZ.out; omega), Below.refl _ _⟩
      case round =>
        obtain ⟨j, hjd, rfl, rfl, hb⟩ := hrel
        by_cases hjl : j < D.length
        · obtain ⟨b2, off2, rfl, hbl2, hce2⟩ := (HE.out.below hb) (by omega)
          obtain ⟨s, hs⟩ := at_some hjl
          have y0 := hce2 j s hs 0 _ rfl
          have y1 := hce2 j s hs 1 _ rfl
          simp only [Nat.add_zero] at y0
          have hsb := D2.out s (List.mem_of_getElem? hs)
          have hst := HSL.out j s hs
          have hl0 := HLB.out j hjd
          have hl1 := HLB.out (j + 1) hjl
          obtain ⟨lo, hi'⟩ := s
          simp only at y0 y1 hsb hst
          have HS := Lib.hid hst
          have HB4 := Lib.hid (hb.alloc hb.size (.cells #[.int .i64 lo, .int .i64 hi'] 49))
          have hjb : (j : Int) * 300 ≤ 300 * 300 := by omega
          clear hce2 hs hb hst hl1
          go_wp2
          go_roundw
          case rel => exact ⟨j + 1, by omega, by go_num, val_int (by have := HS.out; omega), HB4.out⟩
          case measure => simp [intOf]; omega
        · obtain rfl : j = D.length := by omega
          have hb4 := HB3.out.trans (hb.mono HB3.out.size)
          have hst := HST.out
          have hdb : (D.length : Int) * 300 ≤ 90000 := by omega
          have HS := Lib.hid hst
          have hbd : 0 ≤ busyN xss h (k + 1) ∧ busyN xss h (k + 1) ≤ ((k + 1 : Nat) : Int) * 90000 := by omega
          have HBD := Lib.hid hbd
          clear hst hbd hb
          go_wp2
          go_roundw
          case rel => exact ⟨k + 1, by omega, by go_num, val_int HS.out.symm, HBD.out, hb4⟩
          case measure => simp [intOf]; omega
set_option maxRecDepth 20000 in
set_option maxHeartbeats 8000000 in
theorem fig_Far (lA : Option Addr) (lC : Nat) (xss : List (List Leg)) (h : Int) (w : World) (hx : LegRows w lA xss) (hf : fine35 xss h) :
    Calls Try.prog 22 #[.slice lA xss.length lC, .int .i64 h] w fun e w' => e = .returned (.int .i64 (farsN xss h xss.length)) ∧ Below w.heap.size w w' := by
  obtain ⟨hl, hh, hr⟩ := hf
  have HX := Lib.hid hx
  have HR := Lib.hid hr
  clear hx hr
  go_enter Try.func22, Try.ntmps22
  go_wp2
  go_loopw [10, 5] (fun i v wr => ∃ k : Nat, k ≤ xss.length ∧ i = .int .i64 k ∧ v = .int .i64 (farsN xss h k) ∧ (0 ≤ farsN xss h k ∧ farsN xss h k ≤ (k : Int) * 549755813888) ∧ Below w.heap.size w wr) (fun i _ _ => xss.length - (intOf i).toNat)
  case atStart => exact ⟨0, by omega, rfl, rfl, by simp [farsN], Below.refl _ _⟩
  case round =>
    obtain ⟨k, hk, rfl, rfl, ⟨g0, g1⟩, hb⟩ := hrel
    by_cases hkl : k < xss.length
    rotate_left
    · obtain rfl : k = xss.length := by omega
      go_wp2
      go_ret
      exact ⟨rfl, hb⟩
    · obtain ⟨b, off, rfl, hbl, hce⟩ := HX.out (by omega)
      obtain ⟨xs, hgx⟩ := at_some hkl
      obtain ⟨A', C', z, hel⟩ := hce k xs hgx
      replace z := (hb.cell (p := ⟨b, off + k, none⟩) hbl).trans z
      have hfr := HR.out k xs hgx
      have cF := track_Far A' C' xs h wr (hel.below hb) hfr.2.1 hh
      have hst : farsN xss h (k + 1) = farsN xss h k + farOf xs h := by
        simp only [farsN]
        rw [show xss.getD k [] = xs by simp [List.getD, hgx]]
      have CF := Lib.hid cF
      have HST := Lib.hid hst
      have HB := Lib.hid hb
      clear cF hst hb hce hgx hel hfr
      generalize farOf xs h = F at *
      go_wp2_with (go_at_call 41; refine CF.out.mono ?_; rintro e w2 ⟨⟨rfl, f0, f1⟩, hb2⟩)
      have hb3 := HB.out.trans (hb2.mono HB.out.size)
      have hst := HST.out
      have hbd : 0 ≤ farsN xss h (k + 1) ∧ farsN xss h (k + 1) ≤ ((k + 1 : Nat) : Int) * 549755813888 := by omega
      go_roundw
      case rel => exact ⟨k + 1, by omega, by go_num, val_int HST.out.symm, hbd, hb3⟩
      case measure => simp [intOf]; omega
end Go.Proofs.Ytnegolclofgboaa
