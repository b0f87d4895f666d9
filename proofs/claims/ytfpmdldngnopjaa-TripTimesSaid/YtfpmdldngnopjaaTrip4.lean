/-
  How long passengers waited and rode: trip.Waits, trip.Transits. Condition: the trips are within bounds.
-/
import Derived.Test.YtfpmdldngnopjaaTrip3
set_option linter.unusedVariables false
set_option linter.unusedSimpArgs false
namespace Go.Proofs.Ytfpmdldngnopjaa
open Go.Joins Go.ChangeShapes Go.WideShapes Go.ChangeAt Go.RowKit Go.Deep

def waitT (t : Trip) : Int := t.board - t.arrive
def rideT (t : Trip) : Int := t.alight - t.board
set_option maxHeartbeats 2000000 in
theorem trip_Waits (A : Option Addr) (C : Nat) (xs : List Trip) (w : World) (hx : Trips w A xs) (hf : fineTs xs) :
    Calls Try.prog 60 #[.slice A xs.length C] w (RetInts ((doneL xs xs.length).map waitT) w) := by
  obtain ⟨i0, hi, hz0, hz1, hz2⟩ := info_parts info_int
  have cD := trip_done A C xs w hx hf.1
  have hfd := doneL_fine hf xs.length (Nat.le_refl _)
  have hdl := doneL_len xs xs.length
  have hl := hf.1
  generalize doneL xs xs.length = ds at *
  have CD := Lib.hid cD
  have HFD := Lib.hid hfd
  clear cD hfd hx hf
  go_enter Try.func60, Try.ntmps60
  go_wp2_with fail
  refine CD.out.mono ?_
  rintro e w1 ⟨A1, C1, rfl, hd, hb1⟩
  have HD := Lib.hid hd
  have hs1 := hb1.size
  clear hd CD
  go_wp2
  go_loopw [3, 9] (fun v i wr => ∃ k : Nat, k ≤ ds.length ∧ i = .int .i64 k ∧ wr.ownsRow w1.heap.size 3 1 v k (intV (preM waitT ds k)) ∧ Below w1.heap.size w1 wr) (fun _ i _ => ds.length - (intOf i).toNat)
  case atStart => exact ⟨0, by omega, rfl, World.ownsRow_nil _ _ _ _, Below.refl _ _⟩
  case round =>
    obtain ⟨k, hk, rfl, hown, hb⟩ := hrel
    by_cases hkl : k < ds.length
    · obtain ⟨b, off, rfl, hbl, hce⟩ := HD.out (by omega)
      obtain ⟨t, ht⟩ := at_some hkl
      have z := fun j u h => (hb.cell (p := ⟨b, off + k * 7 + j, none⟩) hbl).trans (hce k t ht j u h)
      have z0 := z 0 _ rfl
      have z1 := z 1 _ rfl
      have z2 := z 2 _ rfl
      have z3 := z 3 _ rfl
      have z4 := z 4 _ rfl
      have z5 := z 5 _ rfl
      have z6 := z 6 _ rfl
      simp only [Nat.add_zero] at z0
      obtain ⟨⟨g1, g2⟩, ⟨g3, g4⟩, g5, g6⟩ := HFD.out t (List.mem_of_getElem? ht)
      have htk := preM_succ waitT ht
      have HT := Lib.hid htk
      have HOWN := Lib.hid hown
      have hs2 := hb.size
      obtain ⟨a0, a1, a2, a3, a4, a5, a6⟩ := t
      simp only [Trip.cells, waitT] at *
      clear z hce ht htk hown
      have HO := Lib.hid (HOWN.out.alloc (.cells #[.int .i64 a0, .int .i64 a1, .int .i64 a2, .int .i64 a3, .int .i64 a4, .int .i64 a5, .int .i64 a6] 45))
      have hbn := below_of_alloc hb (.cells #[.int .i64 a0, .int .i64 a1, .int .i64 a2, .int .i64 a3, .int .i64 a4, .int .i64 a5, .int .i64 a6] 45)
      have HBN := Lib.hid hbn
      clear hbn
      go_wp2_with (at_builtin; refine wpList_append_own _ rfl _ _ 53 rfl w1.heap.size 3 i0 (.int .i64 0) 1 8 Try.underlying53 hi hz0 hz1 hz2 rfl (by decide) _ _ _ rfl (HO.out.alloc _) ⟨wr.heap.size + 1, 0, none⟩ 1 1 [.int .i64 (a5 - a1)] rfl rfl ?c1 ?c2 ?c3 ?c4 ?c5 ?_)
      case c1 => have := cells_new (wr.alloc (.cells #[.int .i64 a0, .int .i64 a1, .int .i64 a2, .int .i64 a3, .int .i64 a4, .int .i64 a5, .int .i64 a6] 45)) #[.int .i64 (a5 - a1)] 3; rw [alloc_size] at this; exact this
      case c2 => exact one_cell _
      case c3 => unfold maxLen; omega
      case c4 => omega
      case c5 => simp; omega
      intro v' w4 hown' hgrow _
      have hb4 : Below w1.heap.size w1 w4 := (HBN.out.alloc HBN.out.size _).grown hgrow (by simp; omega) (fun g hg => (HO.out.lt g hg).1)
      have ho4 : w4.ownsRow w1.heap.size 3 1 v' (k + 1) (intV (preM waitT ds (k + 1))) := by rw [HT.out]; exact hown'
      have HO4 := Lib.hid ho4
      clear hgrow hown' ho4
      go_wp2
      go_roundw
      case rel => exact ⟨k + 1, by omega, by go_num, HO4.out, hb4⟩
      case measure => simp [intOf]; omega
    · obtain rfl : k = ds.length := by omega
      rw [preM_all] at hown
      obtain ⟨A', C', rfl, hel⟩ := owns_ints_n hown (by simp)
      have HE := Lib.hid hel
      have hfin : Below w.heap.size w wr := hb1.trans (hb.mono hs1)
      clear hown hel
      go_wp2
      go_ret
      exact ⟨A', C', rfl, HE.out, hfin⟩
set_option maxHeartbeats 2000000 in
theorem trip_Transits (A : Option Addr) (C : Nat) (xs : List Trip) (w : World) (hx : Trips w A xs) (hf : fineTs xs) :
    Calls Try.prog 62 #[.slice A xs.length C] w (RetInts ((doneL xs xs.length).map rideT) w) := by
  obtain ⟨i0, hi, hz0, hz1, hz2⟩ := info_parts info_int
  have cD := trip_done A C xs w hx hf.1
  have hfd := doneL_fine hf xs.length (Nat.le_refl _)
  have hdl := doneL_len xs xs.length
  have hl := hf.1
  generalize doneL xs xs.length = ds at *
  have CD := Lib.hid cD
  have HFD := Lib.hid hfd
  clear cD hfd hx hf
  go_enter Try.func62, Try.ntmps62
  go_wp2_with fail
  refine CD.out.mono ?_
  rintro e w1 ⟨A1, C1, rfl, hd, hb1⟩
  have HD := Lib.hid hd
  have hs1 := hb1.size
  clear hd CD
  go_wp2
  go_loopw [3, 9] (fun v i wr => ∃ k : Nat, k ≤ ds.length ∧ i = .int .i64 k ∧ wr.ownsRow w1.heap.size 3 1 v k (intV (preM rideT ds k)) ∧ Below w1.heap.size w1 wr) (fun _ i _ => ds.length - (intOf i).toNat)
  case atStart => exact ⟨0, by omega, rfl, World.ownsRow_nil _ _ _ _, Below.refl _ _⟩
  case round =>
    obtain ⟨k, hk, rfl, hown, hb⟩ := hrel
    by_cases hkl : k < ds.length
    · obtain ⟨b, off, rfl, hbl, hce⟩ := HD.out (by omega)
      obtain ⟨t, ht⟩ := at_some hkl
      have z := fun j u h => (hb.cell (p := ⟨b, off + k * 7 + j, none⟩) hbl).trans (hce k t ht j u h)
      have z0 := z 0 _ rfl
      have z1 := z 1 _ rfl
      have z2 := z 2 _ rfl
      have z3 := z 3 _ rfl
      have z4 := z 4 _ rfl
      have z5 := z 5 _ rfl
      have z6 := z 6 _ rfl
      simp only [Nat.add_zero] at z0
      obtain ⟨⟨g1, g2⟩, ⟨g3, g4⟩, g5, g6⟩ := HFD.out t (List.mem_of_getElem? ht)
      have htk := preM_succ rideT ht
      have HT := Lib.hid htk
      have HOWN := Lib.hid hown
      have hs2 := hb.size
      obtain ⟨a0, a1, a2, a3, a4, a5, a6⟩ := t
      simp only [Trip.cells, rideT] at *
      clear z hce ht htk hown
      have HO := Lib.hid (HOWN.out.alloc (.cells #[.int .i64 a0, .int .i64 a1, .int .i64 a2, .int .i64 a3, .int .i64 a4, .int .i64 a5, .int .i64 a6] 45))
      have hbn := below_of_alloc hb (.cells #[.int .i64 a0, .int .i64 a1, .int .i64 a2, .int .i64 a3, .int .i64 a4, .int .i64 a5, .int .i64 a6] 45)
      have HBN := Lib.hid hbn
      clear hbn
      go_wp2_with (at_builtin; refine wpList_append_own _ rfl _ _ 53 rfl w1.heap.size 3 i0 (.int .i64 0) 1 8 Try.underlying53 hi hz0 hz1 hz2 rfl (by decide) _ _ _ rfl (HO.out.alloc _) ⟨wr.heap.size + 1, 0, none⟩ 1 1 [.int .i64 (a6 - a5)] rfl rfl ?c1 ?c2 ?c3 ?c4 ?c5 ?_)
      case c1 => have := cells_new (wr.alloc (.cells #[.int .i64 a0, .int .i64 a1, .int .i64 a2, .int .i64 a3, .int .i64 a4, .int .i64 a5, .int .i64 a6] 45)) #[.int .i64 (a6 - a5)] 3; rw [alloc_size] at this; exact this
      case c2 => exact one_cell _
      case c3 => unfold maxLen; omega
      case c4 => omega
      case c5 => simp; omega
      intro v' w4 hown' hgrow _
      have hb4 : Below w1.heap.size w1 w4 := (HBN.out.alloc HBN.out.size _).grown hgrow (by simp; omega) (fun g hg => (HO.out.lt g hg).1)
      have ho4 : w4.ownsRow w1.heap.size 3 1 v' (k + 1) (intV (preM rideT ds (k + 1))) := by rw [HT.out]; exact hown'
      have HO4 := Lib.hid ho4
      clear hgrow hown' ho4
      go_wp2
      go_roundw
      case rel => exact ⟨k + 1, by omega, by go_num, HO4.out, hb4⟩
      case measure => simp [intOf]; omega
    · obtain rfl : k = ds.length := by omega
      rw [preM_all] at hown
      obtain ⟨A', C', rfl, hel⟩ := owns_ints_n hown (by simp)
      have HE := Lib.hid hel
      have hfin : Below w.heap.size w wr := hb1.trans (hb.mono hs1)
      clear hown hel
      go_wp2
      go_ret
      exact ⟨A', C', rfl, HE.out, hfin⟩
end Go.Proofs.Ytfpmdldngnopjaa
