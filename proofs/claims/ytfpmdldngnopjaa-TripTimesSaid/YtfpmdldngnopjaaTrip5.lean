/-
  How long passengers waited and rode, by the document: hoistwayref24.Waits. Condition: the trips are within bounds.
-/
import Derived.Test.YtfpmdldngnopjaaTrip4
set_option linter.unusedVariables false
set_option linter.unusedSimpArgs false
namespace Go.Proofs.Ytfpmdldngnopjaa
open Go.Joins Go.ChangeShapes Go.WideShapes Go.ChangeAt Go.RowKit Go.Deep

set_option maxHeartbeats 2000000 in
theorem ref24_Waits (A : Option Addr) (C : Nat) (xs : List Trip) (w : World) (hx : Trips w A xs) (hf : fineTs xs) :
    Calls Try.prog 61 #[.slice A xs.length C, .bool true] w (RetInts ((doneL xs xs.length).map waitT) w) := by
  obtain ⟨i0, hi, hz0, hz1, hz2⟩ := info_parts info_int
  have HX := Lib.hid hx
  have HF := Lib.hid hf.2
  have hl := hf.1
  clear hx hf
  go_enter Try.func61, Try.ntmps61
  go_wp2
  go_loopw [5, 6] (fun v i wr => ∃ k : Nat, k ≤ xs.length ∧ i = .int .i64 k ∧ wr.ownsRow w.heap.size 3 1 v (doneL xs k).length (intV ((doneL xs k).map waitT)) ∧ Below w.heap.size w wr) (fun _ i _ => xs.length - (intOf i).toNat)
  case atStart => exact ⟨0, by omega, rfl, World.ownsRow_nil _ _ _ _, Below.refl _ _⟩
  case round =>
    obtain ⟨k, hk, rfl, hown, hb⟩ := hrel
    by_cases hkl : k < xs.length
    · obtain ⟨b, off, rfl, hbl, hce⟩ := HX.out (by omega)
      obtain ⟨t, ht⟩ := at_some hkl
      have y := fun j u h => hce k t ht j u h
      have y1 := y 1 _ rfl
      have y5 := y 5 _ rfl
      have y6 := y 6 _ rfl
      have z := fun j u h => (hb.cell (p := ⟨b, off + k * 7 + j, none⟩) hbl).trans (hce k t ht j u h)
      have z0 := z 0 _ rfl
      have z1 := z 1 _ rfl
      have z2 := z 2 _ rfl
      have z3 := z 3 _ rfl
      have z4 := z 4 _ rfl
      have z5 := z 5 _ rfl
      have z6 := z 6 _ rfl
      simp only [Nat.add_zero] at z0
      have hdl := doneL_len xs k
      obtain ⟨⟨g1, g2⟩, ⟨g3, g4⟩, g5, g6⟩ := HF.out k t ht
      have cA := fun w => ref24_At t w
      have hs0 : doneL xs (k + 1) = doneL xs k ++ if phase t = 2 then [t] else [] := by rw [← tripAt_of ht]; rfl
      generalize phase t = q at *
      have HOWN := Lib.hid hown
      obtain ⟨a0, a1, a2, a3, a4, a5, a6⟩ := t
      simp only [Trip.cells] at *
      have CA := Lib.hid cA
      by_cases hq : q = 2
      · subst hq
        rw [if_pos rfl] at hs0
        have htk : intV ((doneL xs (k + 1)).map waitT) = intV ((doneL xs k).map waitT) ++ [.int .i64 (a5 - a1)] := by
          rw [hs0, List.map_append, ← intV_snoc]; rfl
        have S0 := Lib.hid hs0
        have HT := Lib.hid htk
        clear cA hs0 htk ht z y hce hown
        go_wp2_with fail
        refine (CA.out _).mono ?_
        rintro e w2 ⟨rfl, hb2⟩
        have hb3 : Below w.heap.size w w2 := hb.trans (hb2.mono hb.size)
        have hs2 := hb3.size
        have HO2 := Lib.hid (ownsRow_below HOWN.out hb2)
        have hbd : Below w.heap.size w w2.drew := hb3.drew
        have HBD := Lib.hid hbd
        have HC := Lib.hid (held_mk hbd)
        have hke : IntKind.i64.wrap (a5 - a1) = a5 - a1 := IntWalk.i64_in _ (by omega)
        clear hb2 hbd z0 z1 z2 z3 z4 z5 z6
        go_wp2_with fail
        go_region_held3 (fun w' => Below w.heap.size w w' ∧ ∀ b o, b < w.heap.size → w'.cell? ⟨b, o, none⟩ = w.cell? ⟨b, o, none⟩) (first | exact HC.out | exact held_mk (HBD.out.alloc HBD.out.size _) | exact held_mk hb4) (first | (refine step_append_lies _ rfl _ _ 53 rfl w.heap.size 3 i0 (.int .i64 0) 1 8 Try.underlying53 hi hz0 hz1 hz2 rfl (by decide) _ _ _ rfl (HO2.out.drew.alloc _) ⟨w2.heap.size, 0, none⟩ 1 1 [.int .i64 (a5 - a1)] rfl rfl (cell_one _ _ _) (one_cell _) (by decide) (by unfold maxLen; omega) (by omega) (by simp; omega) _ rfl ?_; intro g cap w4 hown' hgrow _ _; have hb4 : Below w.heap.size w w4 := (HBD.out.alloc HBD.out.size _).grown hgrow (by simp; omega) (fun k hk => (HO2.out.drew.lt k hk).1); clear hgrow))
        have ho4 : w4.ownsRow w.heap.size 3 1 (.slice (some ⟨g, 0, none⟩) ((doneL xs k).length + 1) cap) (doneL xs (k + 1)).length (intV ((doneL xs (k + 1)).map waitT)) := by
          rw [HT.out, S0.out, List.length_append]
          exact hown'
        have HO4 := Lib.hid ho4
        clear ho4 hown' HC
        go_wp2
        go_roundw
        case rel => exact ⟨k + 1, by omega, by go_num, HO4.out, hb4⟩
        case measure => simp [intOf]; omega
      · have hqb : (q != 2) = true := by simp [hq]
        rw [if_neg hq, List.append_nil] at hs0
        have S0 := Lib.hid hs0
        clear cA hs0 ht z y hce hown hq
        go_wp2_with fail
        refine (CA.out _).mono ?_
        rintro e w2 ⟨rfl, hb2⟩
        have hb3 : Below w.heap.size w w2 := hb.trans (hb2.mono hb.size)
        have HO2 := Lib.hid (ownsRow_below HOWN.out hb2)
        clear hb2
        go_wp2
        go_roundw
        case rel => exact ⟨k + 1, by omega, by go_num, by rw [S0.out]; exact HO2.out, hb3⟩
        case measure => simp [intOf]; omega
    · obtain rfl : k = xs.length := by omega
      obtain ⟨A', C', rfl, hel⟩ := owns_ints_n hown (by simp)
      have HE := Lib.hid hel
      clear hown hel
      go_wp2
      go_ret
      exact ⟨A', C', rfl, HE.out, hb⟩
set_option maxHeartbeats 2000000 in
theorem ref24_Rides (A : Option Addr) (C : Nat) (xs : List Trip) (w : World) (hx : Trips w A xs) (hf : fineTs xs) :
    Calls Try.prog 61 #[.slice A xs.length C, .bool false] w (RetInts ((doneL xs xs.length).map rideT) w) := by
  obtain ⟨i0, hi, hz0, hz1, hz2⟩ := info_parts info_int
  have HX := Lib.hid hx
  have HF := Lib.hid hf.2
  have hl := hf.1
  clear hx hf
  go_enter Try.func61, Try.ntmps61
  go_wp2
  go_loopw [5, 6] (fun v i wr => ∃ k : Nat, k ≤ xs.length ∧ i = .int .i64 k ∧ wr.ownsRow w.heap.size 3 1 v (doneL xs k).length (intV ((doneL xs k).map rideT)) ∧ Below w.heap.size w wr) (fun _ i _ => xs.length - (intOf i).toNat)
  case atStart => exact ⟨0, by omega, rfl, World.ownsRow_nil _ _ _ _, Below.refl _ _⟩
  case round =>
    obtain ⟨k, hk, rfl, hown, hb⟩ := hrel
    by_cases hkl : k < xs.length
    · obtain ⟨b, off, rfl, hbl, hce⟩ := HX.out (by omega)
      obtain ⟨t, ht⟩ := at_some hkl
      have y := fun j u h => hce k t ht j u h
      have y1 := y 1 _ rfl
      have y5 := y 5 _ rfl
      have y6 := y 6 _ rfl
      have z := fun j u h => (hb.cell (p := ⟨b, off + k * 7 + j, none⟩) hbl).trans (hce k t ht j u h)
      have z0 := z 0 _ rfl
      have z1 := z 1 _ rfl
      have z2 := z 2 _ rfl
      have z3 := z 3 _ rfl
      have z4 := z 4 _ rfl
      have z5 := z 5 _ rfl
      have z6 := z 6 _ rfl
      simp only [Nat.add_zero] at z0
      have hdl := doneL_len xs k
      obtain ⟨⟨g1, g2⟩, ⟨g3, g4⟩, g5, g6⟩ := HF.out k t ht
      have cA := fun w => ref24_At t w
      have hs0 : doneL xs (k + 1) = doneL xs k ++ if phase t = 2 then [t] else [] := by rw [← tripAt_of ht]; rfl
      generalize phase t = q at *
      have HOWN := Lib.hid hown
      obtain ⟨a0, a1, a2, a3, a4, a5, a6⟩ := t
      simp only [Trip.cells] at *
      have CA := Lib.hid cA
      by_cases hq : q = 2
      · subst hq
        rw [if_pos rfl] at hs0
        have htk : intV ((doneL xs (k + 1)).map rideT) = intV ((doneL xs k).map rideT) ++ [.int .i64 (a6 - a5)] := by
          rw [hs0, List.map_append, ← intV_snoc]; rfl
        have S0 := Lib.hid hs0
        have HT := Lib.hid htk
        clear cA hs0 htk ht z y hce hown
        go_wp2_with fail
        refine (CA.out _).mono ?_
        rintro e w2 ⟨rfl, hb2⟩
        have hb3 : Below w.heap.size w w2 := hb.trans (hb2.mono hb.size)
        have hs2 := hb3.size
        have HO2 := Lib.hid (ownsRow_below HOWN.out hb2)
        have hbd : Below w.heap.size w w2.drew := hb3.drew
        have HBD := Lib.hid hbd
        have HC := Lib.hid (held_mk hbd)
        have hke : IntKind.i64.wrap (a6 - a5) = a6 - a5 := IntWalk.i64_in _ (by omega)
        clear hb2 hbd z0 z1 z2 z3 z4 z5 z6
        go_wp2_with fail
        go_region_held3 (fun w' => Below w.heap.size w w' ∧ ∀ b o, b < w.heap.size → w'.cell? ⟨b, o, none⟩ = w.cell? ⟨b, o, none⟩) (first | exact HC.out | exact held_mk (HBD.out.alloc HBD.out.size _) | exact held_mk hb4) (first | (refine step_append_lies _ rfl _ _ 53 rfl w.heap.size 3 i0 (.int .i64 0) 1 8 Try.underlying53 hi hz0 hz1 hz2 rfl (by decide) _ _ _ rfl (HO2.out.drew.alloc _) ⟨w2.heap.size, 0, none⟩ 1 1 [.int .i64 (a6 - a5)] rfl rfl (cell_one _ _ _) (one_cell _) (by decide) (by unfold maxLen; omega) (by omega) (by simp; omega) _ rfl ?_; intro g cap w4 hown' hgrow _ _; have hb4 : Below w.heap.size w w4 := (HBD.out.alloc HBD.out.size _).grown hgrow (by simp; omega) (fun k hk => (HO2.out.drew.lt k hk).1); clear hgrow))
        have ho4 : w4.ownsRow w.heap.size 3 1 (.slice (some ⟨g, 0, none⟩) ((doneL xs k).length + 1) cap) (doneL xs (k + 1)).length (intV ((doneL xs (k + 1)).map rideT)) := by
          rw [HT.out, S0.out, List.length_append]
          exact hown'
        have HO4 := Lib.hid ho4
        clear ho4 hown' HC
        go_wp2
        go_roundw
        case rel => exact ⟨k + 1, by omega, by go_num, HO4.out, hb4⟩
        case measure => simp [intOf]; omega
      · have hqb : (q != 2) = true := by simp [hq]
        rw [if_neg hq, List.append_nil] at hs0
        have S0 := Lib.hid hs0
        clear cA hs0 ht z y hce hown hq
        go_wp2_with fail
        refine (CA.out _).mono ?_
        rintro e w2 ⟨rfl, hb2⟩
        have hb3 : Below w.heap.size w w2 := hb.trans (hb2.mono hb.size)
        have HO2 := Lib.hid (ownsRow_below HOWN.out hb2)
        clear hb2
        go_wp2
        go_roundw
        case rel => exact ⟨k + 1, by omega, by go_num, by rw [S0.out]; exact HO2.out, hb3⟩
        case measure => simp [intOf]; omega
    · obtain rfl : k = xs.length := by omega
      obtain ⟨A', C', rfl, hel⟩ := owns_ints_n hown (by simp)
      have HE := Lib.hid hel
      clear hown hel
      go_wp2
      go_ret
      exact ⟨A', C', rfl, HE.out, hb⟩
end Go.Proofs.Ytfpmdldngnopjaa
