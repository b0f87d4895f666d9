
/-
  All floors of the chart: chart.Text. Conditions: the legs are within bounds; no car comes below the lowest floor.
-/
import Derived.Test.YtnegolclofgboaaChart
set_option linter.unusedVariables false
set_option linter.unusedSimpArgs false
namespace Go.Proofs.Ytnegolclofgboaa
open Go.Joins Go.ChangeShapes Go.WideShapes Go.ChangeAt Go.RowKit Go.Deep

theorem chart_none (lA : Option Addr) (lC : Nat) (xss : List (List Leg)) (s : Scen) (A : Option Addr) (C : Nat) (cols : Int) (w : World) (hc : cols < 1 ∨ 200 < cols) :
    Calls Try.prog 8 #[.slice lA xss.length lC, s.val A C, .int .i64 cols] w fun e w' => e = .returned (.tuple #[.string (txt []), .int .i64 22]) ∧ Below w.heap.size w w' := by
  have hcs : cols < 1 ∨ (1 ≤ cols ∧ 200 < cols) := by omega
  clear hc
  rcases hcs with hc | ⟨hc, hd⟩
  all_goals
    go_enter Try.func8, Try.ntmps8
    go_wp2
    go_ret2
    exact ⟨rfl, Joins.below_alloc1 _ _⟩
set_option maxRecDepth 20000 in
set_option maxHeartbeats 8000000 in
theorem chart_Text (lA : Option Addr) (lC : Nat) (xss : List (List Leg)) (s : Scen) (A : Option Addr) (C : Nat) (cols : Int) (w : World) (hx : LegRows w lA xss) (hok : chOk xss s.gap s.horizon) (hf : 0 ≤ s.floors ∧ s.floors ≤ 20) (hc : 1 ≤ cols ∧ cols ≤ 200) :
    Calls Try.prog 8 #[.slice lA xss.length lC, s.val A C, .int .i64 cols] w fun e w' => e = .returned (.tuple #[.string (txt (chartL xss s.gap s.horizon cols s.floors s.floors.toNat)), .int .i64 0]) ∧ Below w.heap.size w w' := by
  have cR := fun f (hf : 0 ≤ f ∧ f ≤ 20) w' (hb : Below w.heap.size w w') => chart_Row lA lC xss s A C f cols w' (hx.below hb) hok hf (by omega)
  have cO := fun f (hf : 0 ≤ f ∧ f ≤ 20) w => digits_Of f w ⟨by omega, by omega⟩
  have cP := fun f w => digits_Pad (decI f) 3 w (by have := decI_len f; omega) (by omega)
  rw [show ((3 : Nat) : Int) = 3 from rfl] at cP
  have hrl := fun f => rowL_len xss s.gap s.horizon cols f cols.toNat
  have hpl := fun f => pad_len (decI f) 3
  have hdl := fun f => decI_len f
  have hcl := fun k => chartL_len xss s.gap s.horizon cols s.floors k
  have hsc : ∀ k, chartL xss s.gap s.horizon cols s.floors (k + 1) = chartL xss s.gap s.horizon cols s.floors k ++ padL (decI (s.floors - 1 - k)) 3 ++ [32] ++ rowL xss s.gap s.horizon cols (s.floors - 1 - k) cols.toNat ++ [10] := fun k => by
    simp only [chartL, lineL, List.append_assoc]
  have hz0 : chartL xss s.gap s.horizon cols s.floors 0 = [] := rfl
  generalize chartL xss s.gap s.horizon cols s.floors = T at *
  unfold Scen.val at *
  have HCR := Lib.hid cR
  have HCO := Lib.hid cO
  have HCP := Lib.hid cP
  have HRL := Lib.hid hrl
  have HPL := Lib.hid hpl
  have HDL := Lib.hid hdl
  have HCL := Lib.hid hcl
  have HSC := Lib.hid hsc
  have HZ := Lib.hid hz0
  clear cR cO cP hrl hpl hdl hcl hsc hz0 hx hok
  go_enter Try.func8, Try.ntmps8
  go_wp2_with (with_reducible refine hold_loop ?_)
  have hN := Bld.fresh (w.alloc (.cells #[.int .i64 s.floors, .int .i64 s.gap, .int .i64 s.cars, .int .i64 s.capacity, .int .i64 s.open_, .int .i64 s.dwell, .int .i64 s.close, .int .i64 s.transfer, .slice A s.segs.length C, .int .i64 s.disp, .int .i64 s.horizon, .int .i64 s.bins, .int .i64 s.width] 26))
  rw [alloc_size] at hN
  have k0 : Blk ((w.alloc (.cells #[.int .i64 s.floors, .int .i64 s.gap, .int .i64 s.cars, .int .i64 s.capacity, .int .i64 s.open_, .int .i64 s.dwell, .int .i64 s.close, .int .i64 s.transfer, .slice A s.segs.length C, .int .i64 s.disp, .int .i64 s.horizon, .int .i64 s.bins, .int .i64 s.width] 26)).alloc (.cells #[.pointer none, .slice none 0 0] 73)) (w.heap.size) 26 #[.int .i64 s.floors, .int .i64 s.gap, .int .i64 s.cars, .int .i64 s.capacity, .int .i64 s.open_, .int .i64 s.dwell, .int .i64 s.close, .int .i64 s.transfer, .slice A s.segs.length C, .int .i64 s.disp, .int .i64 s.horizon, .int .i64 s.bins, .int .i64 s.width] := (Blk.alloc (blk_at (by simp)) (.cells #[.pointer none, .slice none 0 0] 73))
  have k1 : Blk ((w.alloc (.cells #[.int .i64 s.floors, .int .i64 s.gap, .int .i64 s.cars, .int .i64 s.capacity, .int .i64 s.open_, .int .i64 s.dwell, .int .i64 s.close, .int .i64 s.transfer, .slice A s.segs.length C, .int .i64 s.disp, .int .i64 s.horizon, .int .i64 s.bins, .int .i64 s.width] 26)).alloc (.cells #[.pointer none, .slice none 0 0] 73)) (w.heap.size + 1) 73 #[.pointer none, .slice none 0 0] := (blk_at (by simp))
  have hB : Below w.heap.size w ((w.alloc (.cells #[.int .i64 s.floors, .int .i64 s.gap, .int .i64 s.cars, .int .i64 s.capacity, .int .i64 s.open_, .int .i64 s.dwell, .int .i64 s.close, .int .i64 s.transfer, .slice A s.segs.length C, .int .i64 s.disp, .int .i64 s.horizon, .int .i64 s.bins, .int .i64 s.width] 26)).alloc (.cells #[.pointer none, .slice none 0 0] 73)) := (bel_at (bel_at (Below.refl _ _) (.cells #[.int .i64 s.floors, .int .i64 s.gap, .int .i64 s.cars, .int .i64 s.capacity, .int .i64 s.open_, .int .i64 s.dwell, .int .i64 s.close, .int .i64 s.transfer, .slice A s.segs.length C, .int .i64 s.disp, .int .i64 s.horizon, .int .i64 s.bins, .int .i64 s.width] 26)) (.cells #[.pointer none, .slice none 0 0] 73))
  generalize ((w.alloc (.cells #[.int .i64 s.floors, .int .i64 s.gap, .int .i64 s.cars, .int .i64 s.capacity, .int .i64 s.open_, .int .i64 s.dwell, .int .i64 s.close, .int .i64 s.transfer, .slice A s.segs.length C, .int .i64 s.disp, .int .i64 s.horizon, .int .i64 s.bins, .int .i64 s.width] 26)).alloc (.cells #[.pointer none, .slice none 0 0] 73)) = w1 at *
  (try clear k0c k0f k0z); have k0c := fun i => Blk.cell k0 i; have k0f := fun i => Blk.free k0 i; have k0z := Blk.lt k0; (try clear k1c k1f k1z); have k1c := fun i => Blk.cell k1 i; have k1f := fun i => Blk.free k1 i; have k1z := Blk.lt k1
  have hz1 : w.heap.size + 1 < w1.heap.size := k1z
  have K0 := Lib.hid k0
  clear k1 k1c k1f k1z
  unfold Hold
  have HB := Lib.hid hB
  clear hB
  go_loopw [9] (fun i wr => ∃ k : Nat, k ≤ s.floors.toNat ∧ i = .int .i64 (s.floors - 1 - (k : Int)) ∧ Hid (BldT (w.heap.size + 1) (w.heap.size + 1) (T k) wr) ∧ Below (w.heap.size + 1) w1 wr) (fun i _ => (intOf i + 1).toNat)
  case atStart => exact ⟨0, by omega, val_int (by omega), by rw [HZ.out]; exact hN, Below.refl _ _⟩
  case round =>
    obtain ⟨k, hk, rfl, hbl, hb⟩ := hrel
    have hbw : Below w.heap.size w wr := HB.out.trans (hb.mono (by omega))
    by_cases hlt : k < s.floors.toNat
    · have hf0 : 0 ≤ s.floors - 1 - (k : Int) := by omega
      have hf1 : s.floors - 1 - (k : Int) ≤ 20 := by omega
      have cO := fun w => HCO.out (s.floors - 1 - (k : Int)) ⟨hf0, hf1⟩ w
      have cP := fun w => HCP.out (s.floors - 1 - (k : Int)) w
      have cR := fun w' hb => HCR.out (s.floors - 1 - (k : Int)) ⟨hf0, hf1⟩ w' hb
      have hsc := HSC.out k
      have l1 := HRL.out (s.floors - 1 - (k : Int))
      have l2 := HPL.out (s.floors - 1 - (k : Int))
      have l3 := HDL.out (s.floors - 1 - (k : Int))
      have l4 := HCL.out k
      have l5 : k * (23 + cols.toNat) ≤ 20 * 223 := Nat.mul_le_mul (by omega) (by omega)
      have hnx : s.floors - 1 - (k : Int) - 1 = s.floors - 1 - ((k + 1 : Nat) : Int) := by omega
      generalize rowL xss s.gap s.horizon cols (s.floors - 1 - (k : Int)) cols.toNat = R at *
      generalize hP : padL (decI (s.floors - 1 - (k : Int))) 3 = P at *
      clear hP
      generalize decI (s.floors - 1 - (k : Int)) = Q at *
      have r1 : R.length ≤ 200 := by omega
      have r2 : P.length ≤ 21 := by omega
      have r3 : (T k).length ≤ 4460 := by omega
      have HSC2 := Lib.hid hsc
      have CO := Lib.hid cO
      have CP := Lib.hid cP
      have CR := Lib.hid cR
      have HNX := Lib.hid hnx
      replace k0 := Blk.below k0 hb (by omega)
      (try clear k0c k0f k0z); have k0c := fun i => Blk.cell k0 i; have k0f := fun i => Blk.free k0 i; have k0z := Blk.lt k0
      clear cO cP cR hsc l1 l2 l3 l4 l5 hnx hbw
      have HB1 := Lib.hid hb
      clear hb
      go_wp2_with (go_at_call 31; refine (CO.out _).mono ?_)
      rintro e w2 ⟨rfl, hb2⟩
      have hb2' := HB1.out.trans (hb2.mono (by have := HB1.out.size; omega))
      replace hbl := hbl.out.below hb2
      clear hb2
      go_wp2_with (go_at_call 30; refine (CP.out _).mono ?_)
      rintro e w3 ⟨rfl, hb3⟩
      have hb3' := hb2'.trans (hb3.mono (by have := hb2'.size; omega))
      replace hbl := Bld.below hbl hb3
      clear hb3 hb2'
      go_wp2_with fail
      refine (bldt_str _ _ _ P _ hbl (by omega) (by have := hb3'.size; omega)).mono ?_
      rintro e w4 ⟨rfl, hbl4, hb4⟩
      have hb4' := hb3'.trans hb4
      clear hbl hb4 hb3'
      go_wp2_with fail
      refine (bldt_str _ _ _ [32] _ hbl4 (by simp only [List.length_append, List.length_cons, List.length_nil]; omega) (by have := hb4'.size; omega)).mono ?_
      rintro e w5 ⟨rfl, hbl5, hb5⟩
      have hb5' := hb4'.trans hb5
      clear hbl4 hb5 hb4'
      replace k0 := Blk.below K0.out hb5' (by omega)
      (try clear k0c k0f k0z); have k0c := fun i => Blk.cell k0 i; have k0f := fun i => Blk.free k0 i; have k0z := Blk.lt k0
      have cR2 := CR.out w5 (HB.out.trans (hb5'.mono (by omega)))
      have CR2 := Lib.hid cR2
      clear cR2
      go_wp2_with (go_at_call 12; refine CR2.out.mono ?_)
      rintro e w6 ⟨rfl, hb6⟩
      have hb6' := hb5'.trans (hb6.mono (by have := hb5'.size; omega))
      replace hbl := Bld.below hbl5 hb6
      clear hbl5 hb6 hb5'
      go_wp2_with fail
      refine (bldt_str _ _ _ R _ hbl (by simp only [List.length_append, List.length_cons, List.length_nil]; omega) (by have := hb6'.size; omega)).mono ?_
      rintro e w7 ⟨rfl, hbl7, hb7⟩
      have hb7' := hb6'.trans hb7
      clear hbl hb7 hb6'
      go_wp2_with fail
      refine (bldt_str _ _ _ [10] _ hbl7 (by simp only [List.length_append, List.length_cons, List.length_nil]; omega) (by have := hb7'.size; omega)).mono ?_
      rintro e w8 ⟨rfl, hbl8, hb8⟩
      have hb8' := hb7'.trans hb8
      rw [← HSC2.out] at hbl8
      have H8 := Lib.hid hbl8
      clear hbl7 hb8 hb7' hbl8
      go_wp2
      go_roundw
      case rel => exact ⟨k + 1, by omega, val_int HNX.out, H8, hb8'⟩
      case measure => simp [intOf]; omega
    · obtain ⟨F, hF⟩ : ∃ F, F = s.floors.toNat := ⟨_, rfl⟩
      obtain rfl : k = F := by omega
      have hneg : s.floors - 1 - (k : Int) = -1 := by omega
      have HF := Lib.hid hF
      rw [hneg]
      clear hneg hF
      have hbs := hb.size
      have cS := Try.Builder_String_any _ _ _ wr hbl.out (by omega)
      have CS := Lib.hid cS
      clear cS hbl
      go_wp2_with fail
      refine CS.out.mono ?_
      rintro e w2 ⟨rfl, hb2⟩
      have hfin := HB.out.trans ((hb.trans hb2).mono (by omega))
      go_wp2
      go_ret2
      refine ⟨?_, hfin⟩
      rw [← HF.out]
      rfl
end Go.Proofs.Ytnegolclofgboaa
