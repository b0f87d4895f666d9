
/-
  Where cars are, column by column: chart.Tick, chart.at, chart.mark, chart.Row. Conditions: the legs are within bounds; no car comes below the lowest floor.
-/
import Derived.Test.YtnegolclofgboaaChartP
import Derived.Test.YtnegolclofgboaaGreat35
import Derived.Test.YtnegolclofgboaaBldT
import Derived.Test.YtnegolclofgboaaDataC
import Derived.Test.YtnegolclofgboaaSeq
import Derived.Test.YtnegolclofgboaaShelf
set_option linter.unusedVariables false
set_option linter.unusedSimpArgs false
namespace Go.Proofs.Ytnegolclofgboaa
open Go.Joins Go.ChangeShapes Go.WideShapes Go.ChangeAt Go.RowKit Go.Deep

theorem chart_Tick (c cols h : Int) (w : World) (hc : 0 ≤ c ∧ c ≤ 200) (hl : 1 ≤ cols ∧ cols ≤ 200) (hh : 1 ≤ h ∧ h ≤ 300) :
    Calls Try.prog 10 #[.int .i64 c, .int .i64 cols, .int .i64 h] w fun e w' => e = .returned (.int .i64 (c * h / cols)) ∧ w = w' := by
  have m0 : 0 ≤ c * h := Int.mul_nonneg (by omega) (by omega)
  have m1 : c * h ≤ 200 * 300 := Int.mul_le_mul (by omega) (by omega) (by omega) (by omega)
  go_enter Try.func10, Try.ntmps10
  go_wp2
  go_ret
  exact ⟨rfl, rfl⟩
theorem place_Floor (pos gap : Int) (w : World) (h0 : 0 ≤ pos) (h1 : pos ≤ 1152921504606846976) (g1 : 1 ≤ gap) (g2 : gap ≤ 1152921504606846976) :
    Calls Try.prog 46 #[.int .i64 pos, .int .i64 gap] w fun e w' => e = .returned (.tuple #[.int .i64 (pos / gap), .bool (pos % gap == 0)]) ∧ ∃ n, w' = w.drewN n := by
  go_enter Try.func46, Try.ntmps46
  go_wp2
  go_quiet (fail)
  go_wp2
  go_ret2
  exact ⟨rfl, _, rfl⟩
set_option maxHeartbeats 1000000 in
theorem chart_at (A : Option Addr) (C : Nat) (ls : List Leg) (gap t : Int) (w : World) (hx : Legs w A ls) (hf : fineLs ls) (ht : 0 ≤ t ∧ t ≤ 300) (hg : 1 ≤ gap ∧ gap ≤ 16) (hn : wayB ls t = true → 0 ≤ wayP ls t) :
    Calls Try.prog 34 #[.slice A ls.length C, .int .i64 gap, .int .i64 t] w fun e w' => e = .returned (.int .i64 (flAt gap ls t)) ∧ Below w.heap.size w w' := by
  have cA := track_At A C ls t w hx hf (by omega)
  have hbd := wayP_bd hf ht
  unfold flAt
  cases hb : wayB ls t
  · rw [hb] at cA
    have CA := Lib.hid cA
    clear cA hb hn hf hx
    go_enter Try.func34, Try.ntmps34
    go_wp2_with (go_at_call 39; refine CA.out.mono ?_; rintro e w' ⟨rfl, n, rfl⟩)
    go_ret
    exact ⟨rfl, below_drewN (Below.refl _ _) _⟩
  · rw [hb] at cA
    have h0 := hn hb
    have cF := fun w => place_Floor (wayP ls t) gap w h0 (by omega) hg.1 (by omega)
    generalize wayP ls t = p at *
    have CA := Lib.hid cA
    have CF := Lib.hid cF
    clear cA cF hb hn hf hx
    go_enter Try.func34, Try.ntmps34
    go_wp2_with (first | (go_at_call 39; refine CA.out.mono ?_; rintro e w' ⟨rfl, n, rfl⟩) | (go_at_call 46; refine (CF.out _).mono ?_; rintro e w' ⟨rfl, n2, rfl⟩))
    go_ret
    exact ⟨rfl, below_drewN (Below.refl _ _) _⟩
theorem ret_u8 {a b : Int} (h : a = b) : Ending.returned (.int .u8 a) = .returned (.int .u8 b) := by rw [h]
theorem markC_toNat (m f : Nat) (hf : f ≤ 10) : ((markC m f).toNat : Int) = if m = 0 then 46 else if 1 < m then 42 else if f < 10 then 48 + f else 87 + f := by
  unfold markC
  split
  · rfl
  · split
    · rfl
    · split
      · have : (UInt8.ofNat (48 + f)).toNat = 48 + f := by rw [UInt8.toNat_ofNat']; omega
        omega
      · have : (UInt8.ofNat (87 + f)).toNat = 87 + f := by rw [UInt8.toNat_ofNat']; omega
        omega
set_option maxHeartbeats 1000000 in
theorem chart_mark (m f : Nat) (w : World) (hm : m ≤ 10) (hf : f ≤ 10) : Calls Try.prog 36 #[.int .i64 (m : Int), .int .i64 (f : Int)] w fun e w' => e = .returned (.int .u8 ((markC m f).toNat : Int)) ∧ w = w' := by
  rw [markC_toNat m f hf]
  have hcs : m = 0 ∨ 1 < m ∨ (m = 1 ∧ f < 10) ∨ (m = 1 ∧ f = 10) := by omega
  rcases hcs with rfl | h | ⟨rfl, h⟩ | ⟨rfl, rfl⟩
  · go_enter Try.func36, Try.ntmps36
    go_wp2
    go_ret
    exact ⟨rfl, rfl⟩
  · rw [if_neg (by omega), if_pos h]
    have e0 : ((m : Int) == 0) = false := beq_eq_false_iff_ne.2 (by omega)
    go_enter Try.func36, Try.ntmps36
    go_wp2
    go_ret
    exact ⟨rfl, rfl⟩
  · rw [if_neg (by omega), if_neg (by omega), if_pos h]
    go_enter Try.func36, Try.ntmps36
    go_wp2
    go_ret
    exact ⟨ret_u8 (by omega), rfl⟩
  · rw [if_neg (by omega), if_neg (by omega), if_neg (by omega)]
    go_enter Try.func36, Try.ntmps36
    go_wp2
    go_ret
    exact ⟨ret_u8 (by omega), rfl⟩
/-- Legs that the chart can draw. -/
def chOk (xss : List (List Leg)) (gap h : Int) : Prop := xss.length ≤ 10 ∧ (1 ≤ gap ∧ gap ≤ 16) ∧ (1 ≤ h ∧ h ≤ 300) ∧ ∀ (i : Nat) (xs : List Leg), xss[i]? = some xs → fineLs xs ∧ ∀ t : Int, 0 ≤ t → t < h → wayB xs t = true → 0 ≤ wayP xs t
theorem ret_txt {a b : List UInt8} (h : a = b) : Ending.returned (.string (txt a)) = .returned (.string (txt b)) := by rw [h]
set_option maxRecDepth 20000 in
set_option maxHeartbeats 8000000 in
theorem chart_Row (lA : Option Addr) (lC : Nat) (xss : List (List Leg)) (s : Scen) (A : Option Addr) (C : Nat) (f cols : Int) (w : World) (hx : LegRows w lA xss) (hok : chOk xss s.gap s.horizon) (hf : 0 ≤ f ∧ f ≤ 20) (hc : 0 ≤ cols ∧ cols ≤ 200) :
    Calls Try.prog 12 #[.slice lA xss.length lC, s.val A C, .int .i64 f, .int .i64 cols] w fun e w' => e = .returned (.string (txt (rowL xss s.gap s.horizon cols f cols.toNat))) ∧ Below w.heap.size w w' := by
  obtain ⟨hl, hg, hh, hr⟩ := hok
  have cT := fun (c : Nat) (hcc : (c : Int) < cols) w => chart_Tick (c : Int) cols s.horizon w (by omega) (by omega) hh
  have hct := fun (c : Nat) (hcc : (c : Int) < cols) => colT_bd (cols := cols) (h := s.horizon) (c := c) hh.1 hcc
  have hcs := fun c => rowL_succ xss s.gap s.horizon cols f c
  have hcl := fun c => rowL_len xss s.gap s.horizon cols f c
  unfold colT at hct
  unfold Scen.val
  have hz0 : rowL xss s.gap s.horizon cols f 0 = [] := rfl
  generalize rowL xss s.gap s.horizon cols f = R at *
  have HX := Lib.hid hx
  have HR := Lib.hid hr
  have CT := Lib.hid cT
  have HZ := Lib.hid hz0
  have HCT := Lib.hid hct
  have HCS := Lib.hid hcs
  have HCL := Lib.hid hcl
  have HG := Lib.hid hg
  clear hx hr cT hct hcs hcl hg hz0
  go_enter Try.func12, Try.ntmps12
  go_wp2_with (with_reducible refine hold_loop ?_)
  have hN := Bld.fresh (w.alloc (.cells #[.int .i64 s.floors, .int .i64 s.gap, .int .i64 s.cars, .int .i64 s.capacity, .int .i64 s.open_, .int .i64 s.dwell, .int .i64 s.close, .int .i64 s.transfer, .slice A s.segs.length C, .int .i64 s.disp, .int .i64 s.horizon, .int .i64 s.bins, .int .i64 s.width] 26))
  rw [alloc_size] at hN
  have k0 : Blk ((w.alloc (.cells #[.int .i64 s.floors, .int .i64 s.gap, .int .i64 s.cars, .int .i64 s.capacity, .int .i64 s.open_, .int .i64 s.dwell, .int .i64 s.close, .int .i64 s.transfer, .slice A s.segs.length C, .int .i64 s.disp, .int .i64 s.horizon, .int .i64 s.bins, .int .i64 s.width] 26)).alloc (.cells #[.pointer none, .slice none 0 0] 73)) (w.heap.size) 26 #[.int .i64 s.floors, .int .i64 s.gap, .int .i64 s.cars, .int .i64 s.capacity, .int .i64 s.open_, .int .i64 s.dwell, .int .i64 s.close, .int .i64 s.transfer, .slice A s.segs.length C, .int .i64 s.disp, .int .i64 s.horizon, .int .i64 s.bins, .int .i64 s.width] := (Blk.alloc (blk_at (by simp)) (.cells #[.pointer none, .slice none 0 0] 73))
  have k1 : Blk ((w.alloc (.cells #[.int .i64 s.floors, .int .i64 s.gap, .int .i64 s.cars, .int .i64 s.capacity, .int .i64 s.open_, .int .i64 s.dwell, .int .i64 s.close, .int .i64 s.transfer, .slice A s.segs.length C, .int .i64 s.disp, .int .i64 s.horizon, .int .i64 s.bins, .int .i64 s.width] 26)).alloc (.cells #[.pointer none, .slice none 0 0] 73)) (w.heap.size + 1) 73 #[.pointer none, .slice none 0 0] := (blk_at (by simp))
  have hB : Below w.heap.size w ((w.alloc (.cells #[.int .i64 s.floors, .int .i64 s.gap, .int .i64 s.cars, .int .i64 s.capacity, .int .i64 s.open_, .int .i64 s.dwell, .int .i64 s.close, .int .i64 s.transfer, .slice A s.segs.length C, .int .i64 s.disp, .int .i64 s.horizon, .int .i64 s.bins, .int .i64 s.width] 26)).alloc (.cells #[.pointer none, .slice none 0 0] 73)) := (bel_at (bel_at (Below.refl _ _) (.cells #[.int .i64 s.floors, .int .i64 s.gap, .int .i64 s.cars, .int .i64 s.capacity, .int .i64 s.open_, .int .i64 s.dwell, .int .i64 s.close, .int .i64 s.transfer, .slice A s.segs.length C, .int .i64 s.disp, .int .i64 s.horizon, .int .i64 s.bins, .int .i64 s.width] 26)) (.cells #[.pointer none, .slice none 0 0] 73))
  generalize ((w.alloc (.cells #[.int .i64 s.floors, .int .i64 s.gap, .int .i64 s.cars, .int .i64 s.capacity, .int .i64 s.open_, .int .i64 s.dwell, .int .i64 s.close, .int .i64 s.transfer, .slice A s.segs.length C, .int .i64 s.disp, .int .i64 s.horizon, .int .i64 s.bins, .int .i64 s.width] 26)).alloc (.cells #[.pointer none, .slice none 0 0] 73)) = w1 at *
  (try clear k0c k0f k0z); have k0c := fun i => Blk.cell k0 i; have k0f := fun i => Blk.free k0 i; have k0z := Blk.lt k0; (try clear k1c k1f k1z); have k1c := fun i => Blk.cell k1 i; have k1f := fun i => Blk.free k1 i; have k1z := Blk.lt k1
  clear k1 k1c k1f k1z
  unfold Hold
  have HB := Lib.hid hB
  clear hB
  go_loopw [16] (fun i wr => ∃ c : Nat, (c : Int) ≤ cols ∧ i = .int .i64 c ∧ Hid (BldT (w.heap.size + 1) (w.heap.size + 1) (R c) wr) ∧ Below (w.heap.size + 1) w1 wr) (fun i _ => cols.toNat - (intOf i).toNat)
  case atStart => exact ⟨0, by omega, rfl, by rw [HZ.out]; exact hN, Below.refl _ _⟩
  case round =>
    obtain ⟨c, hcc, rfl, hbl, hb⟩ := hrel
    by_cases hlt : (c : Int) < cols
    · have hq := show decide ((c : Int) < cols) = true from decide_eq_true hlt
      have cT := CT.out c hlt
      obtain ⟨t0, t1⟩ := HCT.out c hlt
      have hsc := HCS.out c
      have hsl := HCL.out c
      unfold markAt colT at hsc
      generalize (c : Int) * s.horizon / cols = t at *
      have hbd : ∀ k xs, xss[k]? = some xs → hitB xss s.gap t f k = (flAt s.gap xs t == f) := fun k xs hk => by unfold hitB; rw [rowD_of hk]
      generalize hitB xss s.gap t f = p at *
      have HBD := Lib.hid hbd
      have HSC := Lib.hid hsc
      have HSL := Lib.hid hsl
      have CT2 := Lib.hid cT
      clear hbd hsc hsl cT
      obtain ⟨w2, rfl⟩ : ∃ w2 : World, w2 = wr := ⟨_, rfl⟩
      have HB2 := Lib.hid hb
      clear hb
      go_wp2_with (with_reducible refine hold_loop ?_)
      unfold Hold
      clear hq
      go_loopw [21, 11, 12] (fun j m g wr => ∃ k : Nat, k ≤ xss.length ∧ j = .int .i64 k ∧ m = .int .i64 (manyN p k : Nat) ∧ g = .int .i64 (firstN p k : Nat) ∧ Hid (BldT (w.heap.size + 1) (w.heap.size + 1) (R c) wr) ∧ Below (w.heap.size + 1) w1 wr) (fun j _ _ _ => xss.length - (intOf j).toNat)
      case atStart => exact ⟨0, by omega, rfl, rfl, rfl, hbl, HB2.out⟩
      case round =>
        obtain ⟨k, hk, rfl, rfl, rfl, hbl, hb⟩ := hrel
        have hbw : Below w.heap.size w wr := HB.out.trans (hb.mono (by omega))
        have hml := manyN_le p k
        have hfl := firstN_le p k
        by_cases hkl : k < xss.length
        · obtain ⟨b, off, rfl, hbl2, hce⟩ := HX.out (by omega)
          obtain ⟨xs, hg⟩ := at_some hkl
          obtain ⟨A', C', z, hel⟩ := hce k xs hg
          replace z := (hbw.cell (p := ⟨b, off + k, none⟩) hbl2).trans z
          have hbp := HBD.out k xs hg
          obtain ⟨hfn, hnn⟩ := HR.out k xs hg
          have cA := fun (g : Grow wr) => chart_at A' C' xs s.gap t g.world ((hel.below hbw).below g.below) hfn (by omega) HG.out (hnn t t0 t1)
          have cT := fun (g : Grow wr) => CT2.out g.world
          have CA := Lib.hid cA
          have CT3 := Lib.hid cT
          replace k0 := Blk.below k0 hb (by omega)
          (try clear k0c k0f k0z); have k0c := fun i => Blk.cell k0 i; have k0f := fun i => Blk.free k0 i; have k0z := Blk.lt k0
          have hm1 : manyN p (k + 1) = if p k = true then manyN p k + 1 else manyN p k := rfl
          have hf1 : firstN p (k + 1) = if p k = true ∧ manyN p k = 0 then k else firstN p k := rfl
          rw [hbp] at hm1 hf1
          clear hce hel hg cA cT hbp hfn hnn
          generalize flAt s.gap xs t = v at *
          generalize manyN p k = m0 at *
          generalize firstN p k = f0 at *
          by_cases hv : v = f
          · have e1 : (v != f) = false := by simpa using hv
            have e2 : (v == f) = true := by simpa using hv
            rw [e2, if_pos rfl] at hm1
            rw [e2] at hf1
            by_cases h0 : m0 = 0
            · rw [if_pos ⟨rfl, h0⟩] at hf1
              subst h0
              have HM := Lib.hid hm1
              have HF := Lib.hid hf1
              clear hm1 hf1
              clear e2 hv
              go_wp2_with fail
              refine wp_region_grow (by kernel_rfl) (by kernel_rfl) ?_
              repeat (go_big_quiet_step ((first | (go_at_call 10; with_reducible exact grow_same (CT3.out _)) | (go_at_call 34; with_reducible exact grow_of (CA.out _)))))
              refine wpQuiet_nil ?_
              intro w3 hb3
              have hbl3 : Hid (BldT (w.heap.size + 1) (w.heap.size + 1) (R c) w3) := hbl.out.below hb3
              have hb4 := hb.trans (hb3.mono (by have := hb.size; omega))
              clear hb3 hbl e1
              go_wp2
              go_roundw
              case rel => exact ⟨k + 1, by omega, by go_num, by rw [HM.out]; rfl, by rw [HF.out], hbl3, hb4⟩
              case measure => simp [intOf]; omega
            · rw [if_neg (fun h => h0 h.2)] at hf1
              have e3 : ((m0 : Int) == 0) = false := beq_eq_false_iff_ne.2 (by omega)
              have HM := Lib.hid hm1
              have HF := Lib.hid hf1
              clear hm1 hf1
              clear e2 hv
              go_wp2_with fail
              refine wp_region_grow (by kernel_rfl) (by kernel_rfl) ?_
              repeat (go_big_quiet_step ((first | (go_at_call 10; with_reducible exact grow_same (CT3.out _)) | (go_at_call 34; with_reducible exact grow_of (CA.out _)))))
              refine wpQuiet_nil ?_
              intro w3 hb3
              have hbl3 : Hid (BldT (w.heap.size + 1) (w.heap.size + 1) (R c) w3) := hbl.out.below hb3
              have hb4 := hb.trans (hb3.mono (by have := hb.size; omega))
              clear hb3 hbl e1
              go_wp2
              go_roundw
              case rel => exact ⟨k + 1, by omega, by go_num, by rw [HM.out]; go_num, by rw [HF.out], hbl3, hb4⟩
              case measure => simp [intOf]; omega
          · have e1 : (v != f) = true := by simpa using hv
            have e2 : (v == f) = false := by simpa using hv
            rw [e2, if_neg (by decide)] at hm1
            rw [e2, if_neg (fun h => by cases h.1)] at hf1
            have HM := Lib.hid hm1
            have HF := Lib.hid hf1
            clear hm1 hf1
            clear e2 hv
            go_wp2_with fail
            refine wp_region_grow (by kernel_rfl) (by kernel_rfl) ?_
            repeat (go_big_quiet_step ((first | (go_at_call 10; with_reducible exact grow_same (CT3.out _)) | (go_at_call 34; with_reducible exact grow_of (CA.out _)))))
            refine wpQuiet_nil ?_
            intro w3 hb3
            have hbl3 : Hid (BldT (w.heap.size + 1) (w.heap.size + 1) (R c) w3) := hbl.out.below hb3
            have hb4 := hb.trans (hb3.mono (by have := hb.size; omega))
            clear hb3 hbl e1
            go_wp2
            go_roundw
            case rel => exact ⟨k + 1, by omega, by go_num, by rw [HM.out], by rw [HF.out], hbl3, hb4⟩
            case measure => simp [intOf]; omega
        · obtain rfl : k = xss.length := by omega
          have cM := fun w => chart_mark (manyN p xss.length) (firstN p xss.length) w (by omega) (by omega)
          have hsl := HSL.out
          have hbs := hb.size
          have cW := bldt_byte _ _ (R c) (markC (manyN p xss.length) (firstN p xss.length)) wr hbl.out (by omega) (by have := HB2.out.size; omega)
          rw [← HSC.out] at cW
          have CM := Lib.hid cM
          have CW := Lib.hid cW
          clear cM cW hsl hbl
          go_wp2_with (go_at_call 36; refine (CM.out _).mono ?_; rintro e w' ⟨rfl, rfl⟩)
          refine CW.out.mono ?_
          rintro e w3 ⟨rfl, hbl3, hb3⟩
          have hb4 := hb.trans hb3
          have H3 := Lib.hid hbl3
          clear hbl3 hb3
          go_wp2
          go_roundw
          case rel => exact ⟨c + 1, by omega, by go_num, H3, hb4⟩
          case measure => simp [intOf]; omega
    · have hcq : cols.toNat = c := by omega
      have hq := show decide ((c : Int) < cols) = false from decide_eq_false hlt
      have HQ := Lib.hid hcq
      clear hcq
      have hbs := hb.size
      have cS := Try.Builder_String_any _ _ _ wr hbl.out (by have := HB.out.size; have := k0.lt; omega)
      have CS := Lib.hid cS
      clear cS hbl
      go_wp2_with fail
      refine CS.out.mono ?_
      rintro e w2 ⟨rfl, hb2⟩
      have hfin := HB.out.trans ((hb.trans hb2).mono (by omega))
      go_wp2
      go_ret
      refine ⟨?_, hfin⟩
      rw [HQ.out]
      rfl
end Go.Proofs.Ytnegolclofgboaa
