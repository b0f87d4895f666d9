
/-
  The statement ChartDraws, walked.
-/
import Derived.Test.YtnegolclofgboaaAlive36
import Derived.Test.YtnegolclofgboaaMark36
import Derived.Test.YtnegolclofgboaaBelow36
import Derived.Test.YtnegolclofgboaaCheckd
import Derived.Test.YtnegolclofgboaaDecR
import Derived.Test.YtnegolclofgboaaArgI
import Derived.Test.YtnegolclofgboaaArgA
set_option linter.unusedVariables false
set_option linter.unusedSimpArgs false
namespace Go.Proofs.Ytnegolclofgboaa
open Go.Joins Go.ChangeShapes Go.WideShapes Go.ChangeAt Go.RowKit Go.Deep

theorem val_str {a b : ByteArray} (h : a = b) : Value.string a = .string b := by rw [h]
set_option maxRecDepth 20000 in
set_option maxHeartbeats 16000000 in
theorem draws_2 (lA : Option Addr) (lC : Nat) (xss : List (List Leg)) (s : Scen) (A : Option Addr) (C : Nat) (cols : Int) (w : World) (hx : LegRows w lA xss) (hsl : RSlice 3 RSeg w [.slice A s.segs.length C] s.segs) (hcb : -9223372036854775808 ≤ cols ∧ cols ≤ 9223372036854775807) :
    Calls Try.prog 3 #[.slice lA xss.length lC, s.val A C, .int .i64 cols] w fun e w' => e = .returned (.bool true) ∧ Below w.heap.size w w' := by
  have cK := fun w' (hb : Below w.heap.size w w') => check_any s A C w' (RSlice.stays RSeg.stays _ _ _ _ hsl hb)
  have cG := fun w' (hb : Below w.heap.size w w') hh => great35 lA lC xss s.horizon w' (hx.below hb) hh
  have cB := fun w' (hb : Below w.heap.size w w') hf => law36_below lA lC xss s.horizon w' (hx.below hb) hf
  have cN := fun w hc => chart_none lA lC xss s A C cols w hc
  have cX := fun w' (hb : Below w.heap.size w w') hok hf hc => chart_Text lA lC xss s A C cols w' (hx.below hb) hok hf hc
  have cR := fun f w' (hb : Below w.heap.size w w') hok hf hc => chart_Row lA lC xss s A C f cols w' (hx.below hb) hok hf hc
  have cM := fun f t w' (hb : Below w.heap.size w w') hl hr hf hg ht => law36_mark lA lC xss f s.gap t w' (hx.below hb) hl hr hf hg ht
  have CK := Lib.hid cK
  have CG := Lib.hid cG
  have CB := Lib.hid cB
  have CN := Lib.hid cN
  have CX := Lib.hid cX
  have CR := Lib.hid cR
  have CM := Lib.hid cM
  have HX := Lib.hid hx
  have HSL := Lib.hid hsl
  clear cK cG cB cN cX cR cM hx hsl
  unfold Scen.val at *
  go_enter Try.func3, Try.ntmps3
  go_wp2_with (first | ((with_reducible refine hold_list ?_ ?_); (· exact Eq.refl true)) | ((with_reducible refine hold_region ?_ ?_); (· exact Eq.refl true)) | (with_reducible refine hold_loop ?_))
  have k0 : Blk (w.alloc (.cells #[.int .i64 s.floors, .int .i64 s.gap, .int .i64 s.cars, .int .i64 s.capacity, .int .i64 s.open_, .int .i64 s.dwell, .int .i64 s.close, .int .i64 s.transfer, .slice A s.segs.length C, .int .i64 s.disp, .int .i64 s.horizon, .int .i64 s.bins, .int .i64 s.width] 26)) (w.heap.size) 26 #[.int .i64 s.floors, .int .i64 s.gap, .int .i64 s.cars, .int .i64 s.capacity, .int .i64 s.open_, .int .i64 s.dwell, .int .i64 s.close, .int .i64 s.transfer, .slice A s.segs.length C, .int .i64 s.disp, .int .i64 s.horizon, .int .i64 s.bins, .int .i64 s.width] := (blk_at (by simp))
  have hB : Below w.heap.size w (w.alloc (.cells #[.int .i64 s.floors, .int .i64 s.gap, .int .i64 s.cars, .int .i64 s.capacity, .int .i64 s.open_, .int .i64 s.dwell, .int .i64 s.close, .int .i64 s.transfer, .slice A s.segs.length C, .int .i64 s.disp, .int .i64 s.horizon, .int .i64 s.bins, .int .i64 s.width] 26)) := (bel_at (Below.refl _ _) (.cells #[.int .i64 s.floors, .int .i64 s.gap, .int .i64 s.cars, .int .i64 s.capacity, .int .i64 s.open_, .int .i64 s.dwell, .int .i64 s.close, .int .i64 s.transfer, .slice A s.segs.length C, .int .i64 s.disp, .int .i64 s.horizon, .int .i64 s.bins, .int .i64 s.width] 26))
  generalize (w.alloc (.cells #[.int .i64 s.floors, .int .i64 s.gap, .int .i64 s.cars, .int .i64 s.capacity, .int .i64 s.open_, .int .i64 s.dwell, .int .i64 s.close, .int .i64 s.transfer, .slice A s.segs.length C, .int .i64 s.disp, .int .i64 s.horizon, .int .i64 s.bins, .int .i64 s.width] 26)) = w1 at *
  (try clear k0c k0f k0z); have k0c := fun i => Blk.cell k0 i; have k0f := fun i => Blk.free k0 i; have k0z := Blk.lt k0
  unfold Hold
  by_cases h8 : 8 < s.segs.length
  · go_wp2
    go_ret
    exact ⟨rfl, hB⟩
  go_wp2_with fail
  refine (CK.out _ hB).mono ?_
  rintro e w2 ⟨n, rfl, hn, hb1⟩
  replace hB := hB.trans (hb1.mono hB.size)
  replace k0 := Blk.below k0 hb1 k0.lt
  (try clear k0c k0f k0z); have k0c := fun i => Blk.cell k0 i; have k0f := fun i => Blk.free k0 i; have k0z := Blk.lt k0
  clear hb1 CK
  by_cases hn0 : n = 0
  rotate_left
  · have e1 : (n != 0) = true := by simpa using hn0
    clear hn hn0
    go_wp2
    go_ret
    exact ⟨rfl, hB⟩
  subst hn0
  have hfine := hn rfl
  clear hn
  obtain ⟨⟨f1, f2⟩, ⟨f3, f4⟩, _, _, _, _, _, _, ⟨f5, f6⟩, _⟩ := hfine
  by_cases h20 : 20 < s.floors
  · go_wp2
    go_ret
    exact ⟨rfl, hB⟩
  by_cases h300 : 300 < s.horizon
  · go_wp2
    go_ret
    exact ⟨rfl, hB⟩
  go_wp2_with fail
  refine (CG.out _ hB (by omega)).mono ?_
  rintro e w3 ⟨g, rfl, hg, hb1⟩
  replace hB := hB.trans (hb1.mono hB.size)
  replace k0 := Blk.below k0 hb1 k0.lt
  (try clear k0c k0f k0z); have k0c := fun i => Blk.cell k0 i; have k0f := fun i => Blk.free k0 i; have k0z := Blk.lt k0
  clear hb1 CG
  cases g
  rotate_left
  · clear hg
    go_wp2
    go_ret
    exact ⟨rfl, hB⟩
  have hf35 := hg rfl
  have HF35 := Lib.hid hf35
  clear hg hf35
  go_wp2_with fail
  refine (CB.out _ hB HF35.out).mono ?_
  rintro e w4 ⟨g, rfl, hg, hb1⟩
  replace hB := hB.trans (hb1.mono hB.size)
  replace k0 := Blk.below k0 hb1 k0.lt
  (try clear k0c k0f k0z); have k0c := fun i => Blk.cell k0 i; have k0f := fun i => Blk.free k0 i; have k0z := Blk.lt k0
  clear hb1 CB
  cases g
  rotate_left
  · clear hg
    go_wp2
    go_ret
    exact ⟨rfl, hB⟩
  have hnb := hg rfl
  have hok : chOk xss s.gap s.horizon := ⟨HF35.out.1, ⟨by omega, by omega⟩, ⟨by omega, by omega⟩, fun i xs hi => ⟨(HF35.out.2.2 i xs hi).2.1, fun t _ h1 hw => noneB_at hnb hi h1 hw (HF35.out.2.2 i xs hi).2.1⟩⟩
  have HOK := Lib.hid hok
  clear hg hnb hok
  have hcs : (cols < 1 ∨ 200 < cols) ∨ (100 < cols ∧ cols ≤ 200) ∨ (1 ≤ cols ∧ cols ≤ 100) := by omega
  rcases hcs with hc | ⟨hc1, hc2⟩ | ⟨hc1, hc2⟩
  · have he1 : (txt []).toList = [] := by rw [txt_toList]
    have he2 : (txt []).toList.isEmpty = true := by rw [txt_toList]; rfl
    have he3 : ((txt []).toList == []) = true := by rw [txt_toList]; rfl
    rcases hc with hc | hc
    all_goals
      go_wp2_with fail
      refine (CN.out _ (by omega)).mono ?_
      rintro e w5 ⟨rfl, hb1⟩
      replace hB := hB.trans (hb1.mono hB.size)
      clear hb1 CN
      go_wp2_with fail
      refine (alive36 _).mono ?_
      rintro e w6 ⟨rfl, hb1⟩
      replace hB := hB.trans (hb1.mono hB.size)
      clear hb1
      go_wp2
      go_ret
      exact ⟨rfl, hB⟩
  · go_wp2
    go_ret
    exact ⟨rfl, hB⟩
  · go_wp2_with fail
    refine (CX.out _ hB HOK.out (by omega) (by omega)).mono ?_
    rintro e w5 ⟨rfl, hb1⟩
    replace hB := hB.trans (hb1.mono hB.size)
    replace k0 := Blk.below k0 hb1 k0.lt
    (try clear k0c k0f k0z); have k0c := fun i => Blk.cell k0 i; have k0f := fun i => Blk.free k0 i; have k0z := Blk.lt k0
    clear hb1 CN CX
    have hsc : ∀ k, chartL xss s.gap s.horizon cols s.floors (k + 1) = chartL xss s.gap s.horizon cols s.floors k ++ (padL (decI (s.floors - 1 - k)) 3 ++ [32] ++ rowL xss s.gap s.horizon cols (s.floors - 1 - k) cols.toNat ++ [10]) := fun k => rfl
    have htl := fun k => chartL_len xss s.gap s.horizon cols s.floors k
    have HZ : Hid (chartL xss s.gap s.horizon cols s.floors 0 = []) := rfl
    generalize chartL xss s.gap s.horizon cols s.floors = T at *
    have HSC := Lib.hid hsc
    have HTL := Lib.hid htl
    have HB := Lib.hid hB
    clear hsc hB htl
    go_wp2_with (with_reducible refine hold_loop ?_)
    unfold Hold
    have K0 := Lib.hid k0
    go_loopw [10, 9] (fun i v wr => ∃ k : Nat, k ≤ s.floors.toNat ∧ i = .int .i64 (s.floors - 1 - (k : Int)) ∧ v = .string (txt (T k)) ∧ Below w5.heap.size w5 wr) (fun i _ _ => (intOf i + 1).toNat)
    case atStart => exact ⟨0, by omega, val_int (by omega), by rw [HZ.out]; rfl, Below.refl _ _⟩
    case round =>
      obtain ⟨k, hk, rfl, rfl, hb⟩ := hrel
      have hbw : Below w.heap.size w wr := HB.out.trans (hb.mono HB.out.size)
      replace k0 := Blk.below K0.out hb K0.out.lt
      (try clear k0c k0f k0z); have k0c := fun i => Blk.cell k0 i; have k0f := fun i => Blk.free k0 i; have k0z := Blk.lt k0
      by_cases hlt : k < s.floors.toNat
      · have hf0 : 0 ≤ s.floors - 1 - (k : Int) := by omega
        have hf1 : s.floors - 1 - (k : Int) ≤ 20 := by omega
        have hsk := HSC.out k
        have cR := fun w' hb => CR.out (s.floors - 1 - (k : Int)) w' hb HOK.out ⟨hf0, hf1⟩ (by omega)
        have cM := fun t w' hb ht => CM.out (s.floors - 1 - (k : Int)) t w' hb HOK.out.1 (fun i xs hi => (HOK.out.2.2.2 i xs hi).1) ⟨hf0, hf1⟩ HOK.out.2.1 ht
        have cO := fun w => ref02_Of (s.floors - 1 - (k : Int)) w ⟨by omega, by omega⟩
        have cP := fun w => ref02_Pad (decI (s.floors - 1 - (k : Int))) 3 w (by have := decI_len (s.floors - 1 - (k : Int)); omega) (by omega)
        rw [show ((3 : Nat) : Int) = 3 from rfl] at cP
        have hrs := fun c => rowL_succ xss s.gap s.horizon cols (s.floors - 1 - (k : Int)) c
        have hrl := fun c => rowL_len xss s.gap s.horizon cols (s.floors - 1 - (k : Int)) c
        have hpl := pad_len (decI (s.floors - 1 - (k : Int))) 3
        have hdl := decI_len (s.floors - 1 - (k : Int))
        have htl := HTL.out k
        have htb : k * (23 + cols.toNat) ≤ 20 * 123 := Nat.mul_le_mul (by omega) (by omega)
        have hr0 : Hid (rowL xss s.gap s.horizon cols (s.floors - 1 - (k : Int)) 0 = []) := rfl
        generalize padL (decI (s.floors - 1 - (k : Int))) 3 = P at *
        generalize decI (s.floors - 1 - (k : Int)) = Q at *
        generalize rowL xss s.gap s.horizon cols (s.floors - 1 - (k : Int)) = R at *
        generalize hfe : s.floors - 1 - (k : Int) = f at *
        have hfn : Hid (f - 1 = s.floors - 1 - ((k + 1 : Nat) : Int)) := by show f - 1 = _; omega
        have HSK := Lib.hid hsk
        have s1 : (txt (T k)).size ≤ 2460 := by rw [txt_size]; omega
        have s2 : (txt P).size ≤ 30 := by rw [txt_size]; omega
        have HRL := Lib.hid hrl
        have CR2 := Lib.hid cR
        have CM2 := Lib.hid cM
        have CO := Lib.hid cO
        have CP := Lib.hid cP
        have HRS := Lib.hid hrs
        have HB1 := Lib.hid hb
        have hfe' := Lib.hid hfe
        clear hsk cR cM cO cP hrs hb hbw hfe hrl hpl hdl htl htb
        obtain ⟨w6, rfl⟩ : ∃ w6 : World, w6 = wr := ⟨_, rfl⟩
        go_wp2_with (with_reducible refine hold_loop ?_)
        unfold Hold
        go_loopw [12, 11] (fun i v wr => ∃ c : Nat, (c : Int) ≤ cols ∧ i = .int .i64 c ∧ v = .string (txt (R c)) ∧ Below w5.heap.size w5 wr) (fun i _ _ => cols.toNat - (intOf i).toNat)
        case atStart => exact ⟨0, by omega, rfl, by rw [hr0.out]; rfl, HB1.out⟩
        case round =>
          obtain ⟨c, hcc, rfl, rfl, hb⟩ := hrel
          have hbw : Below w.heap.size w wr := HB.out.trans (hb.mono HB.out.size)
          replace k0 := Blk.below K0.out hb K0.out.lt
          (try clear k0c k0f k0z); have k0c := fun i => Blk.cell k0 i; have k0f := fun i => Blk.free k0 i; have k0z := Blk.lt k0
          by_cases hcl : (c : Int) < cols
          · have cT := fun w => chart_Tick (c : Int) cols s.horizon w (by omega) (by omega) (by omega)
            obtain ⟨t0, t1⟩ := colT_bd (cols := cols) (h := s.horizon) (c := c) f5 hcl
            have hrk := HRS.out c
            have s3 : (txt (R c)).size ≤ 100 := by rw [txt_size, HRL.out]; omega
            have s4 : ∀ mk, (txt [mk]).size ≤ 1 := fun mk => by rw [txt_size]; simp
            replace s4 := s4 (markAt xss s.gap f ((c : Int) * s.horizon / cols))
            have m0 : 0 ≤ (c : Int) * s.horizon := Int.mul_nonneg (by omega) (by omega)
            have m1 : (c : Int) * s.horizon ≤ 100 * 300 := Int.mul_le_mul (by omega) (by omega) (by omega) (by omega)
            unfold colT at t0 t1 hrk
            have cM := fun w' hb => CM2.out ((c : Int) * s.horizon / cols) w' hb ⟨t0, by omega⟩
            generalize markAt xss s.gap f ((c : Int) * s.horizon / cols) = mk at *
            have e1 : IntKind.i64.wrap ((c : Int) * s.horizon) = (c : Int) * s.horizon := IntWalk.i64_in _ (by omega)
            have e2 : ((c : Int) * s.horizon).tdiv cols = (c : Int) * s.horizon / cols := Int.tdiv_eq_ediv_of_nonneg m0
            have e3 : (cols == 0) = false := beq_eq_false_iff_ne.2 (by omega)
            have HRK := Lib.hid hrk
            have CT := Lib.hid cT
            have CM3 := Lib.hid cM
            clear hrk cT cM
            go_wp2_with fail
            refine wp_region_grow (by kernel_rfl) (by kernel_rfl) ?_
            repeat (go_big_quiet_step ((first | (go_at_call 10; with_reducible exact grow_same (CT.out _)))))
            refine wpQuiet_nil ?_
            intro w7 hb7
            have hbw7 := hbw.trans (hb7.mono hbw.size)
            have hb8 := hb.trans (hb7.mono hb.size)
            replace k0 := Blk.below k0 hb7 k0.lt
            (try clear k0c k0f k0z); have k0c := fun i => Blk.cell k0 i; have k0f := fun i => Blk.free k0 i; have k0z := Blk.lt k0
            have cM := fun (g : Grow w7) => CM3.out g.world (hbw7.trans (g.below.mono hbw7.size))
            have CM4 := Lib.hid cM
            have HB8 := Lib.hid hb8
            clear cM hb7 hb8 hb hbw hbw7
            go_wp2_with fail
            refine wp_region_grow (by kernel_rfl) (by kernel_rfl) ?_
            repeat (go_big_quiet_step ((first | (go_at_call 11; with_reducible exact grow_of (CM4.out _)))))
            refine wpQuiet_nil ?_
            intro w8 hb9
            have hb10 := HB8.out.trans (hb9.mono HB8.out.size)
            clear hb9 e1 e2
            go_wp2
            go_roundw
            case rel => exact ⟨c + 1, by omega, by go_num, by rw [txt_append, ← HRK.out], hb10⟩
            case measure => simp [intOf]; omega
          · have hcq : cols.toNat = c := by omega
            rw [hcq] at HSK CR2
            have cR := CR2.out wr hbw
            have CR3 := Lib.hid cR
            have HB3 := Lib.hid hb
            clear cR hb hcq
            have s3 : (txt (R c)).size ≤ 100 := by rw [txt_size, HRL.out]; omega
            generalize R c = r at *
            have hne : ((txt r).toList != (txt r).toList) = false := by simp
            go_wp2_with (go_at_call 12; refine CR3.out.mono ?_; rintro e w7 ⟨rfl, hb7⟩)
            have hb8 := HB3.out.trans (hb7.mono HB3.out.size)
            have HB8 := Lib.hid hb8
            clear hb7 hb8
            go_wp2_with (go_at_call 14; refine (CO.out _).mono ?_; rintro e w8 ⟨rfl, hb9⟩)
            have hb10 := HB8.out.trans (hb9.mono HB8.out.size)
            clear hb9
            go_wp2_with (go_at_call 13; refine (CP.out _).mono ?_; rintro e w' ⟨rfl, rfl⟩)
            clear hne
            have hfn2 := hfn.out
            go_roundw
            case rel => exact ⟨k + 1, by omega, val_int hfn2, val_str (by rw [HSK.out]; show txt (T k) ++ (txt P ++ txt [32] ++ txt r ++ txt [10]) = _; simp only [txt_append]), hb10⟩
            case measure => simp [intOf]; omega
      · obtain ⟨F, hF⟩ : ∃ F, F = s.floors.toNat := ⟨_, rfl⟩
        have hkF : k = F := by omega
        have hneg : s.floors - 1 - (k : Int) = -1 := by omega
        rw [hneg]
        have HF := Lib.hid (hkF.trans hF)
        have HBW := Lib.hid hbw
        clear hneg hF hkF hb hbw
        have he : ((txt (T s.floors.toNat)).toList == (txt (T k)).toList) = true := by rw [HF.out]; simp
        go_wp2_with (go_at_call 9; refine (alive36 _).mono ?_; rintro e w6 ⟨rfl, hb6⟩)
        have hb7 := HBW.out.trans (hb6.mono HBW.out.size)
        clear hb6
        go_wp2
        go_ret
        exact ⟨rfl, hb7⟩

set_option maxRecDepth 100000 in
theorem walkChartDraws {H : Type} (W : World) (base : Nat) (enc : TypeId × Value → H) {v0 : Value} {d0 : DataW H} {p0 : List MemPlace} {v1 : Value} {d1 : DataW H} {p1 : List MemPlace} {v2 : Value} {d2 : DataW H} {p2 : List MemPlace}
    (h0 : DataW.Trod enc Try.prog W 0 (fun _ => true) true 22 v0 d0 p0) (h1 : DataW.Trod enc Try.prog W 0 (fun _ => true) true 26 v1 d1 p1) (h2 : DataW.Trod enc Try.prog W 0 (fun _ => true) true 3 v2 d2 p2)
    (o0 : Value.okWide Try.prog W .any base 22 v0) (o1 : Value.okWide Try.prog W .any base 26 v1) (o2 : Value.okWide Try.prog W .any base 3 v2) :
    Calls Try.prog 3 #[v0, v1, v2] W fun e W' => e = .returned (.bool true) ∧ Below W.heap.size W W' := by
  obtain ⟨n, hn⟩ := arg_slice Try.underlying22 o0 h0
  obtain ⟨xss, hxs⟩ := read_slice (size := 1) Try.underlying22 (by kernel_rfl) (by decide) (fun _ _ _ h => read_slice (size := 4) Try.underlying44 (by kernel_rfl) (by decide) (fun _ _ _ h => read_Leg h) h) hn
  obtain ⟨lA, lC, rfl, _, _⟩ := slice_len hxs
  obtain ⟨cs1, rfl, n1, hn1⟩ := arg_agg (.inl ⟨_, Try.underlying26⟩) o1 h1
  obtain ⟨s, A, C, rfl, hok, hsl⟩ := read_Scen hn1
  obtain ⟨cols, rfl, c1, c2⟩ := arg_int o2 h2
  exact draws_2 lA lC xss s A C cols W (rows2_of (fun _ _ _ h => h.1) hxs) hsl ⟨c1, c2⟩
end Go.Proofs.Ytnegolclofgboaa
