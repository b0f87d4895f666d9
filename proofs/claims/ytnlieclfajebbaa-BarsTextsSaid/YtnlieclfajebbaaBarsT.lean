
/-
  bars.Text: names and numbers as bars. Condition: at most 40 of them, names of at most 60 bytes.
-/
import Derived.Test.YtnlieclfajebbaaBarsP
import Derived.Test.YtnlieclfajebbaaBld
set_option linter.unusedVariables false
set_option linter.unusedSimpArgs false
namespace Go.Proofs.Ytnlieclfajebbaa
open Go.Joins Go.ChangeShapes Go.WideShapes Go.ChangeAt Go.RowKit Go.Deep

theorem cells_add (l m : List UInt8) : Lib.byteCells l ++ Lib.strCells (txt m) = Lib.byteCells (l ++ m) := by simp [Lib.byteCells, Lib.strCells, txt]
theorem bld_txt (B b : Nat) (l m : List UInt8) (w : World) (h : Bld B b (Lib.byteCells l) w) (hlen : l.length + m.length ≤ 100000) (hBw : B ≤ w.heap.size) :
    Calls Try.prog 84 #[.pointer (some ⟨b, 0, none⟩), .string (txt m)] w fun e w' => e = .returned (.tuple #[.int .i64 (m.length : Int), .nilIface]) ∧ (Bld B b (Lib.byteCells (l ++ m)) w' ∧ Below B w w') := by
  have h1 := bld_str B b (Lib.byteCells l) (txt m) w h (by rw [Lib.byteCells_length, txt_size]; omega) hBw
  rw [cells_add, txt_size] at h1
  exact h1
theorem rep_call (c : Nat) (w : World) (hc : c ≤ 200) : Calls Try.prog 98 #[.string ⟨#[61]⟩, .int .i64 (c : Int)] w fun e w' => e = .returned (.string (txt (List.replicate c 61))) ∧ Below w.heap.size w w' := by
  have h := Try.strings_Repeat ⟨#[61]⟩ c w (by omega) (by show 1 * c ≤ _; omega)
  rw [show Lib.repeatL (⟨#[61]⟩ : ByteArray).data.toList c = List.replicate c 61 from rep_one c] at h
  exact h
set_option maxRecDepth 20000 in
set_option maxHeartbeats 8000000 in
theorem bars_Text (A : Option Addr) (C : Nat) (nm : List (List UInt8)) (B : Option Addr) (D : Nat) (xs : List Int) (long : Int) (w : World) (hn : Strs w A nm) (hx : Ints w B xs)
    (hl : xs.length ≤ 40) (hnl : nm.length ≤ 40) (hz : ∀ i, (nm0 nm i).length ≤ 60) (hbd : ∀ i, I64 (at0 xs i)) (hlong : I64 long) :
    Calls Try.prog 64 #[.slice A nm.length C, .slice B xs.length D, .int .i64 long] w fun e w' => e = .returned (.tuple #[.string (txt (barsT nm xs long)), .int .i64 (barsE nm xs long)]) ∧ Below w.heap.size w w' := by
  by_cases hlen : nm.length = xs.length
  · have HN := Lib.hid hn
    have HX := Lib.hid hx
    have HZ := Lib.hid hz
    have HBD := Lib.hid hbd
    have HL := Lib.hid hlen
    have htl := fun k => textL_len (xs := xs) (top := topN xs xs.length) (long := long) hz (wideN_bd hz xs.length) k
    have HTL := Lib.hid htl
    have hwd := fun k => wideN_bd hz k
    have htp := fun k => topN_bd hbd k
    have HWD := Lib.hid hwd
    have HTP := Lib.hid htp
    have HLO := Lib.hid hlong
    rw [hlen]
    clear hn hx hz hbd hlen htl hwd htp hlong
    go_enter Try.func64, Try.ntmps64
    go_wp2
    go_loopw [24, 8, 9] (fun i u v wr => ∃ k : Nat, k ≤ xs.length ∧ i = .int .i64 k ∧ u = .int .i64 (topN xs k) ∧ v = .int .i64 (wideN nm k : Nat) ∧ Below w.heap.size w wr) (fun i _ _ _ => xs.length - (intOf i).toNat)
    case atStart => exact ⟨0, by omega, rfl, rfl, rfl, Below.refl _ _⟩
    case round =>
      obtain ⟨k, hk, rfl, rfl, rfl, hb⟩ := hrel
      by_cases hlt : k < xs.length
      · obtain ⟨b, off, rfl, hbl, hce⟩ := (HX.out.below hb) (by omega)
        have hcx := hce k hlt
        obtain ⟨b2, off2, rfl, hbl2, hce2⟩ := (HN.out.below hb) (by have := HL.out; omega)
        have hcn := hce2 k (by have := HL.out; omega)
        have hsz : (txt (nm0 nm k)).size = (nm0 nm k).length := txt_size _
        have hz := HZ.out k
        have hw0 := HWD.out k
        obtain ⟨t0, t1⟩ := HTP.out k
        obtain ⟨x0, x1⟩ := HBD.out k
        have e1 : topN xs (k + 1) = if topN xs k < at0 xs k then at0 xs k else topN xs k := rfl
        have e2 : wideN nm (k + 1) = if wideN nm k < (nm0 nm k).length then (nm0 nm k).length else wideN nm k := rfl
        have E1 := Lib.hid e1
        have E2 := Lib.hid e2
        clear hce hce2 e1 e2
        generalize at0 xs k = x at *
        generalize topN xs k = tp at *
        generalize txt (nm0 nm k) = s at *
        generalize (nm0 nm k).length = sl at *
        generalize wideN nm k = wd at *
        rcases Int.lt_or_le tp x with c1 | c1 <;> rcases Nat.lt_or_ge wd sl with c2 | c2
        · go_wp2
          go_quiet (fail)
          go_wp2
          go_roundw
          case rel => exact ⟨k + 1, by omega, by go_num, by rw [E1.out, if_pos c1]; exact val_int (by omega), by rw [E2.out, if_pos c2]; exact val_int (by omega), below_drewN hb _⟩
          case measure => simp [intOf]; omega
        · go_wp2
          go_quiet (fail)
          go_wp2
          go_roundw
          case rel => exact ⟨k + 1, by omega, by go_num, by rw [E1.out, if_pos c1]; exact val_int (by omega), by rw [E2.out, if_neg (by omega)]; exact val_int (by omega), below_drewN hb _⟩
          case measure => simp [intOf]; omega
        · go_wp2
          go_quiet (fail)
          go_wp2
          go_roundw
          case rel => exact ⟨k + 1, by omega, by go_num, by rw [E1.out, if_neg (by omega)]; exact val_int (by omega), by rw [E2.out, if_pos c2]; exact val_int (by omega), below_drewN hb _⟩
          case measure => simp [intOf]; omega
        · go_wp2
          go_quiet (fail)
          go_wp2
          go_roundw
          case rel => exact ⟨k + 1, by omega, by go_num, by rw [E1.out, if_neg (by omega)]; exact val_int (by omega), by rw [E2.out, if_neg (by omega)]; exact val_int (by omega), below_drewN hb _⟩
          case measure => simp [intOf]; omega
      · obtain rfl : k = xs.length := by omega
        have hw0 := HWD.out xs.length
        obtain ⟨t0, t1⟩ := HTP.out xs.length
        have hbok := bars_ok (nm := nm) (xs := xs) (long := long) HL.out
        have hbad := bars_bad (nm := nm) (xs := xs) (long := long)
        have BOK := Lib.hid hbok
        have BBAD := Lib.hid hbad
        clear HWD HTP hbok hbad
        generalize topN xs xs.length = tp at *
        generalize wideN nm xs.length = wd at *
        obtain ⟨wo, rfl⟩ : ∃ wo : World, wo = wr := ⟨_, rfl⟩
        go_wp2_with fail
        have hN := Bld.fresh wo
        have hB := Joins.below_alloc1 wo (.cells #[.pointer none, .slice none 0 0] 122)
        generalize wo.alloc (.cells #[.pointer none, .slice none 0 0] 122) = w1 at *
        have hb1 : Below w.heap.size w w1 := hb.trans (hB.mono hb.size)
        go_loopw [42] (fun i wr => ∃ k : Nat, k ≤ xs.length ∧ i = .int .i64 k ∧ Hid (badAt xs tp long k = false) ∧ Bld wo.heap.size wo.heap.size (Lib.byteCells (textL nm xs wd tp long k)) wr ∧ Below wo.heap.size wo wr) (fun i _ => xs.length - (intOf i).toNat)
        case atStart => exact ⟨0, by omega, rfl, rfl, hN, hB⟩
        case round =>
          obtain ⟨k, hk, rfl, hnb, hbl, hbs⟩ := hrel
          have hbt : Below w.heap.size w wr := hb.trans (hbs.mono hb.size)
          by_cases hlt : k < xs.length
          · have hcx : ∀ wx, Below w.heap.size w wx → ∃ b off, B = some ⟨b, off, none⟩ ∧ wx.cell? ⟨b, off + k, none⟩ = some (.int .i64 (at0 xs k)) := fun wx hbx => by
              obtain ⟨b, off, e, _, hce⟩ := (HX.out.below hbx) (by omega)
              exact ⟨b, off, e, hce k hlt⟩
            have hcn : ∀ wx, Below w.heap.size w wx → ∃ b off, A = some ⟨b, off, none⟩ ∧ wx.cell? ⟨b, off + k, none⟩ = some (.string (txt (nm0 nm k))) := fun wx hbx => by
              obtain ⟨b, off, e, _, hce⟩ := (HN.out.below hbx) (by have := HL.out; omega)
              exact ⟨b, off, e, hce k (by have := HL.out; omega)⟩
            have HCN := Lib.hid hcn
            obtain ⟨b, off, rfl, hcx1⟩ := hcx wr hbt
            have hz := HZ.out k
            obtain ⟨x0, x1⟩ := HBD.out k
            have cL := fun w => bars_Long (at0 xs k) tp long w ⟨x0, x1⟩ ⟨by omega, by omega⟩ HLO.out
            obtain ⟨v0, v1, v2⟩ := bar_bd (at0 xs k) tp long
            by_cases hbb : barBad (at0 xs k) tp long
            · rw [(v1 hbb).1, (v1 hbb).2] at cL
              obtain ⟨r1, r2⟩ := BBAD.out (badAt_hit hlt hbb)
              have CL := Lib.hid cL
              have R1 := Lib.hid r1
              have R2 := Lib.hid r2
              clear hcx hcn cL v0 v1 v2 hbb r1 r2 BOK BBAD
              generalize at0 xs k = x at *
              go_wp2_with fail
              refine (CL.out _).mono ?_
              rintro e w2 ⟨rfl, m, rfl⟩
              go_wp2
              go_ret2
              exact ⟨by rw [R1.out, R2.out]; rfl, below_drewN hbt _⟩
            · have hv : barV (at0 xs k) tp long = (barN xs tp long k : Int) := by unfold barN; omega
              have hbn := barN_bd xs tp long k
              rw [(v2 hbb).1, hv] at cL
              have cP := fun w => digits_Pad (nm0 nm k) wd w (by omega) (by omega)
              have cR := fun w => rep_call (barN xs tp long k) w hbn
              have cO := fun w => digits_Of (at0 xs k) w ⟨x0, x1⟩
              have hnb2 : badAt xs tp long (k + 1) = false := by simp only [badAt, Bool.or_eq_false_iff, decide_eq_false_iff_not]; exact ⟨hnb.out, hbb⟩
              have hT : textL nm xs wd tp long (k + 1) = textL nm xs wd tp long k ++ (padL (nm0 nm k) wd ++ [32, 124] ++ List.replicate (barN xs tp long k) 61 ++ ([32] ++ decI (at0 xs k) ++ [10])) := rfl
              have hT0 := HTL.out k
              have l1 := pad_len (nm0 nm k) wd
              have l2 := decI_len (at0 xs k)
              have l3 : (List.replicate (barN xs tp long k) (61 : UInt8)).length = barN xs tp long k := by simp
              have CL := Lib.hid cL
              have CP := Lib.hid cP
              have CR := Lib.hid cR
              have CO := Lib.hid cO
              have NB2 := Lib.hid hnb2
              have HT := Lib.hid hT
              have hTL : (textL nm xs wd tp long k).length ≤ 12000 := by omega
              clear hcx hcn cL cP cR cO v0 v1 v2 hbb hnb2 hT hv BOK BBAD hT0
              generalize at0 xs k = x at *
              generalize List.replicate (barN xs tp long k) (61 : UInt8) = rp at *
              generalize barN xs tp long k = bn at *
              generalize padL (nm0 nm k) wd = pd at *
              generalize decI x = dx at *
              generalize textL nm xs wd tp long k = T at *
              go_wp2_with fail
              refine (CL.out _).mono ?_
              rintro e w2 ⟨rfl, m, rfl⟩
              have hb2 : Below wo.heap.size wo (wr.drewN m) := below_drewN hbs m
              have hbl2 := hbl.below (below_drewN (Below.refl wr.heap.size wr) m)
              have hw2 : Below w.heap.size w (wr.drewN m) := hb.trans (hb2.mono hb.size)
              generalize wr.drewN m = w2 at *
              clear hbl
              obtain ⟨b2, off2, rfl, hcn2⟩ := HCN.out w2 hw2
              go_wp2_with fail
              refine (CP.out _).mono ?_
              rintro e w3 ⟨rfl, hb3⟩
              have hbl3 := hbl2.below hb3
              have hb3' := hb2.trans (hb3.mono hb2.size)
              clear hcn2 hcx1 hbl2 hb3
              go_wp2_with fail
              refine (bld_txt _ _ _ _ _ hbl3 (by first | omega | (simp only [List.length_append, List.length_cons, List.length_nil]; omega)) hb3'.size).mono ?_
              rintro e w4 ⟨rfl, hbl4, hb4⟩
              have hb4' := hb3'.trans hb4
              clear hbl3 hb4
              go_wp2_with fail
              refine (bld_txt _ _ _ [32, 124] _ hbl4 (by first | omega | (simp only [List.length_append, List.length_cons, List.length_nil]; omega)) hb4'.size).mono ?_
              rintro e w5 ⟨rfl, hbl5, hb5⟩
              have hb5' := hb4'.trans hb5
              clear hbl4 hb5
              go_wp2_with fail
              refine (CR.out _).mono ?_
              rintro e w6 ⟨rfl, hb6⟩
              have hbl6 := hbl5.below hb6
              have hb6' := hb5'.trans (hb6.mono hb5'.size)
              clear hbl5 hb6
              go_wp2_with fail
              refine (bld_txt _ _ _ _ _ hbl6 (by first | omega | (simp only [List.length_append, List.length_cons, List.length_nil]; omega)) hb6'.size).mono ?_
              rintro e w7 ⟨rfl, hbl7, hb7⟩
              have hb7' := hb6'.trans hb7
              clear hbl6 hb7
              go_wp2_with fail
              refine (bld_txt _ _ _ [32] _ hbl7 (by first | omega | (simp only [List.length_append, List.length_cons, List.length_nil]; omega)) hb7'.size).mono ?_
              rintro e w8 ⟨rfl, hbl8, hb8⟩
              have hb8' := hb7'.trans hb8
              clear hbl7 hb8
              go_wp2_with fail
              refine (CO.out _).mono ?_
              rintro e w9 ⟨rfl, hb9⟩
              have hbl9 := hbl8.below hb9
              have hb9' := hb8'.trans (hb9.mono hb8'.size)
              clear hbl8 hb9
              go_wp2_with fail
              refine (bld_txt _ _ _ _ _ hbl9 (by first | omega | (simp only [List.length_append, List.length_cons, List.length_nil]; omega)) hb9'.size).mono ?_
              rintro e wa ⟨rfl, hbla, hba⟩
              have hba' := hb9'.trans hba
              clear hbl9 hba
              go_wp2_with fail
              refine (bld_txt _ _ _ [10] _ hbla (by first | omega | (simp only [List.length_append, List.length_cons, List.length_nil]; omega)) hba'.size).mono ?_
              rintro e wb ⟨rfl, hblb, hbb⟩
              have hbb' := hba'.trans hbb
              clear hbla hbb
              have hfin : Bld wo.heap.size wo.heap.size (Lib.byteCells (textL nm xs wd tp long (k + 1))) wb := by
                rw [HT.out]
                simpa only [List.append_assoc] using hblb
              have HF := Lib.hid hfin
              clear hblb hfin
              go_wp2
              go_roundw
              case rel => exact ⟨k + 1, by omega, by go_num, NB2, HF.out, hbb'⟩
              case measure => simp [intOf]; omega
          · obtain rfl : k = xs.length := by omega
            obtain ⟨r1, r2⟩ := BOK.out hnb.out
            have R1 := Lib.hid r1
            have R2 := Lib.hid r2
            clear r1 r2 BOK BBAD
            go_wp2_with fail
            refine (Try.Builder_String_any _ _ _ _ hbl hbs.size).mono ?_
            rintro e w2 ⟨rfl, hb2⟩
            have hfin := hb.trans ((hbs.trans hb2).mono hb.size)
            go_wp2
            go_ret2
            exact ⟨by rw [R1.out, R2.out]; rfl, hfin⟩
  · obtain ⟨r1, r2⟩ := bars_no (xs := xs) (long := long) hlen
    rw [r1, r2]
    have q1 : ((nm.length : Int) == (xs.length : Int)) = false := by simp; omega
    clear r1 r2
    go_enter Try.func64, Try.ntmps64
    go_wp2
    go_ret2
    exact ⟨rfl, Below.refl _ _⟩
end Go.Proofs.Ytnlieclfajebbaa
