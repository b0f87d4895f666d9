
/-
  hoistwayref55.Text: names and numbers as bars by the document; the chapter's example. Condition: at most 40 of them, names of at most 60 bytes.
-/
import Derived.Test.YtnlieclfajebbaaBarsT
set_option linter.unusedVariables false
set_option linter.unusedSimpArgs false
namespace Go.Proofs.Ytnlieclfajebbaa
open Go.Joins Go.ChangeShapes Go.WideShapes Go.ChangeAt Go.RowKit Go.Deep

set_option maxRecDepth 20000 in
set_option maxHeartbeats 8000000 in
theorem ref55_Text (A : Option Addr) (C : Nat) (nm : List (List UInt8)) (B : Option Addr) (D : Nat) (xs : List Int) (long : Int) (w : World) (hn : Strs w A nm) (hx : Ints w B xs)
    (hl : xs.length ≤ 40) (hnl : nm.length ≤ 40) (hz : ∀ i, (nm0 nm i).length ≤ 60) (hbd : ∀ i, I64 (at0 xs i)) (hlong : I64 long) :
    Calls Try.prog 65 #[.slice A nm.length C, .slice B xs.length D, .int .i64 long] w fun e w' => e = .returned (.tuple #[.string (txt (barsT nm xs long)), .int .i64 (barsE nm xs long)]) ∧ Below w.heap.size w w' := by
  by_cases hlen : nm.length = xs.length
  · have HN := Lib.hid hn
    have HX := Lib.hid hx
    have HZ := Lib.hid hz
    have HBD := Lib.hid hbd
    have HL := Lib.hid hlen
    have htl := fun k => textL_len (xs := xs) (top := topN xs xs.length) (long := long) hz (wideN_bd hz xs.length) k
    have HTL := Lib.hid htl
    have hwd := fun k => wideN_bd hz k
    have htp := fun k => topN_bd hbd k
    have HWD := Lib.hid hwd
    have HTP := Lib.hid htp
    have HLO := Lib.hid hlong
    rw [hlen]
    clear hn hx hz hbd hlen htl hwd htp hlong
    go_enter Try.func65, Try.ntmps65
    go_wp2
    go_loopw [10, 8, 9] (fun i u v wr => ∃ k : Nat, k ≤ xs.length ∧ i = .int .i64 k ∧ u = .int .i64 (topN xs k) ∧ v = .int .i64 (wideN nm k : Nat) ∧ wr = w) (fun i _ _ _ => xs.length - (intOf i).toNat)
    case atStart => exact ⟨0, by omega, rfl, rfl, rfl, rfl⟩
    case round =>
      obtain ⟨k, hk, rfl, rfl, rfl, rfl⟩ := hrel
      by_cases hlt : k < xs.length
      · obtain ⟨b, off, rfl, hbl, hce⟩ := HX.out (by omega)
        have hcx := hce k hlt
        obtain ⟨b2, off2, rfl, hbl2, hce2⟩ := HN.out (by have := HL.out; omega)
        have hcn := hce2 k (by have := HL.out; omega)
        have hsz : (txt (nm0 nm k)).size = (nm0 nm k).length := txt_size _
        have hz := HZ.out k
        have hw0 := HWD.out k
        obtain ⟨t0, t1⟩ := HTP.out k
        obtain ⟨x0, x1⟩ := HBD.out k
        have e1 : topN xs (k + 1) = if topN xs k < at0 xs k then at0 xs k else topN xs k := rfl
        have e2 : wideN nm (k + 1) = if wideN nm k < (nm0 nm k).length then (nm0 nm k).length else wideN nm k := rfl
        have E1 := Lib.hid e1
        have E2 := Lib.hid e2
        clear hce hce2 e1 e2
        generalize at0 xs k = x at *
        generalize topN xs k = tp at *
        generalize txt (nm0 nm k) = s at *
        generalize (nm0 nm k).length = sl at *
        generalize wideN nm k = wd at *
        rcases Int.lt_or_le tp x with c1 | c1 <;> rcases Nat.lt_or_ge wd sl with c2 | c2
        · go_wp2
          go_roundw
          case rel => exact ⟨k + 1, by omega, by go_num, by rw [E1.out, if_pos c1], by rw [E2.out, if_pos c2], trivial⟩
          case measure => simp [intOf]; omega
        · go_wp2
          go_roundw
          case rel => exact ⟨k + 1, by omega, by go_num, by rw [E1.out, if_pos c1], by rw [E2.out, if_neg (by omega)], trivial⟩
          case measure => simp [intOf]; omega
        · go_wp2
          go_roundw
          case rel => exact ⟨k + 1, by omega, by go_num, by rw [E1.out, if_neg (by omega)], by rw [E2.out, if_pos c2], trivial⟩
          case measure => simp [intOf]; omega
        · go_wp2
          go_roundw
          case rel => exact ⟨k + 1, by omega, by go_num, by rw [E1.out, if_neg (by omega)], by rw [E2.out, if_neg (by omega)], trivial⟩
          case measure => simp [intOf]; omega
      · obtain rfl : k = xs.length := by omega
        have hw0 := HWD.out xs.length
        obtain ⟨t0, t1⟩ := HTP.out xs.length
        have hbok := bars_ok (nm := nm) (xs := xs) (long := long) HL.out
        have hbad := bars_bad (nm := nm) (xs := xs) (long := long)
        have BOK := Lib.hid hbok
        have BBAD := Lib.hid hbad
        clear HWD HTP hbok hbad
        generalize topN xs xs.length = tp at *
        generalize wideN nm xs.length = wd at *
        obtain ⟨wo, rfl⟩ : ∃ wo : World, wo = wr := ⟨_, rfl⟩
        go_wp2
        go_loopw [12, 11] (fun i s wr => ∃ k : Nat, k ≤ xs.length ∧ i = .int .i64 k ∧ s = .string (txt (textL nm xs wd tp long k)) ∧ Hid (badAt xs tp long k = false) ∧ Below wo.heap.size wo wr) (fun i _ _ => xs.length - (intOf i).toNat)
        case atStart => exact ⟨0, by omega, rfl, rfl, rfl, Below.refl _ _⟩
        case round =>
          obtain ⟨k, hk, rfl, rfl, hnb, hbt⟩ := hrel
          by_cases hlt : k < xs.length
          · have hcx : ∀ wx, Below wo.heap.size wo wx → ∃ b off, B = some ⟨b, off, none⟩ ∧ wx.cell? ⟨b, off + k, none⟩ = some (.int .i64 (at0 xs k)) := fun wx hbx => by
              obtain ⟨b, off, e, _, hce⟩ := (HX.out.below hbx) (by omega)
              exact ⟨b, off, e, hce k hlt⟩
            have hcn : ∀ wx, Below wo.heap.size wo wx → ∃ b off, A = some ⟨b, off, none⟩ ∧ wx.cell? ⟨b, off + k, none⟩ = some (.string (txt (nm0 nm k))) := fun wx hbx => by
              obtain ⟨b, off, e, _, hce⟩ := (HN.out.below hbx) (by have := HL.out; omega)
              exact ⟨b, off, e, hce k (by have := HL.out; omega)⟩
            obtain ⟨b, off, rfl, hcx1⟩ := hcx wr hbt
            obtain ⟨b2, off2, rfl, hcn1⟩ := hcn wr hbt
            have hz := HZ.out k
            obtain ⟨x0, x1⟩ := HBD.out k
            have cL := fun w => ref55_Long (at0 xs k) tp long w ⟨x0, x1⟩ ⟨by omega, by omega⟩ HLO.out
            obtain ⟨v0, v1, v2⟩ := bar_bd (at0 xs k) tp long
            by_cases hbb : barBad (at0 xs k) tp long
            · rw [(v1 hbb).1, (v1 hbb).2] at cL
              obtain ⟨r1, r2⟩ := BBAD.out (badAt_hit hlt hbb)
              have CL := Lib.hid cL
              have R1 := Lib.hid r1
              have R2 := Lib.hid r2
              clear hcx hcn cL v0 v1 v2 hbb r1 r2 BOK BBAD
              generalize at0 xs k = x at *
              generalize txt (textL nm xs wd tp long k) = T at *
              go_wp2_with fail
              refine (CL.out _).mono ?_
              rintro e w2 ⟨rfl, rfl⟩
              go_wp2
              go_ret2
              exact ⟨by rw [R1.out, R2.out]; rfl, hbt⟩
            · have hv : barV (at0 xs k) tp long = (barN xs tp long k : Int) := by unfold barN; omega
              have hbn := barN_bd xs tp long k
              rw [(v2 hbb).1, hv] at cL
              have cP := fun w => ref02_Pad (nm0 nm k) wd w (by omega) (by omega)
              have cO := fun w => ref02_Of (at0 xs k) w ⟨x0, x1⟩
              have hnb2 : badAt xs tp long (k + 1) = false := by simp only [badAt, Bool.or_eq_false_iff, decide_eq_false_iff_not]; exact ⟨hnb.out, hbb⟩
              have hT : textL nm xs wd tp long (k + 1) = textL nm xs wd tp long k ++ (padL (nm0 nm k) wd ++ [32, 124] ++ List.replicate (barN xs tp long k) 61 ++ ([32] ++ decI (at0 xs k) ++ [10])) := rfl
              have hT0 := HTL.out k
              have l1 := pad_len (nm0 nm k) wd
              have l2 := decI_len (at0 xs k)
              have CL := Lib.hid cL
              have CP := Lib.hid cP
              have CO := Lib.hid cO
              have NB2 := Lib.hid hnb2
              have HT := Lib.hid hT
              have hTL : (textL nm xs wd tp long k).length ≤ 12000 := by omega
              clear cL cP cO v0 v1 v2 hbb hnb2 hT hv BOK BBAD hT0 hcx hcn
              generalize at0 xs k = x at *
              generalize barN xs tp long k = bn at *
              generalize padL (nm0 nm k) wd = pd at *
              generalize decI x = dx at *
              generalize textL nm xs wd tp long k = T at *
              have j1 : txt pd ++ (⟨#[32, 124]⟩ : ByteArray) = txt (pd ++ [32, 124]) := txt_append pd [32, 124]
              have j2 : txt T ++ txt (pd ++ [32, 124]) = txt (T ++ (pd ++ [32, 124])) := txt_append _ _
              have z1 : (txt pd).size = pd.length := txt_size _
              have z2 : (txt (pd ++ [32, 124])).size = pd.length + 2 := by rw [txt_size]; simp
              have z3 : (txt T).size = T.length := txt_size _
              have z4 : (txt (T ++ (pd ++ [32, 124]))).size = T.length + pd.length + 2 := by rw [txt_size]; simp; omega
              have hu : (T ++ (pd ++ [32, 124])).length = T.length + pd.length + 2 := by simp; omega
              generalize hU : T ++ (pd ++ [32, 124]) = U at *
              have HU := Lib.hid hU
              clear hU
              generalize txt (pd ++ [32, 124]) = sp2 at *
              generalize txt pd = sp at *
              generalize txt T = sT at *
              generalize hsU : txt U = sU at *
              have HSU := Lib.hid hsU
              clear hsU
              go_wp2_with (first | (go_at_call 36; refine (CL.out _).mono ?_; rintro e w2 ⟨rfl, rfl⟩) | (go_at_call 46; refine (CP.out _).mono ?_; rintro e w' ⟨rfl, rfl⟩))
              obtain ⟨wp, rfl⟩ : ∃ wp : World, wp = w2 := ⟨_, rfl⟩
              go_loopw [13, 11] (fun c s wz => ∃ j : Nat, j ≤ bn ∧ c = .int .i64 ((bn : Int) - j) ∧ s = .string (txt (U ++ List.replicate j 61)) ∧ wz = wp) (fun c _ _ => (intOf c).toNat)
              case atStart => exact ⟨0, by omega, by simp, by rw [← HSU.out]; simp, rfl⟩
              case round =>
                obtain ⟨j, hj, rfl, rfl, rfl⟩ := hrel
                have z5 : (txt (U ++ List.replicate j 61)).size = U.length + j := by rw [txt_size]; simp
                by_cases hjb : j < bn
                · have q2 : decide ((0 : Int) < (bn : Int) - (j : Int)) = true := decide_eq_true (by omega)
                  have j3 : txt (U ++ List.replicate j 61) ++ (⟨#[61]⟩ : ByteArray) = txt (U ++ List.replicate (j + 1) 61) := by
                    rw [List.replicate_succ', ← List.append_assoc]; exact txt_append _ [61]
                  have J3 := Lib.hid j3
                  clear j3 j1 j2
                  generalize txt (U ++ List.replicate j 61) = sj at *
                  go_wp2
                  go_roundw
                  case rel => exact ⟨j + 1, by omega, val_int (by omega), by rw [J3.out], trivial⟩
                  case measure => simp [intOf]; omega
                · obtain rfl : j = bn := by omega
                  have q2 : decide ((0 : Int) < (j : Int) - (j : Int)) = false := decide_eq_false (by omega)
                  have j4 : (⟨#[32]⟩ : ByteArray) ++ txt dx = txt ([32] ++ dx) := txt_append [32] dx
                  have j5 : txt ([32] ++ dx) ++ (⟨#[10]⟩ : ByteArray) = txt ([32] ++ dx ++ [10]) := txt_append _ [10]
                  have j6 : txt (U ++ List.replicate j 61) ++ txt ([32] ++ dx ++ [10]) = txt (textL nm xs wd tp long (k + 1)) := by
                    rw [txt_append, HT.out, ← HU.out]
                    simp only [List.append_assoc]
                  have z6 : (txt dx).size = dx.length := txt_size _
                  have z7 : (txt ([32] ++ dx)).size = dx.length + 1 := by rw [txt_size]; simp
                  have z8 : (txt ([32] ++ dx ++ [10])).size = dx.length + 2 := by rw [txt_size]; simp
                  have J6 := Lib.hid j6
                  clear j1 j2 j6
                  generalize txt (U ++ List.replicate j 61) = sj at *
                  generalize txt ([32] ++ dx ++ [10]) = sd2 at *
                  generalize txt ([32] ++ dx) = sd1 at *
                  generalize txt dx = sd at *
                  go_wp2_with (first | (go_at_call 34; refine (CO.out _).mono ?_; rintro e w2 ⟨rfl, hb2⟩))
                  go_roundw
                  case rel => exact ⟨k + 1, by omega, by go_num, by rw [J6.out], NB2, hbt.trans (hb2.mono hbt.size)⟩
                  case measure => simp [intOf]; omega
          · obtain rfl : k = xs.length := by omega
            obtain ⟨r1, r2⟩ := BOK.out hnb.out
            have R1 := Lib.hid r1
            have R2 := Lib.hid r2
            clear r1 r2 BOK BBAD
            go_wp2
            go_ret2
            exact ⟨by rw [R1.out, R2.out]; rfl, hbt⟩
  · obtain ⟨r1, r2⟩ := bars_no (xs := xs) (long := long) hlen
    rw [r1, r2]
    have q1 : ((nm.length : Int) == (xs.length : Int)) = false := by simp; omega
    clear r1 r2
    go_enter Try.func65, Try.ntmps65
    go_wp2
    go_ret2
    exact ⟨rfl, Below.refl _ _⟩
end Go.Proofs.Ytnlieclfajebbaa
