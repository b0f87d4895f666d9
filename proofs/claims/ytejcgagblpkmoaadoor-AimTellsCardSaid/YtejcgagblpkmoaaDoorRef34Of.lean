
/-
  hoistwayref34.Of: the document's ways. Conditions: the numbers lie within bounds.
-/
import Derived.Test.YtejcgagblpkmoaaDoorEtaO
set_option linter.unusedVariables false
set_option linter.unusedSimpArgs false
namespace Go.Proofs.YtejcgagblpkmoaaDoor
open Go.Joins Go.ChangeShapes Go.WideShapes Go.ChangeAt Go.RowKit Go.Deep

set_option maxRecDepth 20000 in
set_option maxHeartbeats 2500000 in
theorem ref34_Of (s : Scen) (A : Option Addr) (C : Nat) (c : Car) (A2 : Option Addr) (C2 : Nat) (x y : Nat) (floor dir : Int) (w : World) (hx : Wd x) (hy : Wd y) (hg : 1 ≤ s.gap ∧ s.gap ≤ 16) (h : EtaOk s c) (hf : 0 ≤ floor ∧ floor ≤ 127) :
    Calls Tryd.prog 13 #[s.val A C, c.val A2 C2, sv x y, .int .i64 floor, .int .i64 dir] w fun e w' => e = .returned (.int .i64 (etaOf s c (places x y s.gap) (floor * s.gap) dir)) ∧ Below w.heap.size w w' := by
  obtain ⟨i0, hi, hz0, hz1, hz2⟩ := info_parts info_int
  have hto := mul_bd hf hg
  have hE := stop_bd h.sm
  have hD := door_bd h
  have hpl : ∀ p ∈ places x y s.gap, 0 ≤ p ∧ p ≤ 2032 := fun p hp => place_in hg hp
  have hTn := turn_bd (pos := c.pos) (d := c.dir) hpl
  have hp0 := h.p
  have hF1 := far_bd h.p (b := floor * s.gap) (by omega)
  have hF2 := far_bd h.p hTn
  have hF3 := far_bd hTn (b := floor * s.gap) (by omega)
  have hL := ahead_len (places x y s.gap) c.pos c.dir
  have hK := cntB_le c.pos (floor * s.gap) (places x y s.gap)
  have hM := places_le x y s.gap
  have hM0 : ∀ i, 0 ≤ at0 (places x y s.gap) i ∧ at0 (places x y s.gap) i ≤ 4096 := at0_bd hpl
  have cI := fun w => ref03_Items x y w hx hy
  have cAh := fun (A : Option Addr) (C : Nat) w hI => ref34_ahead (places x y s.gap) A C c.pos c.dir w hI hM hM0 ⟨hp0.1, by omega⟩ h.d
  have cAh2 := fun (A : Option Addr) (C : Nat) w hI => ref34_ahead (places x y s.gap) A C (floor * s.gap) c.dir w hI hM hM0 ⟨hto.1, by omega⟩ h.d
  have cBt := fun (A : Option Addr) (C : Nat) w hI => ref34_between (places x y s.gap) A C c.pos (floor * s.gap) w hI hM
  have cDoor := fun w => ref34_Door s A C c A2 C2 w h
  have cF1 := fun w => ref34_far c.pos (floor * s.gap) w (by omega) (by omega)
  have cF2 := fun w => ref34_far c.pos (turnV (places x y s.gap) c.pos c.dir) w (by omega) (by omega)
  have cF3 := fun w => ref34_far (turnV (places x y s.gap) c.pos c.dir) (floor * s.gap) w (by omega) (by omega)
  have hcs := eta_cases s c (places x y s.gap) (floor * s.gap) dir
  unfold dirW trnW at hcs
  have hall : preM (· * s.gap) (items x y) (items x y).length = places x y s.gap := preM_all _ _
  have hlen := items_len x y
  have hit : ∀ k, k < (items x y).length → 0 ≤ at0 (items x y) k * s.gap ∧ at0 (items x y) k * s.gap ≤ 2032 := fun k hk => mul_bd (by have := item_in (at0_mem hk); omega) hg
  have hpk : ∀ k, k < (items x y).length → intV (preM (· * s.gap) (items x y) (k + 1)) = intV (preM (· * s.gap) (items x y) k) ++ [.int .i64 (at0 (items x y) k * s.gap)] := fun k hk => preM_succ _ (at0_get hk)
  have hpl0 : preM (· * s.gap) (items x y) 0 = [] := preM_zero _ _
  have hpll : ∀ k, k ≤ (items x y).length → (preM (· * s.gap) (items x y) k).length = k := fun k hk => by unfold preM; simp; omega
  have hst : s.stop 1 = s.open_ + s.transfer + s.dwell + s.close := by unfold Scen.stop; rw [show max (1 : Int) 0 = 1 by omega]; omega
  have hb4 := h.sm.2.2.2
  unfold comesB turnB at hcs
  have hd := h.d
  have hturn : aheadL (places x y s.gap) c.pos c.dir ≠ [] → turnV (places x y s.gap) c.pos c.dir = turnN (aheadL (places x y s.gap) c.pos c.dir) c.pos (aheadL (places x y s.gap) c.pos c.dir).length := fun hne => by unfold turnV; rw [if_neg hne]
  have b1 : 0 ≤ s.stop 1 * (cntB c.pos (floor * s.gap) (places x y s.gap) : Int) ∧ s.stop 1 * (cntB c.pos (floor * s.gap) (places x y s.gap) : Int) ≤ 65536 := mul_bd2 hE (by omega)
  have b2 : 0 ≤ s.stop 1 * ((aheadL (places x y s.gap) c.pos c.dir).length : Int) ∧ s.stop 1 * ((aheadL (places x y s.gap) c.pos c.dir).length : Int) ≤ 65536 := mul_bd2 hE (by omega)
  have b3 : 0 ≤ s.stop 1 * ((aheadL (places x y s.gap) c.pos c.dir).length + (cntB c.pos (floor * s.gap) (places x y s.gap) : Int)) ∧ s.stop 1 * ((aheadL (places x y s.gap) c.pos c.dir).length + (cntB c.pos (floor * s.gap) (places x y s.gap) : Int)) ≤ 65536 := mul_bd2 hE (by omega)
  have bm : -4096 ≤ (floor * s.gap - c.pos) * c.dir ∧ (floor * s.gap - c.pos) * c.dir ≤ 4096 := by
    rcases (show c.dir = 1 ∨ c.dir = 0 ∨ c.dir = -1 by omega) with h' | h' | h' <;> rw [h'] <;> omega
  have hOP : ∀ i, 0 ≤ at0 (aheadL (places x y s.gap) c.pos c.dir) i ∧ at0 (aheadL (places x y s.gap) c.pos c.dir) i ≤ 4096 := at0_bd fun p hp => hpl p (List.mem_filter.1 hp).1
  rw [hst] at hcs b1 b2 b3
  obtain ⟨f0, f1, f2, f3, f4, f5, f6, f7, sg, f8, f9, f10, f11⟩ := s
  obtain ⟨pos, d, mode, left, wtd, rd⟩ := c
  simp only at *
  clear hst hE h hx hy hpl
  generalize etaOf _ _ (places x y f1) (floor * f1) dir = V at *
  generalize doorOf _ _ = D at *
  generalize preM (· * f1) (items x y) = PM at *
  generalize items x y = L at *
  generalize places x y f1 = M at *
  generalize htp : floor * f1 = tp at *
  have hmul : IntKind.i64.wrap (floor * f1) = tp := by rw [htp]; exact IntWalk.i64_in _ (by omega)
  clear htp
  generalize aheadL M pos d = ON at *
  generalize aheadL M tp d = O2 at *
  generalize turnV M pos d = T at *
  generalize farOf pos tp = F1 at *
  generalize farOf pos T = F2 at *
  generalize farOf T tp = F3 at *
  generalize cntB pos tp M = K at *
  have w1' : IntKind.i64.wrap (tp - pos) = tp - pos := IntWalk.i64_in _ (by omega)
  have w2' : IntKind.i64.wrap ((tp - pos) * d) = (tp - pos) * d := IntWalk.i64_in _ (by omega)
  have w3' : IntKind.i64.wrap (f4 + f7) = f4 + f7 := IntWalk.i64_in _ (by omega)
  have w4' : IntKind.i64.wrap (f4 + f7 + f5) = f4 + f7 + f5 := IntWalk.i64_in _ (by omega)
  have w5' : IntKind.i64.wrap (f4 + f7 + f5 + f6) = f4 + f7 + f5 + f6 := IntWalk.i64_in _ (by omega)
  have e1 : IntKind.i64.wrap ((f4 + f7 + f5 + f6) * (K : Int)) = (f4 + f7 + f5 + f6) * (K : Int) := IntWalk.i64_in _ (by omega)
  have e2 : IntKind.i64.wrap ((f4 + f7 + f5 + f6) * (ON.length : Int)) = (f4 + f7 + f5 + f6) * (ON.length : Int) := IntWalk.i64_in _ (by omega)
  have e3 : IntKind.i64.wrap ((f4 + f7 + f5 + f6) * ((ON.length : Int) + (K : Int))) = (f4 + f7 + f5 + f6) * ((ON.length : Int) + (K : Int)) := IntWalk.i64_in _ (by omega)
  have e4 : IntKind.i64.wrap ((ON.length : Int) + (K : Int)) = (ON.length : Int) + (K : Int) := IntWalk.i64_in _ (by omega)
  have e5 : IntKind.i64.wrap (D + F1) = D + F1 := IntWalk.i64_in _ (by omega)
  have e6 : IntKind.i64.wrap (D + F2) = D + F2 := IntWalk.i64_in _ (by omega)
  have e7 : IntKind.i64.wrap (D + F2 + F3) = D + F2 + F3 := IntWalk.i64_in _ (by omega)
  have e8 : IntKind.i64.wrap (D + F1 + (f4 + f7 + f5 + f6) * (K : Int)) = D + F1 + (f4 + f7 + f5 + f6) * (K : Int) := IntWalk.i64_in _ (by omega)
  have e9 : IntKind.i64.wrap (D + F2 + F3 + (f4 + f7 + f5 + f6) * (ON.length : Int)) = D + F2 + F3 + (f4 + f7 + f5 + f6) * (ON.length : Int) := IntWalk.i64_in _ (by omega)
  have e10 : IntKind.i64.wrap (D + F2 + F3 + (f4 + f7 + f5 + f6) * ((ON.length : Int) + (K : Int))) = D + F2 + F3 + (f4 + f7 + f5 + f6) * ((ON.length : Int) + (K : Int)) := IntWalk.i64_in _ (by omega)
  have hOL : ON.length ≤ 128 := by omega
  have hLL : L.length ≤ 128 := hlen
  clear b1 b2 b3 bm hTn hF1 hF2 hF3 hL hK hb4 hlen hM
  unfold sv at *
  have CI := Lib.hid cI
  have HIT := Lib.hid hit
  have HPK := Lib.hid hpk
  have HPLL := Lib.hid hpll
  have HALL := Lib.hid hall
  have HPL0 := Lib.hid hpl0
  have CAH := Lib.hid cAh
  have CAH2 := Lib.hid cAh2
  have CBT := Lib.hid cBt
  have CDOOR := Lib.hid cDoor
  have CF1 := Lib.hid cF1
  have CF2 := Lib.hid cF2
  have CF3 := Lib.hid cF3
  have HOP := Lib.hid hOP
  have HTURN := Lib.hid hturn
  clear cI hit hpk hpll hall hpl0 cAh cAh2 cBt cDoor cF1 cF2 cF3 hM0 hOP hturn
  rcases hcs with ⟨q1, rfl⟩ | ⟨q1, hd0, q2, q3, rfl⟩ | ⟨q1, hd0, q2, q3, q4, rfl⟩ | ⟨q1, hd0, q2, q3, q4, rfl⟩ | ⟨q1, hd0, q2, rfl⟩
  · have q5 : ((ON.length : Int) == 0) = true := by
      have hon : ON = [] := by simpa using q1
      rw [hon]; rfl
    clear q1 HOP HTURN CF2 CF3 CAH2 e2 e3 e4 e6 e7 e9 e10
    go_enter Tryd.func13, Tryd.ntmps13
    go_wp2_with (first | ((with_reducible refine hold_list ?_ ?_); (· exact Eq.refl true)) | ((with_reducible refine hold_region ?_ ?_); (· exact Eq.refl true)) | (with_reducible refine hold_loop ?_))
    have k0 : Blk (((w.alloc (.cells #[.int .i64 f0, .int .i64 f1, .int .i64 f2, .int .i64 f3, .int .i64 f4, .int .i64 f5, .int .i64 f6, .int .i64 f7, .slice A sg.length C, .int .i64 f8, .int .i64 f9, .int .i64 f10, .int .i64 f11] 25)).alloc (.cells #[.int .i64 pos, .int .i64 d, .int .i64 mode, .int .i64 left, .bool wtd, .slice A2 rd.length C2] 29)).alloc (.cells #[.int .u64 (x : Int), .int .u64 (y : Int)] 38)) (w.heap.size) 25 #[.int .i64 f0, .int .i64 f1, .int .i64 f2, .int .i64 f3, .int .i64 f4, .int .i64 f5, .int .i64 f6, .int .i64 f7, .slice A sg.length C, .int .i64 f8, .int .i64 f9, .int .i64 f10, .int .i64 f11] := (Blk.alloc (Blk.alloc (blk_at (by simp)) (.cells #[.int .i64 pos, .int .i64 d, .int .i64 mode, .int .i64 left, .bool wtd, .slice A2 rd.length C2] 29)) (.cells #[.int .u64 (x : Int), .int .u64 (y : Int)] 38))
    have k1 : Blk (((w.alloc (.cells #[.int .i64 f0, .int .i64 f1, .int .i64 f2, .int .i64 f3, .int .i64 f4, .int .i64 f5, .int .i64 f6, .int .i64 f7, .slice A sg.length C, .int .i64 f8, .int .i64 f9, .int .i64 f10, .int .i64 f11] 25)).alloc (.cells #[.int .i64 pos, .int .i64 d, .int .i64 mode, .int .i64 left, .bool wtd, .slice A2 rd.length C2] 29)).alloc (.cells #[.int .u64 (x : Int), .int .u64 (y : Int)] 38)) (w.heap.size + 1) 29 #[.int .i64 pos, .int .i64 d, .int .i64 mode, .int .i64 left, .bool wtd, .slice A2 rd.length C2] := (Blk.alloc (blk_at (by simp)) (.cells #[.int .u64 (x : Int), .int .u64 (y : Int)] 38))
    have k2 : Blk (((w.alloc (.cells #[.int .i64 f0, .int .i64 f1, .int .i64 f2, .int .i64 f3, .int .i64 f4, .int .i64 f5, .int .i64 f6, .int .i64 f7, .slice A sg.length C, .int .i64 f8, .int .i64 f9, .int .i64 f10, .int .i64 f11] 25)).alloc (.cells #[.int .i64 pos, .int .i64 d, .int .i64 mode, .int .i64 left, .bool wtd, .slice A2 rd.length C2] 29)).alloc (.cells #[.int .u64 (x : Int), .int .u64 (y : Int)] 38)) (w.heap.size + 2) 38 #[.int .u64 (x : Int), .int .u64 (y : Int)] := (blk_at (by simp))
    have hB : Below w.heap.size w (((w.alloc (.cells #[.int .i64 f0, .int .i64 f1, .int .i64 f2, .int .i64 f3, .int .i64 f4, .int .i64 f5, .int .i64 f6, .int .i64 f7, .slice A sg.length C, .int .i64 f8, .int .i64 f9, .int .i64 f10, .int .i64 f11] 25)).alloc (.cells #[.int .i64 pos, .int .i64 d, .int .i64 mode, .int .i64 left, .bool wtd, .slice A2 rd.length C2] 29)).alloc (.cells #[.int .u64 (x : Int), .int .u64 (y : Int)] 38)) := (bel_at (bel_at (bel_at (Below.refl _ _) (.cells #[.int .i64 f0, .int .i64 f1, .int .i64 f2, .int .i64 f3, .int .i64 f4, .int .i64 f5, .int .i64 f6, .int .i64 f7, .slice A sg.length C, .int .i64 f8, .int .i64 f9, .int .i64 f10, .int .i64 f11] 25)) (.cells #[.int .i64 pos, .int .i64 d, .int .i64 mode, .int .i64 left, .bool wtd, .slice A2 rd.length C2] 29)) (.cells #[.int .u64 (x : Int), .int .u64 (y : Int)] 38))
    generalize (((w.alloc (.cells #[.int .i64 f0, .int .i64 f1, .int .i64 f2, .int .i64 f3, .int .i64 f4, .int .i64 f5, .int .i64 f6, .int .i64 f7, .slice A sg.length C, .int .i64 f8, .int .i64 f9, .int .i64 f10, .int .i64 f11] 25)).alloc (.cells #[.int .i64 pos, .int .i64 d, .int .i64 mode, .int .i64 left, .bool wtd, .slice A2 rd.length C2] 29)).alloc (.cells #[.int .u64 (x : Int), .int .u64 (y : Int)] 38)) = w1 at *
    (try clear k0c k0f k0z); have k0c := fun i => Blk.cell k0 i; have k0f := fun i => Blk.free k0 i; have k0z := Blk.lt k0; (try clear k1c k1f k1z); have k1c := fun i => Blk.cell k1 i; have k1f := fun i => Blk.free k1 i; have k1z := Blk.lt k1; (try clear k2c k2f k2z); have k2c := fun i => Blk.cell k2 i; have k2f := fun i => Blk.free k2 i; have k2z := Blk.lt k2
    unfold Hold
    go_wp2_with (go_at_call 33; refine (CI.out _).mono ?_)
    rintro e w2 ⟨v, rfl, ho, hb⟩
    obtain ⟨A3, C3, rfl, hints⟩ := owns_ints ho
    have HX := Lib.hid hints
    replace k0 := k0.below hb k0.lt
    replace k1 := k1.below hb k1.lt
    replace hB := hB.trans (hb.mono hB.size)
    have HB := Lib.hid hB
    have hz := hB.size
    clear ho hints hb hB k2 k2c k2f k2z CI k0c k0f k0z k1c k1f k1z
    have k0z := k0.lt
    have k1z := k1.lt
    go_wp2_with (with_reducible refine hold_loop ?_)
    unfold Hold
    go_loopw [11, 13] (fun v i wr => ∃ k : Nat, k ≤ L.length ∧ i = .int .i64 k ∧ wr.ownsRow w2.heap.size 3 1 v (PM k).length (intV (PM k)) ∧ Below w2.heap.size w2 wr) (fun _ i _ => L.length - (intOf i).toNat)
    case atStart => exact ⟨0, by omega, rfl, by rw [HPL0.out]; exact World.ownsRow_nil _ _ _ _, Below.refl _ _⟩
    case round =>
      obtain ⟨k, hk, rfl, hown, hbq⟩ := hrel
      by_cases hlt : k < L.length
      · obtain ⟨b, off, rfl, hbl, hce⟩ := HX.out (by omega)
        have hc1 := hce k hlt
        have hb1 := HIT.out k hlt
        have ho2 := HPK.out k hlt
        have hl1 := HPLL.out k hk
        have hl2 := HPLL.out (k + 1) (by omega)
        have k0c : w2.cell? ⟨w.heap.size, 1, none⟩ = some (.int .i64 f1) := k0.cell 1
        have hke : IntKind.i64.wrap (at0 L k * f1) = at0 L k * f1 := IntWalk.i64_in _ (by omega)
        have HP := Lib.hid ho2
        have HL1 := Lib.hid hl1
        have HL2 := Lib.hid hl2
        have hl3 : (PM k).length ≤ 128 := by omega
        have HO2 := Lib.hid hown
        have hbd : Below w2.heap.size w2 wr.drew := hbq.drew
        have HBD := Lib.hid hbd
        have HC := Lib.hid (held_mk hbd)
        have HQ := Lib.hid hbq
        clear hce hown hbq ho2 hl1 hl2 hbd
        generalize at0 L k = a1 at *
        go_wp2_with fail
        go_region_held3 (fun w' => Below w2.heap.size w2 w' ∧ ∀ b o, b < w2.heap.size → w'.cell? ⟨b, o, none⟩ = w2.cell? ⟨b, o, none⟩) (first | exact HC.out | exact held_mk (HBD.out.alloc HBD.out.size _) | exact held_mk hb4) (first | (refine step_append_lies _ rfl _ _ 50 rfl w2.heap.size 3 i0 (.int .i64 0) 1 8 Tryd.underlying50 hi hz0 hz1 hz2 rfl (by decide) _ _ _ rfl (HO2.out.drew.alloc _) ⟨wr.heap.size, 0, none⟩ 1 1 [.int .i64 (a1 * f1)] rfl rfl (cell_one _ _ _) (one_cell _) (by decide) (by unfold maxLen; omega) (by have := HBD.out.size; have := HQ.out.size; omega) (by simp; have := HQ.out.size; omega) _ rfl ?_; intro g cap w4 hown' hgrow _ _; have hb4 : Below w2.heap.size w2 w4 := (HBD.out.alloc HBD.out.size _).grown hgrow (by simp; have := HQ.out.size; omega) (fun k hk => (HO2.out.drew.lt k hk).1); clear hgrow))
        have ho4 : w4.ownsRow w2.heap.size 3 1 (.slice (some ⟨g, 0, none⟩) ((PM k).length + 1) cap) (PM (k + 1)).length (intV (PM (k + 1))) := by
          rw [HP.out, HL2.out, show k + 1 = (PM k).length + 1 by rw [HL1.out]]
          exact hown'
        have HO4 := Lib.hid ho4
        clear ho4 hown' HC
        go_wp2
        go_roundw
        case rel => exact ⟨k + 1, by omega, by go_num, HO4.out, hb4⟩
        case measure => simp [intOf]; omega
      · obtain rfl : k = L.length := by omega
        rw [HALL.out] at hown
        obtain ⟨A4, C4, rfl, hints⟩ := owns_ints hown
        have HY := Lib.hid hints
        have hBr : Below w.heap.size w wr := HB.out.trans (hbq.mono hz)
        replace k0 := k0.below hbq k0.lt
        replace k1 := k1.below hbq k1.lt
        clear hown hints hbq HX HIT HPK HPLL HALL HPL0 HB k0z k1z
        have k0c := fun i => Blk.cell k0 i
        have k0f := fun i => Blk.free k0 i
        have k1c := fun i => Blk.cell k1 i
        have k1f := fun i => Blk.free k1 i
        have hB := hBr
        go_wp2
        go_quiet (fail)
        go_wp2_with (go_at_call 34; refine (CAH.out _ _ _ (HY.out.below (below_drewN (Below.refl _ _) _))).mono ?_)
        rintro e w5 hret
        obtain ⟨A5, C5, rfl, hI5, hb5'⟩ := hret.ints
        have HZ := Lib.hid hI5
        have hb5 : Below wr.heap.size wr w5 := (below_drewN (Below.refl _ _) _).trans hb5'
        have HYZ := Lib.hid (HY.out.below hb5)
        replace hB := hBr.trans (hb5.mono hBr.size)
        replace k0 := k0.below hb5 k0.lt
        replace k1 := k1.below hb5 k1.lt
        clear k0c k0f k1c k1f hret hI5 hb5' hb5 hBr HY
        (try clear k0c k0f k0z); have k0c := fun i => Blk.cell k0 i; have k0f := fun i => Blk.free k0 i; have k0z := Blk.lt k0; (try clear k1c k1f k1z); have k1c := fun i => Blk.cell k1 i; have k1f := fun i => Blk.free k1 i; have k1z := Blk.lt k1
        go_wp2_with (first | ((with_reducible refine wpList_here ?_ ?_); (· exact Eq.refl true); first | ((with_reducible refine wpList_grow 99 ?_ ?_); (· exact Eq.refl true))) | ((with_reducible refine wp_region_any_here ?_ ?_); (· exact Eq.refl true); first | ((with_reducible refine wp_region_drawn 99 ?_ ?_ ?_ ?_); (· exact Eq.refl true); (· kernel_rfl); (· kernel_rfl)) | refine wp_region_grow (by kernel_rfl) (by kernel_rfl) ?_)); (try simp only [List.take_succ_cons, List.take_zero, List.drop_succ_cons, List.drop_zero]); (repeat (go_big_quiet_step ((first | (go_at_call 12; with_reducible exact grow_of (CDOOR.out _)) | (go_at_call 35; with_reducible exact grow_same (CF1.out _)) | (go_at_call 36; with_reducible exact grow_same (CBT.out _ _ _ (HYZ.out.below (Grow.below _)))))))); (first | (refine wpQuiet_nil ?_; intro w' hb; replace hB := Below.trans hB (Below.mono hb (Below.size hB)); replace k0 := Blk.below k0 hb (Blk.lt k0); replace k1 := Blk.below k1 hb (Blk.lt k1); (try clear k0c k0f k0z); have k0c := fun i => Blk.cell k0 i; have k0f := fun i => Blk.free k0 i; have k0z := Blk.lt k0; (try clear k1c k1f k1z); have k1c := fun i => Blk.cell k1 i; have k1f := fun i => Blk.free k1 i; have k1z := Blk.lt k1) | skip)
        all_goals (try (go_wp2_with (first | ((with_reducible refine wpList_here ?_ ?_); (· exact Eq.refl true); first | ((with_reducible refine wpList_grow 99 ?_ ?_); (· exact Eq.refl true))) | ((with_reducible refine wp_region_any_here ?_ ?_); (· exact Eq.refl true); first | ((with_reducible refine wp_region_drawn 99 ?_ ?_ ?_ ?_); (· exact Eq.refl true); (· kernel_rfl); (· kernel_rfl)) | refine wp_region_grow (by kernel_rfl) (by kernel_rfl) ?_)); (try simp only [List.take_succ_cons, List.take_zero, List.drop_succ_cons, List.drop_zero]); (repeat (go_big_quiet_step ((first | (go_at_call 12; with_reducible exact grow_of (CDOOR.out _)) | (go_at_call 35; with_reducible exact grow_same (CF1.out _)) | (go_at_call 36; with_reducible exact grow_same (CBT.out _ _ _ (HYZ.out.below (Grow.below _)))))))); (first | (refine wpQuiet_nil ?_; intro w' hb; replace hB := Below.trans hB (Below.mono hb (Below.size hB)); replace k0 := Blk.below k0 hb (Blk.lt k0); replace k1 := Blk.below k1 hb (Blk.lt k1); (try clear k0c k0f k0z); have k0c := fun i => Blk.cell k0 i; have k0f := fun i => Blk.free k0 i; have k0z := Blk.lt k0; (try clear k1c k1f k1z); have k1c := fun i => Blk.cell k1 i; have k1f := fun i => Blk.free k1 i; have k1z := Blk.lt k1) | skip)))
        all_goals (try (go_wp2_with (first | ((with_reducible refine wpList_here ?_ ?_); (· exact Eq.refl true); first | ((with_reducible refine wpList_grow 99 ?_ ?_); (· exact Eq.refl true))) | ((with_reducible refine wp_region_any_here ?_ ?_); (· exact Eq.refl true); first | ((with_reducible refine wp_region_drawn 99 ?_ ?_ ?_ ?_); (· exact Eq.refl true); (· kernel_rfl); (· kernel_rfl)) | refine wp_region_grow (by kernel_rfl) (by kernel_rfl) ?_)); (try simp only [List.take_succ_cons, List.take_zero, List.drop_succ_cons, List.drop_zero]); (repeat (go_big_quiet_step ((first | (go_at_call 12; with_reducible exact grow_of (CDOOR.out _)) | (go_at_call 35; with_reducible exact grow_same (CF1.out _)) | (go_at_call 36; with_reducible exact grow_same (CBT.out _ _ _ (HYZ.out.below (Grow.below _)))))))); (first | (refine wpQuiet_nil ?_; intro w' hb; replace hB := Below.trans hB (Below.mono hb (Below.size hB)); replace k0 := Blk.below k0 hb (Blk.lt k0); replace k1 := Blk.below k1 hb (Blk.lt k1); (try clear k0c k0f k0z); have k0c := fun i => Blk.cell k0 i; have k0f := fun i => Blk.free k0 i; have k0z := Blk.lt k0; (try clear k1c k1f k1z); have k1c := fun i => Blk.cell k1 i; have k1f := fun i => Blk.free k1 i; have k1z := Blk.lt k1) | skip)))
        go_ret
        exact ⟨rfl, hB⟩
  · have hn0 : ON ≠ [] := fun h' => by rw [h'] at q1; exact absurd q1 (by decide)
    have q5 : ((ON.length : Int) == 0) = false := by
      have : 0 < ON.length := List.length_pos_iff.2 hn0
      rw [beq_eq_false_iff_ne]; omega
    clear q1 HOP HTURN CF2 CF3 CAH2 e2 e3 e4 e6 e7 e9 e10
    go_enter Tryd.func13, Tryd.ntmps13
    go_wp2_with (first | ((with_reducible refine hold_list ?_ ?_); (· exact Eq.refl true)) | ((with_reducible refine hold_region ?_ ?_); (· exact Eq.refl true)) | (with_reducible refine hold_loop ?_))
    have k0 : Blk (((w.alloc (.cells #[.int .i64 f0, .int .i64 f1, .int .i64 f2, .int .i64 f3, .int .i64 f4, .int .i64 f5, .int .i64 f6, .int .i64 f7, .slice A sg.length C, .int .i64 f8, .int .i64 f9, .int .i64 f10, .int .i64 f11] 25)).alloc (.cells #[.int .i64 pos, .int .i64 d, .int .i64 mode, .int .i64 left, .bool wtd, .slice A2 rd.length C2] 29)).alloc (.cells #[.int .u64 (x : Int), .int .u64 (y : Int)] 38)) (w.heap.size) 25 #[.int .i64 f0, .int .i64 f1, .int .i64 f2, .int .i64 f3, .int .i64 f4, .int .i64 f5, .int .i64 f6, .int .i64 f7, .slice A sg.length C, .int .i64 f8, .int .i64 f9, .int .i64 f10, .int .i64 f11] := (Blk.alloc (Blk.alloc (blk_at (by simp)) (.cells #[.int .i64 pos, .int .i64 d, .int .i64 mode, .int .i64 left, .bool wtd, .slice A2 rd.length C2] 29)) (.cells #[.int .u64 (x : Int), .int .u64 (y : Int)] 38))
    have k1 : Blk (((w.alloc (.cells #[.int .i64 f0, .int .i64 f1, .int .i64 f2, .int .i64 f3, .int .i64 f4, .int .i64 f5, .int .i64 f6, .int .i64 f7, .slice A sg.length C, .int .i64 f8, .int .i64 f9, .int .i64 f10, .int .i64 f11] 25)).alloc (.cells #[.int .i64 pos, .int .i64 d, .int .i64 mode, .int .i64 left, .bool wtd, .slice A2 rd.length C2] 29)).alloc (.cells #[.int .u64 (x : Int), .int .u64 (y : Int)] 38)) (w.heap.size + 1) 29 #[.int .i64 pos, .int .i64 d, .int .i64 mode, .int .i64 left, .bool wtd, .slice A2 rd.length C2] := (Blk.alloc (blk_at (by simp)) (.cells #[.int .u64 (x : Int), .int .u64 (y : Int)] 38))
    have k2 : Blk (((w.alloc (.cells #[.int .i64 f0, .int .i64 f1, .int .i64 f2, .int .i64 f3, .int .i64 f4, .int .i64 f5, .int .i64 f6, .int .i64 f7, .slice A sg.length C, .int .i64 f8, .int .i64 f9, .int .i64 f10, .int .i64 f11] 25)).alloc (.cells #[.int .i64 pos, .int .i64 d, .int .i64 mode, .int .i64 left, .bool wtd, .slice A2 rd.length C2] 29)).alloc (.cells #[.int .u64 (x : Int), .int .u64 (y : Int)] 38)) (w.heap.size + 2) 38 #[.int .u64 (x : Int), .int .u64 (y : Int)] := (blk_at (by simp))
    have hB : Below w.heap.size w (((w.alloc (.cells #[.int .i64 f0, .int .i64 f1, .int .i64 f2, .int .i64 f3, .int .i64 f4, .int .i64 f5, .int .i64 f6, .int .i64 f7, .slice A sg.length C, .int .i64 f8, .int .i64 f9, .int .i64 f10, .int .i64 f11] 25)).alloc (.cells #[.int .i64 pos, .int .i64 d, .int .i64 mode, .int .i64 left, .bool wtd, .slice A2 rd.length C2] 29)).alloc (.cells #[.int .u64 (x : Int), .int .u64 (y : Int)] 38)) := (bel_at (bel_at (bel_at (Below.refl _ _) (.cells #[.int .i64 f0, .int .i64 f1, .int .i64 f2, .int .i64 f3, .int .i64 f4, .int .i64 f5, .int .i64 f6, .int .i64 f7, .slice A sg.length C, .int .i64 f8, .int .i64 f9, .int .i64 f10, .int .i64 f11] 25)) (.cells #[.int .i64 pos, .int .i64 d, .int .i64 mode, .int .i64 left, .bool wtd, .slice A2 rd.length C2] 29)) (.cells #[.int .u64 (x : Int), .int .u64 (y : Int)] 38))
    generalize (((w.alloc (.cells #[.int .i64 f0, .int .i64 f1, .int .i64 f2, .int .i64 f3, .int .i64 f4, .int .i64 f5, .int .i64 f6, .int .i64 f7, .slice A sg.length C, .int .i64 f8, .int .i64 f9, .int .i64 f10, .int .i64 f11] 25)).alloc (.cells #[.int .i64 pos, .int .i64 d, .int .i64 mode, .int .i64 left, .bool wtd, .slice A2 rd.length C2] 29)).alloc (.cells #[.int .u64 (x : Int), .int .u64 (y : Int)] 38)) = w1 at *
    (try clear k0c k0f k0z); have k0c := fun i => Blk.cell k0 i; have k0f := fun i => Blk.free k0 i; have k0z := Blk.lt k0; (try clear k1c k1f k1z); have k1c := fun i => Blk.cell k1 i; have k1f := fun i => Blk.free k1 i; have k1z := Blk.lt k1; (try clear k2c k2f k2z); have k2c := fun i => Blk.cell k2 i; have k2f := fun i => Blk.free k2 i; have k2z := Blk.lt k2
    unfold Hold
    go_wp2_with (go_at_call 33; refine (CI.out _).mono ?_)
    rintro e w2 ⟨v, rfl, ho, hb⟩
    obtain ⟨A3, C3, rfl, hints⟩ := owns_ints ho
    have HX := Lib.hid hints
    replace k0 := k0.below hb k0.lt
    replace k1 := k1.below hb k1.lt
    replace hB := hB.trans (hb.mono hB.size)
    have HB := Lib.hid hB
    have hz := hB.size
    clear ho hints hb hB k2 k2c k2f k2z CI k0c k0f k0z k1c k1f k1z
    have k0z := k0.lt
    have k1z := k1.lt
    go_wp2_with (with_reducible refine hold_loop ?_)
    unfold Hold
    go_loopw [11, 13] (fun v i wr => ∃ k : Nat, k ≤ L.length ∧ i = .int .i64 k ∧ wr.ownsRow w2.heap.size 3 1 v (PM k).length (intV (PM k)) ∧ Below w2.heap.size w2 wr) (fun _ i _ => L.length - (intOf i).toNat)
    case atStart => exact ⟨0, by omega, rfl, by rw [HPL0.out]; exact World.ownsRow_nil _ _ _ _, Below.refl _ _⟩
    case round =>
      obtain ⟨k, hk, rfl, hown, hbq⟩ := hrel
      by_cases hlt : k < L.length
      · obtain ⟨b, off, rfl, hbl, hce⟩ := HX.out (by omega)
        have hc1 := hce k hlt
        have hb1 := HIT.out k hlt
        have ho2 := HPK.out k hlt
        have hl1 := HPLL.out k hk
        have hl2 := HPLL.out (k + 1) (by omega)
        have k0c : w2.cell? ⟨w.heap.size, 1, none⟩ = some (.int .i64 f1) := k0.cell 1
        have hke : IntKind.i64.wrap (at0 L k * f1) = at0 L k * f1 := IntWalk.i64_in _ (by omega)
        have HP := Lib.hid ho2
        have HL1 := Lib.hid hl1
        have HL2 := Lib.hid hl2
        have hl3 : (PM k).length ≤ 128 := by omega
        have HO2 := Lib.hid hown
        have hbd : Below w2.heap.size w2 wr.drew := hbq.drew
        have HBD := Lib.hid hbd
        have HC := Lib.hid (held_mk hbd)
        have HQ := Lib.hid hbq
        clear hce hown hbq ho2 hl1 hl2 hbd
        generalize at0 L k = a1 at *
        go_wp2_with fail
        go_region_held3 (fun w' => Below w2.heap.size w2 w' ∧ ∀ b o, b < w2.heap.size → w'.cell? ⟨b, o, none⟩ = w2.cell? ⟨b, o, none⟩) (first | exact HC.out | exact held_mk (HBD.out.alloc HBD.out.size _) | exact held_mk hb4) (first | (refine step_append_lies _ rfl _ _ 50 rfl w2.heap.size 3 i0 (.int .i64 0) 1 8 Tryd.underlying50 hi hz0 hz1 hz2 rfl (by decide) _ _ _ rfl (HO2.out.drew.alloc _) ⟨wr.heap.size, 0, none⟩ 1 1 [.int .i64 (a1 * f1)] rfl rfl (cell_one _ _ _) (one_cell _) (by decide) (by unfold maxLen; omega) (by have := HBD.out.size; have := HQ.out.size; omega) (by simp; have := HQ.out.size; omega) _ rfl ?_; intro g cap w4 hown' hgrow _ _; have hb4 : Below w2.heap.size w2 w4 := (HBD.out.alloc HBD.out.size _).grown hgrow (by simp; have := HQ.out.size; omega) (fun k hk => (HO2.out.drew.lt k hk).1); clear hgrow))
        have ho4 : w4.ownsRow w2.heap.size 3 1 (.slice (some ⟨g, 0, none⟩) ((PM k).length + 1) cap) (PM (k + 1)).length (intV (PM (k + 1))) := by
          rw [HP.out, HL2.out, show k + 1 = (PM k).length + 1 by rw [HL1.out]]
          exact hown'
        have HO4 := Lib.hid ho4
        clear ho4 hown' HC
        go_wp2
        go_roundw
        case rel => exact ⟨k + 1, by omega, by go_num, HO4.out, hb4⟩
        case measure => simp [intOf]; omega
      · obtain rfl : k = L.length := by omega
        rw [HALL.out] at hown
        obtain ⟨A4, C4, rfl, hints⟩ := owns_ints hown
        have HY := Lib.hid hints
        have hBr : Below w.heap.size w wr := HB.out.trans (hbq.mono hz)
        replace k0 := k0.below hbq k0.lt
        replace k1 := k1.below hbq k1.lt
        clear hown hints hbq HX HIT HPK HPLL HALL HPL0 HB k0z k1z
        have k0c := fun i => Blk.cell k0 i
        have k0f := fun i => Blk.free k0 i
        have k1c := fun i => Blk.cell k1 i
        have k1f := fun i => Blk.free k1 i
        have hB := hBr
        go_wp2
        go_quiet (fail)
        go_wp2_with (go_at_call 34; refine (CAH.out _ _ _ (HY.out.below (below_drewN (Below.refl _ _) _))).mono ?_)
        rintro e w5 hret
        obtain ⟨A5, C5, rfl, hI5, hb5'⟩ := hret.ints
        have HZ := Lib.hid hI5
        have hb5 : Below wr.heap.size wr w5 := (below_drewN (Below.refl _ _) _).trans hb5'
        have HYZ := Lib.hid (HY.out.below hb5)
        replace hB := hBr.trans (hb5.mono hBr.size)
        replace k0 := k0.below hb5 k0.lt
        replace k1 := k1.below hb5 k1.lt
        clear k0c k0f k1c k1f hret hI5 hb5' hb5 hBr HY
        (try clear k0c k0f k0z); have k0c := fun i => Blk.cell k0 i; have k0f := fun i => Blk.free k0 i; have k0z := Blk.lt k0; (try clear k1c k1f k1z); have k1c := fun i => Blk.cell k1 i; have k1f := fun i => Blk.free k1 i; have k1z := Blk.lt k1
        go_wp2_with (first | ((with_reducible refine wpList_here ?_ ?_); (· exact Eq.refl true); first | ((with_reducible refine wpList_grow 99 ?_ ?_); (· exact Eq.refl true))) | ((with_reducible refine wp_region_any_here ?_ ?_); (· exact Eq.refl true); first | ((with_reducible refine wp_region_drawn 99 ?_ ?_ ?_ ?_); (· exact Eq.refl true); (· kernel_rfl); (· kernel_rfl)) | refine wp_region_grow (by kernel_rfl) (by kernel_rfl) ?_)); (try simp only [List.take_succ_cons, List.take_zero, List.drop_succ_cons, List.drop_zero]); (repeat (go_big_quiet_step ((first | (go_at_call 12; with_reducible exact grow_of (CDOOR.out _)) | (go_at_call 35; with_reducible exact grow_same (CF1.out _)) | (go_at_call 36; with_reducible exact grow_same (CBT.out _ _ _ (HYZ.out.below (Grow.below _)))))))); (first | (refine wpQuiet_nil ?_; intro w' hb; replace hB := Below.trans hB (Below.mono hb (Below.size hB)); replace k0 := Blk.below k0 hb (Blk.lt k0); replace k1 := Blk.below k1 hb (Blk.lt k1); (try clear k0c k0f k0z); have k0c := fun i => Blk.cell k0 i; have k0f := fun i => Blk.free k0 i; have k0z := Blk.lt k0; (try clear k1c k1f k1z); have k1c := fun i => Blk.cell k1 i; have k1f := fun i => Blk.free k1 i; have k1z := Blk.lt k1) | skip)
        all_goals (try (go_wp2_with (first | ((with_reducible refine wpList_here ?_ ?_); (· exact Eq.refl true); first | ((with_reducible refine wpList_grow 99 ?_ ?_); (· exact Eq.refl true))) | ((with_reducible refine wp_region_any_here ?_ ?_); (· exact Eq.refl true); first | ((with_reducible refine wp_region_drawn 99 ?_ ?_ ?_ ?_); (· exact Eq.refl true); (· kernel_rfl); (· kernel_rfl)) | refine wp_region_grow (by kernel_rfl) (by kernel_rfl) ?_)); (try simp only [List.take_succ_cons, List.take_zero, List.drop_succ_cons, List.drop_zero]); (repeat (go_big_quiet_step ((first | (go_at_call 12; with_reducible exact grow_of (CDOOR.out _)) | (go_at_call 35; with_reducible exact grow_same (CF1.out _)) | (go_at_call 36; with_reducible exact grow_same (CBT.out _ _ _ (HYZ.out.below (Grow.below _)))))))); (first | (refine wpQuiet_nil ?_; intro w' hb; replace hB := Below.trans hB (Below.mono hb (Below.size hB)); replace k0 := Blk.below k0 hb (Blk.lt k0); replace k1 := Blk.below k1 hb (Blk.lt k1); (try clear k0c k0f k0z); have k0c := fun i => Blk.cell k0 i; have k0f := fun i => Blk.free k0 i; have k0z := Blk.lt k0; (try clear k1c k1f k1z); have k1c := fun i => Blk.cell k1 i; have k1f := fun i => Blk.free k1 i; have k1z := Blk.lt k1) | skip)))
        all_goals (try (go_wp2_with (first | ((with_reducible refine wpList_here ?_ ?_); (· exact Eq.refl true); first | ((with_reducible refine wpList_grow 99 ?_ ?_); (· exact Eq.refl true))) | ((with_reducible refine wp_region_any_here ?_ ?_); (· exact Eq.refl true); first | ((with_reducible refine wp_region_drawn 99 ?_ ?_ ?_ ?_); (· exact Eq.refl true); (· kernel_rfl); (· kernel_rfl)) | refine wp_region_grow (by kernel_rfl) (by kernel_rfl) ?_)); (try simp only [List.take_succ_cons, List.take_zero, List.drop_succ_cons, List.drop_zero]); (repeat (go_big_quiet_step ((first | (go_at_call 12; with_reducible exact grow_of (CDOOR.out _)) | (go_at_call 35; with_reducible exact grow_same (CF1.out _)) | (go_at_call 36; with_reducible exact grow_same (CBT.out _ _ _ (HYZ.out.below (Grow.below _)))))))); (first | (refine wpQuiet_nil ?_; intro w' hb; replace hB := Below.trans hB (Below.mono hb (Below.size hB)); replace k0 := Blk.below k0 hb (Blk.lt k0); replace k1 := Blk.below k1 hb (Blk.lt k1); (try clear k0c k0f k0z); have k0c := fun i => Blk.cell k0 i; have k0f := fun i => Blk.free k0 i; have k0z := Blk.lt k0; (try clear k1c k1f k1z); have k1c := fun i => Blk.cell k1 i; have k1f := fun i => Blk.free k1 i; have k1z := Blk.lt k1) | skip)))
        go_ret
        exact ⟨rfl, hB⟩
  · have hn0 : ON ≠ [] := fun h' => by rw [h'] at q1; exact absurd q1 (by decide)
    have q5 : ((ON.length : Int) == 0) = false := by
      have : 0 < ON.length := List.length_pos_iff.2 hn0
      rw [beq_eq_false_iff_ne]; omega
    have q6 : ((O2.length : Int) == 0) = true := by
      have hon : O2 = [] := by simpa using q4
      rw [hon]; rfl
    clear q1 q4 HOP HTURN CF2 CF3 e2 e3 e4 e6 e7 e9 e10
    go_enter Tryd.func13, Tryd.ntmps13
    go_wp2_with (first | ((with_reducible refine hold_list ?_ ?_); (· exact Eq.refl true)) | ((with_reducible refine hold_region ?_ ?_); (· exact Eq.refl true)) | (with_reducible refine hold_loop ?_))
    have k0 : Blk (((w.alloc (.cells #[.int .i64 f0, .int .i64 f1, .int .i64 f2, .int .i64 f3, .int .i64 f4, .int .i64 f5, .int .i64 f6, .int .i64 f7, .slice A sg.length C, .int .i64 f8, .int .i64 f9, .int .i64 f10, .int .i64 f11] 25)).alloc (.cells #[.int .i64 pos, .int .i64 d, .int .i64 mode, .int .i64 left, .bool wtd, .slice A2 rd.length C2] 29)).alloc (.cells #[.int .u64 (x : Int), .int .u64 (y : Int)] 38)) (w.heap.size) 25 #[.int .i64 f0, .int .i64 f1, .int .i64 f2, .int .i64 f3, .int .i64 f4, .int .i64 f5, .int .i64 f6, .int .i64 f7, .slice A sg.length C, .int .i64 f8, .int .i64 f9, .int .i64 f10, .int .i64 f11] := (Blk.alloc (Blk.alloc (blk_at (by simp)) (.cells #[.int .i64 pos, .int .i64 d, .int .i64 mode, .int .i64 left, .bool wtd, .slice A2 rd.length C2] 29)) (.cells #[.int .u64 (x : Int), .int .u64 (y : Int)] 38))
    have k1 : Blk (((w.alloc (.cells #[.int .i64 f0, .int .i64 f1, .int .i64 f2, .int .i64 f3, .int .i64 f4, .int .i64 f5, .int .i64 f6, .int .i64 f7, .slice A sg.length C, .int .i64 f8, .int .i64 f9, .int .i64 f10, .int .i64 f11] 25)).alloc (.cells #[.int .i64 pos, .int .i64 d, .int .i64 mode, .int .i64 left, .bool wtd, .slice A2 rd.length C2] 29)).alloc (.cells #[.int .u64 (x : Int), .int .u64 (y : Int)] 38)) (w.heap.size + 1) 29 #[.int .i64 pos, .int .i64 d, .int .i64 mode, .int .i64 left, .bool wtd, .slice A2 rd.length C2] := (Blk.alloc (blk_at (by simp)) (.cells #[.int .u64 (x : Int), .int .u64 (y : Int)] 38))
    have k2 : Blk (((w.alloc (.cells #[.int .i64 f0, .int .i64 f1, .int .i64 f2, .int .i64 f3, .int .i64 f4, .int .i64 f5, .int .i64 f6, .int .i64 f7, .slice A sg.length C, .int .i64 f8, .int .i64 f9, .int .i64 f10, .int .i64 f11] 25)).alloc (.cells #[.int .i64 pos, .int .i64 d, .int .i64 mode, .int .i64 left, .bool wtd, .slice A2 rd.length C2] 29)).alloc (.cells #[.int .u64 (x : Int), .int .u64 (y : Int)] 38)) (w.heap.size + 2) 38 #[.int .u64 (x : Int), .int .u64 (y : Int)] := (blk_at (by simp))
    have hB : Below w.heap.size w (((w.alloc (.cells #[.int .i64 f0, .int .i64 f1, .int .i64 f2, .int .i64 f3, .int .i64 f4, .int .i64 f5, .int .i64 f6, .int .i64 f7, .slice A sg.length C, .int .i64 f8, .int .i64 f9, .int .i64 f10, .int .i64 f11] 25)).alloc (.cells #[.int .i64 pos, .int .i64 d, .int .i64 mode, .int .i64 left, .bool wtd, .slice A2 rd.length C2] 29)).alloc (.cells #[.int .u64 (x : Int), .int .u64 (y : Int)] 38)) := (bel_at (bel_at (bel_at (Below.refl _ _) (.cells #[.int .i64 f0, .int .i64 f1, .int .i64 f2, .int .i64 f3, .int .i64 f4, .int .i64 f5, .int .i64 f6, .int .i64 f7, .slice A sg.length C, .int .i64 f8, .int .i64 f9, .int .i64 f10, .int .i64 f11] 25)) (.cells #[.int .i64 pos, .int .i64 d, .int .i64 mode, .int .i64 left, .bool wtd, .slice A2 rd.length C2] 29)) (.cells #[.int .u64 (x : Int), .int .u64 (y : Int)] 38))
    generalize (((w.alloc (.cells #[.int .i64 f0, .int .i64 f1, .int .i64 f2, .int .i64 f3, .int .i64 f4, .int .i64 f5, .int .i64 f6, .int .i64 f7, .slice A sg.length C, .int .i64 f8, .int .i64 f9, .int .i64 f10, .int .i64 f11] 25)).alloc (.cells #[.int .i64 pos, .int .i64 d, .int .i64 mode, .int .i64 left, .bool wtd, .slice A2 rd.length C2] 29)).alloc (.cells #[.int .u64 (x : Int), .int .u64 (y : Int)] 38)) = w1 at *
    (try clear k0c k0f k0z); have k0c := fun i => Blk.cell k0 i; have k0f := fun i => Blk.free k0 i; have k0z := Blk.lt k0; (try clear k1c k1f k1z); have k1c := fun i => Blk.cell k1 i; have k1f := fun i => Blk.free k1 i; have k1z := Blk.lt k1; (try clear k2c k2f k2z); have k2c := fun i => Blk.cell k2 i; have k2f := fun i => Blk.free k2 i; have k2z := Blk.lt k2
    unfold Hold
    go_wp2_with (go_at_call 33; refine (CI.out _).mono ?_)
    rintro e w2 ⟨v, rfl, ho, hb⟩
    obtain ⟨A3, C3, rfl, hints⟩ := owns_ints ho
    have HX := Lib.hid hints
    replace k0 := k0.below hb k0.lt
    replace k1 := k1.below hb k1.lt
    replace hB := hB.trans (hb.mono hB.size)
    have HB := Lib.hid hB
    have hz := hB.size
    clear ho hints hb hB k2 k2c k2f k2z CI k0c k0f k0z k1c k1f k1z
    have k0z := k0.lt
    have k1z := k1.lt
    go_wp2_with (with_reducible refine hold_loop ?_)
    unfold Hold
    go_loopw [11, 13] (fun v i wr => ∃ k : Nat, k ≤ L.length ∧ i = .int .i64 k ∧ wr.ownsRow w2.heap.size 3 1 v (PM k).length (intV (PM k)) ∧ Below w2.heap.size w2 wr) (fun _ i _ => L.length - (intOf i).toNat)
    case atStart => exact ⟨0, by omega, rfl, by rw [HPL0.out]; exact World.ownsRow_nil _ _ _ _, Below.refl _ _⟩
    case round =>
      obtain ⟨k, hk, rfl, hown, hbq⟩ := hrel
      by_cases hlt : k < L.length
      · obtain ⟨b, off, rfl, hbl, hce⟩ := HX.out (by omega)
        have hc1 := hce k hlt
        have hb1 := HIT.out k hlt
        have ho2 := HPK.out k hlt
        have hl1 := HPLL.out k hk
        have hl2 := HPLL.out (k + 1) (by omega)
        have k0c : w2.cell? ⟨w.heap.size, 1, none⟩ = some (.int .i64 f1) := k0.cell 1
        have hke : IntKind.i64.wrap (at0 L k * f1) = at0 L k * f1 := IntWalk.i64_in _ (by omega)
        have HP := Lib.hid ho2
        have HL1 := Lib.hid hl1
        have HL2 := Lib.hid hl2
        have hl3 : (PM k).length ≤ 128 := by omega
        have HO2 := Lib.hid hown
        have hbd : Below w2.heap.size w2 wr.drew := hbq.drew
        have HBD := Lib.hid hbd
        have HC := Lib.hid (held_mk hbd)
        have HQ := Lib.hid hbq
        clear hce hown hbq ho2 hl1 hl2 hbd
        generalize at0 L k = a1 at *
        go_wp2_with fail
        go_region_held3 (fun w' => Below w2.heap.size w2 w' ∧ ∀ b o, b < w2.heap.size → w'.cell? ⟨b, o, none⟩ = w2.cell? ⟨b, o, none⟩) (first | exact HC.out | exact held_mk (HBD.out.alloc HBD.out.size _) | exact held_mk hb4) (first | (refine step_append_lies _ rfl _ _ 50 rfl w2.heap.size 3 i0 (.int .i64 0) 1 8 Tryd.underlying50 hi hz0 hz1 hz2 rfl (by decide) _ _ _ rfl (HO2.out.drew.alloc _) ⟨wr.heap.size, 0, none⟩ 1 1 [.int .i64 (a1 * f1)] rfl rfl (cell_one _ _ _) (one_cell _) (by decide) (by unfold maxLen; omega) (by have := HBD.out.size; have := HQ.out.size; omega) (by simp; have := HQ.out.size; omega) _ rfl ?_; intro g cap w4 hown' hgrow _ _; have hb4 : Below w2.heap.size w2 w4 := (HBD.out.alloc HBD.out.size _).grown hgrow (by simp; have := HQ.out.size; omega) (fun k hk => (HO2.out.drew.lt k hk).1); clear hgrow))
        have ho4 : w4.ownsRow w2.heap.size 3 1 (.slice (some ⟨g, 0, none⟩) ((PM k).length + 1) cap) (PM (k + 1)).length (intV (PM (k + 1))) := by
          rw [HP.out, HL2.out, show k + 1 = (PM k).length + 1 by rw [HL1.out]]
          exact hown'
        have HO4 := Lib.hid ho4
        clear ho4 hown' HC
        go_wp2
        go_roundw
        case rel => exact ⟨k + 1, by omega, by go_num, HO4.out, hb4⟩
        case measure => simp [intOf]; omega
      · obtain rfl : k = L.length := by omega
        rw [HALL.out] at hown
        obtain ⟨A4, C4, rfl, hints⟩ := owns_ints hown
        have HY := Lib.hid hints
        have hBr : Below w.heap.size w wr := HB.out.trans (hbq.mono hz)
        replace k0 := k0.below hbq k0.lt
        replace k1 := k1.below hbq k1.lt
        clear hown hints hbq HX HIT HPK HPLL HALL HPL0 HB k0z k1z
        have k0c := fun i => Blk.cell k0 i
        have k0f := fun i => Blk.free k0 i
        have k1c := fun i => Blk.cell k1 i
        have k1f := fun i => Blk.free k1 i
        have hB := hBr
        go_wp2
        go_quiet (fail)
        go_wp2_with (go_at_call 34; refine (CAH.out _ _ _ (HY.out.below (below_drewN (Below.refl _ _) _))).mono ?_)
        rintro e w5 hret
        obtain ⟨A5, C5, rfl, hI5, hb5'⟩ := hret.ints
        have HZ := Lib.hid hI5
        have hb5 : Below wr.heap.size wr w5 := (below_drewN (Below.refl _ _) _).trans hb5'
        have HYZ := Lib.hid (HY.out.below hb5)
        replace hB := hBr.trans (hb5.mono hBr.size)
        replace k0 := k0.below hb5 k0.lt
        replace k1 := k1.below hb5 k1.lt
        clear k0c k0f k1c k1f hret hI5 hb5' hb5 hBr HY
        (try clear k0c k0f k0z); have k0c := fun i => Blk.cell k0 i; have k0f := fun i => Blk.free k0 i; have k0z := Blk.lt k0; (try clear k1c k1f k1z); have k1c := fun i => Blk.cell k1 i; have k1f := fun i => Blk.free k1 i; have k1z := Blk.lt k1
        go_wp2_with (go_at_call 34; refine (CAH2.out _ _ _ HYZ.out).mono ?_)
        rintro e w6 hret
        obtain ⟨A6, C6, rfl, hI6, hb6⟩ := hret.ints
        have HZ2 := Lib.hid (HZ.out.below hb6)
        have HYZ2 := Lib.hid (HYZ.out.below hb6)
        replace hB := hB.trans (hb6.mono hB.size)
        replace k0 := k0.below hb6 k0.lt
        replace k1 := k1.below hb6 k1.lt
        clear hret hI6 hb6 HYZ HZ
        (try clear k0c k0f k0z); have k0c := fun i => Blk.cell k0 i; have k0f := fun i => Blk.free k0 i; have k0z := Blk.lt k0; (try clear k1c k1f k1z); have k1c := fun i => Blk.cell k1 i; have k1f := fun i => Blk.free k1 i; have k1z := Blk.lt k1
        go_wp2_with (first | ((with_reducible refine wpList_here ?_ ?_); (· exact Eq.refl true); first | ((with_reducible refine wpList_grow 99 ?_ ?_); (· exact Eq.refl true))) | ((with_reducible refine wp_region_any_here ?_ ?_); (· exact Eq.refl true); first | ((with_reducible refine wp_region_drawn 99 ?_ ?_ ?_ ?_); (· exact Eq.refl true); (· kernel_rfl); (· kernel_rfl)) | refine wp_region_grow (by kernel_rfl) (by kernel_rfl) ?_)); (try simp only [List.take_succ_cons, List.take_zero, List.drop_succ_cons, List.drop_zero]); (repeat (go_big_quiet_step ((first | (go_at_call 12; with_reducible exact grow_of (CDOOR.out _)) | (go_at_call 35; with_reducible exact grow_same (CF1.out _)) | (go_at_call 36; with_reducible exact grow_same (CBT.out _ _ _ (HYZ2.out.below (Grow.below _)))))))); (first | (refine wpQuiet_nil ?_; intro w' hb; replace hB := Below.trans hB (Below.mono hb (Below.size hB)); replace k0 := Blk.below k0 hb (Blk.lt k0); replace k1 := Blk.below k1 hb (Blk.lt k1); (try clear k0c k0f k0z); have k0c := fun i => Blk.cell k0 i; have k0f := fun i => Blk.free k0 i; have k0z := Blk.lt k0; (try clear k1c k1f k1z); have k1c := fun i => Blk.cell k1 i; have k1f := fun i => Blk.free k1 i; have k1z := Blk.lt k1) | skip)
        all_goals (try (go_wp2_with (first | ((with_reducible refine wpList_here ?_ ?_); (· exact Eq.refl true); first | ((with_reducible refine wpList_grow 99 ?_ ?_); (· exact Eq.refl true))) | ((with_reducible refine wp_region_any_here ?_ ?_); (· exact Eq.refl true); first | ((with_reducible refine wp_region_drawn 99 ?_ ?_ ?_ ?_); (· exact Eq.refl true); (· kernel_rfl); (· kernel_rfl)) | refine wp_region_grow (by kernel_rfl) (by kernel_rfl) ?_)); (try simp only [List.take_succ_cons, List.take_zero, List.drop_succ_cons, List.drop_zero]); (repeat (go_big_quiet_step ((first | (go_at_call 12; with_reducible exact grow_of (CDOOR.out _)) | (go_at_call 35; with_reducible exact grow_same (CF1.out _)) | (go_at_call 36; with_reducible exact grow_same (CBT.out _ _ _ (HYZ2.out.below (Grow.below _)))))))); (first | (refine wpQuiet_nil ?_; intro w' hb; replace hB := Below.trans hB (Below.mono hb (Below.size hB)); replace k0 := Blk.below k0 hb (Blk.lt k0); replace k1 := Blk.below k1 hb (Blk.lt k1); (try clear k0c k0f k0z); have k0c := fun i => Blk.cell k0 i; have k0f := fun i => Blk.free k0 i; have k0z := Blk.lt k0; (try clear k1c k1f k1z); have k1c := fun i => Blk.cell k1 i; have k1f := fun i => Blk.free k1 i; have k1z := Blk.lt k1) | skip)))
        all_goals (try (go_wp2_with (first | ((with_reducible refine wpList_here ?_ ?_); (· exact Eq.refl true); first | ((with_reducible refine wpList_grow 99 ?_ ?_); (· exact Eq.refl true))) | ((with_reducible refine wp_region_any_here ?_ ?_); (· exact Eq.refl true); first | ((with_reducible refine wp_region_drawn 99 ?_ ?_ ?_ ?_); (· exact Eq.refl true); (· kernel_rfl); (· kernel_rfl)) | refine wp_region_grow (by kernel_rfl) (by kernel_rfl) ?_)); (try simp only [List.take_succ_cons, List.take_zero, List.drop_succ_cons, List.drop_zero]); (repeat (go_big_quiet_step ((first | (go_at_call 12; with_reducible exact grow_of (CDOOR.out _)) | (go_at_call 35; with_reducible exact grow_same (CF1.out _)) | (go_at_call 36; with_reducible exact grow_same (CBT.out _ _ _ (HYZ2.out.below (Grow.below _)))))))); (first | (refine wpQuiet_nil ?_; intro w' hb; replace hB := Below.trans hB (Below.mono hb (Below.size hB)); replace k0 := Blk.below k0 hb (Blk.lt k0); replace k1 := Blk.below k1 hb (Blk.lt k1); (try clear k0c k0f k0z); have k0c := fun i => Blk.cell k0 i; have k0f := fun i => Blk.free k0 i; have k0z := Blk.lt k0; (try clear k1c k1f k1z); have k1c := fun i => Blk.cell k1 i; have k1f := fun i => Blk.free k1 i; have k1z := Blk.lt k1) | skip)))
        go_ret
        exact ⟨rfl, hB⟩
  · have hn0 : ON ≠ [] := fun h' => by rw [h'] at q1; exact absurd q1 (by decide)
    have q5 : ((ON.length : Int) == 0) = false := by
      have : 0 < ON.length := List.length_pos_iff.2 hn0
      rw [beq_eq_false_iff_ne]; omega
    have q6 : ((O2.length : Int) == 0) = false := by
      have : 0 < O2.length := List.length_pos_iff.2 (of_decide_eq_false q4)
      rw [beq_eq_false_iff_ne]; omega
    have hpos : 0 < ON.length := List.length_pos_iff.2 hn0
    rw [HTURN.out hn0] at CF2 CF3
    have htb := turnN_bd HOP.out pos
    have HTB := Lib.hid htb
    clear htb HTURN
    clear q1 q4 CF1 e1 e3 e4 e5 e8 e10
    go_enter Tryd.func13, Tryd.ntmps13
    go_wp2_with (first | ((with_reducible refine hold_list ?_ ?_); (· exact Eq.refl true)) | ((with_reducible refine hold_region ?_ ?_); (· exact Eq.refl true)) | (with_reducible refine hold_loop ?_))
    have k0 : Blk (((w.alloc (.cells #[.int .i64 f0, .int .i64 f1, .int .i64 f2, .int .i64 f3, .int .i64 f4, .int .i64 f5, .int .i64 f6, .int .i64 f7, .slice A sg.length C, .int .i64 f8, .int .i64 f9, .int .i64 f10, .int .i64 f11] 25)).alloc (.cells #[.int .i64 pos, .int .i64 d, .int .i64 mode, .int .i64 left, .bool wtd, .slice A2 rd.length C2] 29)).alloc (.cells #[.int .u64 (x : Int), .int .u64 (y : Int)] 38)) (w.heap.size) 25 #[.int .i64 f0, .int .i64 f1, .int .i64 f2, .int .i64 f3, .int .i64 f4, .int .i64 f5, .int .i64 f6, .int .i64 f7, .slice A sg.length C, .int .i64 f8, .int .i64 f9, .int .i64 f10, .int .i64 f11] := (Blk.alloc (Blk.alloc (blk_at (by simp)) (.cells #[.int .i64 pos, .int .i64 d, .int .i64 mode, .int .i64 left, .bool wtd, .slice A2 rd.length C2] 29)) (.cells #[.int .u64 (x : Int), .int .u64 (y : Int)] 38))
    have k1 : Blk (((w.alloc (.cells #[.int .i64 f0, .int .i64 f1, .int .i64 f2, .int .i64 f3, .int .i64 f4, .int .i64 f5, .int .i64 f6, .int .i64 f7, .slice A sg.length C, .int .i64 f8, .int .i64 f9, .int .i64 f10, .int .i64 f11] 25)).alloc (.cells #[.int .i64 pos, .int .i64 d, .int .i64 mode, .int .i64 left, .bool wtd, .slice A2 rd.length C2] 29)).alloc (.cells #[.int .u64 (x : Int), .int .u64 (y : Int)] 38)) (w.heap.size + 1) 29 #[.int .i64 pos, .int .i64 d, .int .i64 mode, .int .i64 left, .bool wtd, .slice A2 rd.length C2] := (Blk.alloc (blk_at (by simp)) (.cells #[.int .u64 (x : Int), .int .u64 (y : Int)] 38))
    have k2 : Blk (((w.alloc (.cells #[.int .i64 f0, .int .i64 f1, .int .i64 f2, .int .i64 f3, .int .i64 f4, .int .i64 f5, .int .i64 f6, .int .i64 f7, .slice A sg.length C, .int .i64 f8, .int .i64 f9, .int .i64 f10, .int .i64 f11] 25)).alloc (.cells #[.int .i64 pos, .int .i64 d, .int .i64 mode, .int .i64 left, .bool wtd, .slice A2 rd.length C2] 29)).alloc (.cells #[.int .u64 (x : Int), .int .u64 (y : Int)] 38)) (w.heap.size + 2) 38 #[.int .u64 (x : Int), .int .u64 (y : Int)] := (blk_at (by simp))
    have hB : Below w.heap.size w (((w.alloc (.cells #[.int .i64 f0, .int .i64 f1, .int .i64 f2, .int .i64 f3, .int .i64 f4, .int .i64 f5, .int .i64 f6, .int .i64 f7, .slice A sg.length C, .int .i64 f8, .int .i64 f9, .int .i64 f10, .int .i64 f11] 25)).alloc (.cells #[.int .i64 pos, .int .i64 d, .int .i64 mode, .int .i64 left, .bool wtd, .slice A2 rd.length C2] 29)).alloc (.cells #[.int .u64 (x : Int), .int .u64 (y : Int)] 38)) := (bel_at (bel_at (bel_at (Below.refl _ _) (.cells #[.int .i64 f0, .int .i64 f1, .int .i64 f2, .int .i64 f3, .int .i64 f4, .int .i64 f5, .int .i64 f6, .int .i64 f7, .slice A sg.length C, .int .i64 f8, .int .i64 f9, .int .i64 f10, .int .i64 f11] 25)) (.cells #[.int .i64 pos, .int .i64 d, .int .i64 mode, .int .i64 left, .bool wtd, .slice A2 rd.length C2] 29)) (.cells #[.int .u64 (x : Int), .int .u64 (y : Int)] 38))
    generalize (((w.alloc (.cells #[.int .i64 f0, .int .i64 f1, .int .i64 f2, .int .i64 f3, .int .i64 f4, .int .i64 f5, .int .i64 f6, .int .i64 f7, .slice A sg.length C, .int .i64 f8, .int .i64 f9, .int .i64 f10, .int .i64 f11] 25)).alloc (.cells #[.int .i64 pos, .int .i64 d, .int .i64 mode, .int .i64 left, .bool wtd, .slice A2 rd.length C2] 29)).alloc (.cells #[.int .u64 (x : Int), .int .u64 (y : Int)] 38)) = w1 at *
    (try clear k0c k0f k0z); have k0c := fun i => Blk.cell k0 i; have k0f := fun i => Blk.free k0 i; have k0z := Blk.lt k0; (try clear k1c k1f k1z); have k1c := fun i => Blk.cell k1 i; have k1f := fun i => Blk.free k1 i; have k1z := Blk.lt k1; (try clear k2c k2f k2z); have k2c := fun i => Blk.cell k2 i; have k2f := fun i => Blk.free k2 i; have k2z := Blk.lt k2
    unfold Hold
    go_wp2_with (go_at_call 33; refine (CI.out _).mono ?_)
    rintro e w2 ⟨v, rfl, ho, hb⟩
    obtain ⟨A3, C3, rfl, hints⟩ := owns_ints ho
    have HX := Lib.hid hints
    replace k0 := k0.below hb k0.lt
    replace k1 := k1.below hb k1.lt
    replace hB := hB.trans (hb.mono hB.size)
    have HB := Lib.hid hB
    have hz := hB.size
    clear ho hints hb hB k2 k2c k2f k2z CI k0c k0f k0z k1c k1f k1z
    have k0z := k0.lt
    have k1z := k1.lt
    go_wp2_with (with_reducible refine hold_loop ?_)
    unfold Hold
    go_loopw [11, 13] (fun v i wr => ∃ k : Nat, k ≤ L.length ∧ i = .int .i64 k ∧ wr.ownsRow w2.heap.size 3 1 v (PM k).length (intV (PM k)) ∧ Below w2.heap.size w2 wr) (fun _ i _ => L.length - (intOf i).toNat)
    case atStart => exact ⟨0, by omega, rfl, by rw [HPL0.out]; exact World.ownsRow_nil _ _ _ _, Below.refl _ _⟩
    case round =>
      obtain ⟨k, hk, rfl, hown, hbq⟩ := hrel
      by_cases hlt : k < L.length
      · obtain ⟨b, off, rfl, hbl, hce⟩ := HX.out (by omega)
        have hc1 := hce k hlt
        have hb1 := HIT.out k hlt
        have ho2 := HPK.out k hlt
        have hl1 := HPLL.out k hk
        have hl2 := HPLL.out (k + 1) (by omega)
        have k0c : w2.cell? ⟨w.heap.size, 1, none⟩ = some (.int .i64 f1) := k0.cell 1
        have hke : IntKind.i64.wrap (at0 L k * f1) = at0 L k * f1 := IntWalk.i64_in _ (by omega)
        have HP := Lib.hid ho2
        have HL1 := Lib.hid hl1
        have HL2 := Lib.hid hl2
        have hl3 : (PM k).length ≤ 128 := by omega
        have HO2 := Lib.hid hown
        have hbd : Below w2.heap.size w2 wr.drew := hbq.drew
        have HBD := Lib.hid hbd
        have HC := Lib.hid (held_mk hbd)
        have HQ := Lib.hid hbq
        clear hce hown hbq ho2 hl1 hl2 hbd
        generalize at0 L k = a1 at *
        go_wp2_with fail
        go_region_held3 (fun w' => Below w2.heap.size w2 w' ∧ ∀ b o, b < w2.heap.size → w'.cell? ⟨b, o, none⟩ = w2.cell? ⟨b, o, none⟩) (first | exact HC.out | exact held_mk (HBD.out.alloc HBD.out.size _) | exact held_mk hb4) (first | (refine step_append_lies _ rfl _ _ 50 rfl w2.heap.size 3 i0 (.int .i64 0) 1 8 Tryd.underlying50 hi hz0 hz1 hz2 rfl (by decide) _ _ _ rfl (HO2.out.drew.alloc _) ⟨wr.heap.size, 0, none⟩ 1 1 [.int .i64 (a1 * f1)] rfl rfl (cell_one _ _ _) (one_cell _) (by decide) (by unfold maxLen; omega) (by have := HBD.out.size; have := HQ.out.size; omega) (by simp; have := HQ.out.size; omega) _ rfl ?_; intro g cap w4 hown' hgrow _ _; have hb4 : Below w2.heap.size w2 w4 := (HBD.out.alloc HBD.out.size _).grown hgrow (by simp; have := HQ.out.size; omega) (fun k hk => (HO2.out.drew.lt k hk).1); clear hgrow))
        have ho4 : w4.ownsRow w2.heap.size 3 1 (.slice (some ⟨g, 0, none⟩) ((PM k).length + 1) cap) (PM (k + 1)).length (intV (PM (k + 1))) := by
          rw [HP.out, HL2.out, show k + 1 = (PM k).length + 1 by rw [HL1.out]]
          exact hown'
        have HO4 := Lib.hid ho4
        clear ho4 hown' HC
        go_wp2
        go_roundw
        case rel => exact ⟨k + 1, by omega, by go_num, HO4.out, hb4⟩
        case measure => simp [intOf]; omega
      · obtain rfl : k = L.length := by omega
        rw [HALL.out] at hown
        obtain ⟨A4, C4, rfl, hints⟩ := owns_ints hown
        have HY := Lib.hid hints
        have hBr : Below w.heap.size w wr := HB.out.trans (hbq.mono hz)
        replace k0 := k0.below hbq k0.lt
        replace k1 := k1.below hbq k1.lt
        clear hown hints hbq HX HIT HPK HPLL HALL HPL0 HB k0z k1z
        have k0c := fun i => Blk.cell k0 i
        have k0f := fun i => Blk.free k0 i
        have k1c := fun i => Blk.cell k1 i
        have k1f := fun i => Blk.free k1 i
        have hB := hBr
        go_wp2
        go_quiet (fail)
        go_wp2_with (go_at_call 34; refine (CAH.out _ _ _ (HY.out.below (below_drewN (Below.refl _ _) _))).mono ?_)
        rintro e w5 hret
        obtain ⟨A5, C5, rfl, hI5, hb5'⟩ := hret.ints
        have HZ := Lib.hid hI5
        have hb5 : Below wr.heap.size wr w5 := (below_drewN (Below.refl _ _) _).trans hb5'
        have HYZ := Lib.hid (HY.out.below hb5)
        replace hB := hBr.trans (hb5.mono hBr.size)
        replace k0 := k0.below hb5 k0.lt
        replace k1 := k1.below hb5 k1.lt
        clear k0c k0f k1c k1f hret hI5 hb5' hb5 hBr HY
        (try clear k0c k0f k0z); have k0c := fun i => Blk.cell k0 i; have k0f := fun i => Blk.free k0 i; have k0z := Blk.lt k0; (try clear k1c k1f k1z); have k1c := fun i => Blk.cell k1 i; have k1f := fun i => Blk.free k1 i; have k1z := Blk.lt k1
        go_wp2_with (go_at_call 34; refine (CAH2.out _ _ _ HYZ.out).mono ?_)
        rintro e w6 hret
        obtain ⟨A6, C6, rfl, hI6, hb6⟩ := hret.ints
        have HZ2 := Lib.hid (HZ.out.below hb6)
        have HYZ2 := Lib.hid (HYZ.out.below hb6)
        replace hB := hB.trans (hb6.mono hB.size)
        replace k0 := k0.below hb6 k0.lt
        replace k1 := k1.below hb6 k1.lt
        clear hret hI6 hb6 HYZ HZ
        (try clear k0c k0f k0z); have k0c := fun i => Blk.cell k0 i; have k0f := fun i => Blk.free k0 i; have k0z := Blk.lt k0; (try clear k1c k1f k1z); have k1c := fun i => Blk.cell k1 i; have k1f := fun i => Blk.free k1 i; have k1z := Blk.lt k1
        obtain ⟨b5, off5, rfl, hbl5, hce5⟩ := HZ2.out hpos
        have hc0 := hce5 0 hpos
        simp only [Nat.add_zero] at hc0
        have HCE := Lib.hid hce5
        clear hce5
        go_wp2_with (with_reducible refine hold_loop ?_)
        unfold Hold
        go_loopw [18, 19] (fun t i wr => ∃ k : Nat, k ≤ ON.length ∧ i = .int .i64 k ∧ t = .int .i64 (turnN ON pos k) ∧ Below w6.heap.size w6 wr) (fun _ i _ => ON.length - (intOf i).toNat)
        case atStart => exact ⟨0, by omega, rfl, rfl, Below.refl _ _⟩
        case round =>
          obtain ⟨k, hk, rfl, rfl, hbq⟩ := hrel
          have HQ := Lib.hid hbq
          by_cases hlt : k < ON.length
          · have hc1 := (hbq.cell (p := ⟨b5, off5 + k, none⟩) hbl5).trans (HCE.out k hlt)
            have ht : turnN ON pos (k + 1) = if farOf (turnN ON pos k) pos < farOf (at0 ON k) pos then at0 ON k else turnN ON pos k := by
              rw [turnN]
              unfold farOf
              rw [Int.max_comm (pos - turnN ON pos k), Int.max_comm (pos - at0 ON k)]
            have ha := HOP.out k
            have hb := HTB.out k
            have k1r := k1.below hbq k1.lt
            have hp1 : wr.cell? ⟨w.heap.size + 1, 0, none⟩ = some (.int .i64 pos) := k1r.cell 0
            have CFA := Lib.hid (fun w => ref34_far (at0 ON k) pos w (by omega) (by omega))
            have CFB := Lib.hid (fun w => ref34_far (turnN ON pos k) pos w (by omega) (by omega))
            have hrel : ∃ q, q = decide (farOf (turnN ON pos k) pos < farOf (at0 ON k) pos) := ⟨_, rfl⟩
            generalize farOf (turnN ON pos k) pos = fb at *
            generalize farOf (at0 ON k) pos = fa at *
            generalize turnN ON pos k = tv at *
            generalize at0 ON k = av at *
            clear hbq k1r ha hb hrel
            by_cases hq : fb < fa
            · have q7 : decide (fb < fa) = true := decide_eq_true hq
              rw [if_pos hq] at ht
              have HTT := Lib.hid ht
              clear ht hq
              go_wp2
              go_quiet ((first | (go_at_call 35; with_reducible exact q_left (CFA.out _)) | (go_at_call 35; with_reducible exact q_left (CFB.out _))))
              go_wp2
              go_roundw
              case rel => exact ⟨k + 1, by omega, by go_num, by rw [HTT.out], below_drewN HQ.out _⟩
              case measure => simp [intOf]; omega
            · have q7 : decide (fb < fa) = false := decide_eq_false hq
              rw [if_neg hq] at ht
              have HTT := Lib.hid ht
              clear ht hq
              go_wp2
              go_quiet ((first | (go_at_call 35; with_reducible exact q_left (CFA.out _)) | (go_at_call 35; with_reducible exact q_left (CFB.out _))))
              go_wp2
              go_roundw
              case rel => exact ⟨k + 1, by omega, by go_num, by rw [HTT.out], below_drewN HQ.out _⟩
              case measure => simp [intOf]; omega
          · obtain rfl : k = ON.length := by omega
            have hY := Lib.hid (HYZ2.out.below hbq)
            replace hB := hB.trans (hbq.mono hB.size)
            replace k0 := k0.below hbq k0.lt
            replace k1 := k1.below hbq k1.lt
            clear hbq HQ HCE hc0 k0c k0f k1c k1f
            (try clear k0c k0f k0z); have k0c := fun i => Blk.cell k0 i; have k0f := fun i => Blk.free k0 i; have k0z := Blk.lt k0; (try clear k1c k1f k1z); have k1c := fun i => Blk.cell k1 i; have k1f := fun i => Blk.free k1 i; have k1z := Blk.lt k1
            generalize turnN ON pos ON.length = T2 at *
            go_wp2_with (first | ((with_reducible refine wpList_here ?_ ?_); (· exact Eq.refl true); first | ((with_reducible refine wpList_grow 4 ?_ ?_); (· exact Eq.refl true))) | ((with_reducible refine wp_region_any_here ?_ ?_); (· exact Eq.refl true); first | ((with_reducible refine wp_region_drawn 99 ?_ ?_ ?_ ?_); (· exact Eq.refl true); (· kernel_rfl); (· kernel_rfl)) | refine wp_region_grow (by kernel_rfl) (by kernel_rfl) ?_)); (try simp only [List.take_succ_cons, List.take_zero, List.drop_succ_cons, List.drop_zero]); (repeat (go_big_quiet_step ((first | (go_at_call 12; with_reducible exact grow_of (CDOOR.out _)) | (go_at_call 35; with_reducible exact grow_same (CF2.out _)) | (go_at_call 35; with_reducible exact grow_same (CF3.out _)) | (go_at_call 36; with_reducible exact grow_same (CBT.out _ _ _ (hY.out.below (Grow.below _)))))))); (first | (refine wpQuiet_nil ?_; intro w' hb; replace hB := Below.trans hB (Below.mono hb (Below.size hB)); replace k0 := Blk.below k0 hb (Blk.lt k0); replace k1 := Blk.below k1 hb (Blk.lt k1); (try clear k0c k0f k0z); have k0c := fun i => Blk.cell k0 i; have k0f := fun i => Blk.free k0 i; have k0z := Blk.lt k0; (try clear k1c k1f k1z); have k1c := fun i => Blk.cell k1 i; have k1f := fun i => Blk.free k1 i; have k1z := Blk.lt k1) | skip)
            all_goals (try (go_wp2_with (first | ((with_reducible refine wpList_here ?_ ?_); (· exact Eq.refl true); first | ((with_reducible refine wpList_grow 4 ?_ ?_); (· exact Eq.refl true))) | ((with_reducible refine wp_region_any_here ?_ ?_); (· exact Eq.refl true); first | ((with_reducible refine wp_region_drawn 99 ?_ ?_ ?_ ?_); (· exact Eq.refl true); (· kernel_rfl); (· kernel_rfl)) | refine wp_region_grow (by kernel_rfl) (by kernel_rfl) ?_)); (try simp only [List.take_succ_cons, List.take_zero, List.drop_succ_cons, List.drop_zero]); (repeat (go_big_quiet_step ((first | (go_at_call 12; with_reducible exact grow_of (CDOOR.out _)) | (go_at_call 35; with_reducible exact grow_same (CF2.out _)) | (go_at_call 35; with_reducible exact grow_same (CF3.out _)) | (go_at_call 36; with_reducible exact grow_same (CBT.out _ _ _ (hY.out.below (Grow.below _)))))))); (first | (refine wpQuiet_nil ?_; intro w' hb; replace hB := Below.trans hB (Below.mono hb (Below.size hB)); replace k0 := Blk.below k0 hb (Blk.lt k0); replace k1 := Blk.below k1 hb (Blk.lt k1); (try clear k0c k0f k0z); have k0c := fun i => Blk.cell k0 i; have k0f := fun i => Blk.free k0 i; have k0z := Blk.lt k0; (try clear k1c k1f k1z); have k1c := fun i => Blk.cell k1 i; have k1f := fun i => Blk.free k1 i; have k1z := Blk.lt k1) | skip)))
            all_goals (try (go_wp2_with (first | ((with_reducible refine wpList_here ?_ ?_); (· exact Eq.refl true); first | ((with_reducible refine wpList_grow 4 ?_ ?_); (· exact Eq.refl true))) | ((with_reducible refine wp_region_any_here ?_ ?_); (· exact Eq.refl true); first | ((with_reducible refine wp_region_drawn 99 ?_ ?_ ?_ ?_); (· exact Eq.refl true); (· kernel_rfl); (· kernel_rfl)) | refine wp_region_grow (by kernel_rfl) (by kernel_rfl) ?_)); (try simp only [List.take_succ_cons, List.take_zero, List.drop_succ_cons, List.drop_zero]); (repeat (go_big_quiet_step ((first | (go_at_call 12; with_reducible exact grow_of (CDOOR.out _)) | (go_at_call 35; with_reducible exact grow_same (CF2.out _)) | (go_at_call 35; with_reducible exact grow_same (CF3.out _)) | (go_at_call 36; with_reducible exact grow_same (CBT.out _ _ _ (hY.out.below (Grow.below _)))))))); (first | (refine wpQuiet_nil ?_; intro w' hb; replace hB := Below.trans hB (Below.mono hb (Below.size hB)); replace k0 := Blk.below k0 hb (Blk.lt k0); replace k1 := Blk.below k1 hb (Blk.lt k1); (try clear k0c k0f k0z); have k0c := fun i => Blk.cell k0 i; have k0f := fun i => Blk.free k0 i; have k0z := Blk.lt k0; (try clear k1c k1f k1z); have k1c := fun i => Blk.cell k1 i; have k1f := fun i => Blk.free k1 i; have k1z := Blk.lt k1) | skip)))
            all_goals (try (go_wp2_with (first | ((with_reducible refine wpList_here ?_ ?_); (· exact Eq.refl true); first | ((with_reducible refine wpList_grow 4 ?_ ?_); (· exact Eq.refl true))) | ((with_reducible refine wp_region_any_here ?_ ?_); (· exact Eq.refl true); first | ((with_reducible refine wp_region_drawn 99 ?_ ?_ ?_ ?_); (· exact Eq.refl true); (· kernel_rfl); (· kernel_rfl)) | refine wp_region_grow (by kernel_rfl) (by kernel_rfl) ?_)); (try simp only [List.take_succ_cons, List.take_zero, List.drop_succ_cons, List.drop_zero]); (repeat (go_big_quiet_step ((first | (go_at_call 12; with_reducible exact grow_of (CDOOR.out _)) | (go_at_call 35; with_reducible exact grow_same (CF2.out _)) | (go_at_call 35; with_reducible exact grow_same (CF3.out _)) | (go_at_call 36; with_reducible exact grow_same (CBT.out _ _ _ (hY.out.below (Grow.below _)))))))); (first | (refine wpQuiet_nil ?_; intro w' hb; replace hB := Below.trans hB (Below.mono hb (Below.size hB)); replace k0 := Blk.below k0 hb (Blk.lt k0); replace k1 := Blk.below k1 hb (Blk.lt k1); (try clear k0c k0f k0z); have k0c := fun i => Blk.cell k0 i; have k0f := fun i => Blk.free k0 i; have k0z := Blk.lt k0; (try clear k1c k1f k1z); have k1c := fun i => Blk.cell k1 i; have k1f := fun i => Blk.free k1 i; have k1z := Blk.lt k1) | skip)))
            go_ret
            exact ⟨rfl, hB⟩
  · have hn0 : ON ≠ [] := fun h' => by rw [h'] at q1; exact absurd q1 (by decide)
    have q5 : ((ON.length : Int) == 0) = false := by
      have : 0 < ON.length := List.length_pos_iff.2 hn0
      rw [beq_eq_false_iff_ne]; omega
    have hpos : 0 < ON.length := List.length_pos_iff.2 hn0
    rw [HTURN.out hn0] at CF2 CF3
    have htb := turnN_bd HOP.out pos
    have HTB := Lib.hid htb
    clear htb HTURN
    clear q1 CAH2 CF1 e1 e2 e5 e8 e9
    go_enter Tryd.func13, Tryd.ntmps13
    go_wp2_with (first | ((with_reducible refine hold_list ?_ ?_); (· exact Eq.refl true)) | ((with_reducible refine hold_region ?_ ?_); (· exact Eq.refl true)) | (with_reducible refine hold_loop ?_))
    have k0 : Blk (((w.alloc (.cells #[.int .i64 f0, .int .i64 f1, .int .i64 f2, .int .i64 f3, .int .i64 f4, .int .i64 f5, .int .i64 f6, .int .i64 f7, .slice A sg.length C, .int .i64 f8, .int .i64 f9, .int .i64 f10, .int .i64 f11] 25)).alloc (.cells #[.int .i64 pos, .int .i64 d, .int .i64 mode, .int .i64 left, .bool wtd, .slice A2 rd.length C2] 29)).alloc (.cells #[.int .u64 (x : Int), .int .u64 (y : Int)] 38)) (w.heap.size) 25 #[.int .i64 f0, .int .i64 f1, .int .i64 f2, .int .i64 f3, .int .i64 f4, .int .i64 f5, .int .i64 f6, .int .i64 f7, .slice A sg.length C, .int .i64 f8, .int .i64 f9, .int .i64 f10, .int .i64 f11] := (Blk.alloc (Blk.alloc (blk_at (by simp)) (.cells #[.int .i64 pos, .int .i64 d, .int .i64 mode, .int .i64 left, .bool wtd, .slice A2 rd.length C2] 29)) (.cells #[.int .u64 (x : Int), .int .u64 (y : Int)] 38))
    have k1 : Blk (((w.alloc (.cells #[.int .i64 f0, .int .i64 f1, .int .i64 f2, .int .i64 f3, .int .i64 f4, .int .i64 f5, .int .i64 f6, .int .i64 f7, .slice A sg.length C, .int .i64 f8, .int .i64 f9, .int .i64 f10, .int .i64 f11] 25)).alloc (.cells #[.int .i64 pos, .int .i64 d, .int .i64 mode, .int .i64 left, .bool wtd, .slice A2 rd.length C2] 29)).alloc (.cells #[.int .u64 (x : Int), .int .u64 (y : Int)] 38)) (w.heap.size + 1) 29 #[.int .i64 pos, .int .i64 d, .int .i64 mode, .int .i64 left, .bool wtd, .slice A2 rd.length C2] := (Blk.alloc (blk_at (by simp)) (.cells #[.int .u64 (x : Int), .int .u64 (y : Int)] 38))
    have k2 : Blk (((w.alloc (.cells #[.int .i64 f0, .int .i64 f1, .int .i64 f2, .int .i64 f3, .int .i64 f4, .int .i64 f5, .int .i64 f6, .int .i64 f7, .slice A sg.length C, .int .i64 f8, .int .i64 f9, .int .i64 f10, .int .i64 f11] 25)).alloc (.cells #[.int .i64 pos, .int .i64 d, .int .i64 mode, .int .i64 left, .bool wtd, .slice A2 rd.length C2] 29)).alloc (.cells #[.int .u64 (x : Int), .int .u64 (y : Int)] 38)) (w.heap.size + 2) 38 #[.int .u64 (x : Int), .int .u64 (y : Int)] := (blk_at (by simp))
    have hB : Below w.heap.size w (((w.alloc (.cells #[.int .i64 f0, .int .i64 f1, .int .i64 f2, .int .i64 f3, .int .i64 f4, .int .i64 f5, .int .i64 f6, .int .i64 f7, .slice A sg.length C, .int .i64 f8, .int .i64 f9, .int .i64 f10, .int .i64 f11] 25)).alloc (.cells #[.int .i64 pos, .int .i64 d, .int .i64 mode, .int .i64 left, .bool wtd, .slice A2 rd.length C2] 29)).alloc (.cells #[.int .u64 (x : Int), .int .u64 (y : Int)] 38)) := (bel_at (bel_at (bel_at (Below.refl _ _) (.cells #[.int .i64 f0, .int .i64 f1, .int .i64 f2, .int .i64 f3, .int .i64 f4, .int .i64 f5, .int .i64 f6, .int .i64 f7, .slice A sg.length C, .int .i64 f8, .int .i64 f9, .int .i64 f10, .int .i64 f11] 25)) (.cells #[.int .i64 pos, .int .i64 d, .int .i64 mode, .int .i64 left, .bool wtd, .slice A2 rd.length C2] 29)) (.cells #[.int .u64 (x : Int), .int .u64 (y : Int)] 38))
    generalize (((w.alloc (.cells #[.int .i64 f0, .int .i64 f1, .int .i64 f2, .int .i64 f3, .int .i64 f4, .int .i64 f5, .int .i64 f6, .int .i64 f7, .slice A sg.length C, .int .i64 f8, .int .i64 f9, .int .i64 f10, .int .i64 f11] 25)).alloc (.cells #[.int .i64 pos, .int .i64 d, .int .i64 mode, .int .i64 left, .bool wtd, .slice A2 rd.length C2] 29)).alloc (.cells #[.int .u64 (x : Int), .int .u64 (y : Int)] 38)) = w1 at *
    (try clear k0c k0f k0z); have k0c := fun i => Blk.cell k0 i; have k0f := fun i => Blk.free k0 i; have k0z := Blk.lt k0; (try clear k1c k1f k1z); have k1c := fun i => Blk.cell k1 i; have k1f := fun i => Blk.free k1 i; have k1z := Blk.lt k1; (try clear k2c k2f k2z); have k2c := fun i => Blk.cell k2 i; have k2f := fun i => Blk.free k2 i; have k2z := Blk.lt k2
    unfold Hold
    go_wp2_with (go_at_call 33; refine (CI.out _).mono ?_)
    rintro e w2 ⟨v, rfl, ho, hb⟩
    obtain ⟨A3, C3, rfl, hints⟩ := owns_ints ho
    have HX := Lib.hid hints
    replace k0 := k0.below hb k0.lt
    replace k1 := k1.below hb k1.lt
    replace hB := hB.trans (hb.mono hB.size)
    have HB := Lib.hid hB
    have hz := hB.size
    clear ho hints hb hB k2 k2c k2f k2z CI k0c k0f k0z k1c k1f k1z
    have k0z := k0.lt
    have k1z := k1.lt
    go_wp2_with (with_reducible refine hold_loop ?_)
    unfold Hold
    go_loopw [11, 13] (fun v i wr => ∃ k : Nat, k ≤ L.length ∧ i = .int .i64 k ∧ wr.ownsRow w2.heap.size 3 1 v (PM k).length (intV (PM k)) ∧ Below w2.heap.size w2 wr) (fun _ i _ => L.length - (intOf i).toNat)
    case atStart => exact ⟨0, by omega, rfl, by rw [HPL0.out]; exact World.ownsRow_nil _ _ _ _, Below.refl _ _⟩
    case round =>
      obtain ⟨k, hk, rfl, hown, hbq⟩ := hrel
      by_cases hlt : k < L.length
      · obtain ⟨b, off, rfl, hbl, hce⟩ := HX.out (by omega)
        have hc1 := hce k hlt
        have hb1 := HIT.out k hlt
        have ho2 := HPK.out k hlt
        have hl1 := HPLL.out k hk
        have hl2 := HPLL.out (k + 1) (by omega)
        have k0c : w2.cell? ⟨w.heap.size, 1, none⟩ = some (.int .i64 f1) := k0.cell 1
        have hke : IntKind.i64.wrap (at0 L k * f1) = at0 L k * f1 := IntWalk.i64_in _ (by omega)
        have HP := Lib.hid ho2
        have HL1 := Lib.hid hl1
        have HL2 := Lib.hid hl2
        have hl3 : (PM k).length ≤ 128 := by omega
        have HO2 := Lib.hid hown
        have hbd : Below w2.heap.size w2 wr.drew := hbq.drew
        have HBD := Lib.hid hbd
        have HC := Lib.hid (held_mk hbd)
        have HQ := Lib.hid hbq
        clear hce hown hbq ho2 hl1 hl2 hbd
        generalize at0 L k = a1 at *
        go_wp2_with fail
        go_region_held3 (fun w' => Below w2.heap.size w2 w' ∧ ∀ b o, b < w2.heap.size → w'.cell? ⟨b, o, none⟩ = w2.cell? ⟨b, o, none⟩) (first | exact HC.out | exact held_mk (HBD.out.alloc HBD.out.size _) | exact held_mk hb4) (first | (refine step_append_lies _ rfl _ _ 50 rfl w2.heap.size 3 i0 (.int .i64 0) 1 8 Tryd.underlying50 hi hz0 hz1 hz2 rfl (by decide) _ _ _ rfl (HO2.out.drew.alloc _) ⟨wr.heap.size, 0, none⟩ 1 1 [.int .i64 (a1 * f1)] rfl rfl (cell_one _ _ _) (one_cell _) (by decide) (by unfold maxLen; omega) (by have := HBD.out.size; have := HQ.out.size; omega) (by simp; have := HQ.out.size; omega) _ rfl ?_; intro g cap w4 hown' hgrow _ _; have hb4 : Below w2.heap.size w2 w4 := (HBD.out.alloc HBD.out.size _).grown hgrow (by simp; have := HQ.out.size; omega) (fun k hk => (HO2.out.drew.lt k hk).1); clear hgrow))
        have ho4 : w4.ownsRow w2.heap.size 3 1 (.slice (some ⟨g, 0, none⟩) ((PM k).length + 1) cap) (PM (k + 1)).length (intV (PM (k + 1))) := by
          rw [HP.out, HL2.out, show k + 1 = (PM k).length + 1 by rw [HL1.out]]
          exact hown'
        have HO4 := Lib.hid ho4
        clear ho4 hown' HC
        go_wp2
        go_roundw
        case rel => exact ⟨k + 1, by omega, by go_num, HO4.out, hb4⟩
        case measure => simp [intOf]; omega
      · obtain rfl : k = L.length := by omega
        rw [HALL.out] at hown
        obtain ⟨A4, C4, rfl, hints⟩ := owns_ints hown
        have HY := Lib.hid hints
        have hBr : Below w.heap.size w wr := HB.out.trans (hbq.mono hz)
        replace k0 := k0.below hbq k0.lt
        replace k1 := k1.below hbq k1.lt
        clear hown hints hbq HX HIT HPK HPLL HALL HPL0 HB k0z k1z
        have k0c := fun i => Blk.cell k0 i
        have k0f := fun i => Blk.free k0 i
        have k1c := fun i => Blk.cell k1 i
        have k1f := fun i => Blk.free k1 i
        have hB := hBr
        go_wp2
        go_quiet (fail)
        go_wp2_with (go_at_call 34; refine (CAH.out _ _ _ (HY.out.below (below_drewN (Below.refl _ _) _))).mono ?_)
        rintro e w5 hret
        obtain ⟨A5, C5, rfl, hI5, hb5'⟩ := hret.ints
        have HZ := Lib.hid hI5
        have hb5 : Below wr.heap.size wr w5 := (below_drewN (Below.refl _ _) _).trans hb5'
        have HYZ := Lib.hid (HY.out.below hb5)
        replace hB := hBr.trans (hb5.mono hBr.size)
        replace k0 := k0.below hb5 k0.lt
        replace k1 := k1.below hb5 k1.lt
        clear k0c k0f k1c k1f hret hI5 hb5' hb5 hBr HY
        (try clear k0c k0f k0z); have k0c := fun i => Blk.cell k0 i; have k0f := fun i => Blk.free k0 i; have k0z := Blk.lt k0; (try clear k1c k1f k1z); have k1c := fun i => Blk.cell k1 i; have k1f := fun i => Blk.free k1 i; have k1z := Blk.lt k1
        obtain ⟨b5, off5, rfl, hbl5, hce5⟩ := HZ.out hpos
        have hc0 := hce5 0 hpos
        simp only [Nat.add_zero] at hc0
        have HCE := Lib.hid hce5
        clear hce5
        go_wp2_with (with_reducible refine hold_loop ?_)
        unfold Hold
        go_loopw [18, 19] (fun t i wr => ∃ k : Nat, k ≤ ON.length ∧ i = .int .i64 k ∧ t = .int .i64 (turnN ON pos k) ∧ Below w5.heap.size w5 wr) (fun _ i _ => ON.length - (intOf i).toNat)
        case atStart => exact ⟨0, by omega, rfl, rfl, Below.refl _ _⟩
        case round =>
          obtain ⟨k, hk, rfl, rfl, hbq⟩ := hrel
          have HQ := Lib.hid hbq
          by_cases hlt : k < ON.length
          · have hc1 := (hbq.cell (p := ⟨b5, off5 + k, none⟩) hbl5).trans (HCE.out k hlt)
            have ht : turnN ON pos (k + 1) = if farOf (turnN ON pos k) pos < farOf (at0 ON k) pos then at0 ON k else turnN ON pos k := by
              rw [turnN]
              unfold farOf
              rw [Int.max_comm (pos - turnN ON pos k), Int.max_comm (pos - at0 ON k)]
            have ha := HOP.out k
            have hb := HTB.out k
            have k1r := k1.below hbq k1.lt
            have hp1 : wr.cell? ⟨w.heap.size + 1, 0, none⟩ = some (.int .i64 pos) := k1r.cell 0
            have CFA := Lib.hid (fun w => ref34_far (at0 ON k) pos w (by omega) (by omega))
            have CFB := Lib.hid (fun w => ref34_far (turnN ON pos k) pos w (by omega) (by omega))
            have hrel : ∃ q, q = decide (farOf (turnN ON pos k) pos < farOf (at0 ON k) pos) := ⟨_, rfl⟩
            generalize farOf (turnN ON pos k) pos = fb at *
            generalize farOf (at0 ON k) pos = fa at *
            generalize turnN ON pos k = tv at *
            generalize at0 ON k = av at *
            clear hbq k1r ha hb hrel
            by_cases hq : fb < fa
            · have q7 : decide (fb < fa) = true := decide_eq_true hq
              rw [if_pos hq] at ht
              have HTT := Lib.hid ht
              clear ht hq
              go_wp2
              go_quiet ((first | (go_at_call 35; with_reducible exact q_left (CFA.out _)) | (go_at_call 35; with_reducible exact q_left (CFB.out _))))
              go_wp2
              go_roundw
              case rel => exact ⟨k + 1, by omega, by go_num, by rw [HTT.out], below_drewN HQ.out _⟩
              case measure => simp [intOf]; omega
            · have q7 : decide (fb < fa) = false := decide_eq_false hq
              rw [if_neg hq] at ht
              have HTT := Lib.hid ht
              clear ht hq
              go_wp2
              go_quiet ((first | (go_at_call 35; with_reducible exact q_left (CFA.out _)) | (go_at_call 35; with_reducible exact q_left (CFB.out _))))
              go_wp2
              go_roundw
              case rel => exact ⟨k + 1, by omega, by go_num, by rw [HTT.out], below_drewN HQ.out _⟩
              case measure => simp [intOf]; omega
          · obtain rfl : k = ON.length := by omega
            have hY := Lib.hid (HYZ.out.below hbq)
            replace hB := hB.trans (hbq.mono hB.size)
            replace k0 := k0.below hbq k0.lt
            replace k1 := k1.below hbq k1.lt
            clear hbq HQ HCE hc0 k0c k0f k1c k1f
            (try clear k0c k0f k0z); have k0c := fun i => Blk.cell k0 i; have k0f := fun i => Blk.free k0 i; have k0z := Blk.lt k0; (try clear k1c k1f k1z); have k1c := fun i => Blk.cell k1 i; have k1f := fun i => Blk.free k1 i; have k1z := Blk.lt k1
            generalize turnN ON pos ON.length = T2 at *
            go_wp2_with (first | ((with_reducible refine wpList_here ?_ ?_); (· exact Eq.refl true); first | ((with_reducible refine wpList_grow 4 ?_ ?_); (· exact Eq.refl true))) | ((with_reducible refine wp_region_any_here ?_ ?_); (· exact Eq.refl true); first | ((with_reducible refine wp_region_drawn 99 ?_ ?_ ?_ ?_); (· exact Eq.refl true); (· kernel_rfl); (· kernel_rfl)) | refine wp_region_grow (by kernel_rfl) (by kernel_rfl) ?_)); (try simp only [List.take_succ_cons, List.take_zero, List.drop_succ_cons, List.drop_zero]); (repeat (go_big_quiet_step ((first | (go_at_call 12; with_reducible exact grow_of (CDOOR.out _)) | (go_at_call 35; with_reducible exact grow_same (CF2.out _)) | (go_at_call 35; with_reducible exact grow_same (CF3.out _)) | (go_at_call 36; with_reducible exact grow_same (CBT.out _ _ _ (hY.out.below (Grow.below _)))))))); (first | (refine wpQuiet_nil ?_; intro w' hb; replace hB := Below.trans hB (Below.mono hb (Below.size hB)); replace k0 := Blk.below k0 hb (Blk.lt k0); replace k1 := Blk.below k1 hb (Blk.lt k1); (try clear k0c k0f k0z); have k0c := fun i => Blk.cell k0 i; have k0f := fun i => Blk.free k0 i; have k0z := Blk.lt k0; (try clear k1c k1f k1z); have k1c := fun i => Blk.cell k1 i; have k1f := fun i => Blk.free k1 i; have k1z := Blk.lt k1) | skip)
            all_goals (try (go_wp2_with (first | ((with_reducible refine wpList_here ?_ ?_); (· exact Eq.refl true); first | ((with_reducible refine wpList_grow 4 ?_ ?_); (· exact Eq.refl true))) | ((with_reducible refine wp_region_any_here ?_ ?_); (· exact Eq.refl true); first | ((with_reducible refine wp_region_drawn 99 ?_ ?_ ?_ ?_); (· exact Eq.refl true); (· kernel_rfl); (· kernel_rfl)) | refine wp_region_grow (by kernel_rfl) (by kernel_rfl) ?_)); (try simp only [List.take_succ_cons, List.take_zero, List.drop_succ_cons, List.drop_zero]); (repeat (go_big_quiet_step ((first | (go_at_call 12; with_reducible exact grow_of (CDOOR.out _)) | (go_at_call 35; with_reducible exact grow_same (CF2.out _)) | (go_at_call 35; with_reducible exact grow_same (CF3.out _)) | (go_at_call 36; with_reducible exact grow_same (CBT.out _ _ _ (hY.out.below (Grow.below _)))))))); (first | (refine wpQuiet_nil ?_; intro w' hb; replace hB := Below.trans hB (Below.mono hb (Below.size hB)); replace k0 := Blk.below k0 hb (Blk.lt k0); replace k1 := Blk.below k1 hb (Blk.lt k1); (try clear k0c k0f k0z); have k0c := fun i => Blk.cell k0 i; have k0f := fun i => Blk.free k0 i; have k0z := Blk.lt k0; (try clear k1c k1f k1z); have k1c := fun i => Blk.cell k1 i; have k1f := fun i => Blk.free k1 i; have k1z := Blk.lt k1) | skip)))
            all_goals (try (go_wp2_with (first | ((with_reducible refine wpList_here ?_ ?_); (· exact Eq.refl true); first | ((with_reducible refine wpList_grow 4 ?_ ?_); (· exact Eq.refl true))) | ((with_reducible refine wp_region_any_here ?_ ?_); (· exact Eq.refl true); first | ((with_reducible refine wp_region_drawn 99 ?_ ?_ ?_ ?_); (· exact Eq.refl true); (· kernel_rfl); (· kernel_rfl)) | refine wp_region_grow (by kernel_rfl) (by kernel_rfl) ?_)); (try simp only [List.take_succ_cons, List.take_zero, List.drop_succ_cons, List.drop_zero]); (repeat (go_big_quiet_step ((first | (go_at_call 12; with_reducible exact grow_of (CDOOR.out _)) | (go_at_call 35; with_reducible exact grow_same (CF2.out _)) | (go_at_call 35; with_reducible exact grow_same (CF3.out _)) | (go_at_call 36; with_reducible exact grow_same (CBT.out _ _ _ (hY.out.below (Grow.below _)))))))); (first | (refine wpQuiet_nil ?_; intro w' hb; replace hB := Below.trans hB (Below.mono hb (Below.size hB)); replace k0 := Blk.below k0 hb (Blk.lt k0); replace k1 := Blk.below k1 hb (Blk.lt k1); (try clear k0c k0f k0z); have k0c := fun i => Blk.cell k0 i; have k0f := fun i => Blk.free k0 i; have k0z := Blk.lt k0; (try clear k1c k1f k1z); have k1c := fun i => Blk.cell k1 i; have k1f := fun i => Blk.free k1 i; have k1z := Blk.lt k1) | skip)))
            all_goals (try (go_wp2_with (first | ((with_reducible refine wpList_here ?_ ?_); (· exact Eq.refl true); first | ((with_reducible refine wpList_grow 4 ?_ ?_); (· exact Eq.refl true))) | ((with_reducible refine wp_region_any_here ?_ ?_); (· exact Eq.refl true); first | ((with_reducible refine wp_region_drawn 99 ?_ ?_ ?_ ?_); (· exact Eq.refl true); (· kernel_rfl); (· kernel_rfl)) | refine wp_region_grow (by kernel_rfl) (by kernel_rfl) ?_)); (try simp only [List.take_succ_cons, List.take_zero, List.drop_succ_cons, List.drop_zero]); (repeat (go_big_quiet_step ((first | (go_at_call 12; with_reducible exact grow_of (CDOOR.out _)) | (go_at_call 35; with_reducible exact grow_same (CF2.out _)) | (go_at_call 35; with_reducible exact grow_same (CF3.out _)) | (go_at_call 36; with_reducible exact grow_same (CBT.out _ _ _ (hY.out.below (Grow.below _)))))))); (first | (refine wpQuiet_nil ?_; intro w' hb; replace hB := Below.trans hB (Below.mono hb (Below.size hB)); replace k0 := Blk.below k0 hb (Blk.lt k0); replace k1 := Blk.below k1 hb (Blk.lt k1); (try clear k0c k0f k0z); have k0c := fun i => Blk.cell k0 i; have k0f := fun i => Blk.free k0 i; have k0z := Blk.lt k0; (try clear k1c k1f k1z); have k1c := fun i => Blk.cell k1 i; have k1f := fun i => Blk.free k1 i; have k1z := Blk.lt k1) | skip)))
            go_ret
            exact ⟨rfl, hB⟩
end Go.Proofs.YtejcgagblpkmoaaDoor
