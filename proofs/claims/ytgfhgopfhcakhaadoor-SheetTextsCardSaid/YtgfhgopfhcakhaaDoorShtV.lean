
/-
  Trips as a sheet, by the document: hoistwayref57.cell, Text. Condition: there are at most 300 trips, whose numbers fit their kinds.
-/
import Derived.Test.YtgfhgopfhcakhaaDoorShtT
import Derived.Test.YtgfhgopfhcakhaaDoorCsvV
import Derived.Test.YtgfhgopfhcakhaaDoorDecR
import Derived.Test.YtgfhgopfhcakhaaDoorRel
set_option linter.unusedVariables false
set_option linter.unusedSimpArgs false
namespace Go.Proofs.YtgfhgopfhcakhaaDoor
open Go Go.Joins Go.ChangeShapes Go.WideShapes Go.ChangeAt Go.RowKit Go.Deep

theorem ref57_cell (may : Bool) (n : Int) (w : World) (h : I64 n) : Calls Tryd.prog 33 #[.int .i64 n, .bool may] w fun e w' => e = .returned (.string (txt (cellI may n))) ∧ Below w.heap.size w w' := by
  have cO := ref02_Of n w h
  have HO := Lib.hid cO
  clear cO h
  cases may
  · rw [show cellI false n = decI n from by simp [cellI]]
    go_enter Tryd.func33, Tryd.ntmps33
    go_wp2_with fail
    refine HO.out.mono ?_
    rintro e w2 ⟨rfl, hb2⟩
    go_wp2
    go_ret
    exact ⟨rfl, hb2⟩
  · by_cases hn : n = -1
    · subst hn
      rw [show cellI true (-1) = [] from rfl]
      go_enter Tryd.func33, Tryd.ntmps33
      go_wp2
      go_ret
      exact ⟨rfl, Below.refl _ _⟩
    · have hn1 : (n == -1) = false := by simpa using hn
      rw [show cellI true n = decI n from by simp [cellI, hn]]
      go_enter Tryd.func33, Tryd.ntmps33
      go_wp2_with fail
      refine HO.out.mono ?_
      rintro e w2 ⟨rfl, hb2⟩
      go_wp2
      go_ret
      exact ⟨rfl, hb2⟩
-- DEF
/-- What stands of each operation of the region. -/
def relSht (g0 : Nat) (vo : Value) (a0 a1 a2 a3 a4 a5 a6 : Int) (i : Nat) (v : Value) (w : World) : Prop := match i with
  | 0 => v = vo
  | 1 => v = .pointer (some ⟨g0, 0, none⟩)
  | 2 => v = .int .i64 a0
  | 3 => v = .string (txt (cellI false a0))
  | 4 => v = .pointer (some ⟨g0, 1, none⟩)
  | 5 => v = .int .i64 a1
  | 6 => v = .string (txt (cellI false a1))
  | 7 => v = .pointer (some ⟨g0, 2, none⟩)
  | 8 => v = .int .i64 a2
  | 9 => v = .string (txt (cellI false a2))
  | 10 => v = .pointer (some ⟨g0, 3, none⟩)
  | 11 => v = .int .i64 a3
  | 12 => v = .string (txt (cellI false a3))
  | 13 => v = .pointer (some ⟨g0, 4, none⟩)
  | 14 => v = .int .i64 a4
  | 15 => v = .string (txt (cellI true a4))
  | 16 => v = .pointer (some ⟨g0, 5, none⟩)
  | 17 => v = .int .i64 a5
  | 18 => v = .string (txt (cellI true a5))
  | 19 => v = .pointer (some ⟨g0, 6, none⟩)
  | 20 => v = .int .i64 a6
  | 21 => v = .string (txt (cellI true a6))
  | 22 => ∃ A C, v = .slice A 7 C ∧ w.ownsRow g0 9 1 (.slice A 7 C) 7 [.string (txt (cellI false a0)), .string (txt (cellI false a1)), .string (txt (cellI false a2)), .string (txt (cellI false a3)), .string (txt (cellI true a4)), .string (txt (cellI true a5)), .string (txt (cellI true a6))]
  | 23 => ∃ g A C, v = .slice (some ⟨g, 0, none⟩) 1 1 ∧ g0 ≤ g ∧ g < w.heap.size ∧ w.cell? ⟨g, 0, none⟩ = some (.slice A 7 C) ∧ w.ownsRow g0 9 1 (.slice A 7 C) 7 [.string (txt (cellI false a0)), .string (txt (cellI false a1)), .string (txt (cellI false a2)), .string (txt (cellI false a3)), .string (txt (cellI true a4)), .string (txt (cellI true a5)), .string (txt (cellI true a6))]
  | _ => True
theorem relSht_stays (g0 : Nat) (vo : Value) (a0 a1 a2 a3 a4 a5 a6 : Int) : ∀ i v w1 w2, relSht g0 vo a0 a1 a2 a3 a4 a5 a6 i v w1 → Below w1.heap.size w1 w2 → relSht g0 vo a0 a1 a2 a3 a4 a5 a6 i v w2 := by
  intro i v w1 w2 h hb
  unfold relSht at *
  split <;> simp only at h <;> first
    | exact h
    | (obtain ⟨A, C, e, h⟩ := h; exact ⟨A, C, e, ownsRow_below h hb⟩)
    | (obtain ⟨g, A, C, e, hg, hl, hc, h⟩ := h; exact ⟨g, A, C, e, hg, Nat.lt_of_lt_of_le hl hb.size, (hb.cell (p := ⟨g, 0, none⟩) hl).trans hc, ownsRow_below h hb⟩)
-- END DEF
set_option maxRecDepth 20000 in
set_option maxHeartbeats 8000000 in
theorem ref57_Text (A : Option Addr) (C : Nat) (xs : List Trip) (w : World) (hx : Trips w A xs) (hl : xs.length ≤ 300) (hok : ∀ (i : Nat) (t : Trip), xs[i]? = some t → t.ok) :
    Calls Tryd.prog 19 #[.slice A xs.length C] w fun e w' => e = .returned (.string (txt (sheetT xs))) ∧ Below w.heap.size w w' := by
  obtain ⟨i1, hj, hy0, hy1, hy2⟩ := info_parts info_strs
  have HX := Lib.hid hx
  have HOK := Lib.hid hok
  have hro := sheet_ok hl
  have HRO := Lib.hid hro
  have hown : (w.alloc (.cells (headR.map strV).toArray 9)).ownsRow w.heap.size 9 1 (.slice (some ⟨w.heap.size, 0, none⟩) 7 7) headR.length (headR.map strV) := World.ownsRow_lit (base := w.heap.size) w (headR.map strV).toArray 7 (Nat.le_refl _) (by decide) rfl
  have hb : Below w.heap.size w (w.alloc (.cells (headR.map strV).toArray 9)) := (Below.refl w.heap.size w).alloc (Nat.le_refl _) _
  have hs := hb.size
  have hin := Lib.hid (RowsIn.one hs hown)
  have HB := Lib.hid (hb.alloc hs (.cells #[.slice (some ⟨w.heap.size, 0, none⟩) headR.length 7] 27))
  have hz : (w.alloc (.cells (headR.map strV).toArray 9)).heap.size = w.heap.size + 1 := by simp
  rw [hz] at hin
  clear hx hok hro hown hb hs hz
  go_enter Tryd.func19, Tryd.ntmps19
  go_wp2
  go_loopw [3, 4] (fun vo i wr => ∃ (k : Nat) (vs : List Value), k ≤ xs.length ∧ vs.length ≤ k + 1 ∧ i = .int .i64 (k : Int) ∧ Hid (RowsIn wr w.heap.size vo vs (sheetRows (xs.take k))) ∧ Hid (Below w.heap.size w wr)) (fun _ i _ => xs.length - (intOf i).toNat)
  case atStart => exact ⟨0, _, by omega, Nat.le_refl _, val_int (by omega), hin, HB⟩
  case round =>
    obtain ⟨k, vs, hk, hvs, rfl, hst, hb⟩ := hrel
    have hsw := hb.out.size
    obtain ⟨AA, cap0, rfl⟩ := own_formQ hst.out.rows
    by_cases hlt : k < xs.length
    · obtain ⟨b, off, rfl, hbl, hce⟩ := HX.out (by omega)
      obtain ⟨t, ht⟩ := at_some hlt
      have z := fun j u h => (hb.out.cell (p := ⟨b, off + k * 7 + j, none⟩) hbl).trans (hce k t ht j u h)
      have z0 := z 0 _ rfl
      have z1 := z 1 _ rfl
      have z2 := z 2 _ rfl
      have z3 := z 3 _ rfl
      have z4 := z 4 _ rfl
      have z5 := z 5 _ rfl
      have z6 := z 6 _ rfl
      simp only [Nat.add_zero] at z0
      have hne : b ≠ wr.heap.size := by omega
      have HSN := Lib.hid (sheetRows_snoc ht)
      obtain ⟨k0, k1, k2, k3, k4, k5, k6⟩ := HOK.out k t ht
      clear z hce ht
      have hra : rowI t = [cellI false t.id, cellI false t.arrive, cellI false t.from_, cellI false t.dest, cellI true t.car, cellI true t.board, cellI true t.alight] := by simp [rowI, cellI]
      have HRA := Lib.hid hra
      generalize hR : rowI t = R at *
      clear hR hra
      obtain ⟨a0, a1, a2, a3, a4, a5, a6⟩ := t
      simp only [Trip.cells] at *
      have C0 := fun w => ref57_cell false a0 w k0
      have C1 := fun w => ref57_cell false a1 w k1
      have C2 := fun w => ref57_cell false a2 w k2
      have C3 := fun w => ref57_cell false a3 w k3
      have C4 := fun w => ref57_cell true a4 w k4
      have C5 := fun w => ref57_cell true a5 w k5
      have C6 := fun w => ref57_cell true a6 w k6
      have D0 := Lib.hid C0
      have D1 := Lib.hid C1
      have D2 := Lib.hid C2
      have D3 := Lib.hid C3
      have D4 := Lib.hid C4
      have D5 := Lib.hid C5
      have D6 := Lib.hid C6
      clear C0 C1 C2 C3 C4 C5 C6 k0 k1 k2 k3 k4 k5 k6
      go_wp2
      obtain ⟨hBx, hcx, hzx⟩ := box wr 43 #[.int .i64 a0, .int .i64 a1, .int .i64 a2, .int .i64 a3, .int .i64 a4, .int .i64 a5, .int .i64 a6]
      change Code.wp _ _ _ _ (wr.alloc (.cells #[.int .i64 a0, .int .i64 a1, .int .i64 a2, .int .i64 a3, .int .i64 a4, .int .i64 a5, .int .i64 a6] 43))
      generalize (wr.alloc (.cells #[.int .i64 a0, .int .i64 a1, .int .i64 a2, .int .i64 a3, .int .i64 a4, .int .i64 a5, .int .i64 a6] 43)) = wx at *
      have hlx : wr.heap.size < wx.heap.size := by omega
      -- GEN
      refine wp_region_rel 24 [18, 19, 20, 21, 22, 23, 24, 25, 26, 27, 28, 29, 30, 31, 32, 33, 34, 35, 36, 37, 38, 39, 40, 41] (relSht wr.heap.size (.slice AA vs.length cap0) a0 a1 a2 a3 a4 a5 a6) (by kernel_rfl) (by kernel_rfl) (by kernel_rfl) (relSht_stays _ _ _ _ _ _ _ _ _) ?_ ?_
      · refine ⟨?_, ?_, ?_, ?_, ?_, ?_, ?_, ?_, ?_, ?_, ?_, ?_, ?_, ?_, ?_, ?_, ?_, ?_, ?_, ?_, ?_, ?_, ?_, ?_, trivial⟩
        all_goals
          intro f w6 hb6 hl2
          simp [leans, Region.binds, relSht] at hl2
          have hs6 : wr.heap.size ≤ w6.heap.size := Nat.le_trans hBx.size hb6.size
          have hc6 : ∀ i, w6.cell? ⟨wr.heap.size, i, none⟩ = #[.int .i64 a0, .int .i64 a1, .int .i64 a2, .int .i64 a3, .int .i64 a4, .int .i64 a5, .int .i64 a6][i]? := fun i => (hb6.cell (p := ⟨wr.heap.size, i, none⟩) hlx).trans (hcx i)
          simp [gop, Region.wanted, grows, frm]
        · simp [execOp, go_sem, *, growsUpon]
          exact ⟨Below.refl _ _, rfl⟩
        · simp [execOp, go_sem, *, growsUpon]
          exact ⟨Below.refl _ _, rfl⟩
        · simp [execOp, go_sem, *, growsUpon]
          exact ⟨Below.refl _ _, rfl⟩
        · simp [execOp, go_sem, *, growsUpon]
          exact ⟨Below.refl _ _, (D0.out _).mono fun e w3 h => ⟨_, h.1, h.2, rfl⟩⟩
        · simp [execOp, go_sem, *, growsUpon]
          exact ⟨Below.refl _ _, rfl⟩
        · simp [execOp, go_sem, *, growsUpon]
          exact ⟨Below.refl _ _, rfl⟩
        · simp [execOp, go_sem, *, growsUpon]
          exact ⟨Below.refl _ _, (D1.out _).mono fun e w3 h => ⟨_, h.1, h.2, rfl⟩⟩
        · simp [execOp, go_sem, *, growsUpon]
          exact ⟨Below.refl _ _, rfl⟩
        · simp [execOp, go_sem, *, growsUpon]
          exact ⟨Below.refl _ _, rfl⟩
        · simp [execOp, go_sem, *, growsUpon]
          exact ⟨Below.refl _ _, (D2.out _).mono fun e w3 h => ⟨_, h.1, h.2, rfl⟩⟩
        · simp [execOp, go_sem, *, growsUpon]
          exact ⟨Below.refl _ _, rfl⟩
        · simp [execOp, go_sem, *, growsUpon]
          exact ⟨Below.refl _ _, rfl⟩
        · simp [execOp, go_sem, *, growsUpon]
          exact ⟨Below.refl _ _, (D3.out _).mono fun e w3 h => ⟨_, h.1, h.2, rfl⟩⟩
        · simp [execOp, go_sem, *, growsUpon]
          exact ⟨Below.refl _ _, rfl⟩
        · simp [execOp, go_sem, *, growsUpon]
          exact ⟨Below.refl _ _, rfl⟩
        · simp [execOp, go_sem, *, growsUpon]
          exact ⟨Below.refl _ _, (D4.out _).mono fun e w3 h => ⟨_, h.1, h.2, rfl⟩⟩
        · simp [execOp, go_sem, *, growsUpon]
          exact ⟨Below.refl _ _, rfl⟩
        · simp [execOp, go_sem, *, growsUpon]
          exact ⟨Below.refl _ _, rfl⟩
        · simp [execOp, go_sem, *, growsUpon]
          exact ⟨Below.refl _ _, (D5.out _).mono fun e w3 h => ⟨_, h.1, h.2, rfl⟩⟩
        · simp [execOp, go_sem, *, growsUpon]
          exact ⟨Below.refl _ _, rfl⟩
        · simp [execOp, go_sem, *, growsUpon]
          exact ⟨Below.refl _ _, rfl⟩
        · simp [execOp, go_sem, *, growsUpon]
          exact ⟨Below.refl _ _, (D6.out _).mono fun e w3 h => ⟨_, h.1, h.2, rfl⟩⟩
        · simp [execOp, go_sem, *, growsUpon]
          exact ⟨below_alloc1 _ _, _, _, rfl, World.ownsRow_lit (base := wr.heap.size) (e := 9) (size := 1) w6 #[.string (txt (cellI false a0)), .string (txt (cellI false a1)), .string (txt (cellI false a2)), .string (txt (cellI false a3)), .string (txt (cellI true a4)), .string (txt (cellI true a5)), .string (txt (cellI true a6))] 7 hs6 (by decide) rfl⟩
        · obtain ⟨A5, C5, e5, ho5⟩ := hl2
          simp [execOp, go_sem, *, growsUpon]
          exact ⟨below_alloc1 _ _, w6.heap.size, A5, C5, rfl, hs6, by simp, (Blk.new _ _ _).cell 0, ownsRow_below ho5 (below_alloc1 _ _)⟩
      intro f w6 hb6 hl2
      simp [allRel, relSht] at hl2
      obtain ⟨⟨⟨⟨⟨⟨⟨⟨⟨⟨⟨⟨⟨⟨⟨⟨⟨⟨⟨⟨⟨⟨⟨e0, e1⟩, e2⟩, e3⟩, e4⟩, e5⟩, e6⟩, e7⟩, e8⟩, e9⟩, e10⟩, e11⟩, e12⟩, e13⟩, e14⟩, e15⟩, e16⟩, e17⟩, e18⟩, e19⟩, e20⟩, e21⟩, A6, C6, e22, ho6⟩, g5, e23, hg5, hl5, A5, C5, hc5, ho5⟩ := hl2
      simp [frm, e0, e1, e2, e3, e4, e5, e6, e7, e8, e9, e10, e11, e12, e13, e14, e15, e16, e17, e18, e19, e20, e21, e22, e23]
      clear e0 e1 e2 e3 e4 e5 e6 e7 e8 e9 e10 e11 e12 e13 e14 e15 e16 e17 e18 e19 e20 e21 e22 e23 ho6 D0 D1 D2 D3 D4 D5 D6
      have hb6' : Below wr.heap.size wr w6 := hBx.trans (hb6.mono hBx.size)
      have hs6 := hb6'.size
      have ST := Lib.hid (hst.out.below hb6')
      have HB3 := Lib.hid (hb.out.trans (hb6'.mono hsw))
      have HB3' := Lib.hid hb6'
      have HRW := Lib.hid ho5
      clear hb6 hb6' hBx hcx ho5
      refine wpList_append_lies _ rfl _ _ 22 rfl w.heap.size 27 i1 (.slice none 0 0) 1 24 Tryd.underlying22 hj hy0 hy1 hy2 rfl (by decide) (.slice AA vs.length cap0) _ _ rfl ST.out.rows _ 1 1 [.slice A5 7 C5] rfl rfl ?c1 ?c2 (by decide) ?c3 ?c4 ?c5 w6.heap.size ?c6 ?_
      case c1 =>
        intro j u hu
        match j, hu with
        | 0, hu =>
          simp at hu
          subst hu
          simpa [Addr.add] using hc5
      case c2 => intro u hu; simp at hu; subst hu; rfl
      case c3 => unfold maxLen; omega
      case c4 => omega
      case c5 => omega
      case c6 => rfl
      obtain rfl := HRA.out
      intro g2 cap2 w9 hown9 hgrow hat hg9
      have st9 := Lib.hid (hst.out.put (row := [cellI false a0, cellI false a1, cellI false a2, cellI false a3, cellI true a4, cellI true a5, cellI true a6]) HB3'.out HRW.out hown9 hgrow hat)
      have hb9 := Lib.hid (HB3.out.grown hgrow (by omega) (fun i hi => (ST.out.rows.lt i hi).1))
      clear hgrow hat hown9 HRA hc5 HRW ST HB3' HB3
      go_wp2
      go_roundw
      case rel => exact ⟨k + 1, vs ++ [.slice A5 7 C5], by omega, by rw [List.length_append, List.length_singleton]; omega, by go_num, by rw [HSN.out]; exact st9, hb9⟩
      case measure => simp [intOf]; omega
      -- END GEN
    · obtain rfl : k = xs.length := by omega
      obtain ⟨AB, capB, e, hrows⟩ := rowsN_out hst.out.rows hst.out.lies
      rw [List.take_length] at hrows e
      injection e with e1 e2 e3
      subst e1 e3
      rw [e2]
      have cT := Lib.hid (ref53_Text AA cap0 (sheetRows xs) wr hrows HRO.out)
      clear hrows hst
      go_wp2_with fail
      refine cT.out.mono ?_
      rintro e w2 ⟨rfl, hb2⟩
      go_wp2
      go_ret
      exact ⟨rfl, hb.out.trans (hb2.mono hsw)⟩
end Go.Proofs.YtgfhgopfhcakhaaDoor
