
/-
  Rows of texts, read strictly: csv.Read. Condition: the text is not too long.
-/
import Derived.Test.YtgfhgopfhcakhaaDoorCsvL
import Derived.Test.YtgfhgopfhcakhaaDoorCsvE
import Derived.Deep.AppendLies
set_option linter.unusedVariables false
set_option linter.unusedSimpArgs false
namespace Go.Proofs.YtgfhgopfhcakhaaDoor
open Go Go.Joins Go.ChangeShapes Go.WideShapes Go.ChangeAt Go.RowKit Go.Deep

/-- What is read from here on is what the whole reads. -/
def readI (l : Byt) (a : Nat) (row : List Byt) (out : List (List Byt)) : Prop := a ≤ l.length ∧ ∃ f, l.length - a ≤ f ∧ readS l.length l [] [] = readS f (l.drop a) row out
theorem readI_zero (l : Byt) : readI l 0 [] [] := ⟨Nat.zero_le _, l.length, by omega, by simp⟩
theorem readI_end {l : Byt} {row : List Byt} {out : List (List Byt)} (h : readI l l.length row out) : readS l.length l [] [] = if row.isEmpty = true then some out else none := by
  obtain ⟨_, f, _, h⟩ := h
  rw [h, List.drop_length]
  cases f <;> simp [readS]
theorem readI_open {l : Byt} {a : Nat} {row : List Byt} {out : List (List Byt)} (h : readI l a row out) (ha : a < l.length) : ∃ f, l.length - (a + 1) ≤ f ∧ readS l.length l [] [] = (if (cellS (l.drop a)).2.2 = true then (match l.drop (a + (cellS (l.drop a)).2.1) with
        | [] => none
        | c :: r => if c = 44 then readS f r (row ++ [(cellS (l.drop a)).1]) out else if c = 10 then readS f r [] (out ++ [row ++ [(cellS (l.drop a)).1]]) else none)
      else none) := by
  obtain ⟨_, f, hf, h⟩ := h
  obtain ⟨f, rfl⟩ : ∃ f', f = f' + 1 := ⟨f - 1, by omega⟩
  refine ⟨f, by omega, ?_⟩
  have he : (l.drop a).isEmpty = false := by
    cases e : l.drop a with
    | nil => have := congrArg List.length e; simp at this; omega
    | cons c r => rfl
  rw [h, readS, he]
  simp only [List.drop_drop]
  rfl
theorem readI_bad {l : Byt} {a : Nat} {row : List Byt} {out : List (List Byt)} (h : readI l a row out) (ha : a < l.length) (hq : (cellS (l.drop a)).2.2 = false) : readS l.length l [] [] = none := by
  obtain ⟨f, hf, h⟩ := readI_open h ha
  rw [h, hq]
  rfl
theorem readI_out {l : Byt} {a : Nat} {row : List Byt} {out : List (List Byt)} (h : readI l a row out) (ha : a < l.length) (hq : (cellS (l.drop a)).2.2 = true) (hn : l.length ≤ a + (cellS (l.drop a)).2.1) : readS l.length l [] [] = none := by
  obtain ⟨f, hf, h⟩ := readI_open h ha
  rw [h, if_pos hq, List.drop_of_length_le hn]
theorem readI_no {l : Byt} {a : Nat} {row : List Byt} {out : List (List Byt)} (h : readI l a row out) (ha : a < l.length) (hq : (cellS (l.drop a)).2.2 = true) {c : UInt8} (hc : l[a + (cellS (l.drop a)).2.1]? = some c) (h1 : c ≠ 44) (h2 : c ≠ 10) : readS l.length l [] [] = none := by
  obtain ⟨f, hf, h⟩ := readI_open h ha
  rw [h, if_pos hq, drop_at hc]
  simp [h1, h2]
theorem readI_more {l : Byt} {a : Nat} {row : List Byt} {out : List (List Byt)} (h : readI l a row out) (ha : a < l.length) (hq : (cellS (l.drop a)).2.2 = true) (hc : l[a + (cellS (l.drop a)).2.1]? = some 44) : readI l (a + (cellS (l.drop a)).2.1 + 1) (row ++ [(cellS (l.drop a)).1]) out := by
  obtain ⟨f, hf, h⟩ := readI_open h ha
  refine ⟨by have := (List.getElem?_eq_some_iff.1 hc).1; omega, f, by omega, ?_⟩
  rw [h, if_pos hq, drop_at hc]
  rfl
theorem readI_line {l : Byt} {a : Nat} {row : List Byt} {out : List (List Byt)} (h : readI l a row out) (ha : a < l.length) (hq : (cellS (l.drop a)).2.2 = true) (hc : l[a + (cellS (l.drop a)).2.1]? = some 10) : readI l (a + (cellS (l.drop a)).2.1 + 1) [] (out ++ [row ++ [(cellS (l.drop a)).1]]) := by
  obtain ⟨f, hf, h⟩ := readI_open h ha
  refine ⟨by have := (List.getElem?_eq_some_iff.1 hc).1; omega, f, by omega, ?_⟩
  rw [h, if_pos hq, drop_at hc]
  rfl
theorem info_str1 : (Tryd.prog.info? 9).map (fun i => (i.zero, i.size, i.bytes)) = some (some (.string ⟨#[]⟩), 1, 16) := by kernel_rfl
theorem info_strs : (Tryd.prog.info? 27).map (fun i => (i.zero, i.size, i.bytes)) = some (some (.slice none 0 0), 1, 24) := by kernel_rfl
theorem own_cap {w : World} {base size n C : Nat} {A : Option Addr} {e : TypeId} {xs : List Value} (h : w.ownsRow base e size (.slice A n C) n xs) : n ≤ C := by
  rcases h.2 with ⟨h1, h2⟩ | ⟨g, cap, cur, h1, _, _, h2, _⟩
  · omega
  · injection h1 with _ _ h1; omega
/-- What csv.Read answers. -/
def ReadPost (R : Option (List (List Byt))) (w : World) (e : Ending) (w' : World) : Prop := match R with
  | some out => ∃ A D, e = .returned (.tuple #[.slice A out.length (out.length + D), .int .i64 0]) ∧ TxtRows w' A out ∧ Below w.heap.size w w'
  | none => e = .returned (.tuple #[.slice none 0 0, .int .i64 20]) ∧ Below w.heap.size w w'
set_option maxRecDepth 20000 in
set_option maxHeartbeats 16000000 in
theorem csv_Read (l : Byt) (w : World) (hl : l.length ≤ 100000) : Calls Tryd.prog 14 #[.string (txt l)] w (ReadPost (readS l.length l [] []) w) := by
  obtain ⟨i0, hi, hz0, hz1, hz2⟩ := info_parts info_str1
  obtain ⟨i1, hj, hy0, hy1, hy2⟩ := info_parts info_strs
  have hsz := txt_size l
  have hix : ∀ (k : Nat) (c : UInt8), l[k]? = some c → ∀ w, (Instr.index 9 (.string (txt l)) (.int .i64 (k : Int))).run Tryd.prog w = .ok (.int .u8 (c.toNat : Int)) w := fun k c h w => ix_txt l k k c rfl h .i64 w
  have IX := Lib.hid hix
  have CC := Lib.hid (fun a w ha => csv_cell l a w hl ha)
  have HZ := Lib.hid (readI_zero l)
  have HEND := Lib.hid (fun row out => @readI_end l row out)
  have HBAD := Lib.hid (fun a row out => @readI_bad l a row out)
  have HOUT := Lib.hid (fun a row out => @readI_out l a row out)
  have HNO := Lib.hid (fun a row out => @readI_no l a row out)
  have HMO := Lib.hid (fun a row out => @readI_more l a row out)
  have HLI := Lib.hid (fun a row out => @readI_line l a row out)
  clear hix
  generalize readS l.length l [] [] = R at *
  generalize hs : txt l = s at *
  clear hs
  go_enter Tryd.func14, Tryd.ntmps14
  go_wp2
  go_loopw [4, 5, 6] (fun vo vr i wr => ∃ (a : Nat) (vs : List Value) (out : List (List Byt)) (row : List Byt), a ≤ l.length ∧ vs.length ≤ a ∧ row.length ≤ a ∧ i = .int .i64 (a : Int) ∧ Hid (readI l a row out) ∧ Hid (RowsSt wr w.heap.size vo vr vs out row) ∧ Below w.heap.size w wr) (fun _ _ i _ => l.length - (intOf i).toNat)
  case atStart => exact ⟨0, [], [], [], by omega, by simp, by simp, rfl, HZ, RowsSt.start _ _, Below.refl _ _⟩
  case round =>
    obtain ⟨a, vs, out, row, ha, hvs, hrw, rfl, hrd, hst, hb⟩ := hrel
    by_cases hlt : a < l.length
    · have cC := CC.out a wr hlt
      have hbad := HBAD.out a row out hrd.out hlt
      have hout := HOUT.out a row out hrd.out hlt
      have hno := HNO.out a row out hrd.out hlt
      have hmo := HMO.out a row out hrd.out hlt
      have hli := HLI.out a row out hrd.out hlt
      have hqk : a + (cellS (l.drop a)).2.1 < l.length → ∃ c, l[a + (cellS (l.drop a)).2.1]? = some c := fun h => ⟨_, List.getElem?_eq_getElem h⟩
      unfold CellPost at cC
      generalize cellS (l.drop a) = q at *
      obtain ⟨x, n, ok⟩ := q
      simp only at hbad hout hno hmo hli hqk cC
      generalize hk : a + n = k at *
      have hka : a ≤ k := by omega
      have HB := Lib.hid hb
      have hsw := hb.size
      cases ok
      · have HR := Lib.hid (hbad rfl)
        have CC2 := Lib.hid cC
        clear hbad hout hno hmo hli hqk cC hb hk
        go_wp2_with fail
        refine CC2.out.mono ?_
        rintro e w2 ⟨t, n', rfl, -, hb2⟩
        go_wp2
        go_ret2
        show ReadPost R _ _ _
        rw [HR.out]
        exact ⟨rfl, HB.out.trans (hb2.mono hsw)⟩
      · have CC2 := Lib.hid cC
        by_cases hkl : k < l.length
        · obtain ⟨c, hc⟩ := hqk hkl
          have hci := IX.out k c hc
          rcases b_stop c with ⟨s0, s1, s2, s3, s4⟩ | ⟨s0, hcc⟩
          · have HR := Lib.hid (hno rfl hc (fun e => by subst e; cases s0) (fun e => by subst e; cases s0))
            clear hbad hout hno hmo hli hqk cC hb hk hc s0
            go_wp2_with fail
            refine CC2.out.mono ?_
            rintro e w2 ⟨t, n', rfl, himp, hb2⟩
            obtain ⟨rfl, rfl⟩ := himp (by trivial)
            go_wp2
            go_ret2
            show ReadPost R _ _ _
            rw [HR.out]
            exact ⟨rfl, HB.out.trans (hb2.mono hsw)⟩
          · rcases hcc with rfl | rfl
            · have hci : ∀ w, (Instr.index 9 (.string s) (.int .i64 (k : Int))).run Tryd.prog w = .ok (.int .u8 44) w := hci
              have HN := Lib.hid (hmo rfl hc)
              clear hbad hout hno hmo hli hqk cC hb hk hc s0
              go_wp2_with fail
              refine CC2.out.mono ?_
              rintro e w2 ⟨t, n', rfl, himp, hb2⟩
              obtain ⟨rfl, rfl⟩ := himp (by trivial)
              have hb2' := HB.out.trans (hb2.mono hsw)
              obtain ⟨AA, cap0, rfl⟩ := own_formQ hst.out.row
              have ST := Lib.hid ((hst.out.below hb2).below ((Below.refl w2.heap.size w2).alloc (Nat.le_refl _) (.cells #[.string (txt t)] 9)))
              have HB3 := Lib.hid (hb2'.alloc hb2'.size (.cells #[.string (txt t)] 9))
              have hs2 := hb2'.size
              clear hb2 hb2'
              go_wp2_with (at_builtin; refine wpList_append_lies _ rfl _ _ 27 rfl w.heap.size 9 i0 (.string ⟨#[]⟩) 1 16 Tryd.underlying27 hi hz0 hz1 hz2 rfl (by decide) _ _ _ rfl ST.out.row _ 1 1 [.string (txt t)] rfl rfl ?c1 ?c2 (by decide) ?c3 ?c4 ?c5 (w2.heap.size + 1) ?c6 ?_)
              try (case c1 => exact cell_at (by simp) _ _)
              case c2 => first | (intro u hu; simp at hu; subst hu; rfl) | rfl
              case c3 => unfold maxLen; omega
              case c4 => omega
              case c5 => simp; omega
              try (case c6 => simp)
              intro g cap w4 hown4 hgrow hat hg4
              have hat2 : _ ∨ g = (w2.alloc (.cells #[.string (txt t)] 9)).heap.size := hat.imp id (fun e => by rw [e]; simp)
              have st4 := Lib.hid (ST.out.text hown4 hgrow hat2)
              have hb4 := Lib.hid (HB3.out.grown hgrow (by simp; omega) (fun i hi => (ST.out.row.lt i hi).1))
              clear hgrow hat hat2 hown4
              go_wp2
              go_roundw
              case rel => exact ⟨k + 1, vs, out, row ++ [t], by omega, by omega, by simp; omega, by go_num, HN, st4, hb4.out⟩
              case measure => simp [intOf]; omega
            · have hci : ∀ w, (Instr.index 9 (.string s) (.int .i64 (k : Int))).run Tryd.prog w = .ok (.int .u8 10) w := hci
              have HN := Lib.hid (hli rfl hc)
              clear hbad hout hno hmo hli hqk cC hb hk hc s0
              go_wp2_with fail
              refine CC2.out.mono ?_
              rintro e w2 ⟨t, n', rfl, himp, hb2⟩
              obtain ⟨rfl, rfl⟩ := himp (by trivial)
              have hb2' := HB.out.trans (hb2.mono hsw)
              obtain ⟨AA, cap0, rfl⟩ := own_formQ hst.out.row
              have ST := Lib.hid ((hst.out.below hb2).below ((Below.refl w2.heap.size w2).alloc (Nat.le_refl _) (.cells #[.string (txt t)] 9)))
              have HB3 := Lib.hid (hb2'.alloc hb2'.size (.cells #[.string (txt t)] 9))
              have hs2 := hb2'.size
              clear hb2 hb2'
              go_wp2_with (at_builtin; refine wpList_append_lies _ rfl _ _ 27 rfl w.heap.size 9 i0 (.string ⟨#[]⟩) 1 16 Tryd.underlying27 hi hz0 hz1 hz2 rfl (by decide) _ _ _ rfl ST.out.row _ 1 1 [.string (txt t)] rfl rfl ?c1 ?c2 (by decide) ?c3 ?c4 ?c5 (w2.heap.size + 1) ?c6 ?_)
              try (case c1 => exact cell_at (by simp) _ _)
              case c2 => first | (intro u hu; simp at hu; subst hu; rfl) | rfl
              case c3 => unfold maxLen; omega
              case c4 => omega
              case c5 => simp; omega
              try (case c6 => simp)
              intro g cap w4 hown4 hgrow hat hg4
              have hat2 : _ ∨ g = (w2.alloc (.cells #[.string (txt t)] 9)).heap.size := hat.imp id (fun e => by rw [e]; simp)
              have st4 := Lib.hid (ST.out.text hown4 hgrow hat2)
              have hb4 := Lib.hid (HB3.out.grown hgrow (by simp; omega) (fun i hi => (ST.out.row.lt i hi).1))
              clear hgrow hat hat2 hown4
              have st5 := Lib.hid (st4.out.below ((Below.refl w4.heap.size w4).alloc (Nat.le_refl _) (.cells #[.slice (some ⟨g, 0, none⟩) (row.length + 1) cap] 27)))
              have hb5 := Lib.hid (hb4.out.alloc hb4.out.size (.cells #[.slice (some ⟨g, 0, none⟩) (row.length + 1) cap] 27))
              have hs4 := hb4.out.size
              go_wp2_with (at_builtin; refine wpList_append_lies _ rfl _ _ 22 rfl w.heap.size 27 i1 (.slice none 0 0) 1 24 Tryd.underlying22 hj hy0 hy1 hy2 rfl (by decide) _ _ _ rfl st5.out.rows _ 1 1 [.slice (some ⟨g, 0, none⟩) (row.length + 1) cap] rfl rfl ?c1 ?c2 (by decide) ?c3 ?c4 ?c5 (w4.heap.size + 1) ?c6 ?_)
              try (case c1 => exact cell_at (by simp) _ _)
              case c2 => first | (intro u hu; simp at hu; subst hu; rfl) | rfl
              case c3 => unfold maxLen; omega
              case c4 => omega
              case c5 => simp; omega
              try (case c6 => simp)
              intro g2 cap2 w6 hown6 hgrow hat hg6
              have hat2 : _ ∨ g2 = (w4.alloc (.cells #[.slice (some ⟨g, 0, none⟩) (row.length + 1) cap] 27)).heap.size := hat.imp id (fun e => by rw [e]; simp)
              have st6 := Lib.hid (st5.out.line (by simp) hown6 hgrow hat2)
              have hb6 := Lib.hid (hb5.out.grown hgrow (by simp; omega) (fun i hi => (st5.out.rows.lt i hi).1))
              clear hgrow hat hat2 hown6
              go_wp2
              go_roundw
              case rel => exact ⟨k + 1, _, _, [], by omega, by simp; omega, by simp, by go_num, HN, st6, hb6.out⟩
              case measure => simp [intOf]; omega
        · have HR := Lib.hid (hout rfl (by omega))
          clear hbad hout hno hmo hli hqk cC hb hk
          go_wp2_with fail
          refine CC2.out.mono ?_
          rintro e w2 ⟨t, n', rfl, himp, hb2⟩
          obtain ⟨rfl, rfl⟩ := himp (by trivial)
          go_wp2
          go_ret2
          show ReadPost R _ _ _
          rw [HR.out]
          exact ⟨rfl, HB.out.trans (hb2.mono hsw)⟩
    · obtain rfl : a = l.length := by omega
      have hend := HEND.out row out hrd.out
      obtain ⟨AA, cap, rfl⟩ := own_formQ hst.out.row
      obtain ⟨AB, capB, rfl, hrows⟩ := rowsN_out hst.out.rows hst.out.lies
      have HROW := Lib.hid hrows
      obtain ⟨D, rfl⟩ : ∃ D, capB = out.length + D := ⟨capB - out.length, by have := hst.out.rows; rw [hst.out.lies.1] at this; have := own_cap this; omega⟩
      have HB := Lib.hid hb
      clear hrows hb
      rcases Nat.eq_zero_or_pos row.length with h0 | h0
      · have HR := Lib.hid (show R = some out by rw [hend, if_pos (by rw [List.length_eq_zero_iff.1 h0]; rfl)])
        have e1 : decide ((0 : Int) < (row.length : Int)) = false := decide_eq_false (by omega)
        have e2 : decide (0 < row.length) = false := decide_eq_false (by omega)
        clear hend h0
        go_wp2
        go_ret2
        show ReadPost R _ _ _
        rw [HR.out]
        exact ⟨AB, D, rfl, HROW.out, HB.out⟩
      · have HR := Lib.hid (show R = none by rw [hend, if_neg (by cases row <;> simp_all)])
        clear hend
        go_wp2
        go_ret2
        show ReadPost R _ _ _
        rw [HR.out]
        exact ⟨rfl, HB.out⟩
end Go.Proofs.YtgfhgopfhcakhaaDoor
