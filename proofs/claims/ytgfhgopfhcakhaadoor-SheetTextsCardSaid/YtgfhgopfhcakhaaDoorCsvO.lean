
/-
  Rows of texts, read loosely: hoistwayref53.Read. Condition: the text is at most 2000 bytes.
-/
import Derived.Test.YtgfhgopfhcakhaaDoorCsvN
set_option linter.unusedVariables false
set_option linter.unusedSimpArgs false
namespace Go.Proofs.YtgfhgopfhcakhaaDoor
open Go Go.Joins Go.ChangeShapes Go.WideShapes Go.ChangeAt Go.RowKit Go.Deep

/-- What the document's Read answers. -/
def LoosePost (l : Byt) (w : World) (e : Ending) (w' : World) : Prop :=
  if rowsT (looseS l [] [] [] false) = l then ∃ A C, e = .returned (.tuple #[.slice A (looseS l [] [] [] false).length C, .bool true]) ∧ TxtRows w' A (looseS l [] [] [] false) ∧ Below w.heap.size w w'
  else e = .returned (.tuple #[.slice none 0 0, .bool false]) ∧ Below w.heap.size w w'
set_option maxRecDepth 20000 in
set_option maxHeartbeats 16000000 in
theorem ref53_Read (l : Byt) (w : World) (hl : l.length ≤ 2000) : Calls Tryd.prog 16 #[.string (txt l)] w (LoosePost l w) := by
  obtain ⟨i0, hi, hz0, hz1, hz2⟩ := info_parts info_str1
  obtain ⟨i1, hj, hy0, hy1, hy2⟩ := info_parts info_strs
  have hsz := txt_size l
  have hix : ∀ (k : Nat) (c : UInt8), l[k]? = some c → ∀ w, (Instr.index 9 (.string (txt l)) (.int .i64 (k : Int))).run Tryd.prog w = .ok (.int .u8 (c.toNat : Int)) w := fun k c h w => ix_txt l k k c rfl h .i64 w
  have hix2 : ∀ (k : Nat) (c : UInt8), l[k + 1]? = some c → ∀ w, (Instr.index 9 (.string (txt l)) (.int .i64 ((k : Int) + 1))).run Tryd.prog w = .ok (.int .u8 (c.toNat : Int)) w := fun k c h w => ix_txt l _ (k + 1) c (by omega) h .i64 w
  have hct : ∀ (k : Nat) (c : UInt8), l[k]? = some c → ∀ w, (Instr.slice 9 (.string (txt l)) (some (.int .i64 (k : Int))) (some (.int .i64 ((k : Int) + 1))) none).run Tryd.prog w = .ok (.string (txt [c])) w := fun k c h w => by
    rw [cut_txt l k (k + 1) k (k + 1) rfl (by omega) (by omega) (List.getElem?_eq_some_iff.1 h).1 w, at_cut h]
  have IX := Lib.hid hix
  have IX2 := Lib.hid hix2
  have CT := Lib.hid hct
  have HZ := Lib.hid (looI_zero l)
  clear hix hix2 hct
  go_enter Tryd.func16, Tryd.ntmps16
  go_wp2
  go_loopw [4, 5, 6, 7, 8] (fun vo vr wd inn i wr => ∃ (a : Nat) (vs : List Value) (out : List (List Byt)) (row : List Byt) (word : Byt) (b : Bool), a ≤ l.length ∧ vs.length ≤ a ∧ row.length ≤ a ∧ i = .int .i64 (a : Int) ∧ wd = .string (txt word) ∧ inn = .bool b ∧ Hid (looI l a out row word b) ∧ Hid (RowsSt wr w.heap.size vo vr vs out row) ∧ Below w.heap.size w wr) (fun _ _ _ _ i _ => l.length - (intOf i).toNat)
  case atStart => exact ⟨0, [], [], [], [], false, by omega, by simp, by simp, rfl, rfl, rfl, HZ, RowsSt.start _ _, Below.refl _ _⟩
  case round =>
    obtain ⟨a, vs, out, row, word, b, ha, hvs, hrw, rfl, rfl, rfl, hlo, hst, hb⟩ := hrel
    by_cases hlt : a < l.length
    · obtain ⟨c, hc⟩ : ∃ c, l[a]? = some c := ⟨_, List.getElem?_eq_getElem hlt⟩
      have hci0 := IX.out a c hc
      have hwl : word.length ≤ a := by have := hlo.out.2; omega
      have hc2 := hc
      by_cases c34 : c = 34
      · subst c34
        have hci : ∀ w, (Instr.index 9 (.string (txt l)) (.int .i64 (a : Int))).run Tryd.prog w = .ok (.int .u8 34) w := hci0
        cases b
        · have HL := Lib.hid (looI_mark hlo.out hc (fun h => by cases h))
          clear hc hc2 hci0 hwl
          go_wp2
          go_roundw
          case rel => exact ⟨a + 1, vs, out, row, word, true, by omega, by omega, by omega, by go_num, rfl, rfl, HL, hst, hb⟩
          case measure => simp [intOf]; omega
        · by_cases hk1 : a + 1 < l.length
          · obtain ⟨d, hd⟩ : ∃ d, l[a + 1]? = some d := ⟨_, List.getElem?_eq_getElem hk1⟩
            have hdi0 := IX2.out a d hd
            by_cases d34 : d = 34
            · subst d34
              have hdi : ∀ w, (Instr.index 9 (.string (txt l)) (.int .i64 ((a : Int) + 1))).run Tryd.prog w = .ok (.int .u8 34) w := hdi0
              have HL := Lib.hid (looI_two hlo.out hc hd)
              have hnt : txt word ++ (⟨#[34]⟩ : ByteArray) = txt (word ++ [34]) := by rw [show (⟨#[34]⟩ : ByteArray) = txt [34] from rfl, txt_append]
              have HN := Lib.hid hnt
              have hs1 : (txt word).size ≤ 2000 := by rw [txt_size]; omega
              clear hc hc2 hci0 hwl hnt hd hdi0
              generalize txt word = t1 at *
              go_wp2
              go_roundw
              case rel => exact ⟨a + 2, vs, out, row, word ++ [34], true, by omega, by omega, by omega, by go_num, by rw [← HN.out], rfl, HL, hst, hb⟩
              case measure => simp [intOf]; omega
            · have e2 : ((d.toNat : Int) == 34) = false := by have := u8_neC (n := 34) d34 (by omega); exact beq_eq_false_iff_ne.2 (by omega)
              have HL := Lib.hid (looI_mark hlo.out hc (fun _ d' h => by rw [hd] at h; injection h with h; subst h; exact d34))
              clear hd d34 hc hc2 hci0 hwl
              go_wp2
              go_roundw
              case rel => exact ⟨a + 1, vs, out, row, word, false, by omega, by omega, by omega, by go_num, rfl, rfl, HL, hst, hb⟩
              case measure => simp [intOf]; omega
          · have HL := Lib.hid (looI_mark hlo.out hc (fun _ d' h => by have := (List.getElem?_eq_some_iff.1 h).1; omega))
            clear hc hc2 hci0 hwl
            go_wp2
            go_roundw
            case rel => exact ⟨a + 1, vs, out, row, word, false, by omega, by omega, by omega, by go_num, rfl, rfl, HL, hst, hb⟩
            case measure => simp [intOf]; omega
      · have e34 : ((c.toNat : Int) == 34) = false := by have := u8_neC (n := 34) c34 (by omega); exact beq_eq_false_iff_ne.2 (by omega)
        cases b
        · rcases b_stop c with ⟨s0, s1, s2, s3, s4⟩ | ⟨s0, hcc⟩
          · have HL := Lib.hid (looI_byte hlo.out hc c34 (fun _ => ⟨(fun e => by subst e; cases s0), (fun e => by subst e; cases s0)⟩))
            have hcut := CT.out a c hc
            have hnt : txt word ++ txt [c] = txt (word ++ [c]) := by rw [txt_append]
            have HN := Lib.hid hnt
            have hs1 : (txt word).size ≤ 2000 := by rw [txt_size]; omega
            have hs3 : (txt [c]).size = 1 := rfl
            clear s0 c34 hc hc2 hwl hnt
            generalize txt word = t1 at *
            generalize txt [c] = t2 at *
            go_wp2
            go_roundw
            case rel => exact ⟨a + 1, vs, out, row, word ++ [c], false, by omega, by omega, by omega, by go_num, by rw [← HN.out], rfl, HL, hst, hb⟩
            case measure => simp [intOf]; omega
          · rcases hcc with rfl | rfl
            · have hci : ∀ w, (Instr.index 9 (.string (txt l)) (.int .i64 (a : Int))).run Tryd.prog w = .ok (.int .u8 44) w := hci0
              have HL := Lib.hid (looI_comma hlo.out hc)
              obtain ⟨AA, cap0, rfl⟩ := own_formQ hst.out.row
              have ST := Lib.hid (hst.out.below ((Below.refl wr.heap.size wr).alloc (Nat.le_refl _) (.cells #[.string (txt word)] 9)))
              have HB3 := Lib.hid (hb.alloc hb.size (.cells #[.string (txt word)] 9))
              have hs2 := hb.size
              clear hb hst hc hc2 hci0 hwl e34 c34 s0
              go_wp2_with (at_builtin; refine wpList_append_lies _ rfl _ _ 27 rfl w.heap.size 9 i0 (.string ⟨#[]⟩) 1 16 Tryd.underlying27 hi hz0 hz1 hz2 rfl (by decide) _ _ _ rfl ST.out.row _ 1 1 [.string (txt word)] rfl rfl ?c1 ?c2 (by decide) ?c3 ?c4 ?c5 (wr.heap.size + 1) ?c6 ?_)
              try (case c1 => exact cell_at (by simp) _ _)
              case c2 => first | (intro u hu; simp at hu; subst hu; rfl) | rfl
              case c3 => unfold maxLen; omega
              case c4 => omega
              case c5 => simp; omega
              try (case c6 => simp)
              intro g cap w4 hown4 hgrow hat hg4
              have hat2 : _ ∨ g = (wr.alloc (.cells #[.string (txt word)] 9)).heap.size := hat.imp id (fun e => by rw [e]; simp)
              have st4 := Lib.hid (ST.out.text hown4 hgrow hat2)
              have hb4 := Lib.hid (HB3.out.grown hgrow (by simp; omega) (fun i hi => (ST.out.row.lt i hi).1))
              clear hgrow hat hat2 hown4
              go_wp2
              go_roundw
              case rel => exact ⟨a + 1, vs, out, row ++ [word], [], false, by omega, by omega, by simp; omega, by go_num, rfl, rfl, HL, st4, hb4.out⟩
              case measure => simp [intOf]; omega
            · have hci : ∀ w, (Instr.index 9 (.string (txt l)) (.int .i64 (a : Int))).run Tryd.prog w = .ok (.int .u8 10) w := hci0
              have HL := Lib.hid (looI_line hlo.out hc)
              obtain ⟨AA, cap0, rfl⟩ := own_formQ hst.out.row
              have ST := Lib.hid (hst.out.below ((Below.refl wr.heap.size wr).alloc (Nat.le_refl _) (.cells #[.string (txt word)] 9)))
              have HB3 := Lib.hid (hb.alloc hb.size (.cells #[.string (txt word)] 9))
              have hs2 := hb.size
              clear hb hst hc hc2 hci0 hwl e34 c34 s0
              go_wp2_with (at_builtin; refine wpList_append_lies _ rfl _ _ 27 rfl w.heap.size 9 i0 (.string ⟨#[]⟩) 1 16 Tryd.underlying27 hi hz0 hz1 hz2 rfl (by decide) _ _ _ rfl ST.out.row _ 1 1 [.string (txt word)] rfl rfl ?c1 ?c2 (by decide) ?c3 ?c4 ?c5 (wr.heap.size + 1) ?c6 ?_)
              try (case c1 => exact cell_at (by simp) _ _)
              case c2 => first | (intro u hu; simp at hu; subst hu; rfl) | rfl
              case c3 => unfold maxLen; omega
              case c4 => omega
              case c5 => simp; omega
              try (case c6 => simp)
              intro g cap w4 hown4 hgrow hat hg4
              have hat2 : _ ∨ g = (wr.alloc (.cells #[.string (txt word)] 9)).heap.size := hat.imp id (fun e => by rw [e]; simp)
              have st4 := Lib.hid (ST.out.text hown4 hgrow hat2)
              have hb4 := Lib.hid (HB3.out.grown hgrow (by simp; omega) (fun i hi => (ST.out.row.lt i hi).1))
              clear hgrow hat hat2 hown4
              have st5 := Lib.hid (st4.out.below ((Below.refl w4.heap.size w4).alloc (Nat.le_refl _) (.cells #[.slice (some ⟨g, 0, none⟩) (row.length + 1) cap] 27)))
              have hb5 := Lib.hid (hb4.out.alloc hb4.out.size (.cells #[.slice (some ⟨g, 0, none⟩) (row.length + 1) cap] 27))
              have hs4 := hb4.out.size
              go_wp2_with (at_builtin; refine wpList_append_lies _ rfl _ _ 22 rfl w.heap.size 27 i1 (.slice none 0 0) 1 24 Tryd.underlying22 hj hy0 hy1 hy2 rfl (by decide) _ _ _ rfl st5.out.rows _ 1 1 [.slice (some ⟨g, 0, none⟩) (row.length + 1) cap] rfl rfl ?c1 ?c2 (by decide) ?c3 ?c4 ?c5 (w4.heap.size + 1) ?c6 ?_)
              try (case c1 => exact cell_at (by simp) _ _)
              case c2 => first | (intro u hu; simp at hu; subst hu; rfl) | rfl
              case c3 => unfold maxLen; omega
              case c4 => omega
              case c5 => simp; omega
              try (case c6 => simp)
              intro g2 cap2 w6 hown6 hgrow hat hg6
              have hat2 : _ ∨ g2 = (w4.alloc (.cells #[.slice (some ⟨g, 0, none⟩) (row.length + 1) cap] 27)).heap.size := hat.imp id (fun e => by rw [e]; simp)
              have st6 := Lib.hid (st5.out.line (by simp) hown6 hgrow hat2)
              have hb6 := Lib.hid (hb5.out.grown hgrow (by simp; omega) (fun i hi => (st5.out.rows.lt i hi).1))
              clear hgrow hat hat2 hown6
              go_wp2
              go_roundw
              case rel => exact ⟨a + 1, _, _, [], [], false, by omega, by simp; omega, by simp, by go_num, rfl, rfl, HL, st6, hb6.out⟩
              case measure => simp [intOf]; omega
        · have HL := Lib.hid (looI_byte hlo.out hc c34 (fun h => by cases h))
          have hcut := CT.out a c hc
          have hnt : txt word ++ txt [c] = txt (word ++ [c]) := by rw [txt_append]
          have HN := Lib.hid hnt
          have hs1 : (txt word).size ≤ 2000 := by rw [txt_size]; omega
          have hs3 : (txt [c]).size = 1 := rfl
          clear c34 hc hc2 hwl hnt
          generalize txt word = t1 at *
          generalize txt [c] = t2 at *
          go_wp2
          go_roundw
          case rel => exact ⟨a + 1, vs, out, row, word ++ [c], true, by omega, by omega, by omega, by go_num, by rw [← HN.out], rfl, HL, hst, hb⟩
          case measure => simp [intOf]; omega
    · obtain rfl : a = l.length := by omega
      have hend := looI_end hlo.out
      have hok := rowsOk_sz (r := out) (by have := hlo.out.2; omega)
      obtain ⟨AB, capB, rfl, hrows⟩ := rowsN_out hst.out.rows hst.out.lies
      have cT := ref53_Text AB capB out wr hrows hok
      have CT2 := Lib.hid cT
      have HROW := Lib.hid hrows
      have HB := Lib.hid hb
      have HEND := Lib.hid hend
      have hsw := hb.size
      clear hrows hb cT hend hok
      have q0 := eq_txt (rowsT out) l
      by_cases e : rowsT out = l
      · have q1 : ((txt (rowsT out)).toList == (txt l).toList) = true := by rw [q0]; simpa using e
        have q2 : ((txt (rowsT out)).toList != (txt l).toList) = false := by simp only [bne, q1]; rfl
        have E := Lib.hid e
        clear q0 e
        generalize hs2 : txt (rowsT out) = s2 at *
        clear hs2
        go_wp2_with fail
        refine CT2.out.mono ?_
        rintro e w2 ⟨rfl, hb2⟩
        go_wp2
        go_ret2
        unfold LoosePost
        rw [HEND.out, if_pos E.out]
        exact ⟨AB, capB, rfl, HROW.out.below hb2, HB.out.trans (hb2.mono hsw)⟩
      · have q1 : ((txt (rowsT out)).toList == (txt l).toList) = false := by rw [q0]; simpa using e
        have q2 : ((txt (rowsT out)).toList != (txt l).toList) = true := by simp only [bne, q1]; rfl
        have E := Lib.hid e
        clear q0 e
        generalize hs2 : txt (rowsT out) = s2 at *
        clear hs2
        go_wp2_with fail
        refine CT2.out.mono ?_
        rintro e w2 ⟨rfl, hb2⟩
        go_wp2
        go_ret2
        unfold LoosePost
        rw [HEND.out, if_neg E.out]
        exact ⟨rfl, HB.out.trans (hb2.mono hsw)⟩
end Go.Proofs.YtgfhgopfhcakhaaDoor
