
/-
  A text as trips, by the document: hoistwayref57.Read. Condition: the text is at most 2000 bytes.
-/
import Derived.Test.YtgfhgopfhcakhaaDoorShtV
import Derived.Test.YtgfhgopfhcakhaaDoorShtD
import Derived.Test.YtgfhgopfhcakhaaDoorCsvK
import Derived.Test.YtgfhgopfhcakhaaDoorRead2F
set_option linter.unusedVariables false
set_option linter.unusedSimpArgs false
namespace Go.Proofs.YtgfhgopfhcakhaaDoor
open Go Go.Joins Go.ChangeShapes Go.WideShapes Go.ChangeAt Go.RowKit Go.Deep

/-- What hoistwayref57.Read answers. -/
def RefPost (R : Option (List Trip)) (w : World) (e : Ending) (w' : World) : Prop := match R with
  | some out => ∃ A C, e = .returned (.tuple #[.slice A out.length C, .bool true]) ∧ Trips w' A out ∧ Below w.heap.size w w'
  | none => e = .returned (.tuple #[.slice none 0 0, .bool false]) ∧ Below w.heap.size w w'
theorem cells_7 (rs : List (List Byt)) (h : ∀ r ∈ rs, r.length = 7) : cellsN rs = 7 * rs.length := by
  induction rs with
  | nil => rfl
  | cons r rs ih =>
    have h1 := h r (List.mem_cons_self ..)
    have h2 := ih (fun r hr => h r (List.mem_cons_of_mem _ hr))
    simp only [cellsN, List.length_cons]
    omega
theorem tail_few {l : Byt} {R : List (List Byt)} (hl : l.length ≤ 2000) (hR : rowsT R = l) (hne : ∀ r ∈ R, r ≠ []) (h : ∀ r ∈ R.tail, r.length = 7) : R.tail.length ≤ 300 := by
  have h1 := cells_le R hne
  rw [hR] at h1
  cases R with
  | nil => simp
  | cons hd tl =>
    have h2 := cells_7 tl h
    simp only [cellsN] at h1
    show tl.length ≤ 300
    omega
theorem refS_no {l : Byt} {R : List (List Byt)} (hR : looseS l [] [] [] false = R) (h : ¬ (rowsT R = l ∧ (∀ r ∈ R.tail, r.length = 7) ∧ sheetT (R.tail.map tripL) = l)) : refS l = none := by
  unfold refS
  rw [hR]
  exact if_neg h
theorem refS_yes {l : Byt} {R : List (List Byt)} (hR : looseS l [] [] [] false = R) (h1 : rowsT R = l) (h2 : ∀ r ∈ R.tail, r.length = 7) (h3 : sheetT (R.tail.map tripL) = l) : refS l = some (R.tail.map tripL) := by
  unfold refS
  rw [hR]
  exact if_pos ⟨h1, h2, h3⟩
theorem arr_twice (a : Array Value) (k : Nat) (u v : Value) : (a.setIfInBounds k u).setIfInBounds k v = a.setIfInBounds k v := by
  apply Array.ext_getElem?
  intro i
  simp only [Array.getElem?_setIfInBounds, Array.size_setIfInBounds]
  split <;> rfl
set_option maxRecDepth 20000 in
set_option maxHeartbeats 16000000 in
theorem ref57_Read (l : Byt) (w : World) (hl : l.length ≤ 2000) : Calls Tryd.prog 22 #[.string (txt l)] w (RefPost (refS l) w) := by
  obtain ⟨i0, hi, hz0, hz1, hz2⟩ := info_parts info_trip
  have cR := ref53_Read l w hl
  have hne := loose_ne l [] [] [] false (by simp)
  have hno := fun R h => @refS_no l R h
  have hyes := fun R h => @refS_yes l R h
  have hrok := fun h => loose_ok hl h
  unfold LoosePost at cR
  generalize hR : looseS l [] [] [] false = R at *
  replace hno := fun h => hno R rfl h
  replace hyes := fun h1 h2 h3 => hyes R rfl h1 h2 h3
  generalize hP : refS l = P at *
  clear hR hP
  by_cases hq : rowsT R = l
  rotate_left
  · have HP := Lib.hid (hno (fun e => hq e.1))
    simp only [if_neg hq] at cR
    have CR := Lib.hid cR
    clear cR hq hno hyes hrok hne
    go_enter Tryd.func22, Tryd.ntmps22
    go_wp2_with fail
    refine CR.out.mono ?_
    rintro e w2 ⟨rfl, hb⟩
    go_wp2
    go_ret2
    rw [HP.out]
    exact ⟨rfl, hb⟩
  · have hro := hrok hq
    have hfew := fun h => tail_few hl hq hne h
    simp only [if_pos hq] at cR
    have CR := Lib.hid cR
    have HNO := Lib.hid hno
    have HYES := Lib.hid (hyes hq)
    have HFEW := Lib.hid hfew
    have HRO := Lib.hid hro
    have hTR : ∀ k, R.tail[k]? = R[k + 1]? := fun k => by cases R <;> simp
    have HTR := Lib.hid hTR
    have hRl : R.tail.length = R.length - 1 := by cases R <;> simp
    have hRn : R.length ≤ 10000 := hro.len
    clear cR hq hno hyes hrok hne hfew hro hTR
    generalize hT : R.tail = T at *
    clear hT
    go_enter Tryd.func22, Tryd.ntmps22
    go_wp2_with fail
    refine CR.out.mono ?_
    rintro e w2 ⟨A, C, rfl, hrows, hb⟩
    have hsw := hb.size
    have HX := Lib.hid hrows
    have HB := Lib.hid hb
    clear hrows hb CR
    go_wp2
    go_loopw [6, 7] (fun v i wr => ∃ k n : Nat, n = k + 1 ∧ k ≤ T.length ∧ i = .int .i64 (n : Int) ∧ Hid (∀ j r, j < k → T[j]? = some r → r.length = 7) ∧ Hid (wr.ownsRow w2.heap.size 43 7 v k (((T.map tripL).take k).flatMap Trip.cells)) ∧ Hid (Below w2.heap.size w2 wr)) (fun _ i _ => R.length - (intOf i).toNat)
    case atStart => exact ⟨0, 1, rfl, by omega, rfl, fun j r h => by omega, World.ownsRow_nil _ _ _ _, Below.refl _ _⟩
    case round =>
      obtain ⟨k, n, hn, hk, rfl, hgo, hown, hb⟩ := hrel
      obtain ⟨AA, cap0, rfl⟩ := own_formQ hown.out
      have hs6 := hb.out.size
      by_cases hlt : n < R.length
      · obtain ⟨r, hr⟩ := at_some hlt
        obtain ⟨b, off, rfl, hbl, hce⟩ := HX.out (by omega)
        obtain ⟨A6, C6, z, hel⟩ := hce n r hr
        replace z := (hb.out.cell (p := ⟨b, off + n, none⟩) hbl).trans z
        have hTk : T[k]? = some r := by rw [HTR.out k, ← hn]; exact hr
        have hrr := HRO.out.rows n r hr
        by_cases h7 : r.length = 7
        · have HN := Lib.hid (show ∀ j r, j < k + 1 → T[j]? = some r → r.length = 7 from fun j r' hj hr' => by
            by_cases e : j = k
            · rw [e, hTk] at hr'; injection hr' with hr'; rw [← hr']; exact h7
            · exact hgo.out j r' (by omega) hr')
          have HSN := Lib.hid (snoc_trips hTk)
          rw [h7] at z
          have HEL := Lib.hid (hel.below hb.out)
          have HL := Lib.hid hrr.2.2
          have HNK := Lib.hid hn
          have H7 := Lib.hid h7
          clear hce hel hrr hr hTk hn h7
          go_wp2_with (with_reducible refine hold_loop ?_)
          obtain ⟨hBx, hcx, hzx⟩ := box wr 65 #[.int .i64 0, .int .i64 0, .int .i64 0, .int .i64 0, .int .i64 0, .int .i64 0, .int .i64 0]
          have hk1 : Blk (wr.alloc (.cells #[.int .i64 0, .int .i64 0, .int .i64 0, .int .i64 0, .int .i64 0, .int .i64 0, .int .i64 0] 65)) wr.heap.size 65 (arrA r 0) := Blk.new wr 65 #[.int .i64 0, .int .i64 0, .int .i64 0, .int .i64 0, .int .i64 0, .int .i64 0, .int .i64 0]
          change Hold (Code.wp _ _ _ _ (wr.alloc (.cells #[.int .i64 0, .int .i64 0, .int .i64 0, .int .i64 0, .int .i64 0, .int .i64 0, .int .i64 0] 65)))
          generalize (wr.alloc (.cells #[.int .i64 0, .int .i64 0, .int .i64 0, .int .i64 0, .int .i64 0, .int .i64 0, .int .i64 0] 65)) = wx at *
          unfold Hold
          clear hcx
          obtain ⟨w5, e5⟩ : ∃ x, x = wr := ⟨wr, rfl⟩
          subst e5
          go_loopw [9] (fun i wy => ∃ q : Nat, q ≤ 7 ∧ i = .int .i64 (q : Int) ∧ Hid (Blk wy w5.heap.size 65 (arrA r q)) ∧ Hid (Below w5.heap.size w5 wy)) (fun i _ => 7 - (intOf i).toNat)
          case atStart => exact ⟨0, by omega, rfl, hk1, hBx⟩
          case round =>
            obtain ⟨q, hq7, rfl, hkq, hby⟩ := hrel
            have hlz := hkq.out.lt
            have hsy := hby.out.size
            by_cases hqt : q < 7
            · obtain ⟨x, hx⟩ := at_some (xs := r) (k := q) (by have := H7.out; omega)
              obtain ⟨b6, off6, rfl, hb6, hce6⟩ := HEL.out (by have := H7.out; omega)
              have zx := (hby.out.cell (p := ⟨b6, off6 + q * 1 + 0, none⟩) hb6).trans (hce6 q x hx 0 _ rfl)
              simp only [Nat.mul_one, Nat.add_zero] at zx
              have zy := (hby.out.cell (p := ⟨b, off + n, none⟩) (by show b < w5.heap.size; omega)).trans z
              have hne0 : b ≠ w5.heap.size := by omega
              have hne1 : b6 ≠ w5.heap.size := by omega
              have y := (Blk.cell hkq.out q).trans (arrA_at r hqt)
              have yf := Blk.free hkq.out q
              have cR := ref02_Read x wr (by have := HL.out q x hx; omega)
              have hput := arrA_put r hqt
              rw [cel_at hx] at hput
              have CR := Lib.hid cR
              clear cR z hce6 hx
              by_cases hx0 : x = []
              · subst hx0
                have q0 : (txt []).toList.isEmpty = true := by rw [txt_isEmpty]; rfl
                have HP := Lib.hid ((hkq.out.set_ q (.int .i64 (readV []))).set_ q (.int .i64 (-1)))
                rw [arr_twice, show ((-1 : Int)) = numL [] from rfl, hput, show numL [] = (-1 : Int) from rfl] at HP
                clear hput
                go_wp2_with fail
                refine CR.out.mono ?_
                rintro e w7 ⟨rfl, rfl⟩
                go_wp2
                go_roundw
                case rel => exact ⟨q + 1, by omega, by go_num, HP, (hby.out.setCell (Nat.le_refl _) _).setCell (Nat.le_refl _) _⟩
                case measure => simp [intOf]; omega
              · have q0 : (txt x).toList.isEmpty = false := by rw [txt_isEmpty]; simpa using hx0
                have hnv : numL x = readV x := by unfold numL; rw [if_neg hx0]
                rw [hnv] at hput
                have HP := Lib.hid (hkq.out.set_ q (.int .i64 (readV x)))
                rw [hput] at HP
                clear hput hnv hx0
                go_wp2_with fail
                refine CR.out.mono ?_
                rintro e w7 ⟨rfl, rfl⟩
                go_wp2
                go_roundw
                case rel => exact ⟨q + 1, by omega, by go_num, HP, hby.out.setCell (Nat.le_refl _) _⟩
                case measure => simp [intOf]; omega
            · obtain rfl : q = 7 := by omega
              have c0 : wr.cell? ⟨w5.heap.size, 0, none⟩ = some (.int .i64 (numL (cel r 0))) := Blk.cell hkq.out 0
              have c1 : wr.cell? ⟨w5.heap.size, 1, none⟩ = some (.int .i64 (numL (cel r 1))) := Blk.cell hkq.out 1
              have c2 : wr.cell? ⟨w5.heap.size, 2, none⟩ = some (.int .i64 (numL (cel r 2))) := Blk.cell hkq.out 2
              have c3 : wr.cell? ⟨w5.heap.size, 3, none⟩ = some (.int .i64 (numL (cel r 3))) := Blk.cell hkq.out 3
              have c4 : wr.cell? ⟨w5.heap.size, 4, none⟩ = some (.int .i64 (numL (cel r 4))) := Blk.cell hkq.out 4
              have c5 : wr.cell? ⟨w5.heap.size, 5, none⟩ = some (.int .i64 (numL (cel r 5))) := Blk.cell hkq.out 5
              have c6 : wr.cell? ⟨w5.heap.size, 6, none⟩ = some (.int .i64 (numL (cel r 6))) := Blk.cell hkq.out 6
              have HSN2 := Lib.hid (show (tripL r).cells = [.int .i64 (numL (cel r 0)), .int .i64 (numL (cel r 1)), .int .i64 (numL (cel r 2)), .int .i64 (numL (cel r 3)), .int .i64 (numL (cel r 4)), .int .i64 (numL (cel r 5)), .int .i64 (numL (cel r 6))] from rfl)
              clear hkq hk1
              generalize numL (cel r 0) = n0 at *
              generalize numL (cel r 1) = n1 at *
              generalize numL (cel r 2) = n2 at *
              generalize numL (cel r 3) = n3 at *
              generalize numL (cel r 4) = n4 at *
              generalize numL (cel r 5) = n5 at *
              generalize numL (cel r 6) = n6 at *
              have hb8 := hby.out.alloc hsy (.cells #[.int .i64 n0, .int .i64 n1, .int .i64 n2, .int .i64 n3, .int .i64 n4, .int .i64 n5, .int .i64 n6] 43)
              have ST := Lib.hid (ownsRow_below hown.out hb8)
              have HB8 := Lib.hid (hb.out.trans (hb8.mono hs6))
              clear hb8 z hBx
              have hbk : k ≤ 10000 := by omega
              go_wp2_with (at_builtin; refine wpList_append_own _ rfl _ _ 37 rfl w2.heap.size 43 i0 _ 7 56 Tryd.underlying37 hi hz0 hz1 hz2 rfl (by decide) _ _ _ rfl ST.out _ 1 1 [.int .i64 n0, .int .i64 n1, .int .i64 n2, .int .i64 n3, .int .i64 n4, .int .i64 n5, .int .i64 n6] rfl rfl ?c1 ?c2 ?c3 ?c4 ?c5 ?_)
              case c1 => exact cells_at (by simp) _ _
              case c2 => intro u hu; simp at hu; rcases hu with rfl | rfl | rfl | rfl | rfl | rfl | rfl <;> rfl
              case c3 => unfold maxLen; omega
              case c4 => omega
              case c5 => simp; omega
              intro v' w9 hown' hgrow _
              have hb9 := Lib.hid (HB8.out.grown hgrow (by simp; omega) (fun i hi => (hown.out.lt i hi).1))
              have HO9 := Lib.hid hown'
              clear hgrow hown' ST HB8
              go_wp2
              go_roundw
              case rel => exact ⟨k + 1, n + 1, by have := HNK.out; omega, by have := HNK.out; omega, by go_num, HN, by rw [HSN.out, HSN2.out]; exact HO9, hb9⟩
              case measure => simp [intOf]; omega
        · have HP := Lib.hid (HNO.out (fun e => h7 (e.2.1 r (List.mem_of_getElem? hTk))))
          have hq7 : ((r.length : Int) != 7) = true := by simp; omega
          clear hce hel hrr hr hTk h7 hn
          go_wp2
          go_ret2
          rw [HP.out]
          exact ⟨rfl, HB.out.trans (hb.out.mono hsw)⟩
      · have hkT : k = T.length := by omega
        subst hkT
        have h7 : ∀ r ∈ T, r.length = 7 := fun r hr => by
          obtain ⟨j, hj, e⟩ := List.getElem_of_mem hr
          exact hgo.out j r hj (by rw [List.getElem?_eq_getElem hj, e])
        have ho := hown.out
        have hlm : (T.map tripL).length = T.length := List.length_map ..
        rw [List.take_of_length_le (by omega), ← hlm] at ho
        obtain ⟨A9, C9, e9, hel⟩ := owns_elems trip_len ho
        injection e9 with e1 e2 e3
        subst e1 e3
        have cT := ref57_Text AA cap0 (T.map tripL) wr hel (by rw [hlm]; exact HFEW.out h7) (fun i t hi => by
          rw [List.getElem?_map] at hi
          cases hT : T[i]? with
          | none => rw [hT] at hi; cases hi
          | some r => rw [hT] at hi; injection hi with hi; rw [← hi]; exact tripL_ok r)
        rw [hlm] at cT
        have CT := Lib.hid cT
        have HE := Lib.hid hel
        have q0 := eq_txt (sheetT (T.map tripL)) l
        have HLM := Lib.hid hlm
        have hlt2 : decide ((n : Int) < (R.length : Int)) = false := decide_eq_false (by omega)
        clear ho hel hown cT hn e2 hlm hRl hk hRn
        by_cases hq : sheetT (T.map tripL) = l
        · have q1 : ((txt (sheetT (T.map tripL))).toList == (txt l).toList) = true := by rw [q0]; simpa using hq
          have q2 : ((txt (sheetT (T.map tripL))).toList != (txt l).toList) = false := by simp only [bne, q1]; rfl
          have HP := Lib.hid (HYES.out h7 hq)
          clear q0 hq h7 HYES HNO
          generalize hs2 : txt (sheetT (T.map tripL)) = s2 at *
          clear hs2
          go_wp2_with fail
          refine CT.out.mono ?_
          rintro e w3 ⟨rfl, hb3⟩
          go_wp2
          go_ret2
          rw [HP.out]
          exact ⟨AA, cap0, congrArg (fun n => Ending.returned (.tuple #[.slice AA n cap0, .bool true])) HLM.out.symm, HE.out.below hb3, HB.out.trans ((hb.out.trans (hb3.mono hs6)).mono hsw)⟩
        · have q1 : ((txt (sheetT (T.map tripL))).toList == (txt l).toList) = false := by rw [q0]; simpa using hq
          have q2 : ((txt (sheetT (T.map tripL))).toList != (txt l).toList) = true := by simp only [bne, q1]; rfl
          have HP := Lib.hid (HNO.out (fun e => hq e.2.2))
          clear q0 hq h7 HYES HNO
          generalize hs2 : txt (sheetT (T.map tripL)) = s2 at *
          clear hs2
          go_wp2_with fail
          refine CT.out.mono ?_
          rintro e w3 ⟨rfl, hb3⟩
          go_wp2
          go_ret2
          rw [HP.out]
          exact ⟨rfl, HB.out.trans ((hb.out.trans (hb3.mono hs6)).mono hsw)⟩
end Go.Proofs.YtgfhgopfhcakhaaDoor
