/-
  A row of texts as a trip: sheet.trip. Condition: no text is too long. A text as trips: sheet.Read. Condition: the text is not too long, nor are the rows that stand in it.
-/
import Derived.Test.YtgfhgopfhcakhaaDoorShtT
import Derived.Test.YtgfhgopfhcakhaaDoorRead1F
import Derived.Test.YtgfhgopfhcakhaaDoorTxt
import Derived.Test.YtgfhgopfhcakhaaDoorOwnS
set_option linter.unusedVariables false
set_option linter.unusedSimpArgs false
namespace Go.Proofs.YtgfhgopfhcakhaaDoor
open Go Go.Joins Go.ChangeShapes Go.WideShapes Go.ChangeAt Go.RowKit Go.Deep

theorem txt_isEmpty (x : Byt) : (txt x).toList.isEmpty = decide (x = []) := by
  rw [txt_toList]
  cases x <;> simp
theorem set7w {w w' : World} {u1 u2 u3 u4 u5 u6 u7 : Value} (h : Below w.heap.size w w') : Below w.heap.size w (((((((w'.setCell ⟨w.heap.size, 0, none⟩ u1).setCell ⟨w.heap.size, 1, none⟩ u2).setCell ⟨w.heap.size, 2, none⟩ u3).setCell ⟨w.heap.size, 3, none⟩ u4).setCell ⟨w.heap.size, 4, none⟩ u5).setCell ⟨w.heap.size, 5, none⟩ u6).setCell ⟨w.heap.size, 6, none⟩ u7) :=
  ((((((h.setCell (Nat.le_refl _) _).setCell (Nat.le_refl _) _).setCell (Nat.le_refl _) _).setCell (Nat.le_refl _) _).setCell (Nat.le_refl _) _).setCell (Nat.le_refl _) _).setCell (Nat.le_refl _) _
/-- The numbers so far. -/
def arrA (r : List Byt) (k : Nat) : Array Value := #[.int .i64 (if 0 < k then numL (cel r 0) else 0), .int .i64 (if 1 < k then numL (cel r 1) else 0), .int .i64 (if 2 < k then numL (cel r 2) else 0), .int .i64 (if 3 < k then numL (cel r 3) else 0),
  .int .i64 (if 4 < k then numL (cel r 4) else 0), .int .i64 (if 5 < k then numL (cel r 5) else 0), .int .i64 (if 6 < k then numL (cel r 6) else 0)]
theorem arrA_put (r : List Byt) {k : Nat} (hk : k < 7) : (arrA r k).setIfInBounds k (.int .i64 (numL (cel r k))) = arrA r (k + 1) := by
  match k, hk with
  | 0, _ => rfl
  | 1, _ => rfl
  | 2, _ => rfl
  | 3, _ => rfl
  | 4, _ => rfl
  | 5, _ => rfl
  | 6, _ => rfl
theorem arrA_at (r : List Byt) {k : Nat} (hk : k < 7) : (arrA r k)[k]? = some (.int .i64 0) := by
  match k, hk with
  | 0, _ => rfl
  | 1, _ => rfl
  | 2, _ => rfl
  | 3, _ => rfl
  | 4, _ => rfl
  | 5, _ => rfl
  | 6, _ => rfl
theorem cel_at {r : List Byt} {k : Nat} {x : Byt} (h : r[k]? = some x) : cel r k = x := by simp [cel, List.getD, h]
def zeroT : Trip := ⟨0, 0, 0, 0, 0, 0, 0⟩
/-- The trip, or none. -/
def tripD (r : List Byt) : Trip := if goodR r then tripL r else zeroT
def TripPost (r : List Byt) (w : World) (e : Ending) (w' : World) : Prop := e = .returned (.tuple #[(tripD r).val, .bool (decide (goodR r))]) ∧ Below w.heap.size w w'
theorem trip_bad {r : List Byt} {w w' : World} {e : Ending} (h : ¬ goodR r) (he : e = .returned (.tuple #[zeroT.val, .bool false])) (hb : Below w.heap.size w w') : TripPost r w e w' := by
  unfold TripPost tripD
  rw [if_neg h, decide_eq_false h]
  exact ⟨he, hb⟩
theorem trip_good {r : List Byt} {w w' : World} {e : Ending} (h : goodR r) (he : e = .returned (.tuple #[(tripL r).val, .bool true])) (hb : Below w.heap.size w w') : TripPost r w e w' := by
  unfold TripPost tripD
  rw [if_pos h, decide_eq_true h]
  exact ⟨he, hb⟩
set_option maxRecDepth 20000 in
set_option maxHeartbeats 4000000 in
theorem sheet_trip (A : Option Addr) (C : Nat) (r : List Byt) (w : World) (hx : Txts w A r) (hl : ∀ (i : Nat) (x : Byt), r[i]? = some x → x.length ≤ 2900) (hr : r.length ≤ 10000) :
    Calls Tryd.prog 32 #[.slice A r.length C] w (TripPost r w) := by
  by_cases h7 : r.length = 7
  · have HX := Lib.hid hx
    have HL := Lib.hid hl
    clear hx hl hr
    have hL : Value.slice A r.length C = .slice A 7 C := by rw [h7]
    rw [hL]
    clear hL
    go_enter Tryd.func32, Tryd.ntmps32
    go_wp2_with (with_reducible refine hold_loop ?_)
    have k0 : Blk ((w.alloc (.cells #[.int .i64 0, .int .i64 0, .int .i64 0, .int .i64 0, .int .i64 0, .int .i64 0, .int .i64 0] 43)).alloc (.cells #[.int .i64 0, .int .i64 0, .int .i64 0, .int .i64 0, .int .i64 0, .int .i64 0, .int .i64 0] 65)) (w.heap.size) 43 #[.int .i64 0, .int .i64 0, .int .i64 0, .int .i64 0, .int .i64 0, .int .i64 0, .int .i64 0] := (Blk.alloc (blk_at (by simp)) (.cells #[.int .i64 0, .int .i64 0, .int .i64 0, .int .i64 0, .int .i64 0, .int .i64 0, .int .i64 0] 65))
    have k1 : Blk ((w.alloc (.cells #[.int .i64 0, .int .i64 0, .int .i64 0, .int .i64 0, .int .i64 0, .int .i64 0, .int .i64 0] 43)).alloc (.cells #[.int .i64 0, .int .i64 0, .int .i64 0, .int .i64 0, .int .i64 0, .int .i64 0, .int .i64 0] 65)) (w.heap.size + 1) 65 #[.int .i64 0, .int .i64 0, .int .i64 0, .int .i64 0, .int .i64 0, .int .i64 0, .int .i64 0] := (blk_at (by simp))
    have hB : Below w.heap.size w ((w.alloc (.cells #[.int .i64 0, .int .i64 0, .int .i64 0, .int .i64 0, .int .i64 0, .int .i64 0, .int .i64 0] 43)).alloc (.cells #[.int .i64 0, .int .i64 0, .int .i64 0, .int .i64 0, .int .i64 0, .int .i64 0, .int .i64 0] 65)) := (bel_at (bel_at (Below.refl _ _) (.cells #[.int .i64 0, .int .i64 0, .int .i64 0, .int .i64 0, .int .i64 0, .int .i64 0, .int .i64 0] 43)) (.cells #[.int .i64 0, .int .i64 0, .int .i64 0, .int .i64 0, .int .i64 0, .int .i64 0, .int .i64 0] 65))
    generalize ((w.alloc (.cells #[.int .i64 0, .int .i64 0, .int .i64 0, .int .i64 0, .int .i64 0, .int .i64 0, .int .i64 0] 43)).alloc (.cells #[.int .i64 0, .int .i64 0, .int .i64 0, .int .i64 0, .int .i64 0, .int .i64 0, .int .i64 0] 65)) = w1 at *
    (try clear k0c k0f k0z); have k0c := fun i => Blk.cell k0 i; have k0f := fun i => Blk.free k0 i; have k0z := Blk.lt k0; (try clear k1c k1f k1z); have k1c := fun i => Blk.cell k1 i; have k1f := fun i => Blk.free k1 i; have k1z := Blk.lt k1
    unfold Hold
    clear k0c k0f k0z k1c k1f k1z
    go_loopw [15] (fun i wr => ∃ k : Nat, k ≤ 7 ∧ i = .int .i64 (k : Int) ∧ Hid (∀ j, j < k → goodS j (cel r j) = true) ∧ Hid (Blk wr w.heap.size 43 #[.int .i64 0, .int .i64 0, .int .i64 0, .int .i64 0, .int .i64 0, .int .i64 0, .int .i64 0]) ∧ Hid (Blk wr (w.heap.size + 1) 65 (arrA r k)) ∧ Hid (Below w.heap.size w wr)) (fun i _ => 7 - (intOf i).toNat)
    case atStart => exact ⟨0, by omega, val_int (by omega), fun j hj => by omega, k0, k1, hB⟩
    case round =>
      obtain ⟨k, hk, rfl, hgo, hk0, hk1, hb⟩ := hrel
      have hsw := hb.out.size
      have k0c := fun i => Blk.cell hk0.out i
      have k0f := fun i => Blk.free hk0.out i
      have k0z := Blk.lt hk0.out
      have k1z := Blk.lt hk1.out
      by_cases hlt : k < 7
      · obtain ⟨x, hg⟩ := at_some (xs := r) (k := k) (by omega)
        obtain ⟨b, off, rfl, hbk, hce⟩ := HX.out (by omega)
        have z := (hb.out.cell (p := ⟨b, off + k * 1 + 0, none⟩) hbk).trans (hce k x hg 0 _ rfl)
        simp only [Nat.mul_one, Nat.add_zero] at z
        have hne0 : b ≠ w.heap.size := by omega
        have hne1 : b ≠ w.heap.size + 1 := by omega
        have y := (Blk.cell hk1.out k).trans (arrA_at r hlt)
        have yf := Blk.free hk1.out k
        have hput := hk1.out.set_ k (.int .i64 (numL (cel r k)))
        rw [arrA_put r hlt] at hput
        have hcx := cel_at hg
        have cR := digits_Read x wr (by have := HL.out k x hg; omega)
        have hnext : goodS k x = true → ∀ j, j < k + 1 → goodS j (cel r j) = true := fun h j hj => by
          by_cases e : j = k
          · rw [e, hcx]; exact h
          · exact hgo.out j (by omega)
        have hbad : goodS k x = false → ¬ goodR r := fun h h2 => by
          have := h2.2 k hlt
          rw [hcx, h] at this
          cases this
        rw [hcx] at hput
        clear hce hg hcx
        by_cases h4 : 4 ≤ k
        -- GEN
        · have h4i : decide ((4 : Int) ≤ (k : Int)) = true := decide_eq_true (by omega)
          by_cases hx0 : x = []
          · subst hx0
            have q0 : (txt []).toList.isEmpty = true := by rw [txt_isEmpty]; rfl
            have hgs : goodS k [] = true := by unfold goodS; rw [if_pos ⟨h4, rfl⟩]
            rw [show numL [] = -1 from rfl] at hput
            have HN := Lib.hid (hnext hgs)
            have HP := Lib.hid hput
            clear hnext hbad hput cR hgs
            go_wp2
            go_roundw
            case rel => exact ⟨k + 1, by omega, by go_num, HN.out, hk0.out.far (by show w.heap.size ≠ w.heap.size + 1; omega) _, HP.out, hb.out.setCell (by show w.heap.size ≤ w.heap.size + 1; omega) _⟩
            case measure => simp [intOf]; omega
          · have q0 : (txt x).toList.isEmpty = false := by rw [txt_isEmpty]; simpa using hx0
            by_cases hE : readE x = 0
            · have e1 : (readE x == 0) = true := by simpa using hE
              have e2 : (readE x != 0) = false := by simpa using hE
              have hxn : x ≠ [] := fun e => by rw [e, readE_nil] at hE; cases hE
              have hnv : numL x = readV x := by unfold numL; rw [if_neg hxn]
              rw [hnv] at hput
              by_cases hV : readV x = -1
              · have v1 : (readV x == -1) = true := by simpa using hV
                have hgs : goodS k x = false := by unfold goodS; rw [if_neg (fun e => hx0 e.2)]; simp [hE, hV, h4]
                have HN := Lib.hid (hbad hgs)
                have CR := Lib.hid cR
                clear hnext hbad hput cR hgs hE hV hxn hnv
                go_wp2_with fail
                refine CR.out.mono ?_
                rintro e w2 ⟨rfl, rfl⟩
                go_wp2
                refine bodyPost_ret (v := .tuple #[.agg #[.int .i64 0, .int .i64 0, .int .i64 0, .int .i64 0, .int .i64 0, .int .i64 0, .int .i64 0], .bool false]) (by simp [results, Tryd.results32, go_sem, k0c, k0f, k0z]) rfl ?_
                exact trip_bad HN.out rfl (set7w hb.out)
              · have v1 : (readV x == -1) = false := by simpa using hV
                have hgs : goodS k x = true := by unfold goodS; rw [if_neg (fun e => hx0 e.2)]; simp [hE, hV]
                have HN := Lib.hid (hnext hgs)
                have HP := Lib.hid hput
                have CR := Lib.hid cR
                clear hnext hbad hput cR hgs hE hV hxn hnv
                go_wp2_with fail
                refine CR.out.mono ?_
                rintro e w2 ⟨rfl, rfl⟩
                go_wp2
                go_roundw
                case rel => exact ⟨k + 1, by omega, by go_num, HN.out, hk0.out.far (by show w.heap.size ≠ w.heap.size + 1; omega) _, HP.out, hb.out.setCell (by show w.heap.size ≤ w.heap.size + 1; omega) _⟩
                case measure => simp [intOf]; omega
            · have e1 : (readE x == 0) = false := by simpa using hE
              have e2 : (readE x != 0) = true := by simpa using hE
              have hgs : goodS k x = false := by unfold goodS; rw [if_neg (fun e => hx0 e.2)]; simp [hE]
              have HN := Lib.hid (hbad hgs)
              have CR := Lib.hid cR
              clear hnext hbad hput cR hgs hE
              go_wp2_with fail
              refine CR.out.mono ?_
              rintro e w2 ⟨rfl, rfl⟩
              go_wp2
              refine bodyPost_ret (v := .tuple #[.agg #[.int .i64 0, .int .i64 0, .int .i64 0, .int .i64 0, .int .i64 0, .int .i64 0, .int .i64 0], .bool false]) (by simp [results, Tryd.results32, go_sem, k0c, k0f, k0z]) rfl ?_
              exact trip_bad HN.out rfl (set7w hb.out)
        · have h4i : decide ((4 : Int) ≤ (k : Int)) = false := decide_eq_false (by omega)
          by_cases hE : readE x = 0
          · have e1 : (readE x == 0) = true := by simpa using hE
            have e2 : (readE x != 0) = false := by simpa using hE
            have hxn : x ≠ [] := fun e => by rw [e, readE_nil] at hE; cases hE
            have hnv : numL x = readV x := by unfold numL; rw [if_neg hxn]
            rw [hnv] at hput
            have hgs : goodS k x = true := by unfold goodS; rw [if_neg (fun e => by omega)]; simp [hE, h4]
            have HN := Lib.hid (hnext hgs)
            have HP := Lib.hid hput
            have CR := Lib.hid cR
            clear hnext hbad hput cR hgs hE hxn hnv
            go_wp2_with fail
            refine CR.out.mono ?_
            rintro e w2 ⟨rfl, rfl⟩
            go_wp2
            go_roundw
            case rel => exact ⟨k + 1, by omega, by go_num, HN.out, hk0.out.far (by show w.heap.size ≠ w.heap.size + 1; omega) _, HP.out, hb.out.setCell (by show w.heap.size ≤ w.heap.size + 1; omega) _⟩
            case measure => simp [intOf]; omega
          · have e1 : (readE x == 0) = false := by simpa using hE
            have e2 : (readE x != 0) = true := by simpa using hE
            have hgs : goodS k x = false := by unfold goodS; rw [if_neg (fun e => by omega)]; simp [hE]
            have HN := Lib.hid (hbad hgs)
            have CR := Lib.hid cR
            clear hnext hbad hput cR hgs hE
            go_wp2_with fail
            refine CR.out.mono ?_
            rintro e w2 ⟨rfl, rfl⟩
            go_wp2
            refine bodyPost_ret (v := .tuple #[.agg #[.int .i64 0, .int .i64 0, .int .i64 0, .int .i64 0, .int .i64 0, .int .i64 0, .int .i64 0], .bool false]) (by simp [results, Tryd.results32, go_sem, k0c, k0f, k0z]) rfl ?_
            exact trip_bad HN.out rfl (set7w hb.out)
      · obtain rfl : k = 7 := by omega
        have HG := Lib.hid (show goodR r from ⟨h7, fun i hi => hgo.out i hi⟩)
        have c0 : wr.cell? ⟨w.heap.size + 1, 0, none⟩ = some (.int .i64 (numL (cel r 0))) := Blk.cell hk1.out 0
        have c1 : wr.cell? ⟨w.heap.size + 1, 1, none⟩ = some (.int .i64 (numL (cel r 1))) := Blk.cell hk1.out 1
        have c2 : wr.cell? ⟨w.heap.size + 1, 2, none⟩ = some (.int .i64 (numL (cel r 2))) := Blk.cell hk1.out 2
        have c3 : wr.cell? ⟨w.heap.size + 1, 3, none⟩ = some (.int .i64 (numL (cel r 3))) := Blk.cell hk1.out 3
        have c4 : wr.cell? ⟨w.heap.size + 1, 4, none⟩ = some (.int .i64 (numL (cel r 4))) := Blk.cell hk1.out 4
        have c5 : wr.cell? ⟨w.heap.size + 1, 5, none⟩ = some (.int .i64 (numL (cel r 5))) := Blk.cell hk1.out 5
        have c6 : wr.cell? ⟨w.heap.size + 1, 6, none⟩ = some (.int .i64 (numL (cel r 6))) := Blk.cell hk1.out 6
        have HTL := Lib.hid (show (tripL r).val = .agg #[.int .i64 (numL (cel r 0)), .int .i64 (numL (cel r 1)), .int .i64 (numL (cel r 2)), .int .i64 (numL (cel r 3)), .int .i64 (numL (cel r 4)), .int .i64 (numL (cel r 5)), .int .i64 (numL (cel r 6))] from rfl)
        generalize numL (cel r 0) = n0 at *
        generalize numL (cel r 1) = n1 at *
        generalize numL (cel r 2) = n2 at *
        generalize numL (cel r 3) = n3 at *
        generalize numL (cel r 4) = n4 at *
        generalize numL (cel r 5) = n5 at *
        generalize numL (cel r 6) = n6 at *
        go_wp2
        refine bodyPost_ret (v := .tuple #[.agg #[.int .i64 n0, .int .i64 n1, .int .i64 n2, .int .i64 n3, .int .i64 n4, .int .i64 n5, .int .i64 n6], .bool true]) (by simp [results, Tryd.results32, go_sem, k0c, k0f, k0z]) rfl ?_
        exact trip_good HG.out (by rw [HTL.out]) (set7w hb.out)
        -- END GEN
  · have hn : ¬ goodR r := fun h => h7 h.1
    have hq : ((r.length : Int) != 7) = true := by simp; omega
    have HN := Lib.hid hn
    clear hx hl hn h7
    go_enter Tryd.func32, Tryd.ntmps32
    go_wp2
    refine bodyPost_ret (v := .tuple #[.agg #[.int .i64 0, .int .i64 0, .int .i64 0, .int .i64 0, .int .i64 0, .int .i64 0, .int .i64 0], .bool false]) (by simp [results, Tryd.results32, go_sem]) rfl ?_
    exact trip_bad HN.out rfl ((Below.refl _ _).alloc (Nat.le_refl _) _)
end Go.Proofs.YtgfhgopfhcakhaaDoor
set_option linter.unusedVariables false
set_option linter.unusedSimpArgs false
namespace Go.Proofs.YtgfhgopfhcakhaaDoor
open Go Go.Joins Go.ChangeShapes Go.WideShapes Go.ChangeAt Go.RowKit Go.Deep

theorem info_trip : (Tryd.prog.info? 43).map (fun i => (i.zero, i.size, i.bytes)) = some (some (.agg #[.int .i64 0, .int .i64 0, .int .i64 0, .int .i64 0, .int .i64 0, .int .i64 0, .int .i64 0]), 7, 56) := by kernel_rfl
theorem trip_len (t : Trip) : (Trip.cells t).length = 7 := rfl
/-- What sheet.Read answers. -/
def SheetPost (R : Option (List Trip)) (w : World) (e : Ending) (w' : World) : Prop := match R with
  | some out => ∃ A C, e = .returned (.tuple #[.slice A out.length C, .int .i64 0]) ∧ Trips w' A out ∧ Below w.heap.size w w'
  | none => e = .returned (.tuple #[.slice none 0 0, .int .i64 20]) ∧ Below w.heap.size w w'
theorem snoc_trips {rs : List (List Byt)} {k : Nat} {r : List Byt} (h : rs[k]? = some r) : ((rs.map tripL).take (k + 1)).flatMap Trip.cells = ((rs.map tripL).take k).flatMap Trip.cells ++ (tripL r).cells := by
  have h2 : (rs.map tripL)[k]? = some (tripL r) := by rw [List.getElem?_map, h]; rfl
  rw [take_snoc h2, List.flatMap_append]
  simp
set_option maxRecDepth 20000 in
set_option maxHeartbeats 8000000 in
theorem sheet_Read (m : Int) (l : Byt) (w : World) (hm : Mx m w) (hl : l.length ≤ 100000) (hok : ∀ out, readS l.length l [] [] = some out → RowsOk out) :
    Calls Tryd.prog 18 #[.string (txt l)] w (SheetPost (sheetS l) w) := by
  obtain ⟨i0, hi, hz0, hz1, hz2⟩ := info_parts info_trip
  have hS : sheetS l = (readS l.length l [] []).bind sheetR := by unfold sheetS; cases readS l.length l [] [] <;> rfl
  have cR := csv_Read l w hl
  have HM := Lib.hid hm
  clear hm
  generalize hP : sheetS l = P at *
  clear hP
  cases hR : readS l.length l [] [] with
  | none =>
    rw [hR] at hS cR
    replace hS : P = none := hS
    subst hS
    have CR := Lib.hid cR
    clear hok hR cR
    go_enter Tryd.func18, Tryd.ntmps18
    go_wp2_with fail
    refine CR.out.mono ?_
    rintro e w2 ⟨rfl, hb⟩
    go_wp2
    go_ret2
    exact ⟨rfl, hb⟩
  | some out =>
    have hro := hok out hR
    rw [hR] at hS cR
    replace hS : P = sheetR out := hS
    have CR := Lib.hid cR
    have HRO := Lib.hid hro
    have HS := Lib.hid hS
    clear hok hR cR hro hS
    cases out with
    | nil =>
      have HS2 := Lib.hid (show P = none from HS.out)
      clear HS HRO
      go_enter Tryd.func18, Tryd.ntmps18
      go_wp2_with fail
      refine CR.out.mono ?_
      rintro e w2 ⟨A, D, rfl, hrows, hb⟩
      simp only [List.length_nil]
      clear hrows
      go_wp2
      go_ret2
      rw [HS2.out]
      exact ⟨rfl, hb⟩
    | cons h rs =>
      go_enter Tryd.func18, Tryd.ntmps18
      go_wp2_with fail
      refine CR.out.mono ?_
      rintro e w2 ⟨A, D, rfl, hrows, hb⟩
      obtain ⟨b, off, rfl, hbl, hce⟩ := hrows (by simp)
      obtain ⟨A1, C1, z, hel⟩ := hce 0 h rfl
      simp only [Nat.add_zero] at z
      have hsw := hb.size
      have c1 := csv_RowR m HRO.out (i := 0) rfl A1 C1 w2 (HM.out.below hb HM.out.pos) hel
      have hh1 := HRO.out.rows 0 h rfl
      have hn2 : rs.length + 1 ≤ 10000 := HRO.out.len
      have e0 : ((rs.length : Int) + 1 == 0) = false := by simp; omega
      have HCE := Lib.hid hce
      have HB := Lib.hid hb
      have C1H := Lib.hid c1
      clear hce hb c1 hel hh1 hrows
      go_wp2_with fail
      refine C1H.out.mono ?_
      rintro e w3 ⟨rfl, hb3⟩
      go_wp2_with fail
      refine (sheet_Head w3).mono ?_
      rintro e w4 ⟨v, rfl, hown, hb4⟩
      obtain ⟨A4, C4, rfl⟩ := own_formQ hown
      obtain ⟨A5, C5, he5, htx⟩ := txtsN_own (o2 := none) hown (fun k hk e => by cases e)
      injection he5 with e5 e6 e7
      subst e5 e7
      have hb24 : Below w2.heap.size w2 w4 := hb3.trans (hb4.mono hb3.size)
      have c2 := csv_Row m A4 C4 headR w4 (HM.out.below (HB.out.trans (hb24.mono hsw)) HM.out.pos) htx.txts (fun i x hi => by have := headR_low x (List.mem_of_getElem? hi); omega) (by decide) (by decide)
      have C2H := Lib.hid c2
      have HB24 := Lib.hid hb24
      clear c2 hb24 hown htx hb3 hb4
      go_wp2_with fail
      refine C2H.out.mono ?_
      rintro e w5 ⟨rfl, hb5⟩
      have hb25 : Below w2.heap.size w2 w5 := HB24.out.trans (hb5.mono HB24.out.size)
      have HB5 := Lib.hid (HB.out.trans (hb25.mono hsw))
      have HB25 := Lib.hid hb25
      have q0 := eq_txt (rowT h) (rowT headR)
      clear hb5 hb25 HB24 C2H C1H CR z e6
      by_cases hq : rowT h = rowT headR
      · have q1 : ((txt (rowT h)).toList == (txt (rowT headR)).toList) = true := by rw [q0]; simpa using hq
        have q2 : ((txt (rowT h)).toList != (txt (rowT headR)).toList) = false := by simp only [bne, q1]; rfl
        have HQ := Lib.hid hq
        clear q0 hq
        generalize hs1 : txt (rowT h) = s1 at *
        generalize hs2 : txt (rowT headR) = s2 at *
        clear hs1 hs2
        have hs5 := HB25.out.size
        by_cases hz : rs.length + 1 + D = 1
        · obtain rfl : rs = [] := List.eq_nil_of_length_eq_zero (by omega)
          obtain rfl : D = 0 := by simp at hz; omega
          have HP := Lib.hid (show P = some [] by rw [HS.out]; unfold sheetR; exact if_pos ⟨HQ.out, fun r hr => by cases hr⟩)
          clear HS HCE hz
          simp only [List.length_nil, Nat.zero_add, Nat.add_zero] at *
          go_wp2
          go_loopw [6, 35] (fun v i wr => v = .slice none 0 0 ∧ i = .int .i64 0 ∧ Hid (Below w2.heap.size w2 wr)) (fun _ _ _ => 0)
          case atStart => exact ⟨rfl, rfl, HB25⟩
          case round =>
            obtain ⟨rfl, rfl, hb6⟩ := hrel
            go_wp2
            go_ret2
            rw [HP.out]
            exact ⟨none, 0, rfl, (fun hp => absurd hp (by simp)), HB.out.trans (hb6.out.mono hsw)⟩
        · go_wp2
          go_loopw [6, 35] (fun v i wr => ∃ k : Nat, k ≤ rs.length ∧ i = .int .i64 (k : Int) ∧ Hid (∀ j r, j < k → rs[j]? = some r → goodR r) ∧ Hid (wr.ownsRow w2.heap.size 43 7 v k (((rs.map tripL).take k).flatMap Trip.cells)) ∧ Hid (Below w2.heap.size w2 wr)) (fun _ i _ => rs.length - (intOf i).toNat)
          case atStart => exact ⟨0, by omega, rfl, fun j r h => by omega, World.ownsRow_nil _ _ _ _, HB25⟩
          case round =>
            obtain ⟨k, hk, rfl, hgo, hown, hb⟩ := hrel
            obtain ⟨AA, cap0, rfl⟩ := own_formQ hown.out
            have hs6 := hb.out.size
            by_cases hlt : k < rs.length
            · obtain ⟨r, hr⟩ := at_some hlt
              obtain ⟨A6, C6, z, hel⟩ := HCE.out (k + 1) r hr
              replace z := (hb.out.cell (p := ⟨b, off + (k + 1), none⟩) hbl).trans z
              rw [show off + (k + 1) = off + 1 + k by omega] at z
              have hrr := HRO.out.rows (k + 1) r hr
              have cT := sheet_trip A6 C6 r wr (hel.below hb.out) (fun i x hi => by have := hrr.2.2 i x hi; omega) hrr.1
              have CT := Lib.hid cT
              have hsn := snoc_trips hr
              have HSN := Lib.hid hsn
              clear cT hel hrr hsn
              by_cases hgd : goodR r
              · have HN := Lib.hid (show ∀ j r, j < k + 1 → rs[j]? = some r → goodR r from fun j r' hj hr' => by
                  by_cases e : j = k
                  · rw [e, hr] at hr'; injection hr' with hr'; rw [← hr']; exact hgd
                  · exact hgo.out j r' (by omega) hr')
                have htd : tripD r = tripL r := by unfold tripD; rw [if_pos hgd]
                have hdg : decide (goodR r) = true := decide_eq_true hgd
                unfold TripPost at CT
                rw [htd, hdg] at CT
                clear htd hdg hgd hr
                generalize tripL r = t at *
                obtain ⟨a0, a1, a2, a3, a4, a5, a6⟩ := t
                simp only [Trip.val, Trip.cells] at CT HSN
                go_wp2_with fail
                refine CT.out.mono ?_
                rintro e w6 ⟨rfl, hb6⟩
                have hb8 := (hb6.alloc (Nat.le_trans (Nat.le_refl _) hb6.size) (.cells #[.int .i64 a0, .int .i64 a1, .int .i64 a2, .int .i64 a3, .int .i64 a4, .int .i64 a5, .int .i64 a6] 43)).alloc (by have := hb6.size; simp; omega) (.cells #[.int .i64 a0, .int .i64 a1, .int .i64 a2, .int .i64 a3, .int .i64 a4, .int .i64 a5, .int .i64 a6] 43)
                have ST := Lib.hid (ownsRow_below hown.out hb8)
                have HB8 := Lib.hid (hb.out.trans (hb8.mono hs6))
                have hs8 := hb6.size
                clear hb6 hb8 z
                go_wp2_with (at_builtin; refine wpList_append_own _ rfl _ _ 37 rfl w2.heap.size 43 i0 _ 7 56 Tryd.underlying37 hi hz0 hz1 hz2 rfl (by decide) _ _ _ rfl ST.out _ 1 1 [.int .i64 a0, .int .i64 a1, .int .i64 a2, .int .i64 a3, .int .i64 a4, .int .i64 a5, .int .i64 a6] rfl rfl ?c1 ?c2 ?c3 ?c4 ?c5 ?_)
                case c1 => exact cells_at (by simp) _ _
                case c2 => intro u hu; simp at hu; rcases hu with rfl | rfl | rfl | rfl | rfl | rfl | rfl <;> rfl
                case c3 => unfold maxLen; omega
                case c4 => omega
                case c5 => simp; omega
                intro v' w9 hown' hgrow _
                have hb9 := Lib.hid (HB8.out.grown hgrow (by simp; omega) (fun i hi => (hown.out.lt i hi).1))
                have HO9 := Lib.hid hown'
                clear hgrow hown' ST HB8
                go_wp2
                go_roundw
                case rel => exact ⟨k + 1, by omega, by go_num, HN, by rw [HSN.out]; exact HO9, hb9⟩
                case measure => simp [intOf]; omega
              · have HP := Lib.hid (show P = none by rw [HS.out]; unfold sheetR; exact if_neg (fun e => hgd (e.2 r (List.mem_of_getElem? hr))))
                have htd : tripD r = zeroT := by unfold tripD; rw [if_neg hgd]
                have hdg : decide (goodR r) = false := decide_eq_false hgd
                unfold TripPost at CT
                rw [htd, hdg] at CT
                clear htd hdg hgd hr HSN HS
                simp only [zeroT, Trip.val] at CT
                go_wp2_with fail
                refine CT.out.mono ?_
                rintro e w6 ⟨rfl, hb6⟩
                go_wp2
                go_ret2
                rw [HP.out]
                exact ⟨rfl, HB.out.trans ((hb.out.trans ((hb6.alloc hb6.size _).mono hs6)).mono hsw)⟩
            · obtain rfl : k = rs.length := by omega
              have HP := Lib.hid (show P = some (rs.map tripL) by
                rw [HS.out]
                unfold sheetR
                refine if_pos ⟨HQ.out, fun r hr => ?_⟩
                obtain ⟨j, hj, e⟩ := List.getElem_of_mem hr
                exact hgo.out j r hj (by rw [List.getElem?_eq_getElem hj, e]))
              have ho := hown.out
              have hlm : (rs.map tripL).length = rs.length := List.length_map ..
              rw [List.take_of_length_le (by omega), ← hlm] at ho
              obtain ⟨A9, C9, e9, hel⟩ := owns_elems trip_len ho
              injection e9 with e1 e2 e3
              subst e1 e3
              have HE := Lib.hid hel
              clear ho hel HS hgo hown
              go_wp2
              go_ret2
              rw [HP.out]
              exact ⟨AA, cap0, congrArg (fun n => Ending.returned (.tuple #[.slice AA n cap0, .int .i64 0])) hlm.symm, HE.out, HB.out.trans (hb.out.mono hsw)⟩
      · have q1 : ((txt (rowT h)).toList == (txt (rowT headR)).toList) = false := by rw [q0]; simpa using hq
        have q2 : ((txt (rowT h)).toList != (txt (rowT headR)).toList) = true := by simp only [bne, q1]; rfl
        have HQ := Lib.hid (show P = none by rw [HS.out]; unfold sheetR; exact if_neg (fun e => hq e.1))
        clear q0 hq HS
        generalize hs1 : txt (rowT h) = s1 at *
        generalize hs2 : txt (rowT headR) = s2 at *
        clear hs1 hs2
        go_wp2
        go_ret2
        rw [HQ.out]
        exact ⟨rfl, HB5.out⟩
end Go.Proofs.YtgfhgopfhcakhaaDoor
