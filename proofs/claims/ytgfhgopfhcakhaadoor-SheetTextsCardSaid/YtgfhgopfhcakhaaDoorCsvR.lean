
/-
  A row of texts, written: csv.Row. Conditions: the texts are not too long; the library's variable lies.
-/
import Derived.Test.YtgfhgopfhcakhaaDoorCsvD
import Derived.Test.YtgfhgopfhcakhaaDoorBldT
import Derived.Test.YtgfhgopfhcakhaaDoorSlice
import Derived.Test.YtgfhgopfhcakhaaDoorRows2
set_option linter.unusedVariables false
set_option linter.unusedSimpArgs false
namespace Go.Proofs.YtgfhgopfhcakhaaDoor
open Go Go.Joins Go.ChangeShapes Go.WideShapes Go.ChangeAt Go.RowKit Go.Deep

abbrev txtC (l : Byt) : List Value := [.string (txt l)]
abbrev Txts (w : World) (A : Option Addr) (xs : List Byt) : Prop := Elems 1 txtC w A xs
abbrev TxtRows (w : World) (A : Option Addr) (xss : List (List Byt)) : Prop := Rows2 1 txtC w A xss
theorem body_snoc (r : List Byt) (x : Byt) : bodyT (r ++ [x]) = if r.length = 0 then cellT x else bodyT r ++ ([44] ++ cellT x) := by
  induction r with
  | nil => simp [bodyT]
  | cons y r ih =>
    rw [List.cons_append, bodyT_cons y (r ++ [x]) (by simp), ih]
    cases r with
    | nil => simp [bodyT]
    | cons z r => 
      rw [bodyT_cons y (z :: r) (by simp)]
      simp
theorem body_mono (r s : List Byt) : (bodyT r).length ≤ (bodyT (r ++ s)).length := by
  induction s generalizing r with
  | nil => simp
  | cons x s ih =>
    rw [show r ++ x :: s = (r ++ [x]) ++ s by simp]
    refine Nat.le_trans ?_ (ih (r ++ [x]))
    rw [body_snoc]
    split
    · rename_i h
      have : r = [] := List.length_eq_zero_iff.1 h
      subst this
      simp [bodyT]
    · simp
theorem body_take (r : List Byt) (k : Nat) : (bodyT (r.take k)).length ≤ (bodyT r).length := by
  have := body_mono (r.take k) (r.drop k)
  rw [List.take_append_drop] at this
  exact this
theorem take_snoc {α : Type} {l : List α} {k : Nat} {c : α} (h : l[k]? = some c) : l.take (k + 1) = l.take k ++ [c] := by
  obtain ⟨h1, h2⟩ := List.getElem?_eq_some_iff.1 h
  rw [List.take_succ_eq_append_getElem h1, h2]
theorem body_at {r : List Byt} {k : Nat} {x : Byt} (h : r[k]? = some x) : bodyT (r.take (k + 1)) = if k = 0 then cellT x else bodyT (r.take k) ++ ([44] ++ cellT x) := by
  have h1 := (List.getElem?_eq_some_iff.1 h).1
  rw [take_snoc h, body_snoc, List.length_take, Nat.min_eq_left (by omega)]
theorem cell_len (x : Byt) : (cellT x).length ≤ 2 * x.length + 2 := by
  unfold cellT
  have := dbl_len x
  split <;> simp <;> omega
set_option maxRecDepth 20000 in
set_option maxHeartbeats 8000000 in
theorem csv_Row (m : Int) (A : Option Addr) (C : Nat) (xs : List Byt) (w : World) (hm : Mx m w) (hx : Txts w A xs) (hl : ∀ (i : Nat) (x : Byt), xs[i]? = some x → x.length ≤ 2000) (hlen : xs.length ≤ 10000) (hlb : (bodyT xs).length ≤ 100000) :
    Calls Tryd.prog 12 #[.slice A xs.length C] w fun e w' => e = .returned (.string (txt (rowT xs))) ∧ Below w.heap.size w w' := by
  have hN := Bld.fresh w
  have cC : ∀ (x : Byt) w', x.length ≤ 2000 → Below w.heap.size w w' → Calls Tryd.prog 10 #[.string (txt x)] w' fun e w'' => e = .returned (.string (txt (cellT x))) ∧ Below w'.heap.size w' w'' := fun x w' hx hb => csv_Cell m x w' (hm.below hb hm.pos) (by omega)
  have hbt := body_take xs
  have CC := Lib.hid cC
  have HX := Lib.hid hx
  have HL := Lib.hid hl
  have HBT := Lib.hid hbt
  have HBA := Lib.hid (fun k x => @body_at xs k x)
  clear cC hx hl hm hbt
  go_enter Tryd.func12, Tryd.ntmps12
  go_wp2_with (with_reducible refine hold_loop ?_)
  have k0 : Blk (w.alloc (.cells #[.pointer none, .slice none 0 0] 50)) (w.heap.size) 50 #[.pointer none, .slice none 0 0] := (blk_at (by simp))
  have hB : Below w.heap.size w (w.alloc (.cells #[.pointer none, .slice none 0 0] 50)) := (bel_at (Below.refl _ _) (.cells #[.pointer none, .slice none 0 0] 50))
  generalize (w.alloc (.cells #[.pointer none, .slice none 0 0] 50)) = w1 at *
  (try clear k0c k0f k0z); have k0c := fun i => Blk.cell k0 i; have k0f := fun i => Blk.free k0 i; have k0z := Blk.lt k0
  clear k0 k0c k0f
  unfold Hold
  have HB := Lib.hid hB
  clear hB
  go_loopw [8] (fun i wr => ∃ k : Nat, k ≤ xs.length ∧ i = .int .i64 (k : Int) ∧ Hid (BldT w.heap.size w.heap.size (bodyT (xs.take k)) wr) ∧ Below w.heap.size w wr) (fun i _ => xs.length - (intOf i).toNat)
  case atStart => exact ⟨0, by omega, val_int (by omega), hN, HB.out⟩
  case round =>
    obtain ⟨k, hk, rfl, hbl, hb⟩ := hrel
    have hbw : Below w.heap.size w wr := hb
    by_cases hlt : k < xs.length
    · obtain ⟨x, hg⟩ := at_some hlt
      obtain ⟨b, off, rfl, hbk, hce⟩ := HX.out (by omega)
      have z := (hbw.cell (p := ⟨b, off + k * 1 + 0, none⟩) hbk).trans (hce k x hg 0 _ rfl)
      simp only [Nat.mul_one, Nat.add_zero] at z
      have hxl := HL.out k x hg
      have l1 := HBT.out k
      have l2 := HBT.out (k + 1)
      have l3 := cell_len x
      have e1 := HBA.out k x hg
      have L3 : (cellT x).length ≤ 4002 := by omega
      have cX := CC.out x wr hxl hbw
      have E1 := Lib.hid e1
      clear l3 hce hg e1 hb
      have HXL := Lib.hid hxl
      clear hxl
      have HB1 := Lib.hid hbw
      have hbz : b < wr.heap.size := by have := hbw.size; omega
      have hwz := hbw.size
      clear hbw
      rcases Nat.eq_zero_or_pos k with h0 | h0
      · rw [if_pos h0] at E1
        have hbl0 : BldT w.heap.size w.heap.size [] wr := by
          have := hbl.out
          rw [h0] at this
          simpa [bodyT] using this
        have HBL := Lib.hid hbl0
        have hd1 : decide ((0 : Int) < (k : Int)) = false := decide_eq_false (by omega)
        have hd2 : decide (0 < k) = false := decide_eq_false (by omega)
        clear hbl0 hbl h0
        go_wp2_with fail
        refine cX.mono ?_
        rintro e w2 ⟨rfl, hb2⟩
        have hbl2 := HBL.out.below hb2
        have hb2' := HB1.out.trans (hb2.mono hwz)
        clear hb2
        go_wp2_with fail
        refine (bldt_str _ _ [] (cellT x) _ hbl2 (by simp only [List.length_nil]; omega) (by have := hb2'.size; omega)).mono ?_
        rintro e w3 ⟨rfl, hbl3, hb3⟩
        have hb3' := hb2'.trans hb3
        clear hbl2 hb3 hb2'
        go_wp2
        go_roundw
        case rel => exact ⟨k + 1, by omega, by go_num, by rw [E1.out]; exact hbl3, hb3'⟩
        case measure => simp [intOf]; omega
      · rw [if_neg (by omega)] at E1
        go_wp2_with fail
        refine (bldt_byte _ _ _ 44 _ hbl.out (by omega) (by omega)).mono ?_
        rintro e w2 ⟨rfl, hbl2, hb2⟩
        have hb2' := HB1.out.trans hb2
        have cX2 := CC.out x w2 HXL.out hb2'
        have hbs := hbl2
        clear hbl2 hb2 hbl
        go_wp2_with fail
        refine cX2.mono ?_
        rintro e w3 ⟨rfl, hb3⟩
        have hbl3 := hbs.below hb3
        have hb3' := hb2'.trans (hb3.mono (by have := hb2'.size; omega))
        clear hb3 hb2' hbs
        go_wp2_with fail
        refine (bldt_str _ _ _ (cellT x) _ hbl3 (by simp only [List.length_append, List.length_cons, List.length_nil]; omega) (by have := hb3'.size; omega)).mono ?_
        rintro e w4 ⟨rfl, hbl4, hb4⟩
        have hb4' := hb3'.trans hb4
        clear hbl3 hb4 hb3'
        go_wp2
        go_roundw
        case rel => exact ⟨k + 1, by omega, by go_num, by rw [E1.out, ← List.append_assoc]; exact hbl4, hb4'⟩
        case measure => simp [intOf]; omega
    · obtain rfl : k = xs.length := by omega
      rw [List.take_length] at hbl
      have HB1 := Lib.hid hbw
      have hwz := hbw.size
      clear hbw hb
      go_wp2_with fail
      refine (bldt_byte _ _ _ 10 _ hbl.out (by omega) (by omega)).mono ?_
      rintro e w2 ⟨rfl, hbl2, hb2⟩
      have hb2' := HB1.out.trans hb2
      clear hb2
      go_wp2_with fail
      refine (Tryd.Builder_String_any _ _ _ _ hbl2 (by have := hb2'.size; omega)).mono ?_
      rintro e w3 ⟨rfl, hb3⟩
      have hb3' := hb2'.trans hb3
      go_wp2
      go_ret
      exact ⟨rfl, hb3'⟩
end Go.Proofs.YtgfhgopfhcakhaaDoor
