
/-
  Rows of texts, written: csv.Text. Conditions: the texts are not too long; the library's variable lies.
-/
import Derived.Test.YtgfhgopfhcakhaaDoorCsvR
set_option linter.unusedVariables false
set_option linter.unusedSimpArgs false
namespace Go.Proofs.YtgfhgopfhcakhaaDoor
open Go Go.Joins Go.ChangeShapes Go.WideShapes Go.ChangeAt Go.RowKit Go.Deep

theorem rows_app (r s : List (List Byt)) : rowsT (r ++ s) = rowsT r ++ rowsT s := by
  induction r with
  | nil => simp [rowsT]
  | cons x r ih => rw [List.cons_append, rowsT, ih, rowsT, List.append_assoc]
theorem rows_at {r : List (List Byt)} {k : Nat} {x : List Byt} (h : r[k]? = some x) : rowsT (r.take (k + 1)) = rowsT (r.take k) ++ rowT x := by
  rw [take_snoc h, rows_app]
  simp [rowsT]
theorem rows_take (r : List (List Byt)) (k : Nat) : (rowsT (r.take k)).length ≤ (rowsT r).length := by
  have : (rowsT (r.take k ++ r.drop k)).length = (rowsT r).length := by rw [List.take_append_drop]
  rw [rows_app, List.length_append] at this
  omega
/-- Rows of texts that are not too long. -/
structure RowsOk (xss : List (List Byt)) : Prop where
  len : xss.length ≤ 10000
  all : (rowsT xss).length ≤ 100000
  rows : ∀ (i : Nat) (xs : List Byt), xss[i]? = some xs → xs.length ≤ 10000 ∧ (rowT xs).length ≤ 100000 ∧ ∀ (j : Nat) (x : Byt), xs[j]? = some x → x.length ≤ 2000
theorem csv_RowR (m : Int) {xss : List (List Byt)} (ok : RowsOk xss) {i : Nat} {xs : List Byt} (hi : xss[i]? = some xs) (A : Option Addr) (C : Nat) (w : World) (hm : Mx m w) (hx : Txts w A xs) :
    Calls Tryd.prog 12 #[.slice A xs.length C] w fun e w' => e = .returned (.string (txt (rowT xs))) ∧ Below w.heap.size w w' := by
  obtain ⟨h1, h2, h3⟩ := ok.rows i xs hi
  exact csv_Row m A C xs w hm hx h3 h1 (by unfold rowT at h2; simp at h2; omega)
set_option maxRecDepth 20000 in
set_option maxHeartbeats 8000000 in
theorem csv_Text (m : Int) (A : Option Addr) (C : Nat) (xss : List (List Byt)) (w : World) (hm : Mx m w) (hx : TxtRows w A xss) (ok : RowsOk xss) :
    Calls Tryd.prog 9 #[.slice A xss.length C] w fun e w' => e = .returned (.string (txt (rowsT xss))) ∧ Below w.heap.size w w' := by
  have hN := Bld.fresh w
  have cC : ∀ (i : Nat) (xs : List Byt) (A' : Option Addr) (C' : Nat) w', xss[i]? = some xs → Txts w' A' xs → Below w.heap.size w w' → Calls Tryd.prog 12 #[.slice A' xs.length C'] w' fun e w'' => e = .returned (.string (txt (rowT xs))) ∧ Below w'.heap.size w' w'' := fun i xs A' C' w' hi hx hb => csv_RowR m ok hi A' C' w' (hm.below hb hm.pos) hx
  have hbt := rows_take xss
  have CC := Lib.hid cC
  have HX := Lib.hid hx
  have HBT := Lib.hid hbt
  have HBA := Lib.hid (fun k x => @rows_at xss k x)
  have hlen := ok.len
  have hlb := ok.all
  clear cC hx hm hbt ok
  go_enter Tryd.func9, Tryd.ntmps9
  go_wp2_with (with_reducible refine hold_loop ?_)
  have k0 : Blk (w.alloc (.cells #[.pointer none, .slice none 0 0] 50)) (w.heap.size) 50 #[.pointer none, .slice none 0 0] := (blk_at (by simp))
  have hB : Below w.heap.size w (w.alloc (.cells #[.pointer none, .slice none 0 0] 50)) := (bel_at (Below.refl _ _) (.cells #[.pointer none, .slice none 0 0] 50))
  generalize (w.alloc (.cells #[.pointer none, .slice none 0 0] 50)) = w1 at *
  (try clear k0c k0f k0z); have k0c := fun i => Blk.cell k0 i; have k0f := fun i => Blk.free k0 i; have k0z := Blk.lt k0
  clear k0 k0c k0f
  unfold Hold
  have HB := Lib.hid hB
  clear hB
  go_loopw [8] (fun i wr => ∃ k : Nat, k ≤ xss.length ∧ i = .int .i64 (k : Int) ∧ Hid (BldT w.heap.size w.heap.size (rowsT (xss.take k)) wr) ∧ Below w.heap.size w wr) (fun i _ => xss.length - (intOf i).toNat)
  case atStart => exact ⟨0, by omega, val_int (by omega), hN, HB.out⟩
  case round =>
    obtain ⟨k, hk, rfl, hbl, hb⟩ := hrel
    by_cases hlt : k < xss.length
    · obtain ⟨xs, hg⟩ := at_some hlt
      obtain ⟨b, off, rfl, hbk, hce⟩ := HX.out (by omega)
      obtain ⟨A', C', z, hel⟩ := hce k xs hg
      replace z := (hb.cell (p := ⟨b, off + k, none⟩) hbk).trans z
      replace hel := hel.below hb
      have l1 := HBT.out k
      have l2 := HBT.out (k + 1)
      have e1 := HBA.out k xs hg
      have cX := CC.out k xs A' C' wr hg hel hb
      have l3 : (rowsT (xss.take k)).length + (rowT xs).length ≤ 100000 := by rw [e1, List.length_append] at l2; omega
      have E1 := Lib.hid e1
      have HB1 := Lib.hid hb
      have hbz : b < wr.heap.size := by have := hb.size; omega
      have hwz := hb.size
      clear hce hg e1 hb hel
      go_wp2_with fail
      refine cX.mono ?_
      rintro e w2 ⟨rfl, hb2⟩
      have hbl2 := hbl.out.below hb2
      have hb2' := HB1.out.trans (hb2.mono hwz)
      clear hb2 hbl
      go_wp2_with fail
      refine (bldt_str _ _ _ (rowT xs) _ hbl2 (by omega) (by have := hb2'.size; omega)).mono ?_
      rintro e w3 ⟨rfl, hbl3, hb3⟩
      have hb3' := hb2'.trans hb3
      clear hbl2 hb3 hb2'
      go_wp2
      go_roundw
      case rel => exact ⟨k + 1, by omega, by go_num, by rw [E1.out]; exact hbl3, hb3'⟩
      case measure => simp [intOf]; omega
    · obtain rfl : k = xss.length := by omega
      rw [List.take_length] at hbl
      have HB1 := Lib.hid hb
      have hwz := hb.size
      clear hb
      go_wp2_with fail
      refine (Tryd.Builder_String_any _ _ _ _ hbl.out (by omega)).mono ?_
      rintro e w3 ⟨rfl, hb3⟩
      have hb3' := HB1.out.trans hb3
      clear hb3
      go_wp2
      go_ret
      exact ⟨rfl, hb3'⟩
end Go.Proofs.YtgfhgopfhcakhaaDoor
