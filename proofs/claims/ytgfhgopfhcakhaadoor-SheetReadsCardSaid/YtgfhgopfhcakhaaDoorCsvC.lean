
/-
  A text in a row: csv.Cell; the document's plain and Cell. Conditions: the text is not too long; the library's variable lies.
-/
import Derived.Test.YtgfhgopfhcakhaaDoorCsvW
import Derived.Test.YtgfhgopfhcakhaaDoorTail
set_option linter.unusedVariables false
set_option linter.unusedSimpArgs false
namespace Go.Proofs.YtgfhgopfhcakhaaDoor
open Go Go.Joins Go.ChangeShapes Go.WideShapes Go.ChangeAt Go.RowKit Go.Deep

/-- The library's variable holds some number. -/
structure Mx (m : Int) (w : World) : Prop where
  cell : w.cell? ⟨0, 0, none⟩ = some (.int .i64 m)
  pos : 0 < w.heap.size
theorem Mx.below {m : Int} {B : Nat} {w w' : World} (h : Mx m w) (hb : Below B w w') (hB : 0 < B) : Mx m w' :=
  ⟨by rw [← h.cell]; exact hb.cell (p := ⟨0, 0, none⟩) hB, by have := hb.size; have := h.pos; omega⟩
theorem Mx.out {m : Int} {w : World} (h : Mx m w) (g : Grow w) : Mx m g.world := h.below (Grow.below g) h.pos
theorem data_txt (l : Byt) : (txt l).data.toList = l := by simp [txt]
theorem csv_repl (m : Int) (l : Byt) (w : World) (hm : Mx m w) (hl : l.length ≤ 1000000) :
    Calls Tryd.prog 26 #[.string (txt l), .string ⟨#[34]⟩, .string ⟨#[34, 34]⟩] w fun e w' => e = .returned (.string (txt (dbl l))) ∧ Below w.heap.size w w' := by
  have h := Tryd.strings_ReplaceAll (txt l) ⟨#[34]⟩ ⟨#[34, 34]⟩ m w (by rw [txt_size]; omega) hm.cell (by decide) (by
    have h1 := Lib.countB_le ⟨#[34]⟩ (by decide) (txt l).size (txt l) (Nat.le_refl _)
    rw [txt_size] at h1 ⊢
    show _ + _ * 2 ≤ _
    omega)
  rw [data_txt, show (⟨#[34]⟩ : ByteArray).data.toList = [34] from rfl, show (⟨#[34, 34]⟩ : ByteArray).data.toList = [34, 34] from rfl, replAll_dbl] at h
  exact h
theorem cell_cat (l : Byt) : ((⟨#[34]⟩ : ByteArray) ++ txt (dbl l)) ++ ⟨#[34]⟩ = txt (34 :: (dbl l ++ [34])) := by
  rw [show (⟨#[34]⟩ : ByteArray) = txt [34] from rfl, txt_append, txt_append]
  rfl
theorem dbl_len (l : Byt) : (dbl l).length ≤ 2 * l.length := by
  induction l with
  | nil => simp [dbl]
  | cons c l ih => unfold dbl; split <;> simp <;> omega
set_option maxHeartbeats 1000000 in
theorem csv_Cell (m : Int) (l : Byt) (w : World) (hm : Mx m w) (hl : l.length ≤ 1000000) :
    Calls Tryd.prog 10 #[.string (txt l)] w fun e w' => e = .returned (.string (txt (cellT l))) ∧ Below w.heap.size w w' := by
  have c1 := fun w => csv_plain l w hl
  have h2 := dbl_len l
  have hsz := txt_size (dbl l)
  unfold cellT
  cases hp : plainT l
  · rw [hp] at c1
    have C1 := Lib.hid c1
    have hv : (if false = true then l else 34 :: (dbl l ++ [34])) = 34 :: (dbl l ++ [34]) := rfl
    rw [hv, ← cell_cat]
    have C2 : ∀ w', Below w.heap.size w w' → Calls Tryd.prog 26 #[.string (txt l), .string ⟨#[34]⟩, .string ⟨#[34, 34]⟩] w' fun e w'' => e = .returned (.string (txt (dbl l))) ∧ Below w'.heap.size w' w'' := fun w' hb => csv_repl m l w' (hm.below hb hm.pos) hl
    have C2 := Lib.hid C2
    clear c1 hv hp
    generalize txt (dbl l) = d at *
    generalize txt l = s at *
    go_enter Tryd.func10, Tryd.ntmps10
    go_wp2_with fail
    refine (C1.out _).mono ?_
    rintro e w1 ⟨rfl, hb1⟩
    go_wp2_with fail
    refine (C2.out _ hb1).mono ?_
    rintro e w2 ⟨rfl, hb2⟩
    go_wp2
    go_ret
    exact ⟨rfl, hb1.trans (hb2.mono hb1.size)⟩
  · rw [hp] at c1
    have C1 := Lib.hid c1
    have hv : (if true = true then l else 34 :: (dbl l ++ [34])) = l := rfl
    rw [hv]
    clear c1 hv hp
    go_enter Tryd.func10, Tryd.ntmps10
    go_wp2_with fail
    refine (C1.out _).mono ?_
    rintro e w1 ⟨rfl, hb1⟩
    go_wp2
    go_ret
    exact ⟨rfl, hb1⟩
end Go.Proofs.YtgfhgopfhcakhaaDoor
