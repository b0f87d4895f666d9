
/-
  strings.Builder over a text that is a list of bytes. Condition: the text is not too long.
-/
import Derived.Test.YtgfhgopfhcakhaaDoorBld
import Derived.Test.YtgfhgopfhcakhaaDoorTxt
set_option linter.unusedVariables false
set_option linter.unusedSimpArgs false
namespace Go.Proofs.YtgfhgopfhcakhaaDoor
open Go.Joins Go.ChangeShapes Go.WideShapes Go.ChangeAt Go.RowKit Go.Deep

abbrev BldT (B b : Nat) (l : List UInt8) (w : World) : Prop := Bld B b (Lib.byteCells l) w
theorem bldt_str (B b : Nat) (l m : List UInt8) (w : World) (h : BldT B b l w) (hlen : l.length + m.length ≤ 1000000) (hBw : B ≤ w.heap.size) :
    Calls Tryd.prog 23 #[.pointer (some ⟨b, 0, none⟩), .string (txt m)] w fun e w' => e = .returned (.tuple #[.int .i64 (m.length : Int), .nilIface]) ∧ (BldT B b (l ++ m) w' ∧ Below B w w') := by
  have h1 := bld_str B b (Lib.byteCells l) (txt m) w h (by rw [Lib.byteCells_length, txt_size]; omega) hBw
  rw [txt_size] at h1
  refine h1.mono ?_
  rintro e w' ⟨rfl, hb, hbel⟩
  refine ⟨rfl, ?_, hbel⟩
  show Bld B b (Lib.byteCells (l ++ m)) w'
  have : Lib.byteCells (l ++ m) = Lib.byteCells l ++ Lib.strCells (txt m) := by simp [Lib.byteCells, Lib.strCells, txt]
  rw [this]
  exact hb
theorem bldt_byte (B b : Nat) (l : List UInt8) (c : UInt8) (w : World) (h : BldT B b l w) (hlen : l.length ≤ 1000000) (hBw : B ≤ w.heap.size) :
    Calls Tryd.prog 28 #[.pointer (some ⟨b, 0, none⟩), .int .u8 (c.toNat : Int)] w fun e w' => e = .returned .nilIface ∧ (BldT B b (l ++ [c]) w' ∧ Below B w w') := by
  have h1 := bld_byte B b (Lib.byteCells l) (c.toNat : Int) w h (by rw [Lib.byteCells_length]; omega) hBw
  refine h1.mono ?_
  rintro e w' ⟨rfl, hb, hbel⟩
  refine ⟨rfl, ?_, hbel⟩
  show Bld B b (Lib.byteCells (l ++ [c])) w'
  have : Lib.byteCells (l ++ [c]) = Lib.byteCells l ++ [.int .u8 (c.toNat : Int)] := by simp [Lib.byteCells]
  rw [this]
  exact hb
end Go.Proofs.YtgfhgopfhcakhaaDoor
