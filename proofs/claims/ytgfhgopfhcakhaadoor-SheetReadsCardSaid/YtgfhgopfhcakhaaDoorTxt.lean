
/-
  Bytes, cuts and comparisons of a text that is a list of bytes. Conditions: as each says.
-/
import Derived.Test.YtgfhgopfhcakhaaDoorBase
import Derived.Test.YtgfhgopfhcakhaaDoorDecP
import Derived.Lib.Strings
set_option linter.unusedVariables false
set_option linter.unusedSimpArgs false
namespace Go.Proofs.YtgfhgopfhcakhaaDoor
open Go.Joins Go.ChangeShapes Go.WideShapes Go.ChangeAt Go.RowKit Go.Deep

theorem txt_toList (l : List UInt8) : (txt l).toList = l := by rw [Go.ByteArray.toList_eq]; simp [txt]
theorem txt_get (l : List UInt8) (k : Nat) (c : UInt8) (h : l[k]? = some c) (hk : k < (txt l).size) : (txt l)[k]'hk = c := by
  obtain ⟨h1, h2⟩ := List.getElem?_eq_some_iff.1 h
  rw [← h2]; rfl
theorem ix_txt (l : List UInt8) (i : Int) (k : Nat) (c : UInt8) (hi : i = k) (h : l[k]? = some c) (kd : IntKind) (w : World) :
    (Instr.index 9 (.string (txt l)) (.int kd i)).run Tryd.prog w = .ok (.int .u8 (c.toNat : Int)) w := by
  subst hi
  obtain ⟨h1, h2⟩ := List.getElem?_eq_some_iff.1 h
  rw [run_index_string _ _ _ _ _ Tryd.underlying9]
  have hs := txt_size l
  rw [dif_pos (by omega)]
  have := txt_get l k c h (by omega)
  simp only [Int.toNat_natCast]
  rw [this]
theorem from_txt (l : List UInt8) (i : Int) (k : Nat) (hi : i = k) (h : k ≤ l.length) (w : World) :
    (Instr.slice 9 (.string (txt l)) (some (.int .i64 i)) none none).run Tryd.prog w = .ok (.string (txt (l.drop k))) w := by
  subst hi
  have hs := txt_size l
  rw [run_slice_string_from_if _ _ _ _ _ Tryd.underlying9, if_pos (by omega), Lib.extract_eq, hs]
  simp only [txt, Int.toNat_natCast]
  rw [List.take_of_length_le (by simp)]
theorem upto_txt (l : List UInt8) (i : Int) (k : Nat) (hi : i = k) (h : k ≤ l.length) (w : World) :
    (Instr.slice 9 (.string (txt l)) none (some (.int .i64 i)) none).run Tryd.prog w = .ok (.string (txt (l.take k))) w := by
  subst hi
  have hs := txt_size l
  rw [run_slice_string_to_if _ _ _ _ _ Tryd.underlying9, if_pos (by omega), Lib.extract_eq]
  simp [txt]
theorem eq_txt (l m : List UInt8) : ((txt l).toList == (txt m).toList) = (l == m) := by rw [txt_toList, txt_toList]
end Go.Proofs.YtgfhgopfhcakhaaDoor
