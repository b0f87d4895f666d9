
/-
  A text argument, opened as a list of bytes. No conditions.
-/
import Derived.Test.YtgfhgopfhcakhaaDoorArgI
import Derived.Test.YtgfhgopfhcakhaaDoorTxt
import Derived.ChangeMaps5
set_option linter.unusedVariables false
set_option linter.unusedSimpArgs false
namespace Go.Proofs.YtgfhgopfhcakhaaDoor
open Go.ChangeShapes Go.WideShapes Go.ChangeAt Go.RowKit Go.Deep
section
variable {H : Type} {enc : TypeId × Value → H} {W : World} {base : Nat} {v : Value} {d : DataW H} {p : List MemPlace}
theorem txt_data (s : ByteArray) : txt s.data.toList = s := by unfold txt; exact Lib.mk_data s
set_option maxRecDepth 100000 in
theorem arg_str (o : Value.okWide Tryd.prog W .any base 9 v) (h : DataW.Trod enc Tryd.prog W 0 (fun _ => true) true 9 v d p) : ∃ l : List UInt8, v = .string (txt l) ∧ l.length < 9223372036854775808 := by
  obtain ⟨s, rfl, _, _, hz⟩ := Go.ChangeMaps.open_string Tryd.underlying9 o h
  refine ⟨s.data.toList, by rw [txt_data], ?_⟩
  have : s.size = s.data.toList.length := Lib.size_eq s
  unfold maxLen at hz
  omega
end
end Go.Proofs.YtgfhgopfhcakhaaDoor
