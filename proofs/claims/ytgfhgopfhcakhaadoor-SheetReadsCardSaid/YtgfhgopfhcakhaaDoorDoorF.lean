
/-
  A row of this seat, from its walk: the library's variable holds a number (from the world's shape); a start that meets the row's tables.
-/
import Derived.Test.YtgfhgopfhcakhaaDoorCsvM
import Derived.Test.YtgfhgopfhcakhaaDoorRows
import Derived.LaidMore
import Derived.Lay
import Derived.OpenShut
import Derived.Stop.Joined
import Derived.HandedShaped
set_option linter.unusedVariables false
set_option linter.unusedSimpArgs false
namespace Go.Proofs.YtgfhgopfhcakhaaDoor
open Go Go.Joins Go.ChangeShapes Go.WideShapes Go.ChangeAt Go.RowKit

abbrev laidT : List (String × DataW Unit) := [("unicode/utf8.acceptRanges", Rows.laid_unicode_utf8_acceptRanges), ("unicode/utf8.first", Rows.laid_unicode_utf8_first)]
theorem mx_of {W : World} (h : W.ShapedOpen Tryd.prog) : ∃ m, Mx m W := by
  obtain ⟨m, hm⟩ := Tryd.laysM155.s1_3 W h
  refine ⟨m, hm, ?_⟩
  apply Nat.pos_of_ne_zero
  intro e
  have h0 : W.cell? ⟨0, 0, none⟩ = some (.int .i64 m) := hm
  unfold World.cell? at h0
  have : W.heap = #[] := Array.size_eq_zero_iff.1 e
  simp [this] at h0
theorem door_met (os : Os) (args : Array Value) : laidMetH Tryd.prog laidT ((World.laidAll Tryd.prog os laidT).forCall (fun _ _ => 0) ⟨#[], args, []⟩).memory := by
  rw [MakeChecks.laidMetH_plain _ _ _ (by kernel_rfl)]
  exact laidMet_laidAll _ (by kernel_rfl) (by kernel_rfl)
end Go.Proofs.YtgfhgopfhcakhaaDoor
