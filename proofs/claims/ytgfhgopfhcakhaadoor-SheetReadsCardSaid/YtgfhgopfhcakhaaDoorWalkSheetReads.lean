
/-
  The law SheetReads: any text as trips, or that there are none.
-/
import Derived.Test.YtgfhgopfhcakhaaDoorShtF
import Derived.Test.YtgfhgopfhcakhaaDoorShtA
import Derived.Test.YtgfhgopfhcakhaaDoorArgS
import Derived.Test.YtgfhgopfhcakhaaDoorDoorF
set_option linter.unusedVariables false
set_option linter.unusedSimpArgs false
namespace Go.Proofs.YtgfhgopfhcakhaaDoor
open Go Go.Joins Go.ChangeShapes Go.WideShapes Go.ChangeAt Go.RowKit Go.Deep

set_option maxRecDepth 20000 in
set_option maxHeartbeats 16000000 in
theorem walkSheetReads {H : Type} (W : World) (base : Nat) (enc : TypeId × Value → H) {v0 : Value} {d0 : DataW H} {p0 : List MemPlace}
    (h0 : DataW.Trod enc Tryd.prog W 0 (fun _ => true) true 9 v0 d0 p0)
    (o0 : Value.okWide Tryd.prog W .any base 9 v0) {mx : Int} (hT : Mx mx W) :
    Calls Tryd.prog 6 #[v0] W fun e W' => e = .returned (.bool true) ∧ Below W.heap.size W W' := by
  obtain ⟨l, rfl, hlb⟩ := arg_str o0 h0
  have hsz := txt_size l
  clear h0 o0
  by_cases hlen : 2000 < l.length
  · go_enter Tryd.func6, Tryd.ntmps6
    go_wp2
    go_ret
    exact ⟨rfl, Below.refl _ _⟩
  · have hok : ∀ out, readS l.length l [] [] = some out → RowsOk out := fun out h => by
      rw [read_iff] at h
      by_cases e : rowsT (looseS l [] [] [] false) = l
      · rw [if_pos e] at h
        injection h with h
        rw [← h]
        exact loose_ok (by omega) e
      · rw [if_neg e] at h; cases h
    have cR := sheet_Read mx l W hT (by omega) hok
    have cL := fun w => ref57_Read l w (by omega)
    have cA := fun w' (hb : Below W.heap.size W w') => alive57 mx w' (hT.below hb hT.pos)
    have hfew : ∀ out, refS l = some out → out.length ≤ 300 := fun out h => by
      unfold refS at h
      split at h
      · rename_i hc
        injection h with h
        rw [← h, List.length_map]
        exact tail_few (by omega) hc.1 (loose_ne l [] [] [] false (by simp)) hc.2.1
      · cases h
    rw [sheet_ref] at cR
    clear hok
    cases hS : refS l with
    | none =>
      rw [hS] at cR
      simp only [hS] at cL
      have CR := Lib.hid cR
      have CL := Lib.hid cL
      have CA := Lib.hid cA
      clear cR cL cA hT hS hfew
      go_enter Tryd.func6, Tryd.ntmps6
      go_wp2_with fail
      refine CR.out.mono ?_
      rintro e w2 ⟨rfl, hb2⟩
      go_wp2_with fail
      refine (CL.out _).mono ?_
      rintro e w3 ⟨rfl, hb3⟩
      have hbw := hb2.trans (hb3.mono hb2.size)
      have cA3 := CA.out w3 hbw
      clear hb2 hb3
      go_wp2_with fail
      refine cA3.mono ?_
      rintro e w4 ⟨rfl, hb4⟩
      go_wp2
      go_ret
      exact ⟨rfl, hbw.trans (hb4.mono hbw.size)⟩
    | some ts =>
      have hts := hfew ts hS
      rw [hS] at cR
      simp only [hS] at cL
      have CR := Lib.hid cR
      have CL := Lib.hid cL
      have CA := Lib.hid cA
      clear cR cL cA hT hS hfew
      go_enter Tryd.func6, Tryd.ntmps6
      go_wp2_with fail
      refine CR.out.mono ?_
      rintro e w2 ⟨A, C, rfl, hr, hb2⟩
      go_wp2_with fail
      refine (CL.out _).mono ?_
      rintro e w3 ⟨B, D, rfl, hr2, hb3⟩
      have hbw := Lib.hid (hb2.trans (hb3.mono hb2.size))
      have CS := Lib.hid (trips_same A B C D ts w3 (hr.below hb3) hr2 (by omega))
      clear hr hr2 hb2 hb3
      go_wp2_with fail
      refine CS.out.mono ?_
      rintro e w4 ⟨rfl, hb4⟩
      have hb4' := Lib.hid (hbw.out.trans (hb4.mono hbw.out.size))
      have cA4 := Lib.hid (CA.out w4 hb4'.out)
      clear hb4
      go_wp2_with fail
      refine cA4.out.mono ?_
      rintro e w5 ⟨rfl, hb5⟩
      go_wp2
      go_ret
      exact ⟨rfl, hb4'.out.trans (hb5.mono hb4'.out.size)⟩
end Go.Proofs.YtgfhgopfhcakhaaDoor
