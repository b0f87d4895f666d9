
/-
  The law SheetTexts: any trips as a sheet, which is read as they were.
-/
import Derived.Test.YtgfhgopfhcakhaaDoorShtF
import Derived.Test.YtgfhgopfhcakhaaDoorShtA
import Derived.Test.YtgfhgopfhcakhaaDoorArgA
import Derived.Test.YtgfhgopfhcakhaaDoorDoorF
set_option linter.unusedVariables false
set_option linter.unusedSimpArgs false
namespace Go.Proofs.YtgfhgopfhcakhaaDoor
open Go Go.Joins Go.ChangeShapes Go.WideShapes Go.ChangeAt Go.RowKit Go.Deep

set_option maxRecDepth 20000 in
set_option maxHeartbeats 16000000 in
theorem sheets_1 (A : Option Addr) (C : Nat) (xs : List Trip) (mx : Int) (W : World) (hx : Trips W A xs) (hT : Mx mx W) (hok : ∀ (i : Nat) (t : Trip), xs[i]? = some t → t.ok) :
    Calls Tryd.prog 5 #[.slice A xs.length C] W fun e W' => e = .returned (.bool true) ∧ Below W.heap.size W W' := by
  by_cases hlen : 100 < xs.length
  · clear hx hT hok
    go_enter Tryd.func5, Tryd.ntmps5
    go_wp2
    go_ret
    exact ⟨rfl, Below.refl _ _⟩
  · have hback := sheet_back (l := xs) (fun t ht => by
      obtain ⟨i, hi⟩ := List.getElem?_of_mem ht
      exact hok i t hi)
    have hrk : ∀ out, readS (sheetT xs).length (sheetT xs) [] [] = some out → RowsOk out := fun out h => by
      have h1 := read_sound h
      have h2 := rows_inj h1.2 (sheetRows_ne xs) h1.1
      rw [h2]
      exact sheet_ok (by omega)
    have hlenT : (sheetT xs).length ≤ 100000 := (sheet_ok (l := xs) (by omega)).all
    have cT := sheet_Text mx A C xs W hT hx (by omega) hok
    have cR := fun w' (hb : Below W.heap.size W w') => sheet_Read mx (sheetT xs) w' (hT.below hb hT.pos) hlenT hrk
    rw [hback] at cR
    have cF := fun w' (hb : Below W.heap.size W w') => ref57_Text A C xs w' (hx.below hb) (by omega) hok
    have cA := fun w' (hb : Below W.heap.size W w') => alive57 mx w' (hT.below hb hT.pos)
    have q1 : ((txt (sheetT xs)).toList == (txt (sheetT xs)).toList) = true := by simp
    have CT := Lib.hid cT
    have CR := Lib.hid cR
    have CF := Lib.hid cF
    have CA := Lib.hid cA
    have HX := Lib.hid hx
    clear cT cR cF cA hx hT hok hback hrk hlenT
    generalize txt (sheetT xs) = s at *
    go_enter Tryd.func5, Tryd.ntmps5
    go_wp2_with fail
    refine CT.out.mono ?_
    rintro e w2 ⟨rfl, hb2⟩
    have HB2 := Lib.hid hb2
    have cR2 := Lib.hid (CR.out w2 hb2)
    clear hb2
    go_wp2_with fail
    refine cR2.out.mono ?_
    rintro e w3 ⟨B, D, rfl, hr, hb3⟩
    have HB3 := Lib.hid (HB2.out.trans (hb3.mono HB2.out.size))
    have HR := Lib.hid hr
    have cF3 := Lib.hid (CF.out w3 HB3.out)
    clear hb3 hr
    go_wp2_with fail
    refine cF3.out.mono ?_
    rintro e w4 ⟨rfl, hb4⟩
    have HB4 := Lib.hid (HB3.out.trans (hb4.mono HB3.out.size))
    have cS := Lib.hid (trips_same B A D C xs w4 (HR.out.below hb4) (HX.out.below HB4.out) (by omega))
    clear hb4
    go_wp2_with fail
    refine cS.out.mono ?_
    rintro e w5 ⟨rfl, hb5⟩
    have HB5 := Lib.hid (HB4.out.trans (hb5.mono HB4.out.size))
    have cA5 := Lib.hid (CA.out w5 HB5.out)
    clear hb5
    go_wp2_with fail
    refine cA5.out.mono ?_
    rintro e w6 ⟨rfl, hb6⟩
    go_wp2
    go_ret
    exact ⟨rfl, HB5.out.trans (hb6.mono HB5.out.size)⟩
theorem walkSheetTexts {H : Type} (W : World) (base : Nat) (enc : TypeId × Value → H) {v0 : Value} {d0 : DataW H} {p0 : List MemPlace}
    (h0 : DataW.Trod enc Tryd.prog W 0 (fun _ => true) true 37 v0 d0 p0)
    (o0 : Value.okWide Tryd.prog W .any base 37 v0) {mx : Int} (hT : Mx mx W) :
    Calls Tryd.prog 5 #[v0] W fun e W' => e = .returned (.bool true) ∧ Below W.heap.size W W' := by
  obtain ⟨n, hn⟩ := arg_slice Tryd.underlying37 o0 h0
  obtain ⟨xs, hxs⟩ := read_slice (size := 7) Tryd.underlying37 (by kernel_rfl) (by decide) (fun _ _ _ h => read_Trip h) hn
  obtain ⟨A, C, rfl, c1, c2⟩ := slice_len hxs
  exact sheets_1 A C xs mx W (elems_of (ok := Trip.ok) (fun _ _ _ h => h.1) hxs) hT (oks_of (fun _ _ _ h => h.2) hxs)
end Go.Proofs.YtgfhgopfhcakhaaDoor
