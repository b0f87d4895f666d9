
/-
  The law CsvReads: any text as rows, or that it is none.
-/
import Derived.Test.YtgfhgopfhcakhaaDoorCsvO
import Derived.Test.YtgfhgopfhcakhaaDoorArgS
import Derived.Test.YtgfhgopfhcakhaaDoorDoorF
set_option linter.unusedVariables false
set_option linter.unusedSimpArgs false
namespace Go.Proofs.YtgfhgopfhcakhaaDoor
open Go Go.Joins Go.ChangeShapes Go.WideShapes Go.ChangeAt Go.RowKit Go.Deep

theorem loose_ok {l : Byt} (hl : l.length ≤ 1000) (h : rowsT (looseS l [] [] [] false) = l) : RowsOk (looseS l [] [] [] false) := by
  have hs := fun (xs : List Byt) (i : Nat) (hi : (looseS l [] [] [] false)[i]? = some xs) => (rows_at hi)
  have hr := fun k => rows_take (looseS l [] [] [] false) k
  rw [h] at hr
  have hne := loose_ne l [] [] [] false (fun r hr => by cases hr)
  have hpos : ∀ r : List Byt, 1 ≤ (rowT r).length := fun r => by rw [rowT, List.length_append]; simp
  have hlen : ∀ r : List Byt, r.length ≤ (bodyT r).length := fun r => by
    induction r with
    | nil => simp
    | cons x r ih =>
      have hx : 1 ≤ (cellT x).length := by cases e : cellT x with | nil => exact absurd e (cellT_ne x) | cons a b => simp
      cases r with
      | nil => simp only [bodyT, List.length_cons, List.length_nil]; omega
      | cons y r => rw [bodyT_cons x (y :: r) (by simp)]; simp only [List.length_append, List.length_cons] at *; omega
  have hcell : ∀ x : Byt, x.length ≤ (cellT x).length := fun x => by
    unfold cellT
    have := dbl_ge x
    split <;> simp <;> omega
  have hrl : (looseS l [] [] [] false).length ≤ (rowsT (looseS l [] [] [] false)).length := by
    generalize looseS l [] [] [] false = rs
    induction rs with
    | nil => simp
    | cons x r ih => have := hpos x; rw [rowsT, List.length_append]; simp only [List.length_cons]; omega
  rw [h] at hrl
  refine ⟨by omega, by rw [h]; omega, fun i xs hi => ?_⟩
  have h1 := hs xs i hi
  have h2 := hr (i + 1)
  rw [h1, List.length_append] at h2
  have h3 := hlen xs
  have h4 : (rowT xs).length = (bodyT xs).length + 1 := by rw [rowT, List.length_append]; rfl
  refine ⟨by omega, by omega, fun j x hj => ?_⟩
  have h5 := body_at hj
  have h6 := body_take xs (j + 1)
  have h7 := hcell x
  rw [h5] at h6
  split at h6
  · omega
  · simp only [List.length_append, List.length_cons, List.length_nil] at h6; omega
set_option maxRecDepth 20000 in
set_option maxHeartbeats 16000000 in
theorem walkCsvReads {H : Type} (W : World) (base : Nat) (enc : TypeId × Value → H) {v0 : Value} {d0 : DataW H} {p0 : List MemPlace}
    (h0 : DataW.Trod enc Tryd.prog W 0 (fun _ => true) true 9 v0 d0 p0)
    (o0 : Value.okWide Tryd.prog W .any base 9 v0) {mx : Int} (hT : Mx mx W) :
    Calls Tryd.prog 4 #[v0] W fun e W' => e = .returned (.bool true) ∧ Below W.heap.size W W' := by
  obtain ⟨l, rfl, hlb⟩ := arg_str o0 h0
  have hsz := txt_size l
  clear h0 o0
  by_cases hlen : 1000 < l.length
  · go_enter Tryd.func4, Tryd.ntmps4
    go_wp2
    go_ret
    exact ⟨rfl, Below.refl _ _⟩
  · have cR := csv_Read l W (by omega)
    rw [read_iff] at cR
    have cL := fun w => ref53_Read l w (by omega)
    unfold LoosePost at cL
    have cA := fun w' (hb : Below W.heap.size W w') => alive53 mx w' (hT.below hb hT.pos)
    by_cases e : rowsT (looseS l [] [] [] false) = l
    · rw [if_pos e] at cR
      simp only [if_pos e] at cL
      have hok := Lib.hid (loose_ok (by omega) e)
      have E := Lib.hid e
      generalize looseS l [] [] [] false = rs at *
      have CR := Lib.hid cR
      have CL := Lib.hid cL
      have CA := Lib.hid cA
      have HT := Lib.hid hT
      clear cR cL cA e hT
      go_enter Tryd.func4, Tryd.ntmps4
      go_wp2_with fail
      refine CR.out.mono ?_
      rintro e w2 ⟨A, C, rfl, hr, hb2⟩
      go_wp2_with fail
      refine (CL.out _).mono ?_
      rintro e w3 ⟨B, D, rfl, hr2, hb3⟩
      have hbw := Lib.hid (hb2.trans (hb3.mono hb2.size))
      have hra := Lib.hid (hr.below hb3)
      have hrb := Lib.hid hr2
      have hrl := fun (i : Nat) (xs : List Byt) (h : rs[i]? = some xs) => (hok.out.rows i xs h).1
      have cS := ref53_Same A B C D rs rs w3 hra.out hrb.out hok.out.len hok.out.len hrl hrl
      rw [decide_eq_true rfl] at cS
      have CS := Lib.hid cS
      clear hr hr2 hb2 hb3 cS hrl
      go_wp2_with fail
      refine CS.out.mono ?_
      rintro e w4 ⟨rfl, hb4⟩
      have hb4' := Lib.hid (hbw.out.trans (hb4.mono hbw.out.size))
      have cT := csv_Text mx A C rs w4 (HT.out.below hb4'.out HT.out.pos) (hra.out.below hb4) hok.out
      rw [E.out] at cT
      have CT := Lib.hid cT
      have q1 : ((txt l).toList == (txt l).toList) = true := by simp
      clear cT hb4
      go_wp2_with fail
      refine CT.out.mono ?_
      rintro e w5 ⟨rfl, hb5⟩
      have hb5' := Lib.hid (hb4'.out.trans (hb5.mono hb4'.out.size))
      have cA5 := Lib.hid (CA.out w5 hb5'.out)
      clear hb5
      go_wp2_with fail
      refine cA5.out.mono ?_
      rintro e w6 ⟨rfl, hb6⟩
      go_wp2
      go_ret
      exact ⟨rfl, hb5'.out.trans (hb6.mono hb5'.out.size)⟩
    · rw [if_neg e] at cR
      simp only [if_neg e] at cL
      have CR := Lib.hid cR
      have CL := Lib.hid cL
      have CA := Lib.hid cA
      clear cR cL cA e hT
      go_enter Tryd.func4, Tryd.ntmps4
      go_wp2_with fail
      refine CR.out.mono ?_
      rintro e w2 ⟨rfl, hb2⟩
      go_wp2_with fail
      refine (CL.out _).mono ?_
      rintro e w3 ⟨rfl, hb3⟩
      have hbw := hb2.trans (hb3.mono hb2.size)
      have cA3 := CA.out w3 hbw
      clear hb2 hb3
      go_wp2_with fail
      refine cA3.mono ?_
      rintro e w4 ⟨rfl, hb4⟩
      go_wp2
      go_ret
      exact ⟨rfl, hbw.trans (hb4.mono hbw.size)⟩
end Go.Proofs.YtgfhgopfhcakhaaDoor
