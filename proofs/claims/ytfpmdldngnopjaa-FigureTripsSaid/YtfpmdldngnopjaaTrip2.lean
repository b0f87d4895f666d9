/-
  Trips within bounds, those that are done: hoistwaylaw24.Great, trip.done. Condition: there are at most 100 trips.
-/
import Derived.Test.YtfpmdldngnopjaaTrip
import Derived.Test.YtfpmdldngnopjaaOwnI
set_option linter.unusedVariables false
set_option linter.unusedSimpArgs false
namespace Go.Proofs.Ytfpmdldngnopjaa
open Go.Joins Go.ChangeShapes Go.WideShapes Go.ChangeAt Go.RowKit Go.Deep

/-- A trip whose ticks may be. -/
def fineT (t : Trip) : Prop := (-1 ≤ t.arrive ∧ t.arrive ≤ 1073741824) ∧ (-1 ≤ t.board ∧ t.board ≤ 1073741824) ∧ (-1 ≤ t.alight ∧ t.alight ≤ 1073741824)
def fineTs (xs : List Trip) : Prop := xs.length ≤ 100 ∧ ∀ (i : Nat) (t : Trip), xs[i]? = some t → fineT t
def GreatPost (xs : List Trip) (w : World) (e : Ending) (w' : World) : Prop := ∃ b : Bool, e = .returned (.bool b) ∧ (b = false → fineTs xs) ∧ Below w.heap.size w w'
set_option maxHeartbeats 2000000 in
theorem great24 (A : Option Addr) (C : Nat) (xs : List Trip) (w : World) (hx : Trips w A xs) : Calls Try.prog 53 #[.slice A xs.length C] w (GreatPost xs w) := by
  have HX := Lib.hid hx
  clear hx
  by_cases h100 : 100 < xs.length
  · go_enter Try.func53, Try.ntmps53
    go_wp2
    go_ret
    exact ⟨true, rfl, (fun h => by cases h), Below.refl _ _⟩
  · go_enter Try.func53, Try.ntmps53
    go_wp2
    go_loopw [3] (fun i wr => ∃ k : Nat, k ≤ xs.length ∧ i = .int .i64 k ∧ Hid (∀ (i : Nat) (t : Trip), i < k → xs[i]? = some t → fineT t) ∧ Below w.heap.size w wr) (fun i _ => xs.length - (intOf i).toNat)
    case atStart => exact ⟨0, by omega, rfl, fun i t hi => by omega, Below.refl _ _⟩
    case round =>
      obtain ⟨k, hk, rfl, hin, hb⟩ := hrel
      by_cases hkl : k < xs.length
      · obtain ⟨b, off, rfl, hbl, hce⟩ := HX.out (by omega)
        obtain ⟨t, ht⟩ := at_some hkl
        have z := fun j u h => (hb.cell (p := ⟨b, off + k * 7 + j, none⟩) hbl).trans (hce k t ht j u h)
        have z0 := z 0 _ rfl
        have z1 := z 1 _ rfl
        have z2 := z 2 _ rfl
        have z3 := z 3 _ rfl
        have z4 := z 4 _ rfl
        have z5 := z 5 _ rfl
        have z6 := z 6 _ rfl
        simp only [Nat.add_zero] at z0
        have hcs : fineT t ∨ t.arrive < -1 ∨ (-1 ≤ t.arrive ∧ t.board < -1) ∨ (-1 ≤ t.arrive ∧ -1 ≤ t.board ∧ t.alight < -1) ∨ (-1 ≤ t.arrive ∧ -1 ≤ t.board ∧ -1 ≤ t.alight ∧ (1073741824 < t.arrive ∨ 1073741824 < t.board ∨ 1073741824 < t.alight)) := by unfold fineT; omega
        have hbn := below_of_alloc hb (.cells t.cells.toArray 45)
        have HT := Lib.hid ht
        clear z hce ht
        rcases hcs with hf | hbad | ⟨h1, hbad⟩ | ⟨h1, h2, hbad⟩ | ⟨h1, h2, h3, hbad⟩
        · have HI2 : Hid (∀ (i : Nat) (t : Trip), i < k + 1 → xs[i]? = some t → fineT t) := fun i c' hi hci' => by
            by_cases e : i < k
            · exact hin.out i c' e hci'
            · obtain rfl : i = k := by omega
              rw [HT.out] at hci'
              injection hci' with h
              rwa [← h]
          obtain ⟨⟨f1, f2⟩, ⟨f3, f4⟩, f5, f6⟩ := hf
          obtain ⟨a0, a1, a2, a3, a4, a5, a6⟩ := t
          simp only at *
          go_wp2
          all_goals first
            | (go_roundw
               case rel => exact ⟨k + 1, by omega, by go_num, HI2, hbn⟩
               case measure => simp [intOf]; omega)
            | (exfalso; omega)
        all_goals
          obtain ⟨a0, a1, a2, a3, a4, a5, a6⟩ := t
          simp only at *
          go_wp2
          all_goals first | (go_ret; exact ⟨true, rfl, (fun h => by cases h), hbn⟩) | (exfalso; omega)
      · have hall : fineTs xs := ⟨by omega, fun i t hi => hin.out i t (by have := (List.getElem?_eq_some_iff.1 hi).1; omega) hi⟩
        have HA := Lib.hid hall
        clear hall
        go_wp2
        go_ret
        exact ⟨false, rfl, fun _ => HA.out, hb⟩
end Go.Proofs.Ytfpmdldngnopjaa
