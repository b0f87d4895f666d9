/-
  The trips that are done: trip.done. Condition: there are at most 100 trips.
-/
import Derived.Test.YtfpmdldngnopjaaTrip2
import Derived.Test.YtfpmdldngnopjaaOwnS
set_option linter.unusedVariables false
set_option linter.unusedSimpArgs false
namespace Go.Proofs.Ytfpmdldngnopjaa
open Go.Joins Go.ChangeShapes Go.WideShapes Go.ChangeAt Go.RowKit Go.Deep

theorem info_Trip : (Try.prog.info? 45).map (fun i => (i.zero, i.size, i.bytes)) = some (some (.agg #[.int .i64 0, .int .i64 0, .int .i64 0, .int .i64 0, .int .i64 0, .int .i64 0, .int .i64 0]), 7, 56) := by kernel_rfl
theorem trip_cells_len (t : Trip) : t.cells.length = 7 := rfl
/-- Those of the first k that are done. -/
def doneL (xs : List Trip) : Nat → List Trip
  | 0 => []
  | k + 1 => doneL xs k ++ if phase (tripAt xs k) = 2 then [tripAt xs k] else []
theorem doneL_len (xs : List Trip) (k : Nat) : (doneL xs k).length ≤ k := by
  induction k with
  | zero => simp [doneL]
  | succ k ih => simp only [doneL, List.length_append]; split <;> simp <;> omega
theorem doneL_fine {xs : List Trip} (h : fineTs xs) (k : Nat) (hk : k ≤ xs.length) : ∀ t ∈ doneL xs k, fineT t := by
  induction k with
  | zero => simp [doneL]
  | succ k ih =>
    intro t ht
    simp only [doneL, List.mem_append] at ht
    rcases ht with ht | ht
    · exact ih (by omega) t ht
    · split at ht
      · simp at ht
        obtain ⟨a, ha⟩ := at_some (xs := xs) (k := k) (by omega)
        rw [tripAt_of ha] at ht
        rw [ht]
        exact h.2 k a ha
      · simp at ht

set_option maxHeartbeats 2000000 in
theorem trip_done (A : Option Addr) (C : Nat) (xs : List Trip) (w : World) (hx : Trips w A xs) (hl : xs.length ≤ 100) :
    Calls Try.prog 71 #[.slice A xs.length C] w (RetElems 7 Trip.cells (doneL xs xs.length) w) := by
  obtain ⟨i0, hi, hz0, hz1, hz2⟩ := info_parts info_Trip
  have HX := Lib.hid hx
  clear hx
  go_enter Try.func71, Try.ntmps71
  go_wp2
  go_loopw [3, 8] (fun v i wr => ∃ k : Nat, k ≤ xs.length ∧ i = .int .i64 k ∧ wr.ownsRow w.heap.size 45 7 v (doneL xs k).length ((doneL xs k).flatMap Trip.cells) ∧ Below w.heap.size w wr) (fun _ i _ => xs.length - (intOf i).toNat)
  case atStart => exact ⟨0, by omega, rfl, World.ownsRow_nil _ _ _ _, Below.refl _ _⟩
  case round =>
    obtain ⟨k, hk, rfl, hown, hb⟩ := hrel
    by_cases hkl : k < xs.length
    · obtain ⟨b, off, rfl, hbl, hce⟩ := HX.out (by omega)
      obtain ⟨t, ht⟩ := at_some hkl
      have z := fun j u h => (hb.cell (p := ⟨b, off + k * 7 + j, none⟩) hbl).trans (hce k t ht j u h)
      have z0 := z 0 _ rfl
      have z1 := z 1 _ rfl
      have z2 := z 2 _ rfl
      have z3 := z 3 _ rfl
      have z4 := z 4 _ rfl
      have z5 := z 5 _ rfl
      have z6 := z 6 _ rfl
      simp only [Nat.add_zero] at z0
      have hdl := doneL_len xs k
      have cA := fun w => trip_At t w
      have hs0 : doneL xs (k + 1) = doneL xs k ++ if phase t = 2 then [t] else [] := by rw [← tripAt_of ht]; rfl
      generalize phase t = q at *
      obtain ⟨a0, a1, a2, a3, a4, a5, a6⟩ := t
      simp only [Trip.cells] at *
      have CA := Lib.hid cA
      have HOWN := Lib.hid hown
      by_cases hq : q = 2
      · subst hq
        rw [if_pos rfl] at hs0
        have S0 := Lib.hid hs0
        clear cA hs0 ht z hce hown
        go_wp2_with fail
        refine (CA.out _).mono ?_
        rintro e w2 ⟨rfl, hb2⟩
        have hb3 : Below w.heap.size w w2 := below_box hb hb2
        have ho2 := ownsRow_below (HOWN.out.alloc (.cells #[.int .i64 a0, .int .i64 a1, .int .i64 a2, .int .i64 a3, .int .i64 a4, .int .i64 a5, .int .i64 a6] 45)) hb2
        have hs2 := hb3.size
        obtain ⟨hc, hf⟩ := bcell hb2
        have hz := hb2.size
        simp only [alloc_size] at hc hf hz
        have HO2 := Lib.hid ho2
        clear hb2 ho2
        go_wp2_with (at_builtin; refine wpList_append_own _ rfl _ _ 39 rfl w.heap.size 45 i0 _ 7 56 Try.underlying39 hi hz0 hz1 hz2 rfl (by decide) _ _ _ rfl (HO2.out.alloc _) ⟨w2.heap.size, 0, none⟩ 1 1 [.int .i64 a0, .int .i64 a1, .int .i64 a2, .int .i64 a3, .int .i64 a4, .int .i64 a5, .int .i64 a6] rfl rfl ?c1 ?c2 ?c3 ?c4 ?c5 ?_)
        case c1 => exact cells_new _ _ _
        case c2 => intro u hu; simp at hu; rcases hu with rfl | rfl | rfl | rfl | rfl | rfl | rfl <;> rfl
        case c3 => unfold maxLen; omega
        case c4 => omega
        case c5 => simp; omega
        intro v' w4 hown' hgrow _
        have hb4 : Below w.heap.size w w4 := (hb3.alloc hs2 _).grown hgrow (by simp; omega) (fun g hg => (HO2.out.lt g hg).1)
        have ho4 : w4.ownsRow w.heap.size 45 7 v' (doneL xs (k + 1)).length ((doneL xs (k + 1)).flatMap Trip.cells) := by
          rw [S0.out, List.flatMap_append, List.length_append]
          exact hown'
        have HO4 := Lib.hid ho4
        clear hgrow hown' ho4 hc hf
        go_wp2
        go_roundw
        case rel => exact ⟨k + 1, by omega, by go_num, HO4.out, hb4⟩
        case measure => simp [intOf]; omega
      · have hqb : (q == 2) = false := beq_eq_false_iff_ne.2 hq
        rw [if_neg hq, List.append_nil] at hs0
        have S0 := Lib.hid hs0
        clear cA hs0 ht z hce hown hq
        go_wp2_with fail
        refine (CA.out _).mono ?_
        rintro e w2 ⟨rfl, hb2⟩
        have hb3 : Below w.heap.size w w2 := below_box hb hb2
        have ho2 := ownsRow_below (HOWN.out.alloc (.cells #[.int .i64 a0, .int .i64 a1, .int .i64 a2, .int .i64 a3, .int .i64 a4, .int .i64 a5, .int .i64 a6] 45)) hb2
        have HO2 := Lib.hid ho2
        clear hb2 ho2
        go_wp2
        go_roundw
        case rel => exact ⟨k + 1, by omega, by go_num, by rw [S0.out]; exact HO2.out, hb3⟩
        case measure => simp [intOf]; omega
    · obtain rfl : k = xs.length := by omega
      obtain ⟨A', C', rfl, hel⟩ := owns_elems trip_cells_len hown
      have HE := Lib.hid hel
      clear hown hel
      go_wp2
      go_ret
      exact ⟨A', C', rfl, HE.out, hb⟩
end Go.Proofs.Ytfpmdldngnopjaa
