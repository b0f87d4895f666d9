/-
  The law PlaceFloors, walked: it returns true, and nothing that was there turns.
-/
import Derived.Test.YtfpmdldngnopjaaPlace
import Derived.Test.YtfpmdldngnopjaaArgs
set_option linter.unusedVariables false
namespace Go.Proofs.Ytfpmdldngnopjaa
open Go.Joins Go.ChangeShapes Go.WideShapes Go.ChangeAt Go.RowKit Go.Deep

def fewB (n : Int) : Bool := decide (0 ≤ n ∧ n ≤ 1048576)

theorem few17 (n : Int) (w : World) : Calls Try.prog 23 #[.int .i64 n] w fun e w' => e = .returned (.bool (fewB n)) ∧ w = w' := by
  unfold fewB
  by_cases h1 : 0 ≤ n <;> by_cases h2 : n ≤ 1048576
  all_goals
    go_enter Try.func23, Try.ntmps23
    go_wp2
    go_ret
    simp [*]

theorem alive17 (w : World) : Calls Try.prog 25 #[] w fun e w' => e = .returned (.bool true) ∧ ∃ n, w' = w.drewN n := by
  go_enter Try.func25, Try.ntmps25
  go_wp2_with (first
    | (go_at_call 24; refine (place_Next 7 3 1 _ (by omega) (by omega) (by omega) (by omega)).mono ?_; rintro e w' ⟨rfl, nq, rfl⟩)
    | (go_at_call 27; refine (place_At 3 3 _ (by omega) (by omega)).mono ?_; rintro e w' ⟨rfl, rfl⟩)
    | (go_at_call 28; refine (place_Right 1 1 _).mono ?_; rintro e w' ⟨rfl, rfl⟩))
  go_ret
  exact ⟨rfl, _, rfl⟩

theorem fewB_eq {n : Int} (h : fewB n = true) : 0 ≤ n ∧ n ≤ 1048576 := by simpa [fewB] using h

set_option maxRecDepth 100000 in
set_option maxHeartbeats 1000000 in
theorem walkPlaceFloors {H : Type} (W : World) (base : Nat) (enc : TypeId × Value → H) {v0 : Value} {d0 : DataW H} {p0 : List MemPlace} {v1 : Value} {d1 : DataW H} {p1 : List MemPlace} {v2 : Value} {d2 : DataW H} {p2 : List MemPlace}
    (h0 : DataW.Trod enc Try.prog W 0 (fun _ => true) true 3 v0 d0 p0) (h1 : DataW.Trod enc Try.prog W 0 (fun _ => true) true 3 v1 d1 p1) (h2 : DataW.Trod enc Try.prog W 0 (fun _ => true) true 3 v2 d2 p2)
    (o0 : Value.okWide Try.prog W .any base 3 v0) (o1 : Value.okWide Try.prog W .any base 3 v1) (o2 : Value.okWide Try.prog W .any base 3 v2) :
    Calls Try.prog 5 #[v0, v1, v2] W fun e W' => e = .returned (.bool true) ∧ Below W.heap.size W W' := by
  obtain ⟨pos, rfl, -, -⟩ := arg_int o0 h0
  obtain ⟨gap, rfl, -, -⟩ := arg_int o1 h1
  obtain ⟨floors, rfl, -, -⟩ := arg_int o2 h2
  clear h0 h1 h2 o0 o1 o2
  by_cases hc : fewB pos = true ∧ fewB gap = true ∧ fewB floors = true ∧ 1 ≤ gap
  · obtain ⟨c0, c1, c2, c3⟩ := hc
    obtain ⟨a0, a1⟩ := fewB_eq c0
    obtain ⟨a2, a3⟩ := fewB_eq c1
    obtain ⟨a4, a5⟩ := fewB_eq c2
    have hd1 : 0 ≤ pos / gap := Int.ediv_nonneg a0 (by omega)
    have hd2 : pos / gap ≤ pos := Int.ediv_le_self _ a0
    have hm1 := Int.emod_nonneg pos (show gap ≠ 0 by omega)
    have hm2 := Int.emod_lt_of_pos pos (show 0 < gap by omega)
    have hdm : gap * (pos / gap) + pos % gap = pos := Int.mul_ediv_add_emod pos gap
    have hlo : pos / gap * gap = pos - pos % gap := by rw [Int.mul_comm]; omega
    have HL := Lib.hid hlo
    clear hlo hdm
    have b1 : 0 ≤ pos / gap * gap := Int.mul_nonneg hd1 (by omega)
    have b2 : pos / gap * gap ≤ pos := by have := HL.out; omega
    have f1 : 0 ≤ floors * gap := Int.mul_nonneg a4 (by omega)
    have f2 : floors * gap ≤ 1048576 * 1048576 := Int.mul_le_mul a5 a3 (by omega) (by omega)
    have f3 : (floors - 1) * gap = floors * gap - gap := by rw [Int.sub_mul]; omega
    have F3 := Lib.hid f3
    clear f3
    have f4 : -4611686018427387904 ≤ (floors - 1) * gap := by rw [F3.out]; omega
    have f5 : (floors - 1) * gap ≤ 4611686018427387904 := by rw [F3.out]; omega
    have t2 : (!(pos % gap == 0) == (pos / gap * gap == pos)) = false := by
      by_cases e : pos % gap = 0
      · have e2 : pos / gap * gap = pos := by have := HL.out; omega
        simp [e, e2]
      · have e2 : pos / gap * gap ≠ pos := by have := HL.out; omega
        have q1 : (pos % gap == 0) = false := by simp [e]
        have q2 : (pos / gap * gap == pos) = false := by simp [e2]
        rw [q1, q2]; rfl
    have b3 : pos - pos / gap * gap < gap := by have := HL.out; omega
    have t3 : ((floors - 1) * gap == floors * gap - gap) = true := by rw [F3.out]; simp
    by_cases r1 : 2 ≤ floors <;> by_cases r2 : floors ≤ 128 <;> by_cases r3 : gap ≤ 16
    all_goals try (exfalso; omega)
    all_goals
      go_enter Try.func5, Try.ntmps5
      go_wp2_with (first
        | (go_at_call 23; refine (few17 _ _).mono ?_; rintro e w' ⟨rfl, rfl⟩)
        | (go_at_call 26; refine (place_Floor _ _ _ (by omega) (by omega) (by omega) (by omega)).mono ?_; rintro e w' ⟨rfl, nq, rfl⟩)
        | (go_at_call 27; refine (place_At _ _ _ (by omega) (by omega)).mono ?_; rintro e w' ⟨rfl, rfl⟩)
        | (go_at_call 29; refine (place_Top _ _ _ (by omega) (by omega) (by omega) (by omega)).mono ?_; rintro e w' ⟨rfl, rfl⟩)
        | (go_at_call 28; refine (place_Right _ _ _).mono ?_; rintro e w' ⟨rfl, rfl⟩)
        | (go_at_call 25; refine (alive17 _).mono ?_; rintro e w' ⟨rfl, nq2, rfl⟩))
      go_ret
      exact ⟨ret_bool (by first | rfl | (simp [*]; done)), below_draws _ _ _⟩
  · rw [Decidable.not_and_iff_or_not, Decidable.not_and_iff_or_not, Decidable.not_and_iff_or_not] at hc
    cases c0 : fewB pos
    · clear hc
      go_enter Try.func5, Try.ntmps5
      go_wp2_with (go_at_call 23; refine (few17 _ _).mono ?_; rintro e w' ⟨rfl, rfl⟩)
      go_ret
      exact ⟨rfl, Below.refl _ _⟩
    · cases c1 : fewB gap
      · clear hc
        go_enter Try.func5, Try.ntmps5
        go_wp2_with (go_at_call 23; refine (few17 _ _).mono ?_; rintro e w' ⟨rfl, rfl⟩)
        go_ret
        exact ⟨rfl, Below.refl _ _⟩
      · cases c2 : fewB floors
        · clear hc
          go_enter Try.func5, Try.ntmps5
          go_wp2_with (go_at_call 23; refine (few17 _ _).mono ?_; rintro e w' ⟨rfl, rfl⟩)
          go_ret
          exact ⟨rfl, Below.refl _ _⟩
        · have c3 : gap < 1 := by simp [c0, c1, c2] at hc; omega
          clear hc
          go_enter Try.func5, Try.ntmps5
          go_wp2_with (go_at_call 23; refine (few17 _ _).mono ?_; rintro e w' ⟨rfl, rfl⟩)
          go_ret
          exact ⟨rfl, Below.refl _ _⟩
end Go.Proofs.Ytfpmdldngnopjaa
