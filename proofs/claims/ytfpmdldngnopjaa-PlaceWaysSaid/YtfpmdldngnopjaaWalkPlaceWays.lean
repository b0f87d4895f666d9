/-
  The law PlaceWays, walked: it returns true, and nothing that was there turns.
-/
import Derived.Test.YtfpmdldngnopjaaLaws17
set_option linter.unusedVariables false
set_option linter.unusedSimpArgs false
namespace Go.Proofs.Ytfpmdldngnopjaa
open Go.Joins Go.ChangeShapes Go.WideShapes Go.ChangeAt Go.RowKit Go.Deep

set_option maxRecDepth 100000 in
set_option maxHeartbeats 1000000 in
theorem ways_few (n a b : Int) (W : World) (hab : ¬ (fewB a = true ∧ fewB b = true)) :
    Calls Try.prog 7 #[.int .i64 n, .int .i64 a, .int .i64 b] W fun e W' => e = .returned (.bool true) ∧ Below W.heap.size W W' := by
  rcases Int.lt_trichotomy n 0 with hn | hn | hn
  · have hs : sg n = -1 := by unfold sg; omega
    cases c0 : fewB a
    · go_enter Try.func7, Try.ntmps7
      go_wp2_with (first | (go_at_call 36; refine (place_Sign _ _).mono ?_; rintro e w' ⟨rfl, rfl⟩) | (go_at_call 23; refine (few17 _ _).mono ?_; rintro e w' ⟨rfl, rfl⟩) | (go_at_call 25; refine (alive17 _).mono ?_; rintro e w' ⟨rfl, nq, rfl⟩))
      go_ret
      exact ⟨rfl, below_draws _ _ _⟩
    · have c1 : fewB b = false := by simpa [c0] using hab
      clear hab
      go_enter Try.func7, Try.ntmps7
      go_wp2_with (first | (go_at_call 36; refine (place_Sign _ _).mono ?_; rintro e w' ⟨rfl, rfl⟩) | (go_at_call 23; refine (few17 _ _).mono ?_; rintro e w' ⟨rfl, rfl⟩) | (go_at_call 25; refine (alive17 _).mono ?_; rintro e w' ⟨rfl, nq, rfl⟩))
      go_ret
      exact ⟨rfl, below_draws _ _ _⟩
  · have hs : sg n = 0 := by unfold sg; omega
    subst hn
    cases c0 : fewB a
    · go_enter Try.func7, Try.ntmps7
      go_wp2_with (first | (go_at_call 36; refine (place_Sign _ _).mono ?_; rintro e w' ⟨rfl, rfl⟩) | (go_at_call 23; refine (few17 _ _).mono ?_; rintro e w' ⟨rfl, rfl⟩) | (go_at_call 25; refine (alive17 _).mono ?_; rintro e w' ⟨rfl, nq, rfl⟩))
      go_ret
      exact ⟨rfl, below_draws _ _ _⟩
    · have c1 : fewB b = false := by simpa [c0] using hab
      clear hab
      go_enter Try.func7, Try.ntmps7
      go_wp2_with (first | (go_at_call 36; refine (place_Sign _ _).mono ?_; rintro e w' ⟨rfl, rfl⟩) | (go_at_call 23; refine (few17 _ _).mono ?_; rintro e w' ⟨rfl, rfl⟩) | (go_at_call 25; refine (alive17 _).mono ?_; rintro e w' ⟨rfl, nq, rfl⟩))
      go_ret
      exact ⟨rfl, below_draws _ _ _⟩
  · have hs : sg n = 1 := by unfold sg; omega
    cases c0 : fewB a
    · go_enter Try.func7, Try.ntmps7
      go_wp2_with (first | (go_at_call 36; refine (place_Sign _ _).mono ?_; rintro e w' ⟨rfl, rfl⟩) | (go_at_call 23; refine (few17 _ _).mono ?_; rintro e w' ⟨rfl, rfl⟩) | (go_at_call 25; refine (alive17 _).mono ?_; rintro e w' ⟨rfl, nq, rfl⟩))
      go_ret
      exact ⟨rfl, below_draws _ _ _⟩
    · have c1 : fewB b = false := by simpa [c0] using hab
      clear hab
      go_enter Try.func7, Try.ntmps7
      go_wp2_with (first | (go_at_call 36; refine (place_Sign _ _).mono ?_; rintro e w' ⟨rfl, rfl⟩) | (go_at_call 23; refine (few17 _ _).mono ?_; rintro e w' ⟨rfl, rfl⟩) | (go_at_call 25; refine (alive17 _).mono ?_; rintro e w' ⟨rfl, nq, rfl⟩))
      go_ret
      exact ⟨rfl, below_draws _ _ _⟩

set_option maxRecDepth 100000 in
set_option maxHeartbeats 2000000 in
theorem ways_main (n a b d f : Int) (W : World) (c0 : fewB a = true) (c1 : fewB b = true) (hd : sg (b - a) = d) (hf : max (a - b) (b - a) = f) (s : Int) (hs : sg n = s)
    (hn : (s = -1 ∧ n < 0) ∨ (s = 0 ∧ n = 0) ∨ (s = 1 ∧ 0 < n)) (hdf : (d = -1 ∧ f = a - b ∧ b < a) ∨ (d = 0 ∧ f = 0 ∧ a = b) ∨ (d = 1 ∧ f = b - a ∧ a < b)) :
    Calls Try.prog 7 #[.int .i64 n, .int .i64 a, .int .i64 b] W fun e W' => e = .returned (.bool true) ∧ Below W.heap.size W W' := by
  obtain ⟨a0, a1⟩ := fewB_eq c0
  obtain ⟨a2, a3⟩ := fewB_eq c1
  rcases hn with ⟨rfl, hn⟩ | ⟨rfl, rfl⟩ | ⟨rfl, hn⟩ <;> rcases hdf with ⟨rfl, rfl, hab⟩ | ⟨rfl, rfl, rfl⟩ | ⟨rfl, rfl, hab⟩
  all_goals
    go_enter Try.func7, Try.ntmps7
    go_wp2_with (first | (go_at_call 36; refine (place_Sign _ _).mono ?_; rintro e w' ⟨rfl, rfl⟩) | (go_at_call 23; refine (few17 _ _).mono ?_; rintro e w' ⟨rfl, rfl⟩) | (go_at_call 25; refine (alive17 _).mono ?_; rintro e w' ⟨rfl, nq, rfl⟩) | (go_at_call 37; refine (place_Dir _ _ _ (by omega) (by omega) (by omega) (by omega)).mono ?_; rintro e w' ⟨rfl, rfl⟩) | (go_at_call 38; refine (place_Far _ _ _ (by omega) (by omega) (by omega) (by omega)).mono ?_; rintro e w' ⟨rfl, rfl⟩))
    go_ret
    exact ⟨ret_bool (by first | rfl | (simp [*]; done)), below_draws _ _ _⟩

set_option maxRecDepth 100000 in
theorem walkPlaceWays {H : Type} (W : World) (base : Nat) (enc : TypeId × Value → H) {v0 : Value} {d0 : DataW H} {p0 : List MemPlace} {v1 : Value} {d1 : DataW H} {p1 : List MemPlace} {v2 : Value} {d2 : DataW H} {p2 : List MemPlace}
    (h0 : DataW.Trod enc Try.prog W 0 (fun _ => true) true 3 v0 d0 p0) (h1 : DataW.Trod enc Try.prog W 0 (fun _ => true) true 3 v1 d1 p1) (h2 : DataW.Trod enc Try.prog W 0 (fun _ => true) true 3 v2 d2 p2)
    (o0 : Value.okWide Try.prog W .any base 3 v0) (o1 : Value.okWide Try.prog W .any base 3 v1) (o2 : Value.okWide Try.prog W .any base 3 v2) :
    Calls Try.prog 7 #[v0, v1, v2] W fun e W' => e = .returned (.bool true) ∧ Below W.heap.size W W' := by
  obtain ⟨n, rfl, -, -⟩ := arg_int o0 h0
  obtain ⟨a, rfl, -, -⟩ := arg_int o1 h1
  obtain ⟨b, rfl, -, -⟩ := arg_int o2 h2
  by_cases hab : fewB a = true ∧ fewB b = true
  · refine ways_main n a b _ _ W hab.1 hab.2 rfl rfl _ rfl ?_ ?_
    · unfold sg; omega
    · unfold sg; omega
  · exact ways_few n a b W hab
end Go.Proofs.Ytfpmdldngnopjaa
