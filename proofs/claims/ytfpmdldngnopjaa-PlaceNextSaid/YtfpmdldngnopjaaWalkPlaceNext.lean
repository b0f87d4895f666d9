/-
  The law PlaceNext, walked: it returns true, and nothing that was there turns.
-/
import Derived.Test.YtfpmdldngnopjaaLaws17
set_option linter.unusedVariables false
set_option linter.unusedSimpArgs false
namespace Go.Proofs.Ytfpmdldngnopjaa
open Go.Joins Go.ChangeShapes Go.WideShapes Go.ChangeAt Go.RowKit Go.Deep

/-- The place after k steps in a direction. -/
def stepOf (dir : Int) : Int := if 0 < dir then 1 else -1

theorem next_facts (pos gap dir : Int) (h0 : 0 ≤ pos) (g1 : 1 ≤ gap) :
    0 ≤ nextN pos gap dir ∧ nextN pos gap dir < gap ∧ (∀ k : Int, 0 ≤ k → k < nextN pos gap dir → (pos + stepOf dir * k) % gap ≠ 0) ∧
    (pos + stepOf dir * nextN pos gap dir) % gap = 0 ∧ nextF pos gap dir = (pos + stepOf dir * nextN pos gap dir) / gap ∧
    (∀ k : Int, 0 ≤ k → k ≤ nextN pos gap dir → 0 ≤ pos + stepOf dir * k) := by
  have hm1 := Int.emod_nonneg pos (show gap ≠ 0 by omega)
  have hm2 := Int.emod_lt_of_pos pos (show 0 < gap by omega)
  have hdm : gap * (pos / gap) + pos % gap = pos := Int.mul_ediv_add_emod pos gap
  have hq0 : 0 ≤ pos / gap := Int.ediv_nonneg h0 (by omega)
  have hgq : 0 ≤ gap * (pos / gap) := Int.mul_nonneg (by omega) hq0
  unfold nextN nextF stepOf
  generalize hq : pos / gap = q at *
  generalize hr : pos % gap = r at *
  have e1 : q * gap = gap * q := Int.mul_comm _ _
  have e2 : (q + 1) * gap = gap * q + gap := by rw [Int.add_mul, e1]; omega
  by_cases hr0 : r = 0
  · subst hr0
    rw [if_pos rfl, if_pos rfl]
    refine ⟨by omega, by omega, fun k hk hk' => by omega, by simp [hr], by simp [hq], fun k hk hk' => ?_⟩
    have : k = 0 := by omega
    subst this
    simpa using h0
  · by_cases hd : 0 < dir
    · simp only [if_neg hr0, if_pos hd, e2]
      have hD : gap * q + gap - pos = gap - r := by omega
      rw [hD]
      refine ⟨by omega, by omega, fun k hk hk' => ?_, ?_, ?_, fun k hk hk' => by omega⟩
      · have : pos + 1 * k = (r + k) + gap * q := by omega
        rw [this, Int.add_mul_emod_self_left, Int.emod_eq_of_lt (by omega) (by omega)]
        omega
      · have : pos + 1 * (gap - r) = gap * (q + 1) := by rw [Int.mul_add]; omega
        rw [this]; exact Int.mul_emod_right _ _
      · have : pos + 1 * (gap - r) = gap * (q + 1) := by rw [Int.mul_add]; omega
        rw [this, Int.mul_ediv_cancel_left _ (by omega)]
    · simp only [if_neg hr0, if_neg hd, e1]
      have hD : pos - gap * q = r := by omega
      rw [hD]
      refine ⟨by omega, by omega, fun k hk hk' => ?_, ?_, ?_, fun k hk hk' => by omega⟩
      · have : pos + -1 * k = (r - k) + gap * q := by omega
        rw [this, Int.add_mul_emod_self_left, Int.emod_eq_of_lt (by omega) (by omega)]
        omega
      · have : pos + -1 * r = gap * q := by omega
        rw [this]; exact Int.mul_emod_right _ _
      · have : pos + -1 * r = gap * q := by omega
        rw [this, Int.mul_ediv_cancel_left _ (by omega)]

set_option maxRecDepth 100000 in
set_option maxHeartbeats 1000000 in
theorem next_main (pos gap dir : Int) (s : Int) (W : World) (c0 : fewB pos = true) (g1 : 1 ≤ gap) (g2 : gap ≤ 100) (hs : stepOf dir = s) (hs2 : (s = 1 ∧ 0 < dir) ∨ (s = -1 ∧ dir ≤ 0)) (D F : Int) (hD : nextN pos gap dir = D) (hF : nextF pos gap dir = F) :
    Calls Try.prog 4 #[.int .i64 pos, .int .i64 gap, .int .i64 dir] W fun e W' => e = .returned (.bool true) ∧ Below W.heap.size W W' := by
  obtain ⟨a0, a1⟩ := fewB_eq c0
  obtain ⟨f0, f1, f2, f3, f4, f5⟩ := next_facts pos gap dir a0 g1
  rw [hD, hs] at f2 f3 f4 f5
  rw [hD] at f0 f1
  rw [hF] at f4
  have F2 := Lib.hid f2
  have F3 := Lib.hid f3
  have F4 := Lib.hid f4
  have F5 := Lib.hid f5
  clear f2 f3 f4 f5 hs
  have HD := Lib.hid hD
  have HF := Lib.hid hF
  clear hD hF
  rcases hs2 with ⟨rfl, hd⟩ | ⟨rfl, hd⟩
  · have hdd := hd
    go_enter Try.func4, Try.ntmps4
    go_wp2_with (first | (go_at_call 23; refine (few17 _ _).mono ?_; rintro e w' ⟨rfl, rfl⟩))
    go_loop [8, 9] (fun p n => ∃ k : Nat, (k : Int) ≤ D ∧ p = .int .i64 (pos + ↑k) ∧ n = .int .i64 k) (fun _ n => (D - intOf n).toNat)
    case atStart => exact ⟨0, by omega, val_int (by omega), rfl⟩
    case round =>
      obtain ⟨k, hk, rfl, rfl⟩ := hrel
      have hp0 : 0 ≤ pos + ↑k := by have := F5.out k (by omega) hk; omega
      have hd1 : 0 ≤ (pos + ↑k) / gap := Int.ediv_nonneg hp0 (by omega)
      by_cases hlt : (k : Int) < D
      · have hb : ((pos + ↑k) % gap != 0) = true := by
          have := F2.out k (by omega) hlt
          rw [show pos + 1 * (k : Int) = pos + ↑k from by omega] at this
          simpa using this
        go_wp2
        go_round
        case rel => exact ⟨k + 1, by omega, val_int (by omega), val_int (by omega)⟩
        case measure => simp [intOf]; omega
      · have hkD : (k : Int) = D := by omega
        have hb : ((pos + ↑k) % gap != 0) = false := by
          have := F3.out
          rw [← hkD, show pos + 1 * (k : Int) = pos + ↑k from by omega] at this
          simp [this]
        have hD2 : nextN pos gap dir = k := by rw [HD.out, hkD]
        have hF2 : nextF pos gap dir = (pos + ↑k) / gap := by rw [HF.out, F4.out, ← hkD, show pos + 1 * (k : Int) = pos + ↑k from by omega]
        have HK := Lib.hid hkD
        clear hkD
        go_wp2_with (first | (go_at_call 24; refine (place_Next _ _ _ _ (by omega) (by omega) (by omega) (by omega)).mono ?_; rintro e w' ⟨rfl, nq, rfl⟩) | (go_at_call 25; refine (alive17 _).mono ?_; rintro e w' ⟨rfl, nq, rfl⟩))
        go_ret
        exact ⟨ret_bool (by first | rfl | (simp [*]; done)), below_draws _ _ _⟩
  · have hdd : ¬ 0 < dir := by omega
    go_enter Try.func4, Try.ntmps4
    go_wp2_with (first | (go_at_call 23; refine (few17 _ _).mono ?_; rintro e w' ⟨rfl, rfl⟩))
    go_loop [8, 9] (fun p n => ∃ k : Nat, (k : Int) ≤ D ∧ p = .int .i64 (pos - ↑k) ∧ n = .int .i64 k) (fun _ n => (D - intOf n).toNat)
    case atStart => exact ⟨0, by omega, val_int (by omega), rfl⟩
    case round =>
      obtain ⟨k, hk, rfl, rfl⟩ := hrel
      have hp0 : 0 ≤ pos - ↑k := by have := F5.out k (by omega) hk; omega
      have hd1 : 0 ≤ (pos - ↑k) / gap := Int.ediv_nonneg hp0 (by omega)
      by_cases hlt : (k : Int) < D
      · have hb : ((pos - ↑k) % gap != 0) = true := by
          have := F2.out k (by omega) hlt
          rw [show pos + -1 * (k : Int) = pos - ↑k from by omega] at this
          simpa using this
        go_wp2
        go_round
        case rel => exact ⟨k + 1, by omega, val_int (by omega), val_int (by omega)⟩
        case measure => simp [intOf]; omega
      · have hkD : (k : Int) = D := by omega
        have hb : ((pos - ↑k) % gap != 0) = false := by
          have := F3.out
          rw [← hkD, show pos + -1 * (k : Int) = pos - ↑k from by omega] at this
          simp [this]
        have hD2 : nextN pos gap dir = k := by rw [HD.out, hkD]
        have hF2 : nextF pos gap dir = (pos - ↑k) / gap := by rw [HF.out, F4.out, ← hkD, show pos + -1 * (k : Int) = pos - ↑k from by omega]
        have HK := Lib.hid hkD
        clear hkD
        go_wp2_with (first | (go_at_call 24; refine (place_Next _ _ _ _ (by omega) (by omega) (by omega) (by omega)).mono ?_; rintro e w' ⟨rfl, nq, rfl⟩) | (go_at_call 25; refine (alive17 _).mono ?_; rintro e w' ⟨rfl, nq, rfl⟩))
        go_ret
        exact ⟨ret_bool (by first | rfl | (simp [*]; done)), below_draws _ _ _⟩

set_option maxRecDepth 100000 in
theorem walkPlaceNext {H : Type} (W : World) (base : Nat) (enc : TypeId × Value → H) {v0 : Value} {d0 : DataW H} {p0 : List MemPlace} {v1 : Value} {d1 : DataW H} {p1 : List MemPlace} {v2 : Value} {d2 : DataW H} {p2 : List MemPlace}
    (h0 : DataW.Trod enc Try.prog W 0 (fun _ => true) true 3 v0 d0 p0) (h1 : DataW.Trod enc Try.prog W 0 (fun _ => true) true 3 v1 d1 p1) (h2 : DataW.Trod enc Try.prog W 0 (fun _ => true) true 3 v2 d2 p2)
    (o0 : Value.okWide Try.prog W .any base 3 v0) (o1 : Value.okWide Try.prog W .any base 3 v1) (o2 : Value.okWide Try.prog W .any base 3 v2) :
    Calls Try.prog 4 #[v0, v1, v2] W fun e W' => e = .returned (.bool true) ∧ Below W.heap.size W W' := by
  obtain ⟨pos, rfl, -, -⟩ := arg_int o0 h0
  obtain ⟨gap, rfl, -, -⟩ := arg_int o1 h1
  obtain ⟨dir, rfl, -, -⟩ := arg_int o2 h2
  by_cases hc : fewB pos = true ∧ 1 ≤ gap ∧ gap ≤ 100
  · exact next_main pos gap dir _ W hc.1 hc.2.1 hc.2.2 rfl (by unfold stepOf; omega) _ _ rfl rfl
  · cases c0 : fewB pos
    · clear hc
      go_enter Try.func4, Try.ntmps4
      go_wp2_with (first | (go_at_call 23; refine (few17 _ _).mono ?_; rintro e w' ⟨rfl, rfl⟩))
      go_ret
      exact ⟨rfl, Below.refl _ _⟩
    · by_cases c1 : gap < 1
      · clear hc
        go_enter Try.func4, Try.ntmps4
        go_wp2_with (first | (go_at_call 23; refine (few17 _ _).mono ?_; rintro e w' ⟨rfl, rfl⟩))
        go_ret
        exact ⟨rfl, Below.refl _ _⟩
      · have c2 : 100 < gap := by simp [c0] at hc; omega
        clear hc
        go_enter Try.func4, Try.ntmps4
        go_wp2_with (first | (go_at_call 23; refine (few17 _ _).mono ?_; rintro e w' ⟨rfl, rfl⟩))
        go_ret
        exact ⟨rfl, Below.refl _ _⟩
end Go.Proofs.Ytfpmdldngnopjaa
