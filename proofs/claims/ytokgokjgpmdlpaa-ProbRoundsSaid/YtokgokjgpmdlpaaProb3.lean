/-
  At how many floors a car is expected to stop, how high to go: prob and hoistwayref56. Condition: there may be so many floors and people.
-/
import Derived.Test.YtokgokjgpmdlpaaProb2
set_option linter.unusedVariables false
set_option linter.unusedSimpArgs false
namespace Go.Proofs.Ytokgokjgpmdlpaa
open Go.Joins Go.ChangeShapes Go.WideShapes Go.ChangeAt Go.RowKit Go.Deep

def rightB (f p : Int) : Bool := decide (1 ≤ f ∧ f ≤ 127 ∧ 0 ≤ p ∧ p ≤ 64)
theorem right_iff {f p : Int} : rightB f p = true ↔ 1 ≤ f ∧ f ≤ 127 ∧ 0 ≤ p ∧ p ≤ 64 := by unfold rightB; simp
theorem prob_right (f p : Int) (w : World) : Calls Try.prog 66 #[.int .i64 f, .int .i64 p] w fun e w' => e = .returned (.bool (rightB f p)) ∧ w = w' := by
  have hR : (rightB f p = true ∧ 1 ≤ f ∧ f ≤ 127 ∧ 0 ≤ p ∧ p ≤ 64) ∨ (rightB f p = false ∧ (f < 1 ∨ (1 ≤ f ∧ 127 < f) ∨ (1 ≤ f ∧ f ≤ 127 ∧ p < 0) ∨ (1 ≤ f ∧ f ≤ 127 ∧ 0 ≤ p ∧ 64 < p))) := by
    unfold rightB; simp; omega
  rcases hR with ⟨hR, h1, h2, h3, h4⟩ | ⟨hR, h1 | ⟨h1, h2⟩ | ⟨h1, h2, h3⟩ | ⟨h1, h2, h3, h4⟩⟩
  all_goals
    rw [hR]
    clear hR
    go_enter Try.func66, Try.ntmps66
    go_wp2
    go_ret
    exact ⟨ret_bool (by simp; try omega), rfl⟩
theorem ref56_Right (f p : Int) (w : World) : Calls Try.prog 44 #[.int .i64 f, .int .i64 p] w fun e w' => e = .returned (.bool (rightB f p)) ∧ w = w' := by
  have hR : (rightB f p = true ∧ 1 ≤ f ∧ f ≤ 127 ∧ 0 ≤ p ∧ p ≤ 64) ∨ (rightB f p = false ∧ (f < 1 ∨ (1 ≤ f ∧ 127 < f) ∨ (1 ≤ f ∧ f ≤ 127 ∧ p < 0) ∨ (1 ≤ f ∧ f ≤ 127 ∧ 0 ≤ p ∧ 64 < p))) := by
    unfold rightB; simp; omega
  rcases hR with ⟨hR, h1, h2, h3, h4⟩ | ⟨hR, h1 | ⟨h1, h2⟩ | ⟨h1, h2, h3⟩ | ⟨h1, h2, h3, h4⟩⟩
  all_goals
    rw [hR]
    clear hR
    go_enter Try.func44, Try.ntmps44
    go_wp2
    go_ret
    exact ⟨ret_bool (by simp; try omega), rfl⟩

/-- The part of those who don't want to a floor. -/
def restP (f p : Int) : Int := powP (partV (f - 1) f) (cntP p)
def stopsV (f p : Int) : Int := f * (4294967296 - restP f p)
theorem restP_bd (f p : Int) : 0 ≤ restP f p ∧ restP f p ≤ 4294967296 := powP_bd _ (partV_bd _ _).1 _
theorem mul_bd {f x : Int} (h1 : 1 ≤ f) (h2 : f ≤ 127) (h0 : 0 ≤ x) (h3 : x ≤ 4294967296) : 0 ≤ f * x ∧ f * x ≤ f * 4294967296 := ⟨Int.mul_nonneg (by omega) h0, Int.mul_le_mul_of_nonneg_left h3 (by omega)⟩

theorem prob_Stops (f p : Int) (w : World) (h : rightB f p = true) : Calls Try.prog 45 #[.int .i64 f, .int .i64 p] w fun e w' => e = .returned (.tuple #[.int .u64 (stopsV f p), .int .i64 0]) ∧ w = w' := by
  obtain ⟨h1, h2, h3, h4⟩ := right_iff.1 h
  have hr := prob_right f p
  rw [h] at hr
  obtain ⟨p0, p1⟩ := partV_bd (f - 1) f
  have hp := fun w => prob_Power (partV (f - 1) f) p w ⟨p0, by omega⟩
  obtain ⟨r0, r1⟩ := restP_bd f p
  have hs : stopsV f p = f * (4294967296 - restP f p) := rfl
  obtain ⟨m0, m1⟩ := mul_bd h1 h2 (x := 4294967296 - restP f p) (by omega) (by omega)
  change ∀ w, Calls _ _ _ w fun e w' => e = .returned (.int .u64 (restP f p)) ∧ w = w' at hp
  have HR := Lib.hid hr
  have HP := Lib.hid hp
  have HS := Lib.hid hs
  clear hr hp hs h
  generalize restP f p = r at *
  go_enter Try.func45, Try.ntmps45
  go_wp2_with (first | (go_at_call 66; refine (HR.out _).mono ?_; rintro e w' ⟨rfl, rfl⟩) | (go_at_call 23; refine (prob_Part _ _ _).mono ?_; rintro e w' ⟨rfl, rfl⟩) | (go_at_call 27; refine (HP.out _).mono ?_; rintro e w' ⟨rfl, rfl⟩))
  go_ret2
  exact ⟨ret_two (by rw [HS.out]) rfl, rfl⟩
theorem prob_Stops_not (f p : Int) (w : World) (h : rightB f p = false) : Calls Try.prog 45 #[.int .i64 f, .int .i64 p] w fun e w' => e = .returned (.tuple #[.int .u64 0, .int .i64 22]) ∧ w = w' := by
  have hr := prob_right f p
  rw [h] at hr
  have HR := Lib.hid hr
  clear hr h
  go_enter Try.func45, Try.ntmps45
  go_wp2_with (first | (go_at_call 66; refine (HR.out _).mono ?_; rintro e w' ⟨rfl, rfl⟩))
  go_ret2
  exact ⟨rfl, rfl⟩
theorem prob_High_not (f p : Int) (w : World) (h : rightB f p = false) : Calls Try.prog 46 #[.int .i64 f, .int .i64 p] w fun e w' => e = .returned (.tuple #[.int .u64 0, .int .i64 22]) ∧ w = w' := by
  have hr := prob_right f p
  rw [h] at hr
  have HR := Lib.hid hr
  clear hr h
  go_enter Try.func46, Try.ntmps46
  go_wp2_with (first | (go_at_call 66; refine (HR.out _).mono ?_; rintro e w' ⟨rfl, rfl⟩))
  go_ret2
  exact ⟨rfl, rfl⟩
theorem ref56_Stops (f p : Int) (w : World) (h : rightB f p = true) : Calls Try.prog 51 #[.int .i64 f, .int .i64 p] w fun e w' => e = .returned (.int .u64 (stopsV f p)) ∧ w = w' := by
  obtain ⟨h1, h2, h3, h4⟩ := right_iff.1 h
  obtain ⟨p0, p1⟩ := partV_bd (f - 1) f
  have hp := fun w => ref56_Power (partV (f - 1) f) p w ⟨p0, by omega⟩
  obtain ⟨r0, r1⟩ := restP_bd f p
  have hs : stopsV f p = f * 4294967296 - f * restP f p := by unfold stopsV; rw [Int.mul_sub]
  obtain ⟨m0, m1⟩ := mul_bd h1 h2 (x := restP f p) (by omega) (by omega)
  change ∀ w, Calls _ _ _ w fun e w' => e = .returned (.int .u64 (restP f p)) ∧ w = w' at hp
  have HP := Lib.hid hp
  have HS := Lib.hid hs
  clear hp hs h
  generalize restP f p = r at *
  go_enter Try.func51, Try.ntmps51
  go_wp2_with (first | (go_at_call 24; refine (ref56_Part _ _ _).mono ?_; rintro e w' ⟨rfl, rfl⟩) | (go_at_call 28; refine (HP.out _).mono ?_; rintro e w' ⟨rfl, rfl⟩))
  go_ret
  exact ⟨ret_int (by rw [HS.out]), rfl⟩

/-- How much is left of the floors below, for the first k. -/
def sumP (f p : Int) : Nat → Int
  | 0 => 0
  | k + 1 => sumP f p k + powP (partV ((k : Int) + 1) f) (cntP p)
theorem sumP_bd (f p : Int) (k : Nat) : 0 ≤ sumP f p k ∧ sumP f p k ≤ k * 4294967296 := by
  induction k with
  | zero => simp [sumP]
  | succ k ih =>
    have := powP_bd (partV ((k : Int) + 1) f) (partV_bd _ _).1 (cntP p)
    simp only [sumP]
    omega
def highV (f p : Int) : Int := if p = 0 then 0 else f * 4294967296 - sumP f p (f - 1).toNat
set_option maxRecDepth 20000 in
set_option maxHeartbeats 1000000 in
theorem prob_High (f p : Int) (w : World) (h : rightB f p = true) : Calls Try.prog 46 #[.int .i64 f, .int .i64 p] w fun e w' => e = .returned (.tuple #[.int .u64 (highV f p), .int .i64 0]) ∧ w = w' := by
  obtain ⟨h1, h2, h3, h4⟩ := right_iff.1 h
  have hr := prob_right f p
  rw [h] at hr
  have HR := Lib.hid hr
  clear hr h
  by_cases h0 : p = 0
  · have hv : highV f p = 0 := by unfold highV; rw [if_pos h0]
    rw [hv]
    subst h0
    clear hv
    go_enter Try.func46, Try.ntmps46
    go_wp2_with (first | (go_at_call 66; refine (HR.out _).mono ?_; rintro e w' ⟨rfl, rfl⟩))
    go_ret2
    exact ⟨rfl, rfl⟩
  · have hv : highV f p = f * 4294967296 - sumP f p (f - 1).toNat := by unfold highV; rw [if_neg h0]
    have hz : (p == 0) = false := by simp [h0]
    have HV := Lib.hid hv
    have H0 := Lib.hid h0
    have hsb := sumP_bd f p
    have HSB := Lib.hid hsb
    clear hv h0 hsb
    go_enter Try.func46, Try.ntmps46
    go_wp2_with (first | (go_at_call 66; refine (HR.out _).mono ?_; rintro e w' ⟨rfl, rfl⟩))
    go_loop [6, 7] (fun u v => ∃ k : Nat, (k : Int) + 1 ≤ f ∧ v = .int .i64 ((k : Int) + 1) ∧ u = .int .u64 (f * 4294967296 - sumP f p k)) (fun _ v => (f - intOf v).toNat)
    case atStart => exact ⟨0, by omega, rfl, by simp [sumP]⟩
    case round =>
      obtain ⟨k, hk, rfl, rfl⟩ := hrel
      obtain ⟨s0, s1⟩ := HSB.out k
      by_cases hlt : (k : Int) + 1 < f
      · obtain ⟨p0, p1⟩ := partV_bd ((k : Int) + 1) f
        obtain ⟨q0, q1⟩ := powP_bd (partV ((k : Int) + 1) f) p0 (cntP p)
        have hs : sumP f p (k + 1) = sumP f p k + powP (partV ((k : Int) + 1) f) (cntP p) := rfl
        have HS := Lib.hid hs
        clear hs
        go_wp2_with (first | (go_at_call 23; refine (prob_Part _ _ _).mono ?_; rintro e w' ⟨rfl, rfl⟩) | (go_at_call 27; refine (prob_Power _ _ _ ⟨by omega, by omega⟩).mono ?_; rintro e w' ⟨rfl, rfl⟩))
        go_round
        case rel => exact ⟨k + 1, by omega, by go_num, by rw [HS.out]; congr 1; omega⟩
        case measure => simp [intOf]; omega
      · have hk2 : (f - 1).toNat = k := by omega
        have HK := Lib.hid hk2
        clear hk2
        go_wp2
        go_ret2
        exact ⟨ret_two (by rw [HV.out, HK.out]) rfl, rfl⟩
set_option maxRecDepth 20000 in
set_option maxHeartbeats 1000000 in
theorem ref56_High (f p : Int) (w : World) (h : rightB f p = true) : Calls Try.prog 52 #[.int .i64 f, .int .i64 p] w fun e w' => e = .returned (.int .u64 (highV f p)) ∧ w = w' := by
  obtain ⟨h1, h2, h3, h4⟩ := right_iff.1 h
  clear h
  by_cases h0 : p = 0
  · have hv : highV f p = 0 := by unfold highV; rw [if_pos h0]
    rw [hv]
    subst h0
    clear hv
    go_enter Try.func52, Try.ntmps52
    go_wp2
    go_ret
    exact ⟨rfl, rfl⟩
  · have hv : highV f p = f * 4294967296 - sumP f p (f - 1).toNat := by unfold highV; rw [if_neg h0]
    have hz : (p == 0) = false := by simp [h0]
    have HV := Lib.hid hv
    have H0 := Lib.hid h0
    have hsb := sumP_bd f p
    have HSB := Lib.hid hsb
    clear hv h0 hsb
    go_enter Try.func52, Try.ntmps52
    go_wp2
    go_loop [5, 6] (fun u v => ∃ k : Nat, (k : Int) + 1 ≤ f ∧ v = .int .i64 ((k : Int) + 1) ∧ u = .int .u64 (sumP f p k)) (fun _ v => (f - intOf v).toNat)
    case atStart => exact ⟨0, by omega, rfl, rfl⟩
    case round =>
      obtain ⟨k, hk, rfl, rfl⟩ := hrel
      obtain ⟨s0, s1⟩ := HSB.out k
      by_cases hlt : (k : Int) + 1 < f
      · obtain ⟨p0, p1⟩ := partV_bd ((k : Int) + 1) f
        obtain ⟨q0, q1⟩ := powP_bd (partV ((k : Int) + 1) f) p0 (cntP p)
        have hs : sumP f p (k + 1) = sumP f p k + powP (partV ((k : Int) + 1) f) (cntP p) := rfl
        have HS := Lib.hid hs
        clear hs
        go_wp2_with (first | (go_at_call 24; refine (ref56_Part _ _ _).mono ?_; rintro e w' ⟨rfl, rfl⟩) | (go_at_call 28; refine (ref56_Power _ _ _ ⟨by omega, by omega⟩).mono ?_; rintro e w' ⟨rfl, rfl⟩))
        go_round
        case rel => exact ⟨k + 1, by omega, by go_num, by rw [HS.out]⟩
        case measure => simp [intOf]; omega
      · have hk2 : (f - 1).toNat = k := by omega
        have HK := Lib.hid hk2
        clear hk2
        go_wp2
        go_ret
        exact ⟨ret_int (by rw [HV.out, HK.out]), rfl⟩

theorem alive56 (w : World) : Calls Try.prog 29 #[] w fun e w' => e = .returned (.bool true) ∧ w = w' := by
  have hs : ∀ w, Calls Try.prog 45 #[.int .i64 1, .int .i64 1] w fun e w' => e = .returned (.tuple #[.int .u64 4294967296, .int .i64 0]) ∧ w = w' := fun w => prob_Stops 1 1 w (by decide)
  have HS := Lib.hid hs
  clear hs
  go_enter Try.func29, Try.ntmps29
  go_wp2_with (first | (go_at_call 45; refine (HS.out _).mono ?_; rintro e w' ⟨rfl, rfl⟩))
  go_ret
  exact ⟨rfl, rfl⟩
end Go.Proofs.Ytokgokjgpmdlpaa
