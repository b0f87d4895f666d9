/-
  Numbers as parts; at how many floors a car is expected to stop, how high to go: prob and hoistwayref56. Condition: the arguments fit their kinds.
-/
import Derived.Test.YtokgokjgpmdlpaaProb
set_option linter.unusedVariables false
set_option linter.unusedSimpArgs false
namespace Go.Proofs.Ytokgokjgpmdlpaa
open Go.Joins Go.ChangeShapes Go.WideShapes Go.ChangeAt Go.RowKit Go.Deep

def partB (n m : Int) : Bool := decide (m ≠ 0 ∧ 0 ≤ n ∧ n ≤ m ∧ m ≤ 1073741824)
def partV (n m : Int) : Int := if partB n m = true then n * 4294967296 / m else 0
def partE (n m : Int) : Int := if m = 0 then 11 else if partB n m = true then 0 else 22
theorem quo_le {x m : Int} (h0 : 0 ≤ x) (h1 : 1 ≤ m) : 0 ≤ x / m ∧ x / m ≤ x := ⟨Int.ediv_nonneg h0 (by omega), Int.ediv_le_self _ h0⟩
theorem partV_bd (n m : Int) : 0 ≤ partV n m ∧ partV n m ≤ 4294967296 := by
  unfold partV partB
  split
  · rename_i h
    simp only [decide_eq_true_eq] at h
    refine ⟨Int.ediv_nonneg (by omega) (by omega), ?_⟩
    exact Int.ediv_le_of_le_mul (by omega) (by omega)
  · omega
set_option maxHeartbeats 1000000 in
theorem prob_Part (n m : Int) (w : World) : Calls Try.prog 23 #[.int .i64 n, .int .i64 m] w fun e w' => e = .returned (.tuple #[.int .u64 (partV n m), .int .i64 (partE n m)]) ∧ w = w' := by
  by_cases h : partB n m = true
  · have hb : partV n m = n * 4294967296 / m := by unfold partV; rw [if_pos h]
    have he : partE n m = 0 := by unfold partE; rw [if_pos h]; unfold partB at h; simp only [decide_eq_true_eq] at h; rw [if_neg h.1]
    unfold partB at h
    simp only [decide_eq_true_eq] at h
    obtain ⟨h0, h1, h2, h3⟩ := h
    have hz : (m == 0) = false := by simp; omega
    have h4 : 1 ≤ m := by omega
    have hq := quo_le (x := n * 4294967296) (m := m) (by omega) (by omega)
    have HB := Lib.hid hb
    have HE := Lib.hid he
    clear hb he h0
    go_enter Try.func23, Try.ntmps23
    go_wp2
    go_ret2
    exact ⟨ret_two HB.out.symm HE.out.symm, rfl⟩
  · have hb : partV n m = 0 := by unfold partV; rw [if_neg h]
    have he : partE n m = if m = 0 then 11 else 22 := by unfold partE; rw [if_neg h]
    unfold partB at h
    simp only [decide_eq_true_eq] at h
    have HB := Lib.hid hb
    have HE := Lib.hid he
    clear hb he
    by_cases h0 : m = 0
    · subst h0
      clear h
      go_enter Try.func23, Try.ntmps23
      go_wp2
      go_ret2
      exact ⟨ret_two HB.out.symm (by rw [HE.out]; simp), rfl⟩
    · have hz : (m == 0) = false := by simp; omega
      have hc : n < 0 ∨ (0 ≤ n ∧ m < n) ∨ (0 ≤ n ∧ n ≤ m ∧ 1073741824 < m) := by omega
      have H0 := Lib.hid h0
      clear h h0
      rcases hc with hc | ⟨hc, hd⟩ | ⟨hc, hd, hf⟩
      all_goals
        go_enter Try.func23, Try.ntmps23
        go_wp2
        go_ret2
        exact ⟨ret_two HB.out.symm (by rw [HE.out, if_neg H0.out]), rfl⟩
set_option maxHeartbeats 1000000 in
theorem ref56_Part (n m : Int) (w : World) : Calls Try.prog 24 #[.int .i64 n, .int .i64 m] w fun e w' => e = .returned (.tuple #[.int .u64 (partV n m), .int .i64 (partE n m)]) ∧ w = w' := by
  by_cases h : partB n m = true
  · have hb : partV n m = n * 4294967296 / m := by unfold partV; rw [if_pos h]
    have he : partE n m = 0 := by unfold partE; rw [if_pos h]; unfold partB at h; simp only [decide_eq_true_eq] at h; rw [if_neg h.1]
    unfold partB at h
    simp only [decide_eq_true_eq] at h
    obtain ⟨h0, h1, h2, h3⟩ := h
    have hz : (m == 0) = false := by simp; omega
    have h4 : 1 ≤ m := by omega
    have hq := quo_le (x := n * 4294967296) (m := m) (by omega) (by omega)
    have HB := Lib.hid hb
    have HE := Lib.hid he
    clear hb he h0
    go_enter Try.func24, Try.ntmps24
    go_wp2
    go_ret2
    exact ⟨ret_two HB.out.symm HE.out.symm, rfl⟩
  · have hb : partV n m = 0 := by unfold partV; rw [if_neg h]
    have he : partE n m = if m = 0 then 11 else 22 := by unfold partE; rw [if_neg h]
    unfold partB at h
    simp only [decide_eq_true_eq] at h
    have HB := Lib.hid hb
    have HE := Lib.hid he
    clear hb he
    by_cases h0 : m = 0
    · subst h0
      clear h
      go_enter Try.func24, Try.ntmps24
      go_wp2
      go_ret2
      exact ⟨ret_two HB.out.symm (by rw [HE.out]; simp), rfl⟩
    · have hz : (m == 0) = false := by simp; omega
      have hc : n < 0 ∨ (0 ≤ n ∧ m < n) ∨ (0 ≤ n ∧ n ≤ m ∧ 1073741824 < m) := by omega
      have H0 := Lib.hid h0
      clear h h0
      rcases hc with hc | ⟨hc, hd⟩ | ⟨hc, hd, hf⟩
      all_goals
        go_enter Try.func24, Try.ntmps24
        go_wp2
        go_ret2
        exact ⟨ret_two HB.out.symm (by rw [HE.out, if_neg H0.out]), rfl⟩
end Go.Proofs.Ytokgokjgpmdlpaa
