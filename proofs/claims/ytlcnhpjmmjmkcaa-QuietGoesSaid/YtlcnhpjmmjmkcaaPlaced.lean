
/-
  Contracts of the package place: each function computes what its name says, for numbers within bounds.
-/
import Derived.Test.YtlcnhpjmmjmkcaaRel2
set_option linter.unusedVariables false
set_option linter.unusedSimpArgs false
namespace Go.Proofs.Ytlcnhpjmmjmkcaa
open Go.ChangeShapes Go.WideShapes Go.ChangeAt Go.RowKit Go.Deep

theorem place_At (a b : Int) (w : World) (h : -4611686018427387904 ≤ a * b) (h' : a * b ≤ 4611686018427387904) :
    Calls Try.prog 52 #[.int .i64 a, .int .i64 b] w fun e w' => e = .returned (.int .i64 (a * b)) ∧ w = w' := by
  go_enter Try.func52, Try.ntmps52
  go_wp2
  go_ret
  exact ⟨rfl, rfl⟩

theorem place_Floor (pos gap : Int) (w : World) (h0 : 0 ≤ pos) (h1 : pos ≤ 1152921504606846976) (g1 : 1 ≤ gap) (g2 : gap ≤ 1152921504606846976) :
    Calls Try.prog 36 #[.int .i64 pos, .int .i64 gap] w fun e w' => e = .returned (.tuple #[.int .i64 (pos / gap), .bool (pos % gap == 0)]) ∧ ∃ n, w' = w.drewN n := by
  go_enter Try.func36, Try.ntmps36
  go_wp2
  go_quiet (fail)
  go_wp2
  go_ret2
  exact ⟨rfl, _, rfl⟩

def nextN (pos gap dir : Int) : Int := if pos % gap = 0 then 0 else if 0 < dir then (pos / gap + 1) * gap - pos else pos - pos / gap * gap
def nextF (pos gap dir : Int) : Int := if pos % gap = 0 then pos / gap else if 0 < dir then pos / gap + 1 else pos / gap

theorem place_Next (pos gap dir : Int) (w : World) (h0 : 0 ≤ pos) (h1 : pos ≤ 1152921504606846976) (g1 : 1 ≤ gap) (g2 : gap ≤ 1048576) :
    Calls Try.prog 38 #[.int .i64 pos, .int .i64 gap, .int .i64 dir] w fun e w' => e = .returned (.tuple #[.int .i64 (nextN pos gap dir), .int .i64 (nextF pos gap dir)]) ∧ ∃ n, w' = w.drewN n := by
  have hd1 : 0 ≤ pos / gap := Int.ediv_nonneg h0 (by omega)
  have hd2 : pos / gap ≤ pos := Int.ediv_le_self _ h0
  have hm1 := Int.emod_nonneg pos (show gap ≠ 0 by omega)
  have hm2 := Int.emod_lt_of_pos pos (show 0 < gap by omega)
  have hdm : gap * (pos / gap) + pos % gap = pos := Int.mul_ediv_add_emod pos gap
  have hlo : pos / gap * gap = pos - pos % gap := by rw [Int.mul_comm]; omega
  have hhi : (pos / gap + 1) * gap = pos - pos % gap + gap := by rw [Int.add_mul, hlo]; omega
  have b1 : 0 ≤ pos / gap * gap := Int.mul_nonneg hd1 (by omega)
  have b2 : pos / gap * gap ≤ pos := by omega
  have b3 : 0 ≤ (pos / gap + 1) * gap := by omega
  have b4 : (pos / gap + 1) * gap ≤ pos + gap := by omega
  clear hlo hhi hdm
  unfold nextN nextF
  by_cases h : pos % gap = 0
  · have hb : (pos % gap == 0) = true := by simp [h]
    rw [if_pos h, if_pos h]
    have H := Lib.hid h
    clear h
    go_enter Try.func38, Try.ntmps38
    go_wp2_with (go_at_call 36; refine (place_Floor _ _ _ (by omega) (by omega) (by omega) (by omega)).mono ?_; rintro e w' ⟨rfl, nq, rfl⟩)
    go_ret2
    exact ⟨rfl, _, rfl⟩
  · have hb : (pos % gap == 0) = false := by simp [h]
    rw [if_neg h, if_neg h]
    have H := Lib.hid h
    clear h
    by_cases hd : 0 < dir
    all_goals
      go_enter Try.func38, Try.ntmps38
      go_wp2_with (first | (go_at_call 36; refine (place_Floor _ _ _ (by omega) (by omega) (by omega) (by omega)).mono ?_; rintro e w' ⟨rfl, nq, rfl⟩) | (go_at_call 52; refine (place_At _ _ _ (by omega) (by omega)).mono ?_; rintro e w' ⟨rfl, rfl⟩))
      go_ret2
      exact ⟨rfl, _, rfl⟩
end Go.Proofs.Ytlcnhpjmmjmkcaa
