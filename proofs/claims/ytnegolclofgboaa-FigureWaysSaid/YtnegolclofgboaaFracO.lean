
/-
  A number over another one: frac.Of. Condition: the numbers fit their kinds.
-/
import Derived.Test.YtnegolclofgboaaBits
import Derived.Test.YtnegolclofgboaaDataF
import Derived.RegionTactic
set_option linter.unusedVariables false
set_option linter.unusedSimpArgs false
namespace Go.Proofs.Ytnegolclofgboaa
open Go.Joins Go.ChangeShapes Go.WideShapes Go.ChangeAt Go.RowKit Go.Deep

/-- A number over another one. -/
def ofF (n b : Int) : Frac := if n < 0 ∨ b ≤ 0 then ⟨0, 0, 0⟩ else ⟨n / b, n % b, b⟩
def ofE (n b : Int) : Int := if n < 0 ∨ b < 0 then 22 else if b = 0 then 11 else 0
theorem ret_frac {f g : Frac} {k : IntKind} {a b : Int} (h : f = g) (h' : a = b) : Ending.returned (.tuple #[f.val, .int k a]) = .returned (.tuple #[g.val, .int k b]) := by rw [h, h']

set_option maxHeartbeats 1000000 in
theorem frac_Of (n b : Int) (w : World) (hn : I64 n) (hb : I64 b) : Calls Try.prog 40 #[.int .i64 n, .int .i64 b] w fun e w' => e = .returned (.tuple #[(ofF n b).val, .int .i64 (ofE n b)]) ∧ Below w.heap.size w w' := by
  unfold I64 at hn hb
  by_cases h : n < 0 ∨ b < 0
  · have h1 : ofF n b = ⟨0, 0, 0⟩ := by unfold ofF; rw [if_pos (by omega)]
    have h2 : ofE n b = 22 := by unfold ofE; rw [if_pos h]
    rw [h1, h2]
    clear h1 h2
    rcases Int.lt_or_le n 0 with hc | hc
    · clear h
      go_enter Try.func40, Try.ntmps40
      go_wp2
      exact bodyPost_ret (v := .tuple #[.agg #[.int .i64 0, .int .i64 0, .int .i64 0], .int .i64 22]) (by simp [results, Try.results40, go_sem]) rfl ⟨rfl, (Below.refl _ _).alloc (Nat.le_refl _) _⟩
    · have hc2 : b < 0 := by omega
      clear h
      go_enter Try.func40, Try.ntmps40
      go_wp2
      exact bodyPost_ret (v := .tuple #[.agg #[.int .i64 0, .int .i64 0, .int .i64 0], .int .i64 22]) (by simp [results, Try.results40, go_sem]) rfl ⟨rfl, (Below.refl _ _).alloc (Nat.le_refl _) _⟩
  · obtain ⟨h1, h2⟩ := not_or.1 h
    by_cases hz : b = 0
    · have e1 : ofF n b = ⟨0, 0, 0⟩ := by unfold ofF; rw [if_pos (by omega)]
      have e2 : ofE n b = 11 := by unfold ofE; rw [if_neg h, if_pos hz]
      rw [e1, e2]
      subst hz
      clear e1 e2 h h2
      go_enter Try.func40, Try.ntmps40
      go_wp2
      exact bodyPost_ret (v := .tuple #[.agg #[.int .i64 0, .int .i64 0, .int .i64 0], .int .i64 11]) (by simp [results, Try.results40, go_sem]) rfl ⟨rfl, (Below.refl _ _).alloc (Nat.le_refl _) _⟩
    · have e1 : ofF n b = ⟨n / b, n % b, b⟩ := by unfold ofF; rw [if_neg (by omega)]
      have e2 : ofE n b = 0 := by unfold ofE; rw [if_neg h, if_neg hz]
      rw [e1, e2]
      have hb1 : 1 ≤ b := by omega
      have hn0 : 0 ≤ n := by omega
      have hq0 : 0 ≤ n / b := Int.ediv_nonneg hn0 (by omega)
      have hq1 : n / b ≤ n := Int.ediv_le_self _ hn0
      have hzb : (b == 0) = false := by simp [hz]
      clear e1 e2 h h1 h2 hz
      go_enter Try.func40, Try.ntmps40
      go_wp2
      go_region
      go_wp2
      refine bodyPost_ret (v := .tuple #[.agg #[.int .i64 (n / b), .int .i64 (n % b), .int .i64 b], .int .i64 0]) (by simp [results, Try.results40, go_sem]) rfl ?_
      exact ⟨rfl, ((Below.refl _ _).alloc (Nat.le_refl _) _).drew⟩
end Go.Proofs.Ytnegolclofgboaa
