
/-
  Whether two sets of two words are the same, as the machine asks it.
-/
import Derived.Test.YtejcgagblpkmoaaDoorSetW2
set_option linter.unusedVariables false
set_option linter.unusedSimpArgs false
namespace Go.Proofs.YtejcgagblpkmoaaDoor
open Go.Joins Go.ChangeShapes Go.WideShapes Go.ChangeAt Go.RowKit Go.Deep

theorem run_set2d (d : Nat) (a b a' b' : Int) (w : World) : (Op.equalIn (d + 1 + 1) 38 (.agg #[.int .u64 a, .int .u64 b]) (.agg #[.int .u64 a', .int .u64 b'])).run Tryd.prog w = .ok (a == a' && b == b') w := by
  have hq : ∀ (x y : Int) (w : World), (Op.equalIn (d + 1) 36 (.int .u64 x) (.int .u64 y)).run Tryd.prog w = .ok (x == y) w := fun x y w => by
    rw [run_equalIn_int w d _ .u64 .u64 x y Tryd.underlying36]
  have hz := Tryd.sizeOf36
  rw [Op.equalIn]
  simp only [Sem.run_bind, run_underlying Tryd.underlying38, Result.andThen_ok, hz]
  by_cases h1 : a = a'
  · by_cases h2 : b = b'
    · simp [Std.Legacy.Range.forIn_eq_forIn_range', Std.Legacy.Range.size, List.range', go_sem, hq, h1, h2]
    · simp [Std.Legacy.Range.forIn_eq_forIn_range', Std.Legacy.Range.size, List.range', go_sem, hq, h1, h2]
  · simp [Std.Legacy.Range.forIn_eq_forIn_range', Std.Legacy.Range.size, List.range', go_sem, hq, h1]
theorem run_set2 (a b a' b' : Int) (w : World) : (Op.equalIn 10000 38 (.agg #[.int .u64 a, .int .u64 b]) (.agg #[.int .u64 a', .int .u64 b'])).run Tryd.prog w = .ok (a == a' && b == b') w := run_set2d 9998 a b a' b' w
end Go.Proofs.YtejcgagblpkmoaaDoor
