/-
  The order of two quotients: frac.Compare and the document's. Condition: both may be, and fit their kinds.
-/
import Derived.Test.YtokgokjgpmdlpaaFrac
import Derived.Test.YtokgokjgpmdlpaaNumsMul2
set_option linter.unusedVariables false
set_option linter.unusedSimpArgs false
namespace Go.Proofs.Ytokgokjgpmdlpaa
open Go.Joins Go.ChangeShapes Go.WideShapes Go.ChangeAt Go.RowKit Go.Deep

/-- The order of numbers. -/
def cmpI (a b : Int) : Int := if a < b then -1 else if b < a then 1 else 0
def cmpF (f g : Frac) : Int := if f.whole = g.whole then cmpI (f.rest * g.by_) (g.rest * f.by_) else cmpI f.whole g.whole
/-- The order by a number's halves. -/
theorem halves {m n : Int} (hm : 0 ≤ m) (hn : 0 ≤ n) : (m < n ↔ m / 18446744073709551616 < n / 18446744073709551616 ∨ (m / 18446744073709551616 = n / 18446744073709551616 ∧ m % 18446744073709551616 < n % 18446744073709551616)) := by omega
theorem prod_bd {a b : Int} (ha : 0 ≤ a) (ha' : a ≤ 9223372036854775807) (hb : 0 ≤ b) (hb' : b ≤ 9223372036854775807) : 0 ≤ a * b ∧ a * b / 18446744073709551616 ≤ 4611686018427387904 := by
  have m0 : 0 ≤ a * b := Int.mul_nonneg ha hb
  have m1 : a * b ≤ 9223372036854775807 * 9223372036854775807 := Int.mul_le_mul ha' hb' hb (by omega)
  omega
set_option maxRecDepth 20000 in
set_option maxHeartbeats 1000000 in
theorem frac_Compare (f g : Frac) (w : World) (hf : rightF f = true) (hg : rightF g = true) (kf : f.ok) (kg : g.ok) :
    Calls Try.prog 53 #[f.val, g.val] w fun e w' => e = .returned (.int .i64 (cmpF f g)) ∧ Below w.heap.size w w' := by
  unfold rightF at hf hg
  simp only [decide_eq_true_eq] at hf hg
  obtain ⟨a1, a2, a3⟩ := hf
  obtain ⟨b1, b2, b3⟩ := hg
  obtain ⟨⟨-, l1⟩, ⟨-, l2⟩, ⟨-, l3⟩⟩ := kf
  obtain ⟨⟨-, l4⟩, ⟨-, l5⟩, ⟨-, l6⟩⟩ := kg
  obtain ⟨x, y, z⟩ := f
  obtain ⟨u, v, t⟩ := g
  simp only at *
  have cM := fun w => mul64 y t w a2 (by omega) (by omega) (by omega)
  have cN := fun w => mul64 v z w b2 (by omega) (by omega) (by omega)
  obtain ⟨m0, m1⟩ := prod_bd (a := y) (b := t) a2 (by omega) (by omega) (by omega)
  obtain ⟨n0, n1⟩ := prod_bd (a := v) (b := z) b2 (by omega) (by omega) (by omega)
  by_cases hw : x = u
  · have he : cmpF ⟨x, y, z⟩ ⟨u, v, t⟩ = cmpI (y * t) (v * z) := by unfold cmpF; rw [if_pos hw]
    rw [he]
    subst hw
    generalize y * t = M at *
    generalize v * z = N at *
    have hh := halves m0 n0
    have hi := halves n0 m0
    have hM0 : 0 ≤ M / 18446744073709551616 := by omega
    have hN0 : 0 ≤ N / 18446744073709551616 := by omega
    have hM1 : 0 ≤ M % 18446744073709551616 ∧ M % 18446744073709551616 ≤ 18446744073709551615 := by omega
    have hN1 : 0 ≤ N % 18446744073709551616 ∧ N % 18446744073709551616 ≤ 18446744073709551615 := by omega
    generalize M / 18446744073709551616 = mh at *
    generalize M % 18446744073709551616 = ml at *
    generalize N / 18446744073709551616 = nh at *
    generalize N % 18446744073709551616 = nl at *
    have hx : (x != x) = false := by simp
    have CM := Lib.hid cM
    have CN := Lib.hid cN
    have HH := Lib.hid hh
    have HI := Lib.hid hi
    clear cM cN hh hi he
    go_enter Try.func53, Try.ntmps53
    go_wp2_with fail
    refine (CM.out _).mono ?_
    rintro e w' ⟨rfl, rfl⟩
    go_wp2_with fail
    refine (CN.out _).mono ?_
    rintro e w' ⟨rfl, rfl⟩
    go_wp2_with fail
    all_goals
      have hh := HH.out
      have hi := HI.out
      first
      | (go_ret; exact ⟨ret_int (by unfold cmpI; first | rw [if_pos (by omega)] | rw [if_neg (by omega), if_pos (by omega)] | rw [if_neg (by omega), if_neg (by omega)]), Joins.below_alloc2 _ _ _⟩)
      | (exfalso; omega)
  · have he : cmpF ⟨x, y, z⟩ ⟨u, v, t⟩ = cmpI x u := by unfold cmpF; rw [if_neg hw]
    rw [he]
    have hx : (x != u) = true := by simp [hw]
    have hc : x < u ∨ u < x := by omega
    clear he hw cM cN
    rcases hc with hc | hc
    all_goals
      go_enter Try.func53, Try.ntmps53
      go_wp2
      go_ret
      exact ⟨ret_int (by unfold cmpI; first | rw [if_pos (by omega)] | rw [if_neg (by omega), if_pos (by omega)]), Joins.below_alloc2 _ _ _⟩
set_option maxRecDepth 20000 in
set_option maxHeartbeats 1000000 in
theorem ref08_Compare (f g : Frac) (w : World) (hf : rightF f = true) (hg : rightF g = true) (kf : f.ok) (kg : g.ok) :
    Calls Try.prog 54 #[f.val, g.val] w fun e w' => e = .returned (.int .i64 (cmpF f g)) ∧ Below w.heap.size w w' := by
  unfold rightF at hf hg
  simp only [decide_eq_true_eq] at hf hg
  obtain ⟨a1, a2, a3⟩ := hf
  obtain ⟨b1, b2, b3⟩ := hg
  obtain ⟨⟨-, l1⟩, ⟨-, l2⟩, ⟨-, l3⟩⟩ := kf
  obtain ⟨⟨-, l4⟩, ⟨-, l5⟩, ⟨-, l6⟩⟩ := kg
  obtain ⟨x, y, z⟩ := f
  obtain ⟨u, v, t⟩ := g
  simp only at *
  have cM := fun w => ref_Times y t w a2 (by omega) (by omega) (by omega)
  have cN := fun w => ref_Times v z w b2 (by omega) (by omega) (by omega)
  obtain ⟨m0, m1⟩ := prod_bd (a := y) (b := t) a2 (by omega) (by omega) (by omega)
  obtain ⟨n0, n1⟩ := prod_bd (a := v) (b := z) b2 (by omega) (by omega) (by omega)
  by_cases hw : x = u
  · have he : cmpF ⟨x, y, z⟩ ⟨u, v, t⟩ = cmpI (y * t) (v * z) := by unfold cmpF; rw [if_pos hw]
    rw [he]
    subst hw
    generalize y * t = M at *
    generalize v * z = N at *
    have hh := halves m0 n0
    have hi := halves n0 m0
    have hM0 : 0 ≤ M / 18446744073709551616 := by omega
    have hN0 : 0 ≤ N / 18446744073709551616 := by omega
    have hM1 : 0 ≤ M % 18446744073709551616 ∧ M % 18446744073709551616 ≤ 18446744073709551615 := by omega
    have hN1 : 0 ≤ N % 18446744073709551616 ∧ N % 18446744073709551616 ≤ 18446744073709551615 := by omega
    generalize M / 18446744073709551616 = mh at *
    generalize M % 18446744073709551616 = ml at *
    generalize N / 18446744073709551616 = nh at *
    generalize N % 18446744073709551616 = nl at *
    have hx : (x != x) = false := by simp
    have CM := Lib.hid cM
    have CN := Lib.hid cN
    have HH := Lib.hid hh
    have HI := Lib.hid hi
    clear cM cN hh hi he
    go_enter Try.func54, Try.ntmps54
    go_wp2_with fail
    refine (CM.out _).mono ?_
    rintro e w' ⟨rfl, rfl⟩
    go_wp2_with fail
    refine (CN.out _).mono ?_
    rintro e w' ⟨rfl, rfl⟩
    go_wp2_with fail
    all_goals
      have hh := HH.out
      have hi := HI.out
      first
      | (go_ret; exact ⟨ret_int (by unfold cmpI; first | rw [if_pos (by omega)] | rw [if_neg (by omega), if_pos (by omega)] | rw [if_neg (by omega), if_neg (by omega)]), Joins.below_alloc2 _ _ _⟩)
      | (exfalso; omega)
  · have he : cmpF ⟨x, y, z⟩ ⟨u, v, t⟩ = cmpI x u := by unfold cmpF; rw [if_neg hw]
    rw [he]
    generalize y * t = M at *
    generalize v * z = N at *
    have hM0 : 0 ≤ M / 18446744073709551616 := by omega
    have hN0 : 0 ≤ N / 18446744073709551616 := by omega
    have hM1 : 0 ≤ M % 18446744073709551616 ∧ M % 18446744073709551616 ≤ 18446744073709551615 := by omega
    have hN1 : 0 ≤ N % 18446744073709551616 ∧ N % 18446744073709551616 ≤ 18446744073709551615 := by omega
    generalize M / 18446744073709551616 = mh at *
    generalize M % 18446744073709551616 = ml at *
    generalize N / 18446744073709551616 = nh at *
    generalize N % 18446744073709551616 = nl at *
    have hx : (x == u) = false := by simp [hw]
    have hc : x < u ∨ u < x := by omega
    have CM := Lib.hid cM
    have CN := Lib.hid cN
    clear cM cN he hw
    rcases hc with hc | hc
    all_goals
      go_enter Try.func54, Try.ntmps54
      go_wp2_with fail
      refine (CM.out _).mono ?_
      rintro e w' ⟨rfl, rfl⟩
      go_wp2_with fail
      refine (CN.out _).mono ?_
      rintro e w' ⟨rfl, rfl⟩
      go_wp2_with fail
      go_ret
      exact ⟨ret_int (by unfold cmpI; first | rw [if_pos (by omega)] | rw [if_neg (by omega), if_pos (by omega)]), Joins.below_alloc2 _ _ _⟩
end Go.Proofs.Ytokgokjgpmdlpaa
