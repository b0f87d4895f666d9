
/-
  The statement BarsLong, walked.
-/
import Derived.Test.YtnlieclfajebbaaBars
import Derived.Test.YtnlieclfajebbaaArgI
set_option linter.unusedVariables false
set_option linter.unusedSimpArgs false
namespace Go.Proofs.Ytnlieclfajebbaa
open Go.Joins Go.ChangeShapes Go.WideShapes Go.ChangeAt Go.RowKit Go.Deep

set_option maxRecDepth 20000 in
set_option maxHeartbeats 4000000 in
theorem bars_1 (n g l : Int) (w : World) (hn : I64 n) (hg : I64 g) (hl : I64 l) :
    Calls Try.prog 8 #[.int .i64 n, .int .i64 g, .int .i64 l] w fun e w' => e = .returned (.bool true) ∧ Below w.heap.size w w' := by
  have cB := fun w => bars_Long n g l w hn hg hl
  have cR := fun w => ref55_Long n g l w hn hg hl
  obtain ⟨b0, b1, b2⟩ := bar_bd n g l
  have hb : (barE n g l = 22 ∨ (barE n g l = 0 ∧ barV n g l ≤ l ∧ (0 < barV n g l ↔ 0 < n))) := by
    by_cases h : barBad n g l
    · exact .inl (b1 h).2
    · exact .inr ⟨(b2 h).1, (b2 h).2.1, (b2 h).2.2.1⟩
  generalize barV n g l = m at *
  generalize barE n g l = e0 at *
  clear b1 b2
  have CB := Lib.hid cB
  have CR := Lib.hid cR
  clear cB cR
  have e1 : (m == m) = true := by simp
  rcases hb with rfl | ⟨rfl, hml, hmn⟩
  · go_enter Try.func8, Try.ntmps8
    go_wp2_with fail
    refine (CB.out _).mono ?_
    rintro e w' ⟨rfl, k, rfl⟩
    go_wp2_with fail
    refine (CR.out _).mono ?_
    rintro e w' ⟨rfl, rfl⟩
    go_wp2_with fail
    refine (alive55 _).mono ?_
    rintro e w' ⟨rfl, j, rfl⟩
    go_wp2
    go_ret
    exact ⟨rfl, below_drewN (Below.refl _ _) _⟩
  · have hc : (0 < m ∧ 0 < n) ∨ (m ≤ 0 ∧ n ≤ 0) := by omega
    clear hmn
    rcases hc with ⟨h1, h2⟩ | ⟨h1, h2⟩
    all_goals
      go_enter Try.func8, Try.ntmps8
      go_wp2_with fail
      refine (CB.out _).mono ?_
      rintro e w' ⟨rfl, k, rfl⟩
      go_wp2_with fail
      refine (CR.out _).mono ?_
      rintro e w' ⟨rfl, rfl⟩
      go_wp2_with fail
      refine (alive55 _).mono ?_
      rintro e w' ⟨rfl, j, rfl⟩
      go_wp2
      go_ret
      exact ⟨rfl, below_drewN (Below.refl _ _) _⟩

set_option maxRecDepth 100000 in
theorem walkBarsLong {H : Type} (W : World) (base : Nat) (enc : TypeId × Value → H) {v0 : Value} {d0 : DataW H} {p0 : List MemPlace} {v1 : Value} {d1 : DataW H} {p1 : List MemPlace} {v2 : Value} {d2 : DataW H} {p2 : List MemPlace}
    (h0 : DataW.Trod enc Try.prog W 0 (fun _ => true) true 3 v0 d0 p0) (h1 : DataW.Trod enc Try.prog W 0 (fun _ => true) true 3 v1 d1 p1) (h2 : DataW.Trod enc Try.prog W 0 (fun _ => true) true 3 v2 d2 p2)
    (o0 : Value.okWide Try.prog W .any base 3 v0) (o1 : Value.okWide Try.prog W .any base 3 v1) (o2 : Value.okWide Try.prog W .any base 3 v2) :
    Calls Try.prog 8 #[v0, v1, v2] W fun e W' => e = .returned (.bool true) ∧ Below W.heap.size W W' := by
  obtain ⟨n, rfl, n0, n1⟩ := arg_int o0 h0
  obtain ⟨g, rfl, g0, g1⟩ := arg_int o1 h1
  obtain ⟨l, rfl, l0, l1⟩ := arg_int o2 h2
  exact bars_1 n g l W ⟨n0, n1⟩ ⟨g0, g1⟩ ⟨l0, l1⟩
end Go.Proofs.Ytnlieclfajebbaa
