/-
  The statement TripTimes, walked.
-/
import Derived.Test.YtfpmdldngnopjaaTrip5
import Derived.Test.YtfpmdldngnopjaaTrip6
import Derived.Test.YtfpmdldngnopjaaEqI
import Derived.Test.YtfpmdldngnopjaaArgA
set_option linter.unusedVariables false
set_option linter.unusedSimpArgs false
namespace Go.Proofs.Ytfpmdldngnopjaa
open Go.Joins Go.ChangeShapes Go.WideShapes Go.ChangeAt Go.RowKit Go.Deep

set_option maxRecDepth 20000 in
set_option maxHeartbeats 2000000 in
theorem times_1 (A : Option Addr) (C : Nat) (xs : List Trip) (u : Int) (w : World) (hx : Trips w A xs) :
    Calls Try.prog 13 #[.slice A xs.length C, .int .i64 u] w fun e w' => e = .returned (.bool true) ∧ Below w.heap.size w w' := by
  have cG := great24 A C xs w hx
  have CG := Lib.hid cG
  have HX := Lib.hid hx
  clear hx cG
  go_enter Try.func13, Try.ntmps13
  go_wp2_with fail
  refine CG.out.mono ?_
  rintro e w1 ⟨b, rfl, hf, hb1⟩
  cases b
  · have hf := hf rfl
    have HF := Lib.hid hf
    have hl := hf.1
    clear hf CG
    by_cases hu : -1 ≤ u ∧ u ≤ 1073741824
    · obtain ⟨hu0, hu1⟩ := hu
      have hx1 := Lib.hid (HX.out.below hb1)
      have hdl := doneL_len xs xs.length
      go_wp2_with fail
      refine (trip_Waits A C xs _ hx1.out HF.out).mono ?_
      rintro e w2 ⟨A2, C2, rfl, hi2, hb2⟩
      have hx2 := Lib.hid (hx1.out.below hb2)
      have hB2 := hb1.trans (hb2.mono hb1.size)
      have HI2 := Lib.hid hi2
      clear hi2 hx1 hb2
      go_wp2_with fail
      refine (ref24_Waits A C xs _ hx2.out HF.out).mono ?_
      rintro e w3 ⟨A3, C3, rfl, hi3, hb3⟩
      have hx3 := Lib.hid (hx2.out.below hb3)
      have hB3 := hB2.trans (hb3.mono hB2.size)
      have cE := equal_same A2 A3 C2 C3 _ w3 (HI2.out.below hb3) hi3 (by simp; omega)
      simp only [List.length_map] at cE
      have CE := Lib.hid cE
      clear HI2 hi3 cE hx2 hb3
      go_wp2_with fail
      refine CE.out.mono ?_
      rintro e w4 ⟨rfl, q4, rfl⟩
      have hx4 := Lib.hid (hx3.out.below (below_drewN (Below.refl _ _) q4))
      have hB4 : Below w.heap.size w (w3.drewN q4) := below_drewN hB3 q4
      clear CE hx3
      go_wp2_with fail
      refine (trip_Transits A C xs _ hx4.out HF.out).mono ?_
      rintro e w5 ⟨A5, C5, rfl, hi5, hb5⟩
      have hx5 := Lib.hid (hx4.out.below hb5)
      have hB5 := hB4.trans (hb5.mono hB4.size)
      have HI5 := Lib.hid hi5
      clear hi5 hx4 hb5
      go_wp2_with fail
      refine (ref24_Rides A C xs _ hx5.out HF.out).mono ?_
      rintro e w6 ⟨A6, C6, rfl, hi6, hb6⟩
      have hx6 := Lib.hid (hx5.out.below hb6)
      have hB6 := hB5.trans (hb6.mono hB5.size)
      have cE := equal_same A5 A6 C5 C6 _ w6 (HI5.out.below hb6) hi6 (by simp; omega)
      simp only [List.length_map] at cE
      have CE := Lib.hid cE
      clear HI5 hi6 cE hx5 hb6
      go_wp2_with fail
      refine CE.out.mono ?_
      rintro e w7 ⟨rfl, q7, rfl⟩
      have hx7 := Lib.hid (hx6.out.below (below_drewN (Below.refl _ _) q7))
      have hB7 : Below w.heap.size w (w6.drewN q7) := below_drewN hB6 q7
      clear CE hx6
      go_wp2_with fail
      refine (trip_Aboard A C xs u _ hx7.out HF.out hu0 hu1).mono ?_
      rintro e w8 ⟨rfl, hb8⟩
      have hx8 := Lib.hid (hx7.out.below hb8)
      have hB8 := hB7.trans (hb8.mono hB7.size)
      have e1 : (abS xs u xs.length == abS xs u xs.length) = true := by simp
      clear hx7 hb8
      go_wp2_with fail
      refine (ref24_Aboard A C xs u _ hx8.out HF.out hu0 hu1).mono ?_
      rintro e w9 ⟨rfl, hb9⟩
      have hB9 := hB8.trans (hb9.mono hB8.size)
      clear hx8 hb9
      go_wp2_with fail
      refine (alive24 _).mono ?_
      rintro e w10 ⟨rfl, hb10⟩
      go_wp2
      go_ret
      exact ⟨rfl, hB9.trans (hb10.mono hB9.size)⟩
    · have hu2 : u < -1 ∨ (-1 ≤ u ∧ 1073741824 < u) := by omega
      clear hu
      rcases hu2 with hu | ⟨hu, hu2⟩
      all_goals
        go_wp2
        go_ret
        exact ⟨rfl, hb1⟩
  · go_wp2
    go_ret
    exact ⟨rfl, hb1⟩

set_option maxRecDepth 100000 in
theorem walkTripTimes {H : Type} (W : World) (base : Nat) (enc : TypeId × Value → H) {v0 : Value} {d0 : DataW H} {p0 : List MemPlace} {v1 : Value} {d1 : DataW H} {p1 : List MemPlace}
    (h0 : DataW.Trod enc Try.prog W 0 (fun _ => true) true 39 v0 d0 p0) (h1 : DataW.Trod enc Try.prog W 0 (fun _ => true) true 3 v1 d1 p1)
    (o0 : Value.okWide Try.prog W .any base 39 v0) (o1 : Value.okWide Try.prog W .any base 3 v1) :
    Calls Try.prog 13 #[v0, v1] W fun e W' => e = .returned (.bool true) ∧ Below W.heap.size W W' := by
  obtain ⟨n, hn⟩ := arg_slice Try.underlying39 o0 h0
  obtain ⟨xs, hxs⟩ := read_slice (size := 7) Try.underlying39 (by kernel_rfl) (by decide) (fun _ _ _ h => read_Trip h) hn
  obtain ⟨A, C, rfl, _, _⟩ := slice_len hxs
  obtain ⟨u, rfl, _, _⟩ := arg_int o1 h1
  exact times_1 A C xs u W (elems_of (ok := fun _ => True) (fun _ _ _ h => h.1) hxs)
end Go.Proofs.Ytfpmdldngnopjaa
