/-
  The statement FigureTrips, walked.
-/
import Derived.Test.YtfpmdldngnopjaaFigT
import Derived.Test.YtfpmdldngnopjaaArgA
set_option linter.unusedVariables false
set_option linter.unusedSimpArgs false
namespace Go.Proofs.Ytfpmdldngnopjaa
open Go.Joins Go.ChangeShapes Go.WideShapes Go.ChangeAt Go.RowKit Go.Deep

theorem below_box3 {B w' : World} {o : Obj} (hb : Below B.heap.size B w') : Below B.heap.size B (w'.alloc o) := hb.alloc hb.size o
set_option maxRecDepth 20000 in
set_option maxHeartbeats 2000000 in
theorem figtrips_1 (A : Option Addr) (C : Nat) (xs : List Trip) (c h : Int) (w : World) (hx : Trips w A xs) :
    Calls Try.prog 11 #[.slice A xs.length C, .int .i64 c, .int .i64 h] w fun e w' => e = .returned (.bool true) ∧ Below w.heap.size w w' := by
  have cG := great24 A C xs w hx
  have CG := Lib.hid cG
  have HX := Lib.hid hx
  clear hx cG
  go_enter Try.func11, Try.ntmps11
  go_wp2_with fail
  refine CG.out.mono ?_
  rintro e w1 ⟨b, rfl, hf, hb1⟩
  cases b
  · have hf := hf rfl
    have HF := Lib.hid hf
    have hl := hf.1
    clear hf CG
    by_cases hu : 0 ≤ c ∧ c ≤ 1048576 ∧ -1 ≤ h ∧ h ≤ 1073741824
    · obtain ⟨hc0, hc1, hh0, hh1⟩ := hu
      have hx1 := Lib.hid (HX.out.below hb1)
      by_cases hok : 1 ≤ c ∧ 1 ≤ h
      · obtain ⟨hc, hh⟩ := hok
        go_wp2_with fail
        have m0 : 1 ≤ c * h := by have := Int.mul_le_mul hc hh (by omega) (by omega : 0 ≤ c); omega
        have m1 : c * h ≤ 1048576 * 1073741824 := Int.mul_le_mul hc1 hh1 (by omega) (by omega)
        obtain ⟨s0, s1⟩ := abS_bd HF.out hh1 xs.length (Nat.le_refl _)
        have cL := fig_Load A C xs c h _ hx1.out HF.out hc hh hc1 hh1
        have hof : ofF (abS xs h xs.length) (c * h) = ⟨abS xs h xs.length / (c * h), abS xs h xs.length % (c * h), c * h⟩ := by unfold ofF; rw [if_neg (by omega)]
        rw [hof] at cL
        refine cL.mono ?_
        rintro e w2 ⟨rfl, hb2⟩
        have hx2 := Lib.hid (hx1.out.below (hb2))
        have hB2 := hb1.trans (hb2.mono hb1.size)
        have hx3 := Lib.hid (hx2.out.below (Joins.below_alloc1 w2 (.cells #[.int .i64 (abS xs h xs.length / (c * h)), .int .i64 (abS xs h xs.length % (c * h)), .int .i64 (c * h)] 78)))
        clear hof cL hb2 hx1
        go_wp2_with fail
        refine (ref24_Aboard A C xs h _ hx3.out HF.out (by omega) hh1).mono ?_
        rintro e w4 ⟨rfl, hb4⟩
        have hx4 := Lib.hid (hx3.out.below hb4)
        have hB4 : Below w.heap.size w w4 := below_box hB2 hb4
        obtain ⟨hc4, hf4⟩ := bcell hb4
        have hz4 := hb4.size
        simp only [alloc_size] at hc4 hf4 hz4
        clear hb4 hf4 hx3
        go_wp2_with fail
        obtain ⟨n4, n5⟩ := cntP_bd xs 2 xs.length
        have hv : hdlV xs h = cntP xs 2 xs.length * 300 / h := by unfold hdlV; rw [if_neg (by omega)]
        have cH : ∀ g : Grow w4, Calls Try.prog 55 #[.slice A xs.length C, .int .i64 h] g.world fun e w' => e = .returned (.int .i64 (cntP xs 2 xs.length * 300 / h)) ∧ Below g.world.heap.size g.world w' := fun g => by
          have := fig_Handling A C xs h g.world (hx4.out.below (Grow.below g)) hl
          rwa [hv] at this
        have cM : ∀ g : Grow w4, Calls Try.prog 34 #[.slice A xs.length C, .int .i64 2] g.world fun e w' => e = .returned (.int .i64 (cntP xs 2 xs.length)) ∧ Below g.world.heap.size g.world w' := fun g => ref24_Many A C xs 2 g.world (hx4.out.below (Grow.below g)) hl
        have CH := Lib.hid cH
        have CM := Lib.hid cM
        have hzh : (h == 0) = false := beq_eq_false_iff_ne.2 (by omega)
        have hzm : (c * h == 0) = false := beq_eq_false_iff_ne.2 (by omega)
        obtain ⟨q1, q2⟩ := quo_in (x := cntP xs 2 xs.length * 300) (m := h) (by omega) hh
        obtain ⟨q3, q4⟩ := quo_in (x := abS xs h xs.length) (m := c * h) s0 m0
        clear hv cH cM
        generalize cntP xs 2 xs.length = n at *
        generalize abS xs h xs.length = a at *
        have k1 : IntKind.i64.wrap (n * 300) = n * 300 := IntWalk.i64_in _ (by omega)
        have hzw : w2.heap.size < w4.heap.size := by omega
        have e1 : (n * 300 / h == n * 300 / h) = true := by simp
        have e2 : (a / (c * h) == a / (c * h)) = true := by simp
        have e3 : (a % (c * h) == a % (c * h)) = true := by simp
        have e4 : (c * h == c * h) = true := by simp
        refine wp_region_grow (by kernel_rfl) (by kernel_rfl) ?_
        repeat (go_big_quiet_step ((first | (go_at_call 55; with_reducible exact grow_of (CH.out _)) | (go_at_call 34; with_reducible exact grow_of (CM.out _)) | (go_at_call 56; with_reducible exact grow_of (alive35 _)))))
        refine wpQuiet_nil ?_
        intro w5 hb5
        go_wp2
        go_ret
        exact ⟨rfl, hB4.trans (hb5.mono hB4.size)⟩
      · have cL := fig_Load_not A C xs c h w1 (by omega)
        have CL := Lib.hid cL
        have cH := fun w hx => fig_Handling A C xs h w hx hl
        have hok2 : (h < 1) ∨ (1 ≤ h ∧ c < 1) := by omega
        clear cL hok
        go_wp2_with fail
        refine CL.out.mono ?_
        rintro e w2 ⟨rfl, hb2⟩
        have hB2 := hb1.trans (hb2.mono hb1.size)
        have hx3 := Lib.hid ((hx1.out.below hb2).below (Joins.below_alloc1 w2 (.cells #[.int .i64 0, .int .i64 0, .int .i64 0] 78)))
        rcases hok2 with hh | ⟨hh, hc⟩
        · have cH2 := cH _ hx3.out
          rw [show hdlV xs h = 0 from by unfold hdlV; rw [if_pos hh]] at cH2
          have CH := Lib.hid cH2
          clear cH cH2 hb2
          go_wp2_with fail
          refine CH.out.mono ?_
          rintro e w3 ⟨rfl, hb3⟩
          go_wp2_with fail
          refine (alive35 _).mono ?_
          rintro e w4 ⟨rfl, hb4⟩
          go_wp2
          go_ret
          have hB3 : Below w.heap.size w w3 := below_box hB2 hb3
          exact ⟨rfl, hB3.trans (hb4.mono hB3.size)⟩
        · clear cH hb2
          go_wp2_with fail
          refine (alive35 _).mono ?_
          rintro e w4 ⟨rfl, hb4⟩
          go_wp2
          go_ret
          exact ⟨rfl, below_box hB2 hb4⟩
    · have hu2 : c < 0 ∨ (0 ≤ c ∧ 1048576 < c) ∨ (0 ≤ c ∧ c ≤ 1048576 ∧ h < -1) ∨ (0 ≤ c ∧ c ≤ 1048576 ∧ -1 ≤ h ∧ 1073741824 < h) := by omega
      clear hu
      rcases hu2 with hu | ⟨hu, hu2⟩ | ⟨hu, hu2, hu3⟩ | ⟨hu, hu2, hu3, hu4⟩
      all_goals
        go_wp2
        go_ret
        exact ⟨rfl, hb1⟩
  · go_wp2
    go_ret
    exact ⟨rfl, hb1⟩

set_option maxRecDepth 100000 in
theorem walkFigureTrips {H : Type} (W : World) (base : Nat) (enc : TypeId × Value → H) {v0 : Value} {d0 : DataW H} {p0 : List MemPlace} {v1 : Value} {d1 : DataW H} {p1 : List MemPlace} {v2 : Value} {d2 : DataW H} {p2 : List MemPlace}
    (h0 : DataW.Trod enc Try.prog W 0 (fun _ => true) true 39 v0 d0 p0) (h1 : DataW.Trod enc Try.prog W 0 (fun _ => true) true 3 v1 d1 p1) (h2 : DataW.Trod enc Try.prog W 0 (fun _ => true) true 3 v2 d2 p2)
    (o0 : Value.okWide Try.prog W .any base 39 v0) (o1 : Value.okWide Try.prog W .any base 3 v1) (o2 : Value.okWide Try.prog W .any base 3 v2) :
    Calls Try.prog 11 #[v0, v1, v2] W fun e W' => e = .returned (.bool true) ∧ Below W.heap.size W W' := by
  obtain ⟨n, hn⟩ := arg_slice Try.underlying39 o0 h0
  obtain ⟨xs, hxs⟩ := read_slice (size := 7) Try.underlying39 (by kernel_rfl) (by decide) (fun _ _ _ h => read_Trip h) hn
  obtain ⟨A, C, rfl, _, _⟩ := slice_len hxs
  obtain ⟨c, rfl, _, _⟩ := arg_int o1 h1
  obtain ⟨h, rfl, _, _⟩ := arg_int o2 h2
  exact figtrips_1 A C xs c h W (elems_of (ok := fun _ => True) (fun _ _ _ h => h.1) hxs)
end Go.Proofs.Ytfpmdldngnopjaa
