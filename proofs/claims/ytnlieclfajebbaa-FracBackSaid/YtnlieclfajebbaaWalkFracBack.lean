
/-
  The statement FracBack, walked.
-/
import Derived.Test.YtnlieclfajebbaaMean
import Derived.Test.YtnlieclfajebbaaFrac3
import Derived.Test.YtnlieclfajebbaaArgA
set_option linter.unusedVariables false
set_option linter.unusedSimpArgs false
namespace Go.Proofs.Ytnlieclfajebbaa
open Go.Joins Go.ChangeShapes Go.WideShapes Go.ChangeAt Go.RowKit Go.Deep

theorem sum_between {xs : List Int} {lo hi : Int} {k : Nat} (h : ∀ i, i < k → lo ≤ at0 xs i ∧ at0 xs i ≤ hi) : lo * (k : Int) ≤ sumL xs k ∧ sumL xs k ≤ hi * (k : Int) := by
  induction k with
  | zero => simp [sumL]
  | succ k ih =>
    have h1 := ih (fun i hi => h i (by omega))
    have h2 := h k (by omega)
    simp only [sumL]
    rw [show ((k + 1 : Nat) : Int) = (k : Int) + 1 by omega, Int.mul_add, Int.mul_add]
    omega
set_option maxRecDepth 20000 in
set_option maxHeartbeats 2000000 in
theorem back_1 (A : Option Addr) (C : Nat) (xs : List Int) (w : World) (hx : Ints w A xs) (hbd : ∀ i, I64 (at0 xs i)) :
    Calls Try.prog 4 #[.slice A xs.length C] w fun e w' => e = .returned (.bool true) ∧ Below w.heap.size w w' := by
  by_cases h0 : xs.length = 0
  · have hz : ((xs.length : Int) == 0) = true := beq_iff_eq.2 (by omega)
    have hz2 : (xs.length == 0) = true := beq_iff_eq.2 (by omega)
    clear hbd hx h0
    go_enter Try.func4, Try.ntmps4
    go_wp2
    go_ret
    exact ⟨rfl, Below.refl _ _⟩
  · have hz : ((xs.length : Int) == 0) = false := beq_eq_false_iff_ne.2 (by omega)
    have hz2 : (xs.length == 0) = false := beq_eq_false_iff_ne.2 (by omega)
    by_cases hl : 200 < xs.length
    · clear hbd hx h0
      go_enter Try.func4, Try.ntmps4
      go_wp2
      go_ret
      exact ⟨rfl, Below.refl _ _⟩
    · have cM := fun w hx => frac_Mean A C xs w hx (by omega) hbd
      have hpos : 0 < xs.length := by omega
      obtain ⟨b, off, rfl, hbl, hce⟩ := hx hpos
      have hc0 := hce 0 hpos
      rw [Nat.add_zero] at hc0
      obtain ⟨y0, y1⟩ := hbd 0
      have HX := Lib.hid hx
      have HCE := Lib.hid hce
      have HBD := Lib.hid hbd
      have CM := Lib.hid cM
      have i0 : (0 : Int) < (xs.length : Int) := by omega
      clear cM hx hce hbd h0
      go_enter Try.func4, Try.ntmps4
      go_wp2_with fail
      go_quiet (fail)
      go_wp2
      go_loopw [3, 4, 5, 6] (fun s l h i wr => ∃ (k n : Nat) (lo hi : Int), k ≤ xs.length ∧ i = .int .i64 k ∧ s = .int .i64 (sumL xs k) ∧ l = .int .i64 lo ∧ h = .int .i64 hi ∧ Hid (nnB xs k = true) ∧ sumL xs k ≤ 9223372036854775807 ∧ Hid (∀ i, i < k → lo ≤ at0 xs i ∧ at0 xs i ≤ hi) ∧ (-9223372036854775808 ≤ lo ∧ lo ≤ 9223372036854775807) ∧ (-9223372036854775808 ≤ hi ∧ hi ≤ 9223372036854775807) ∧ wr = w.drewN n) (fun _ _ _ i _ => xs.length - (intOf i).toNat)
      case atStart => exact ⟨0, _, at0 xs 0, at0 xs 0, by omega, rfl, rfl, rfl, rfl, rfl, by simp [sumL], fun i hi => by omega, ⟨y0, y1⟩, ⟨y0, y1⟩, rfl⟩
      case round =>
        obtain ⟨k, n, lo, hi, hk, rfl, rfl, rfl, rfl, hnn, hsm, hbt, ⟨l0, l1⟩, ⟨u0, u1⟩, rfl⟩ := hrel
        have hs0 := sumL_nonneg hnn.out
        by_cases hkl : k < xs.length
        · have hcell := HCE.out k hkl
          obtain ⟨x0, x1⟩ := HBD.out k
          have hsn : sumL xs (k + 1) = sumL xs k + at0 xs k := rfl
          have cA := fun w => ref_Add (sumL xs k) (at0 xs k) w ⟨by omega, by omega⟩ ⟨x0, x1⟩
          rcases Int.lt_or_le (at0 xs k) 0 with hneg | hnneg
          · have CA := Lib.hid cA
            clear cA hsn
            go_wp2_with (first | (go_at_call 19; refine (CA.out _).mono ?_; rintro e w' ⟨rfl, rfl⟩))
            go_ret
            exact ⟨rfl, Joins.below_draws _ _ _⟩
          · rcases Int.lt_or_le 9223372036854775807 (sumL xs k + at0 xs k) with hbig | hfit
            · obtain ⟨f1, _, f2⟩ := fit_out hbig
              rw [f1, f2] at cA
              have CA := Lib.hid cA
              clear cA hsn f1 f2
              go_wp2_with (first | (go_at_call 19; refine (CA.out _).mono ?_; rintro e w' ⟨rfl, rfl⟩))
              go_ret
              exact ⟨rfl, Joins.below_draws _ _ _⟩
            · obtain ⟨f1, _, f2⟩ := fit_in (s := sumL xs k + at0 xs k) (by omega) hfit
              rw [f1, f2] at cA
              have CA := Lib.hid cA
              have hnn2 : Hid (nnB xs (k + 1) = true) := by show nnB xs (k + 1) = true; simp only [nnB, Bool.and_eq_true, decide_eq_true_eq]; exact ⟨hnn.out, hnneg⟩
              have HSN := Lib.hid hsn
              have hbn : ∀ lo2 hi2, lo2 ≤ lo → hi ≤ hi2 → lo2 ≤ at0 xs k → at0 xs k ≤ hi2 → Hid (∀ i, i < k + 1 → lo2 ≤ at0 xs i ∧ at0 xs i ≤ hi2) := fun lo2 hi2 a1 a2 a3 a4 i hi' => by
                by_cases e : i < k
                · have := hbt.out i e; omega
                · obtain rfl : i = k := by omega
                  exact ⟨a3, a4⟩
              have HBN := Lib.hid hbn
              have i1 : (0 : Int) ≤ (k : Int) := by omega
              have i2 : (k : Int) < (xs.length : Int) := by omega
              clear cA hsn f1 f2 hbn
              generalize at0 xs k = x at *
              rcases Int.lt_or_le x lo with c1 | c1 <;> rcases Int.lt_or_le hi x with c2 | c2
              · go_wp2_with (first | (go_at_call 19; refine (CA.out _).mono ?_; rintro e w' ⟨rfl, rfl⟩))
                go_quiet (fail)
                go_wp2
                go_roundw
                case rel => exact ⟨k + 1, _, x, x, by omega, by go_num, by rw [HSN.out], rfl, rfl, hnn2, by rw [HSN.out]; exact hfit, HBN.out x x (by omega) (by omega) (by omega) (by omega), ⟨by omega, by omega⟩, ⟨by omega, by omega⟩, rfl⟩
                case measure => simp [intOf]; omega
              · go_wp2_with (first | (go_at_call 19; refine (CA.out _).mono ?_; rintro e w' ⟨rfl, rfl⟩))
                go_quiet (fail)
                go_wp2
                go_roundw
                case rel => exact ⟨k + 1, _, x, hi, by omega, by go_num, by rw [HSN.out], rfl, rfl, hnn2, by rw [HSN.out]; exact hfit, HBN.out x hi (by omega) (by omega) (by omega) (by omega), ⟨by omega, by omega⟩, ⟨by omega, by omega⟩, rfl⟩
                case measure => simp [intOf]; omega
              · go_wp2_with (first | (go_at_call 19; refine (CA.out _).mono ?_; rintro e w' ⟨rfl, rfl⟩))
                go_quiet (fail)
                go_wp2
                go_roundw
                case rel => exact ⟨k + 1, _, lo, x, by omega, by go_num, by rw [HSN.out], rfl, rfl, hnn2, by rw [HSN.out]; exact hfit, HBN.out lo x (by omega) (by omega) (by omega) (by omega), ⟨by omega, by omega⟩, ⟨by omega, by omega⟩, rfl⟩
                case measure => simp [intOf]; omega
              · go_wp2_with (first | (go_at_call 19; refine (CA.out _).mono ?_; rintro e w' ⟨rfl, rfl⟩))
                go_quiet (fail)
                go_wp2
                go_roundw
                case rel => exact ⟨k + 1, _, lo, hi, by omega, by go_num, by rw [HSN.out], rfl, rfl, hnn2, by rw [HSN.out]; exact hfit, HBN.out lo hi (by omega) (by omega) (by omega) (by omega), ⟨by omega, by omega⟩, ⟨by omega, by omega⟩, rfl⟩
                case measure => simp [intOf]; omega
        · obtain rfl : k = xs.length := by omega
          have hm := mean_of hnn.out hsm
          have hof : ofF (sumL xs xs.length) xs.length = ⟨sumL xs xs.length / (xs.length : Int), sumL xs xs.length % (xs.length : Int), xs.length⟩ := by unfold ofF; rw [if_neg (by omega)]
          have hoe : ofE (sumL xs xs.length) xs.length = 0 := by unfold ofE; rw [if_neg (by omega), if_neg (by omega)]
          have hbw := sum_between hbt.out
          have cM := CM.out (w.drewN n) (HX.out.below (Joins.below_draws _ _ _))
          rw [hm.1, hm.2, hof, hoe] at cM
          have CM2 := Lib.hid cM
          have q1 : 0 ≤ sumL xs xs.length / (xs.length : Int) := Int.ediv_nonneg hs0 (by omega)
          have q2 : sumL xs xs.length / (xs.length : Int) ≤ sumL xs xs.length := Int.ediv_le_self _ hs0
          have q3 : 0 ≤ sumL xs xs.length % (xs.length : Int) := Int.emod_nonneg _ (by omega)
          have q4 : sumL xs xs.length % (xs.length : Int) < xs.length := Int.emod_lt_of_pos _ (by omega)
          have q5 : sumL xs xs.length / (xs.length : Int) * (xs.length : Int) + sumL xs xs.length % (xs.length : Int) = sumL xs xs.length := by rw [Int.mul_comm]; exact Int.mul_ediv_add_emod _ _
          have q6 : lo ≤ sumL xs xs.length / (xs.length : Int) := by rw [Int.le_ediv_iff_mul_le (by omega)]; exact hbw.1
          have q7 : sumL xs xs.length / (xs.length : Int) ≤ hi := by
            have h7 := (Int.ediv_lt_iff_lt_mul (a := sumL xs xs.length) (b := hi + 1) (c := (xs.length : Int)) (by omega)).2 (by rw [Int.add_mul]; omega)
            omega
          have q8 : 0 ≤ sumL xs xs.length / (xs.length : Int) * (xs.length : Int) := Int.mul_nonneg q1 (by omega)
          have q9 : sumL xs xs.length / (xs.length : Int) * (xs.length : Int) ≤ sumL xs xs.length := by omega
          have q10 : (sumL xs xs.length / (xs.length : Int) * (xs.length : Int) + sumL xs xs.length % (xs.length : Int) == sumL xs xs.length) = true := beq_iff_eq.2 q5
          have q12 : sumL xs xs.length / (xs.length : Int) * (xs.length : Int) + sumL xs xs.length % (xs.length : Int) ≤ sumL xs xs.length := by omega
          have q11 : ((xs.length : Int) == (xs.length : Int)) = true := by simp
          clear hm hof hoe hbw cM q5 hc0
          generalize sumL xs xs.length / (xs.length : Int) = q at *
          generalize sumL xs xs.length % (xs.length : Int) = r at *
          generalize sumL xs xs.length = s at *
          go_wp2_with fail
          refine CM2.out.mono ?_
          rintro e w2 ⟨rfl, hb2⟩
          have hB2 : Below w.heap.size w w2 := (Joins.below_draws _ _ _).trans (hb2.mono (by simp))
          clear hb2
          go_wp2_with fail
          refine (alive08 _).mono ?_
          rintro e w3 ⟨rfl, hb3⟩
          go_wp2
          go_ret
          exact ⟨rfl, below_box hB2 hb3⟩

set_option maxRecDepth 100000 in
theorem walkFracBack {H : Type} (W : World) (base : Nat) (enc : TypeId × Value → H) {v0 : Value} {d0 : DataW H} {p0 : List MemPlace}
    (h0 : DataW.Trod enc Try.prog W 0 (fun _ => true) true 28 v0 d0 p0)
    (o0 : Value.okWide Try.prog W .any base 28 v0) :
    Calls Try.prog 4 #[v0] W fun e W' => e = .returned (.bool true) ∧ Below W.heap.size W W' := by
  obtain ⟨n, hn⟩ := arg_slice Try.underlying28 o0 h0
  obtain ⟨xs, hxs⟩ := read_slice (size := 1) Try.underlying28 (by kernel_rfl) (by decide) (fun _ _ _ h => read_int Try.underlying3 h) hn
  obtain ⟨A, C, hv, hrest⟩ := id hxs
  injection hv with hv
  subst hv
  exact back_1 A C xs W (ints_of hxs) (ints_bd hxs)
end Go.Proofs.Ytnlieclfajebbaa
