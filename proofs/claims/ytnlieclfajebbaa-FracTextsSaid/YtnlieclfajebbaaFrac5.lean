
/-
  A quotient in hundredths, and as a text by the document: frac.Hundredths, hoistwayref08.Hundredths, hoistwayref08.Text. Condition: the numbers fit their kinds.
-/
import Derived.Test.YtnlieclfajebbaaFrac3
import Derived.Test.YtnlieclfajebbaaDecR
import Derived.Test.YtnlieclfajebbaaMulDiv
import Derived.Test.YtnlieclfajebbaaNumsMul2
set_option linter.unusedVariables false
set_option linter.unusedSimpArgs false
namespace Go.Proofs.Ytnlieclfajebbaa
open Go.Joins Go.ChangeShapes Go.WideShapes Go.ChangeAt Go.RowKit Go.Deep

def hunV (f : Frac) : Int := if rightF f = true then (if f.whole * 100 ≤ 9223372036854775807 then fit2V (f.whole * 100 + f.rest * 100 / f.by_) else 0) else 0
def hunE (f : Frac) : Int := if rightF f = true then (if f.whole * 100 ≤ 9223372036854775807 then fit2E (f.whole * 100 + f.rest * 100 / f.by_) else 10) else 22
theorem hun_q {y z : Int} (h0 : 0 ≤ y) (h1 : y < z) : 0 ≤ y * 100 / z ∧ y * 100 / z ≤ 99 := by
  refine ⟨Int.ediv_nonneg (by omega) (by omega), ?_⟩
  have := (Int.ediv_lt_iff_lt_mul (a := y * 100) (b := 100) (c := z) (by omega)).2 (by omega)
  omega
theorem fit2_in {n : Int} (h : 0 ≤ n) (h1 : n ≤ 9223372036854775807) : fit2V n = n ∧ fit2E n = 0 ∧ fit2B n = true := by
  unfold fit2V fit2E fit2B
  exact ⟨if_pos (by omega), if_pos (by omega), decide_eq_true (by omega)⟩
theorem fit2_out {n : Int} (h1 : 9223372036854775807 < n) : fit2V n = 0 ∧ fit2E n = 10 ∧ fit2B n = false := by
  unfold fit2V fit2E fit2B
  exact ⟨if_neg (by omega), if_neg (by omega), decide_eq_false (by omega)⟩
set_option maxRecDepth 20000 in
set_option maxHeartbeats 1000000 in
theorem frac_Hundredths (f : Frac) (w : World) (hk : f.ok) : Calls Try.prog 49 #[f.val] w fun e w' => e = .returned (.tuple #[.int .i64 (hunV f), .int .i64 (hunE f)]) ∧ Below w.heap.size w w' := by
  obtain ⟨k1, k2, k3⟩ := hk
  have cR := fun w => frac_Right f w
  have hr : rightF f = decide (0 ≤ f.whole ∧ 0 ≤ f.rest ∧ f.rest < f.by_) := rfl
  cases hb : rightF f
  · rw [hb] at cR
    have e1 : hunV f = 0 := by unfold hunV; rw [hb]; rfl
    have e2 : hunE f = 22 := by unfold hunE; rw [hb]; rfl
    rw [e1, e2]
    have CR := Lib.hid cR
    clear cR hr hb e1 e2 k1 k2 k3
    obtain ⟨x, y, z⟩ := f
    try simp only at *
    go_enter Try.func49, Try.ntmps49
    go_wp2_with fail
    refine (CR.out _).mono ?_
    rintro e w1 ⟨rfl, hb1⟩
    go_wp2
    go_ret2
    exact ⟨rfl, ((Below.refl _ _).alloc (Nat.le_refl _) _).trans (hb1.mono (by simp))⟩
  · rw [hb] at cR hr
    have hr2 := of_decide_eq_true hr.symm
    obtain ⟨r1, r2, r3⟩ := hr2
    have cM := fun w => nums_Mul f.whole 100 w k1 ⟨by omega, by omega⟩
    obtain ⟨q0, q1⟩ := hun_q r2 r3
    have mo := md_ok (a := f.rest) (b := 100) (c := f.by_) ⟨by omega, by omega, by omega⟩ (by omega)
    have cD := fun w => nums_MulDiv f.rest 100 f.by_ w k2 ⟨by omega, by omega⟩ k3
    unfold MdPost at cD
    rw [mo.1, mo.2] at cD
    rcases Int.lt_or_le 9223372036854775807 (f.whole * 100) with hbig | hfit
    · have e1 : hunV f = 0 := by unfold hunV; rw [if_pos hb, if_neg (by omega)]
      have e2 : hunE f = 10 := by unfold hunE; rw [if_pos hb, if_neg (by omega)]
      rw [e1, e2]
      rw [(fit2_out hbig).1, (fit2_out hbig).2.1] at cM
      have CR := Lib.hid cR
      have CM := Lib.hid cM
      clear cR cM cD hr hb e1 e2 k1 k2 k3 mo hbig q0 q1 r1 r2 r3
      obtain ⟨x, y, z⟩ := f
      try simp only at *
      go_enter Try.func49, Try.ntmps49
      go_wp2_with fail
      refine (CR.out _).mono ?_
      rintro e w1 ⟨rfl, hb1⟩
      have hB1 := ((Below.refl w.heap.size w).alloc (Nat.le_refl _) (.cells #[.int .i64 x, .int .i64 y, .int .i64 z] 32)).trans (hb1.mono (by simp))
      have hblk := (Blk.new w 32 #[.int .i64 x, .int .i64 y, .int .i64 z]).below hb1 (by simp)
      have z0 : w1.cell? ⟨w.heap.size, 0, none⟩ = some (.int .i64 x) := hblk.cell 0
      go_wp2_with (first | (go_at_call 73; refine (CM.out _).mono ?_; rintro e w' ⟨rfl, rfl⟩))
      go_ret2
      exact ⟨rfl, hB1⟩
    · have hw0 : 0 ≤ f.whole * 100 := by omega
      have e1 : hunV f = fit2V (f.whole * 100 + f.rest * 100 / f.by_) := by unfold hunV; rw [if_pos hb, if_pos hfit]
      have e2 : hunE f = fit2E (f.whole * 100 + f.rest * 100 / f.by_) := by unfold hunE; rw [if_pos hb, if_pos hfit]
      rw [e1, e2]
      have cA := fun w => nums_Add (f.whole * 100) (f.rest * 100 / f.by_) w ⟨by omega, by omega⟩ ⟨by omega, by omega⟩
      rw [(fit2_in hw0 hfit).1, (fit2_in hw0 hfit).2.1] at cM
      generalize fit2V (f.whole * 100 + f.rest * 100 / f.by_) = rv at *
      generalize fit2E (f.whole * 100 + f.rest * 100 / f.by_) = re at *
      generalize f.rest * 100 / f.by_ = q at *
      generalize f.whole * 100 = p at *
      have CR := Lib.hid cR
      have CM := Lib.hid cM
      have CD := Lib.hid cD
      have CA := Lib.hid cA
      clear cR cM cD cA hr hb e1 e2 k1 k2 k3 mo r1 r2 r3
      obtain ⟨x, y, z⟩ := f
      try simp only at *
      go_enter Try.func49, Try.ntmps49
      go_wp2_with fail
      refine (CR.out _).mono ?_
      rintro e w1 ⟨rfl, hb1⟩
      have hB1 := ((Below.refl w.heap.size w).alloc (Nat.le_refl _) (.cells #[.int .i64 x, .int .i64 y, .int .i64 z] 32)).trans (hb1.mono (by simp))
      have hblk := (Blk.new w 32 #[.int .i64 x, .int .i64 y, .int .i64 z]).below hb1 (by simp)
      have z0 : w1.cell? ⟨w.heap.size, 0, none⟩ = some (.int .i64 x) := hblk.cell 0
      have z1 : w1.cell? ⟨w.heap.size, 1, none⟩ = some (.int .i64 y) := hblk.cell 1
      have z2 : w1.cell? ⟨w.heap.size, 2, none⟩ = some (.int .i64 z) := hblk.cell 2
      go_wp2_with (first | (go_at_call 73; refine (CM.out _).mono ?_; rintro e w' ⟨rfl, rfl⟩) | (go_at_call 80; refine (CD.out _).mono ?_; rintro e w' ⟨rfl, nq, rfl⟩) | (go_at_call 68; refine (CA.out _).mono ?_; rintro e w' ⟨rfl, rfl⟩))
      go_ret2
      exact ⟨rfl, below_drewN hB1 nq⟩
end Go.Proofs.Ytnlieclfajebbaa
