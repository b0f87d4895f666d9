
/-
  The mean of numbers: frac.Mean and the document's. Condition: the numbers fit their kind.
-/
import Derived.Test.YtnlieclfajebbaaFrac
import Derived.Test.YtnlieclfajebbaaInts
import Derived.Test.YtnlieclfajebbaaNumsSum
set_option linter.unusedVariables false
set_option linter.unusedSimpArgs false
namespace Go.Proofs.Ytnlieclfajebbaa
open Go.Joins Go.ChangeShapes Go.WideShapes Go.ChangeAt Go.RowKit Go.Deep

/-- Is none below 0 of the first k? -/
def nnB (xs : List Int) : Nat → Bool
  | 0 => true
  | k + 1 => nnB xs k && decide (0 ≤ at0 xs k)
theorem nnB_at {xs : List Int} {k : Nat} (h : nnB xs k = true) (i : Nat) (hi : i < k) : 0 ≤ at0 xs i := by
  induction k with
  | zero => omega
  | succ k ih =>
    simp only [nnB, Bool.and_eq_true, decide_eq_true_eq] at h
    by_cases e : i < k
    · exact ih h.1 e
    · obtain rfl : i = k := by omega
      exact h.2
theorem nnB_not {xs : List Int} {k : Nat} (hk : k < xs.length) (h : at0 xs k < 0) : nnB xs xs.length = false := by
  cases hc : nnB xs xs.length with
  | false => rfl
  | true => have := nnB_at hc k hk; omega
theorem sumL_nonneg {xs : List Int} {k : Nat} (h : nnB xs k = true) : 0 ≤ sumL xs k := by
  induction k with
  | zero => simp [sumL]
  | succ k ih =>
    simp only [nnB, Bool.and_eq_true, decide_eq_true_eq] at h
    have := ih h.1
    simp only [sumL]
    omega
/-- The mean; why there is none. -/
def meanF (xs : List Int) : Frac := if nnB xs xs.length = true ∧ sumL xs xs.length ≤ 9223372036854775807 then ofF (sumL xs xs.length) xs.length else ⟨0, 0, 0⟩
def meanE (xs : List Int) : Int := if nnB xs xs.length = true then (if sumL xs xs.length ≤ 9223372036854775807 then ofE (sumL xs xs.length) xs.length else 10) else 22
theorem mean_neg {xs : List Int} {k : Nat} (hk : k < xs.length) (h : at0 xs k < 0) : meanF xs = ⟨0, 0, 0⟩ ∧ meanE xs = 22 := by
  have := nnB_not hk h
  constructor
  · unfold meanF; rw [if_neg (by rw [this]; simp)]
  · unfold meanE; rw [if_neg (by rw [this]; simp)]
theorem mean_big {xs : List Int} (h : nnB xs xs.length = true) (hs : 9223372036854775807 < sumL xs xs.length) : meanF xs = ⟨0, 0, 0⟩ ∧ meanE xs = 10 := by
  constructor
  · unfold meanF; rw [if_neg (by omega)]
  · unfold meanE; rw [if_pos h, if_neg (by omega)]
theorem mean_of {xs : List Int} (h : nnB xs xs.length = true) (hs : sumL xs xs.length ≤ 9223372036854775807) : meanF xs = ofF (sumL xs xs.length) xs.length ∧ meanE xs = ofE (sumL xs xs.length) xs.length := by
  constructor
  · unfold meanF; rw [if_pos ⟨h, hs⟩]
  · unfold meanE; rw [if_pos h, if_pos hs]
theorem fit_in {s : Int} (h0 : 0 ≤ s) (h : s ≤ 9223372036854775807) : fit2V s = s ∧ fit2E s = 0 ∧ fit2B s = true := by
  unfold fit2V fit2E fit2B
  rw [if_pos (by omega), if_pos (by omega)]
  simp; omega
theorem fit_out {s : Int} (h : 9223372036854775807 < s) : fit2V s = 0 ∧ fit2E s = 10 ∧ fit2B s = false := by
  unfold fit2V fit2E fit2B
  rw [if_neg (by omega), if_neg (by omega)]
  simp; omega

theorem set3w {w w' : World} {u1 u2 u3 : Value} (h : Below w.heap.size w w') : Below w.heap.size w (((w'.setCell ⟨w.heap.size, 0, none⟩ u1).setCell ⟨w.heap.size, 1, none⟩ u2).setCell ⟨w.heap.size, 2, none⟩ u3) :=
  ((h.setCell (Nat.le_refl _) _).setCell (Nat.le_refl _) _).setCell (Nat.le_refl _) _
set_option maxRecDepth 20000 in
set_option maxHeartbeats 1000000 in
theorem frac_Mean (A : Option Addr) (C : Nat) (xs : List Int) (w : World) (hx : Ints w A xs) (hl : xs.length ≤ 200) (hbd : ∀ i, I64 (at0 xs i)) :
    Calls Try.prog 20 #[.slice A xs.length C] w fun e w' => e = .returned (.tuple #[(meanF xs).val, .int .i64 (meanE xs)]) ∧ Below w.heap.size w w' := by
  have HBD := Lib.hid hbd
  have HX := Lib.hid hx
  clear hbd hx
  go_enter Try.func20, Try.ntmps20
  go_wp2
  have hfw1 : ∀ i, (w.alloc (.cells #[.int .i64 0, .int .i64 0, .int .i64 0] 32)).frozen? ⟨w.heap.size, i, none⟩ = false := fun i => (Blk.new w 32 #[.int .i64 0, .int .i64 0, .int .i64 0]).free i
  obtain ⟨hBw1, hcw1, hzw1⟩ := box w 32 #[.int .i64 0, .int .i64 0, .int .i64 0]
  change Code.wp _ _ _ _ (w.alloc (.cells #[.int .i64 0, .int .i64 0, .int .i64 0] 32))
  generalize (w.alloc (.cells #[.int .i64 0, .int .i64 0, .int .i64 0] 32)) = w1 at *
  go_loop [4, 5, 10] (fun u v i => ∃ k : Nat, k ≤ xs.length ∧ i = .int .i64 k ∧ Hid (nnB xs k = true) ∧ u = .int .i64 (fit2V (sumL xs k)) ∧ v = .int .i64 (fit2E (sumL xs k))) (fun _ _ i => xs.length - (intOf i).toNat)
  case atStart => exact ⟨0, by omega, rfl, rfl, rfl, rfl⟩
  case round =>
    obtain ⟨k, hk, rfl, hnn, rfl, rfl⟩ := hrel
    have hs0 := sumL_nonneg hnn.out
    by_cases hlt : k < xs.length
    · obtain ⟨b, off, rfl, hbl, hce⟩ := HX.out (by omega)
      have hcell := (hBw1.cell (p := ⟨b, off + k, none⟩) hbl).trans (hce k hlt)
      obtain ⟨x0, x1⟩ := HBD.out k
      clear hce
      rcases Int.lt_or_le (at0 xs k) 0 with hn | hn
      · obtain ⟨m1, m2⟩ := mean_neg hlt hn
        have M1 := Lib.hid m1
        have M2 := Lib.hid m2
        clear m1 m2
        go_wp2
        refine bodyPost_ret (v := .tuple #[.agg #[.int .i64 0, .int .i64 0, .int .i64 0], .int .i64 22]) (by simp [results, Try.results20, go_sem, hcw1, hfw1]) rfl ?_
        exact ⟨by rw [M1.out, M2.out], set3w hBw1⟩
      · have hnn2 : nnB xs (k + 1) = true := by simp only [nnB, Bool.and_eq_true, decide_eq_true_eq]; exact ⟨hnn.out, hn⟩
        have HNN := Lib.hid hnn2
        have hsn : sumL xs (k + 1) = sumL xs k + at0 xs k := rfl
        clear hnn2
        rcases Int.lt_or_le 9223372036854775807 (sumL xs k) with hb | hb
        · obtain ⟨f1, f2, _⟩ := fit_out hb
          obtain ⟨f3, f4, _⟩ := fit_out (s := sumL xs (k + 1)) (by omega)
          rw [f1, f2]
          have F3 := Lib.hid f3
          have F4 := Lib.hid f4
          clear f1 f2 f3 f4 hsn
          go_wp2
          go_round
          case rel => exact ⟨k + 1, by omega, by go_num, HNN, by rw [F3.out], by rw [F4.out]⟩
          case measure => simp [intOf]; omega
        · obtain ⟨f1, f2, _⟩ := fit_in hs0 hb
          rw [f1, f2]
          have cA := fun w => nums_Add (sumL xs k) (at0 xs k) w ⟨by omega, by omega⟩ ⟨x0, x1⟩
          rw [← hsn] at cA
          have CA := Lib.hid cA
          clear f1 f2 hsn cA
          go_wp2_with (first | (go_at_call 68; refine (CA.out _).mono ?_; rintro e w' ⟨rfl, rfl⟩))
          go_round
          case rel => exact ⟨k + 1, by omega, by go_num, HNN, rfl, rfl⟩
          case measure => simp [intOf]; omega
    · obtain rfl : k = xs.length := by omega
      rcases Int.lt_or_le 9223372036854775807 (sumL xs xs.length) with hb | hb
      · obtain ⟨f1, f2, _⟩ := fit_out hb
        obtain ⟨m1, m2⟩ := mean_big hnn.out hb
        rw [f1, f2]
        have M1 := Lib.hid m1
        have M2 := Lib.hid m2
        clear m1 m2 f1 f2
        go_wp2
        refine bodyPost_ret (v := .tuple #[.agg #[.int .i64 0, .int .i64 0, .int .i64 0], .int .i64 10]) (by simp [results, Try.results20, go_sem, hcw1, hfw1]) rfl ?_
        exact ⟨by rw [M1.out, M2.out], set3w hBw1⟩
      · obtain ⟨f1, f2, _⟩ := fit_in hs0 hb
        obtain ⟨m1, m2⟩ := mean_of hnn.out hb
        rw [f1, f2]
        have cO := fun w => frac_Of (sumL xs xs.length) xs.length w ⟨by omega, by omega⟩ ⟨by omega, by omega⟩
        rw [← m1, ← m2] at cO
        rcases hmf : meanF xs with ⟨x, y, z⟩
        rw [hmf] at cO
        have CO := Lib.hid cO
        have M1 := Lib.hid hmf
        clear m1 m2 f1 f2 cO hmf
        go_wp2_with fail
        refine (CO.out _).mono ?_
        rintro e w2 ⟨rfl, hb2⟩
        have hq2 : ∀ i, w2.cell? ⟨w.heap.size, i, none⟩ = (#[.int .i64 0, .int .i64 0, .int .i64 0] : Array Value)[i]? := fun i => (hb2.cell (p := ⟨w.heap.size, i, none⟩) (by show w.heap.size < w1.heap.size; omega)).trans (hcw1 i)
        have hg2 : ∀ i, w2.frozen? ⟨w.heap.size, i, none⟩ = false := fun i => (hb2.frozen (p := ⟨w.heap.size, i, none⟩) (by show w.heap.size < w1.heap.size; omega)).trans (hfw1 i)
        have hfin : Below w.heap.size w w2 := hBw1.trans (hb2.mono hBw1.size)
        clear hb2 hcw1 hfw1
        go_wp2
        refine bodyPost_ret (v := .tuple #[.agg #[.int .i64 x, .int .i64 y, .int .i64 z], .int .i64 (meanE xs)]) (by simp [results, Try.results20, go_sem, hq2, hg2]) rfl ?_
        exact ⟨by rw [M1.out], set3w hfin⟩
end Go.Proofs.Ytnlieclfajebbaa
