/-
  Over as little as may be: frac.Least and the document's. Condition: the numbers fit their kinds.
-/
import Derived.Test.YtokgokjgpmdlpaaFrac
import Derived.Test.YtokgokjgpmdlpaaGcd
set_option linter.unusedVariables false
set_option linter.unusedSimpArgs false
namespace Go.Proofs.Ytokgokjgpmdlpaa
open Go.Joins Go.ChangeShapes Go.WideShapes Go.ChangeAt Go.RowKit Go.Deep

def gcdF (f : Frac) : Int := (Nat.gcd f.rest.toNat f.by_.toNat : Nat)
def leastF (f : Frac) : Frac := if rightF f = true then ⟨f.whole, f.rest / gcdF f, f.by_ / gcdF f⟩ else f
theorem gcdF_bd {f : Frac} (h : rightF f = true) : 1 ≤ gcdF f ∧ gcdF f ≤ f.by_ := by
  unfold rightF at h
  simp only [decide_eq_true_eq] at h
  unfold gcdF
  have h1 : 0 < f.by_.toNat := by omega
  have h2 := Nat.gcd_pos_of_pos_right f.rest.toNat h1
  have h3 := Nat.gcd_le_right f.rest.toNat h1
  omega
theorem absI_of {a : Int} (h : 0 ≤ a) : absI a = a := by unfold absI; rw [if_neg (by omega)]

theorem set3 {w w' : World} {t1 t2 : TypeId} {c1 c2 : Array Value} {u1 u2 u3 : Value} (hb : Below ((w.alloc (.cells c1 t1)).alloc (.cells c2 t2)).heap.size ((w.alloc (.cells c1 t1)).alloc (.cells c2 t2)) w') :
    Below w.heap.size w (((w'.setCell ⟨w.heap.size + 1, 0, none⟩ u1).setCell ⟨w.heap.size + 1, 1, none⟩ u2).setCell ⟨w.heap.size + 1, 2, none⟩ u3) :=
  have h : Below w.heap.size w w' := (Joins.below_alloc2 w _ _).trans (hb.mono (by simp; omega))
  ((h.setCell (by simp) _).setCell (by simp) _).setCell (by simp) _
theorem quo_in {x m : Int} (h0 : 0 ≤ x) (h1 : 1 ≤ m) : 0 ≤ x / m ∧ x / m ≤ x := ⟨Int.ediv_nonneg h0 (by omega), Int.ediv_le_self _ h0⟩
set_option maxHeartbeats 1000000 in
theorem frac_Least_not (f : Frac) (w : World) (h : rightF f = false) : Calls Try.prog 33 #[f.val] w fun e w' => e = .returned (leastF f).val ∧ Below w.heap.size w w' := by
  have hl : leastF f = f := by unfold leastF; rw [if_neg (by rw [h]; simp)]
  have cR := fun w => frac_Right f w
  rw [h] at cR
  rw [hl]
  have CR := Lib.hid cR
  clear cR h hl
  obtain ⟨x, y, z⟩ := f
  go_enter Try.func33, Try.ntmps33
  go_wp2_with fail
  refine (CR.out _).mono ?_
  rintro e w' ⟨rfl, hb⟩
  obtain ⟨hc, hf⟩ := bcell hb
  have hz := hb.size
  simp only [alloc_size] at hc hf hz
  go_wp2_with fail
  refine bodyPost_ret (v := .agg #[.int .i64 x, .int .i64 y, .int .i64 z]) (by simp [results, Try.results33, go_sem, hc, hz]) rfl ?_
  exact ⟨rfl, set3 hb⟩
set_option maxHeartbeats 1000000 in
theorem ref08_Least_not (f : Frac) (w : World) (h : rightF f = false) : Calls Try.prog 34 #[f.val] w fun e w' => e = .returned (leastF f).val ∧ Below w.heap.size w w' := by
  have hl : leastF f = f := by unfold leastF; rw [if_neg (by rw [h]; simp)]
  have cR := fun w => ref08_Right f w
  rw [h] at cR
  rw [hl]
  have CR := Lib.hid cR
  clear cR h hl
  obtain ⟨x, y, z⟩ := f
  go_enter Try.func34, Try.ntmps34
  go_wp2_with fail
  refine (CR.out _).mono ?_
  rintro e w' ⟨rfl, hb⟩
  obtain ⟨hc, hf⟩ := bcell hb
  have hz := hb.size
  simp only [alloc_size] at hc hf hz
  go_wp2_with fail
  refine bodyPost_ret (v := .agg #[.int .i64 x, .int .i64 y, .int .i64 z]) (by simp [results, Try.results34, go_sem, hc, hz]) rfl ?_
  exact ⟨rfl, set3 hb⟩

set_option maxHeartbeats 1000000 in
theorem frac_Least_ok (f : Frac) (w : World) (h : rightF f = true) (hk : f.ok) : Calls Try.prog 33 #[f.val] w fun e w' => e = .returned (leastF f).val ∧ Below w.heap.size w w' := by
  have hl : leastF f = ⟨f.whole, f.rest / gcdF f, f.by_ / gcdF f⟩ := by unfold leastF; rw [if_pos h]
  have cR := fun w => frac_Right f w
  rw [h] at cR
  rw [hl]
  obtain ⟨g1, g2⟩ := gcdF_bd h
  obtain ⟨⟨k1, k2⟩, ⟨k3, k4⟩, ⟨k5, k6⟩⟩ := hk
  unfold rightF at h
  simp only [decide_eq_true_eq] at h
  obtain ⟨h1, h2, h3⟩ := h
  have cG := fun w => nums_Gcd f.rest f.by_ w ⟨k3, k4⟩ ⟨k5, k6⟩
  rw [absI_of h2, absI_of (by omega)] at cG
  change ∀ w, Calls _ _ _ w fun e w' => e = .returned (.int .u64 (gcdF f)) ∧ _ at cG
  have q1 : 0 ≤ f.rest / gcdF f ∧ f.rest / gcdF f ≤ f.rest := quo_in h2 g1
  have q2 : 0 ≤ f.by_ / gcdF f ∧ f.by_ / gcdF f ≤ f.by_ := quo_in (by omega) g1
  obtain ⟨q3, q4⟩ := q1
  obtain ⟨q5, q6⟩ := q2
  generalize gcdF f = g at *
  have hzb : (g == 0) = false := by simp; omega
  have CR := Lib.hid cR
  have CG := Lib.hid cG
  clear cR cG hl
  obtain ⟨x, y, z⟩ := f
  simp only at *
  go_enter Try.func33, Try.ntmps33
  go_wp2_with fail
  refine (CR.out _).mono ?_
  rintro e w' ⟨rfl, hb⟩
  obtain ⟨hc, hf⟩ := bcell hb
  have hz := hb.size
  simp only [alloc_size] at hc hf hz
  go_wp2_with fail
  refine (CG.out _).mono ?_
  rintro e w2 ⟨rfl, n, rfl⟩
  go_wp2_with fail
  go_region
  go_wp2
  refine bodyPost_ret (v := .agg #[.int .i64 x, .int .i64 (y / g), .int .i64 (z / g)]) (by simp [results, Try.results33, go_sem, hc, hz]) rfl ?_
  first | exact ⟨rfl, below_drewN (set3 hb) _⟩ | exact ⟨rfl, (below_drewN (set3 hb) _).drew⟩
set_option maxHeartbeats 1000000 in
theorem ref08_Least_ok (f : Frac) (w : World) (h : rightF f = true) (hk : f.ok) : Calls Try.prog 34 #[f.val] w fun e w' => e = .returned (leastF f).val ∧ Below w.heap.size w w' := by
  have hl : leastF f = ⟨f.whole, f.rest / gcdF f, f.by_ / gcdF f⟩ := by unfold leastF; rw [if_pos h]
  have cR := fun w => ref08_Right f w
  rw [h] at cR
  rw [hl]
  obtain ⟨g1, g2⟩ := gcdF_bd h
  obtain ⟨⟨k1, k2⟩, ⟨k3, k4⟩, ⟨k5, k6⟩⟩ := hk
  unfold rightF at h
  simp only [decide_eq_true_eq] at h
  obtain ⟨h1, h2, h3⟩ := h
  have cG := fun w => ref_Gcd f.rest.toNat f.by_.toNat w (by omega) (by omega)
  rw [Int.toNat_of_nonneg h2, Int.toNat_of_nonneg (by omega)] at cG
  change ∀ w, Calls _ _ _ w fun e w' => e = .returned (.int .u64 (gcdF f)) ∧ _ at cG
  have q1 : 0 ≤ f.rest / gcdF f ∧ f.rest / gcdF f ≤ f.rest := quo_in h2 g1
  have q2 : 0 ≤ f.by_ / gcdF f ∧ f.by_ / gcdF f ≤ f.by_ := quo_in (by omega) g1
  obtain ⟨q3, q4⟩ := q1
  obtain ⟨q5, q6⟩ := q2
  generalize gcdF f = g at *
  have hzb : (g == 0) = false := by simp; omega
  have CR := Lib.hid cR
  have CG := Lib.hid cG
  clear cR cG hl
  obtain ⟨x, y, z⟩ := f
  simp only at *
  go_enter Try.func34, Try.ntmps34
  go_wp2_with fail
  refine (CR.out _).mono ?_
  rintro e w' ⟨rfl, hb⟩
  obtain ⟨hc, hf⟩ := bcell hb
  have hz := hb.size
  simp only [alloc_size] at hc hf hz
  go_wp2_with fail
  refine (CG.out _).mono ?_
  rintro e w2 ⟨rfl, rfl⟩
  go_wp2_with fail
  go_region
  go_wp2
  refine bodyPost_ret (v := .agg #[.int .i64 x, .int .i64 (y / g), .int .i64 (z / g)]) (by simp [results, Try.results34, go_sem, hc, hz]) rfl ?_
  exact ⟨rfl, (set3 hb).drew⟩
theorem frac_Least (f : Frac) (w : World) (hk : f.ok) : Calls Try.prog 33 #[f.val] w fun e w' => e = .returned (leastF f).val ∧ Below w.heap.size w w' := by
  cases h : rightF f
  · exact frac_Least_not f w h
  · exact frac_Least_ok f w h hk
theorem ref08_Least (f : Frac) (w : World) (hk : f.ok) : Calls Try.prog 34 #[f.val] w fun e w' => e = .returned (leastF f).val ∧ Below w.heap.size w w' := by
  cases h : rightF f
  · exact ref08_Least_not f w h
  · exact ref08_Least_ok f w h hk
end Go.Proofs.Ytokgokjgpmdlpaa
