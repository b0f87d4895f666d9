/-
  The law ProbBounds, walked: it returns true, and nothing that was there turns.
-/
import Derived.Test.YtokgokjgpmdlpaaProb3
import Derived.Test.YtokgokjgpmdlpaaArgI
set_option linter.unusedVariables false
set_option linter.unusedSimpArgs false
namespace Go.Proofs.Ytokgokjgpmdlpaa
open Go.Joins Go.ChangeShapes Go.WideShapes Go.ChangeAt Go.RowKit Go.Deep

theorem powP_down (a : Int) (ha : 0 ≤ a) (k : Nat) : powP a (k + 1) ≤ powP a k := by
  have hb := powP_bd a ha k
  exact (times_le hb.1 hb.2 (b := min a 4294967296) (by omega) (by omega)).2.2.2
theorem times_mono {a b c d : Int} (ha : 0 ≤ a) (hb : b ≤ 4294967296) (hc : 0 ≤ c) (hd : d ≤ 4294967296) (hab : a ≤ b) (hcd : c ≤ d) : timesV a c ≤ timesV b d := by
  have h1 := (times_le ha (by omega) hc (by omega)).2.2.1
  have h2 := (times_le (a := b) (b := d) (by omega) hb (by omega) hd).2.2.1
  rw [h1, h2]
  exact Int.ediv_le_ediv (by omega) (Int.mul_le_mul hab hcd hc (by omega))
theorem powP_mono {a b : Int} (ha : 0 ≤ a) (hab : a ≤ b) (k : Nat) : powP a k ≤ powP b k := by
  induction k with
  | zero => exact Int.le_refl _
  | succ k ih =>
    have h1 := powP_bd a ha k
    have h2 := powP_bd b (by omega) k
    exact times_mono h1.1 h2.2 (by omega) (by omega) ih (by omega)
/-- What k parts take away at most. -/
theorem powP_low {a d : Int} (ha : 0 ≤ a) (hd : 4294967296 - d ≤ a) (ha2 : a ≤ 4294967296) (k : Nat) : 4294967296 - powP a k ≤ k * (d + 1) := by
  induction k with
  | zero => simp [powP]
  | succ k ih =>
    have hb := powP_bd a ha k
    have hm : min a 4294967296 = a := by omega
    have ht := (times_le hb.1 hb.2 ha ha2).2.2.1
    have he : powP a (k + 1) = timesV (powP a k) a := by simp only [powP, hm]
    rw [he, ht]
    have h1 : powP a k * 4294967296 - 4294967296 * (4294967296 - a) ≤ powP a k * a := by
      have : powP a k * (4294967296 - a) ≤ 4294967296 * (4294967296 - a) := Int.mul_le_mul_of_nonneg_right hb.2 (by omega)
      rw [Int.mul_sub] at this
      omega
    generalize powP a k = q at *
    generalize q * a = m at *
    have h2 : ((k + 1 : Nat) : Int) * (d + 1) = k * (d + 1) + (d + 1) := by
      rw [Int.natCast_add, Int.add_mul]; simp
    rw [h2]
    generalize (k : Int) * (d + 1) = x at *
    omega
theorem part_le {i j f : Int} (h0 : 0 ≤ i) (h1 : i ≤ j) (h2 : j ≤ f) (hf : 1 ≤ f) (hf2 : f ≤ 127) : partV i f ≤ partV j f := by
  unfold partV partB
  rw [if_pos (by simp; omega), if_pos (by simp; omega)]
  exact Int.ediv_le_ediv (by omega) (by omega)
/-- What a floor that is left out takes away. -/
theorem part_low {f : Int} (hf : 1 ≤ f) (hf2 : f ≤ 127) : 4294967296 - (4294967296 / f + 1) ≤ partV (f - 1) f := by
  unfold partV partB
  rw [if_pos (by simp; omega)]
  have h3 := Int.mul_ediv_add_emod 4294967296 f
  have h5 := Int.emod_lt_of_pos 4294967296 (show 0 < f by omega)
  have h6 : 4294967296 / f * f = f * (4294967296 / f) := Int.mul_comm _ _
  refine Int.le_ediv_of_mul_le (by omega) ?_
  rw [Int.sub_mul, Int.add_mul, Int.sub_mul, h6]
  omega
theorem sumP_le (f p : Int) (h1 : 1 ≤ f) (h2 : f ≤ 127) (k : Nat) (hk : (k : Int) ≤ f - 1) : sumP f p k ≤ k * restP f p := by
  induction k with
  | zero => simp [sumP]
  | succ k ih =>
    have h3 : powP (partV ((k : Int) + 1) f) (cntP p) ≤ restP f p := powP_mono (partV_bd _ _).1 (part_le (by omega) (by omega) (by omega) h1 h2) _
    have := ih (by omega)
    simp only [sumP]
    rw [Int.natCast_add, Int.add_mul]
    simp only [Int.natCast_one, Int.one_mul]
    omega

theorem bounds_facts {f p : Int} (h : rightB f p = true) (hp : p ≠ 64) :
    stopsV f p ≤ f * 4294967296 ∧ highV f p ≤ f * 4294967296 ∧ stopsV f p ≤ stopsV f (p + 1) ∧ highV f p ≤ highV f (p + 1) ∧ stopsV f p ≤ p * 4294967296 + f * 4295 ∧ stopsV f p ≤ highV f p + f * 4295 ∧ 0 ≤ stopsV f p ∧ 0 ≤ highV f p := by
  obtain ⟨h1, h2, h3, h4⟩ := right_iff.1 h
  have hc : cntP (p + 1) = cntP p + 1 := by unfold cntP; omega
  have hcp : (cntP p : Int) = p := by unfold cntP; omega
  obtain ⟨r0, r1⟩ := restP_bd f p
  have hr : restP f (p + 1) ≤ restP f p := by
    unfold restP
    rw [hc]
    exact powP_down _ (partV_bd _ _).1 _
  obtain ⟨s0, s1⟩ := mul_bd h1 h2 (x := 4294967296 - restP f p) (by omega) (by omega)
  have hst : stopsV f p ≤ stopsV f (p + 1) := by
    unfold stopsV
    exact Int.mul_le_mul_of_nonneg_left (by omega) (by omega)
  have hsum : ∀ k : Nat, sumP f (p + 1) k ≤ sumP f p k := by
    intro k
    induction k with
    | zero => exact Int.le_refl _
    | succ k ih =>
      have := powP_down (partV ((k : Int) + 1) f) (partV_bd _ _).1 (cntP p)
      simp only [sumP, hc]
      omega
  have hsb := sumP_bd f p (f - 1).toNat
  have hsb1 := sumP_bd f (p + 1) (f - 1).toNat
  have hsl := sumP_le f p h1 h2 (f - 1).toNat (by omega)
  have hsm := hsum (f - 1).toNat
  have ht : ((f - 1).toNat : Int) = f - 1 := by omega
  rw [ht] at hsb hsb1 hsl
  have hlow := powP_low (partV_bd (f - 1) f).1 (part_low h1 h2) (partV_bd (f - 1) f).2 (cntP p)
  change 4294967296 - restP f p ≤ _ at hlow
  rw [hcp] at hlow
  have hQ := Int.mul_ediv_add_emod 4294967296 f
  have hQ0 := Int.emod_nonneg 4294967296 (show f ≠ 0 by omega)
  have hQ1 := Int.ediv_nonneg (show (0 : Int) ≤ 4294967296 by omega) (show 0 ≤ f by omega)
  have hsp : stopsV f p ≤ p * 4294967296 + f * 4295 := by
    have e1 : stopsV f p ≤ f * (p * (4294967296 / f + 1 + 1)) := Int.mul_le_mul_of_nonneg_left hlow (by omega)
    have e2 : f * (p * (4294967296 / f + 1 + 1)) = p * (f * (4294967296 / f)) + p * (f * 2) := by
      rw [Int.mul_left_comm, ← Int.mul_add, ← Int.mul_add]
      congr 2
      omega
    have e3 : p * (f * (4294967296 / f)) ≤ p * 4294967296 := Int.mul_le_mul_of_nonneg_left (by omega) h3
    have e4 : p * (f * 2) ≤ 64 * (f * 2) := Int.mul_le_mul_of_nonneg_right h4 (by omega)
    omega
  have hs' : stopsV f p = f * 4294967296 - f * restP f p := by unfold stopsV; rw [Int.mul_sub]
  have hfr : 0 ≤ f * restP f p := Int.mul_nonneg (by omega) r0
  have hsl2 : (f - 1) * restP f p = f * restP f p - restP f p := by rw [Int.sub_mul, Int.one_mul]
  rw [hsl2] at hsl
  unfold highV
  have hp1 : p + 1 ≠ 0 := by omega
  rw [if_neg hp1]
  refine ⟨by omega, ?_, hst, ?_, hsp, ?_, by unfold stopsV; exact s0, ?_⟩
  · split <;> omega
  · split <;> omega
  · split
    · rename_i h0
      subst h0
      have : restP f 0 = 4294967296 := rfl
      rw [this] at hs'
      omega
    · omega
  · split <;> omega

set_option maxRecDepth 20000 in
set_option maxHeartbeats 1000000 in
theorem bounds_1 (f p : Int) (W : World) (h : rightB f p = true) (hp : p ≠ 64) : Calls Try.prog 8 #[.int .i64 f, .int .i64 p] W fun e W' => e = .returned (.bool true) ∧ W = W' := by
  obtain ⟨h1, h2, h3, h4⟩ := right_iff.1 h
  have hr1 : rightB f (p + 1) = true := by rw [right_iff]; omega
  obtain ⟨f1, f2, f3, f4, f5, f6, f7, f8⟩ := bounds_facts h hp
  have f9 : stopsV f (p + 1) ≤ 18446744073709551615 := by
    obtain ⟨r0, r1⟩ := restP_bd f (p + 1)
    have := (mul_bd h1 h2 (x := 4294967296 - restP f (p + 1)) (by omega) (by omega)).2
    unfold stopsV
    omega
  have cR := fun w => ref56_Right f p w
  rw [h] at cR
  have cS := fun w => prob_Stops f p w h
  have cS1 := fun w => prob_Stops f (p + 1) w hr1
  have cH := fun w => prob_High f p w h
  have cH1 := fun w => prob_High f (p + 1) w hr1
  have CR := Lib.hid cR
  have CS := Lib.hid cS
  have CS1 := Lib.hid cS1
  have CH := Lib.hid cH
  have CH1 := Lib.hid cH1
  have hz : (p == 64) = false := by simp [hp]
  have H := Lib.hid h
  have H1 := Lib.hid hr1
  have HP := Lib.hid hp
  clear cR cS cS1 cH cH1 h hr1 hp
  go_enter Try.func8, Try.ntmps8
  go_wp2_with (first | (go_at_call 44; refine (CR.out _).mono ?_; rintro e w' ⟨rfl, rfl⟩) | (go_at_call 45; (with_reducible refine (CS.out _).mono ?_); rintro e w' ⟨rfl, rfl⟩) | (go_at_call 45; (with_reducible refine (CS1.out _).mono ?_); rintro e w' ⟨rfl, rfl⟩) | (go_at_call 46; (with_reducible refine (CH.out _).mono ?_); rintro e w' ⟨rfl, rfl⟩) | (go_at_call 46; (with_reducible refine (CH1.out _).mono ?_); rintro e w' ⟨rfl, rfl⟩) | (go_at_call 29; refine (alive56 _).mono ?_; rintro e w' ⟨rfl, rfl⟩))
  go_ret
  exact ⟨rfl, rfl⟩
theorem bounds_0 (f p : Int) (W : World) (h : rightB f p = false ∨ p = 64) : Calls Try.prog 8 #[.int .i64 f, .int .i64 p] W fun e W' => e = .returned (.bool true) ∧ W = W' := by
  cases hr : rightB f p
  · have cR := fun w => ref56_Right f p w
    rw [hr] at cR
    have CR := Lib.hid cR
    clear cR h hr
    go_enter Try.func8, Try.ntmps8
    go_wp2_with (first | (go_at_call 44; refine (CR.out _).mono ?_; rintro e w' ⟨rfl, rfl⟩))
    go_ret
    exact ⟨rfl, rfl⟩
  · have hp : p = 64 := by rcases h with h | h <;> simp_all
    subst hp
    have cR := fun w => ref56_Right f 64 w
    rw [hr] at cR
    have CR := Lib.hid cR
    clear cR h hr
    go_enter Try.func8, Try.ntmps8
    go_wp2_with (first | (go_at_call 44; refine (CR.out _).mono ?_; rintro e w' ⟨rfl, rfl⟩))
    go_ret
    exact ⟨rfl, rfl⟩

set_option maxRecDepth 100000 in
theorem walkProbBounds {H : Type} (W : World) (base : Nat) (enc : TypeId × Value → H) {v0 : Value} {d0 : DataW H} {p0 : List MemPlace} {v1 : Value} {d1 : DataW H} {p1 : List MemPlace}
    (h0 : DataW.Trod enc Try.prog W 0 (fun _ => true) true 3 v0 d0 p0) (h1 : DataW.Trod enc Try.prog W 0 (fun _ => true) true 3 v1 d1 p1)
    (o0 : Value.okWide Try.prog W .any base 3 v0) (o1 : Value.okWide Try.prog W .any base 3 v1) :
    Calls Try.prog 8 #[v0, v1] W fun e W' => e = .returned (.bool true) ∧ Below W.heap.size W W' := by
  obtain ⟨f, rfl, a0, a1⟩ := arg_int o0 h0
  obtain ⟨p, rfl, b0, b1⟩ := arg_int o1 h1
  by_cases hb : rightB f p = true ∧ p ≠ 64
  · exact (bounds_1 f p W hb.1 hb.2).mono fun e W' h => ⟨h.1, h.2 ▸ Below.refl _ _⟩
  · refine (bounds_0 f p W ?_).mono fun e W' h => ⟨h.1, h.2 ▸ Below.refl _ _⟩
    cases hr : rightB f p
    · exact .inl rfl
    · exact .inr (Classical.not_not.1 fun e => hb ⟨hr, e⟩)
end Go.Proofs.Ytokgokjgpmdlpaa
