/-
  The statement FracOrder, walked.
-/
import Derived.Test.YtokgokjgpmdlpaaFrac2
import Derived.Test.YtokgokjgpmdlpaaFrac3
import Derived.Test.YtokgokjgpmdlpaaFrac4
import Derived.Test.YtokgokjgpmdlpaaArgA
set_option linter.unusedVariables false
set_option linter.unusedSimpArgs false
namespace Go.Proofs.Ytokgokjgpmdlpaa
open Go.Joins Go.ChangeShapes Go.WideShapes Go.ChangeAt Go.RowKit Go.Deep

theorem cmpI_turn (a b : Int) : cmpI b a = -cmpI a b := by unfold cmpI; split <;> split <;> omega
theorem cmpF_turn (f g : Frac) : cmpF g f = -cmpF f g := by
  unfold cmpF
  by_cases h : f.whole = g.whole
  · rw [if_pos h, if_pos h.symm, cmpI_turn]
  · rw [if_neg h, if_neg (fun e => h e.symm), cmpI_turn]
theorem cmpF_bd (f g : Frac) : -1 ≤ cmpF f g ∧ cmpF f g ≤ 1 := by
  have h : ∀ a b, -1 ≤ cmpI a b ∧ cmpI a b ≤ 1 := fun a b => by unfold cmpI; split <;> (try split) <;> omega
  unfold cmpF
  split <;> exact h _ _
theorem least_facts {f : Frac} (h : rightF f = true) (k : f.ok) : rightF (leastF f) = true ∧ (leastF f).ok ∧ cmpF f (leastF f) = 0 := by
  have hl : leastF f = ⟨f.whole, f.rest / gcdF f, f.by_ / gcdF f⟩ := by unfold leastF; rw [if_pos h]
  obtain ⟨g1, g2⟩ := gcdF_bd h
  rw [hl]
  unfold rightF at h
  simp only [decide_eq_true_eq] at h
  obtain ⟨h1, h2, h3⟩ := h
  obtain ⟨k1, k2, k3⟩ := k
  have d1 : gcdF f ∣ f.rest := by
    have := Nat.gcd_dvd_left f.rest.toNat f.by_.toNat
    have e := Int.ofNat_dvd.2 this
    rw [Int.toNat_of_nonneg h2] at e
    exact e
  have d2 : gcdF f ∣ f.by_ := by
    have := Nat.gcd_dvd_right f.rest.toNat f.by_.toNat
    have e := Int.ofNat_dvd.2 this
    rw [Int.toNat_of_nonneg (by omega)] at e
    exact e
  have e1 := Int.ediv_mul_cancel d1
  have e2 := Int.ediv_mul_cancel d2
  have q1 := quo_in h2 g1
  have q2 := quo_in (x := f.by_) (by omega) g1
  generalize f.rest / gcdF f = r at *
  generalize f.by_ / gcdF f = b at *
  have hlt : r < b := by
    rcases Int.lt_or_le r b with hh | hh
    · exact hh
    · have := Int.mul_le_mul_of_nonneg_right hh (show 0 ≤ gcdF f by omega)
      omega
  refine ⟨by unfold rightF; simp only [decide_eq_true_eq]; exact ⟨h1, q1.1, hlt⟩, ⟨k1, ⟨by simp only; omega, by simp only; omega⟩, ⟨by simp only; omega, by simp only; omega⟩⟩, ?_⟩
  unfold cmpF cmpI
  simp only [if_true]
  have e3 : f.rest * b = r * f.by_ := by rw [← e1, ← e2, Int.mul_assoc, Int.mul_comm (gcdF f) b]
  rw [e3]
  simp

theorem order_0 (f g : Frac) (w : World) (h : rightF f = false ∨ rightF g = false) :
    Calls Try.prog 12 #[f.val, g.val] w fun e w' => e = .returned (.bool true) ∧ Below w.heap.size w w' := by
  have cF := fun w => ref08_Right f w
  have cG := fun w => ref08_Right g w
  cases h1 : rightF f
  · rw [h1] at cF
    have CF := Lib.hid cF
    clear cF cG h h1
    obtain ⟨x, y, z⟩ := f
    obtain ⟨u, v, t⟩ := g
    go_enter Try.func12, Try.ntmps12
    go_wp2_with fail
    refine (CF.out _).mono ?_
    rintro e w' ⟨rfl, hb⟩
    go_wp2
    go_ret
    exact ⟨rfl, (Joins.below_alloc2 w _ _).trans (hb.mono (by simp; omega))⟩
  · rw [h1] at h cF
    have h2 : rightF g = false := by simpa using h
    rw [h2] at cG
    have CF := Lib.hid cF
    have CG := Lib.hid cG
    clear cF cG h h1 h2
    obtain ⟨x, y, z⟩ := f
    obtain ⟨u, v, t⟩ := g
    go_enter Try.func12, Try.ntmps12
    go_wp2_with fail
    refine (CF.out _).mono ?_
    rintro e w' ⟨rfl, hb⟩
    obtain ⟨hc, hf⟩ := bcell hb
    have hz := hb.size
    simp only [alloc_size] at hc hf hz
    go_wp2_with fail
    refine (CG.out _).mono ?_
    rintro e w2 ⟨rfl, hb2⟩
    go_wp2
    go_ret
    have h3 : Below w.heap.size w w' := (Joins.below_alloc2 w _ _).trans (hb.mono (by simp; omega))
    exact ⟨rfl, h3.trans (hb2.mono h3.size)⟩
set_option maxHeartbeats 1000000 in
theorem order_1 (f g : Frac) (w : World) (h1 : rightF f = true) (h2 : rightF g = true) (kf : f.ok) (kg : g.ok) :
    Calls Try.prog 12 #[f.val, g.val] w fun e w' => e = .returned (.bool true) ∧ Below w.heap.size w w' := by
  have cF := fun w => ref08_Right f w
  have cG := fun w => ref08_Right g w
  rw [h1] at cF
  rw [h2] at cG
  obtain ⟨l1, l2, l3⟩ := least_facts h1 kf
  have cA := fun w => frac_Compare f g w h1 h2 kf kg
  have cB := fun w => ref08_Compare f g w h1 h2 kf kg
  have cC := fun w => frac_Compare g f w h2 h1 kg kf
  have cD := fun w => frac_Compare f (leastF f) w h1 l1 kf l2
  have cL := fun w => frac_Least f w kf
  obtain ⟨d1, d2⟩ := cmpF_bd f g
  rw [l3] at cD
  rw [cmpF_turn] at cC
  generalize cmpF f g = c at *
  generalize leastF f = l at *
  have CF := Lib.hid cF
  have CG := Lib.hid cG
  have CA := Lib.hid cA
  have CB := Lib.hid cB
  have CC := Lib.hid cC
  have CD := Lib.hid cD
  have CL := Lib.hid cL
  have e1 : (c == c) = true := by simp
  have e2 : (-c == -c) = true := by simp
  have e3 : IntKind.i64.wrap (-c) = -c := IntWalk.i64_in _ (by omega)
  have E3 := Lib.hid e3
  clear cF cG cA cB cC cD cL h1 h2 kf kg l1 l2 l3 e3
  obtain ⟨x, y, z⟩ := f
  obtain ⟨u, v, t⟩ := g
  obtain ⟨p, q, r⟩ := l
  go_enter Try.func12, Try.ntmps12
  go_wp2_with fail
  refine (CF.out _).mono ?_
  rintro e w1 ⟨rfl, hb⟩
  obtain ⟨hc, hf⟩ := bcell hb
  have hz := hb.size
  simp only [alloc_size] at hc hf hz
  go_wp2_with fail
  refine (CG.out _).mono ?_
  rintro e w2 ⟨rfl, hb2⟩
  have h3 : Below w.heap.size w w1 := (Joins.below_alloc2 w _ _).trans (hb.mono (by simp; omega))
  have h4 : Below w.heap.size w w2 := h3.trans (hb2.mono h3.size)
  have hc2 : ∀ b o, b < w.heap.size + 1 + 1 → w2.cell? ⟨b, o, none⟩ = ((w.alloc (.cells #[.int .i64 x, .int .i64 y, .int .i64 z] 41)).alloc (.cells #[.int .i64 u, .int .i64 v, .int .i64 t] 41)).cell? ⟨b, o, none⟩ := fun b o hh => (hb2.cell (p := ⟨b, o, none⟩) (by show b < _; omega)).trans (hc b o hh)
  have hz2 := hb2.size
  clear hb hb2 hc hf h3
  go_wp2_with fail
  refine (CA.out _).mono ?_
  rintro e w3 ⟨rfl, hb3⟩
  have h5 : Below w.heap.size w w3 := h4.trans (hb3.mono h4.size)
  have hc3 : ∀ b o, b < w.heap.size + 1 + 1 → w3.cell? ⟨b, o, none⟩ = ((w.alloc (.cells #[.int .i64 x, .int .i64 y, .int .i64 z] 41)).alloc (.cells #[.int .i64 u, .int .i64 v, .int .i64 t] 41)).cell? ⟨b, o, none⟩ := fun b o hh => (hb3.cell (p := ⟨b, o, none⟩) (by show b < _; omega)).trans (hc2 b o hh)
  have hz3 := hb3.size
  have hz4 : w.heap.size < w3.heap.size := by omega
  have hz5 : w.heap.size + 1 < w3.heap.size := by omega
  have hz6 : w.heap.size < w.heap.size + 1 + 1 := by omega
  have hz7 : w.heap.size + 1 < w.heap.size + 1 + 1 := by omega
  clear hb3 hc2 h4
  have e3 := E3.out
  go_wp2_with fail
  refine wp_region_grow (by kernel_rfl) (by kernel_rfl) ?_
  repeat (go_big_quiet_step ((first | (go_at_call 54; with_reducible exact grow_of (CB.out _)) | (go_at_call 53; with_reducible exact grow_of (CC.out _)) | (go_at_call 53; with_reducible exact grow_of (CD.out _)) | (go_at_call 33; with_reducible exact grow_of (CL.out _)) | (go_at_call 35; with_reducible exact grow_of (alive08 _)))))
  refine wpQuiet_nil ?_
  intro w4 hb4
  go_wp2
  go_ret
  exact ⟨rfl, h5.trans (hb4.mono h5.size)⟩

set_option maxRecDepth 100000 in
theorem walkFracOrder {H : Type} (W : World) (base : Nat) (enc : TypeId × Value → H) {v0 : Value} {d0 : DataW H} {p0 : List MemPlace} {v1 : Value} {d1 : DataW H} {p1 : List MemPlace}
    (h0 : DataW.Trod enc Try.prog W 0 (fun _ => true) true 41 v0 d0 p0) (h1 : DataW.Trod enc Try.prog W 0 (fun _ => true) true 41 v1 d1 p1)
    (o0 : Value.okWide Try.prog W .any base 41 v0) (o1 : Value.okWide Try.prog W .any base 41 v1) :
    Calls Try.prog 12 #[v0, v1] W fun e W' => e = .returned (.bool true) ∧ Below W.heap.size W W' := by
  obtain ⟨cs, rfl, m, hm⟩ := arg_agg (.inl ⟨_, Try.underlying41⟩) o0 h0
  obtain ⟨f, rfl, hk⟩ := read_Frac hm
  obtain ⟨cs, rfl, m, hm⟩ := arg_agg (.inl ⟨_, Try.underlying41⟩) o1 h1
  obtain ⟨g, rfl, hg⟩ := read_Frac hm
  by_cases h : rightF f = true ∧ rightF g = true
  · exact order_1 f g W h.1 h.2 hk hg
  · refine order_0 f g W ?_
    cases h1 : rightF f
    · exact .inl rfl
    · cases h2 : rightF g
      · exact .inr rfl
      · exact absurd ⟨h1, h2⟩ h
end Go.Proofs.Ytokgokjgpmdlpaa
