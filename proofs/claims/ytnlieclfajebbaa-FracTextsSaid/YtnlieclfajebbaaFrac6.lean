
/-
  A quotient in hundredths by the document: hoistwayref08.Hundredths. Condition: the numbers fit their kinds.
-/
import Derived.Test.YtnlieclfajebbaaFrac5
set_option linter.unusedVariables false
set_option linter.unusedSimpArgs false
namespace Go.Proofs.Ytnlieclfajebbaa
open Go.Joins Go.ChangeShapes Go.WideShapes Go.ChangeAt Go.RowKit Go.Deep

theorem hun_words {y z : Int} (h0 : 0 ≤ y) (h1 : y < z) (h2 : z ≤ 9223372036854775807) : ∃ hi lo q2 : Int,
    (∀ w, Calls Try.prog 81 #[.int .u64 y, .int .u64 100] w fun e w' => e = .returned (.tuple #[.int .u64 hi, .int .u64 lo]) ∧ w = w') ∧
    (∀ w, Calls Try.prog 93 #[.int .u64 hi, .int .u64 lo, .int .u64 z] w fun e w' => e = .returned (.tuple #[.int .u64 (y * 100 / z), .int .u64 q2]) ∧ w = w') := by
  have cT := fun w => ref_Times y 100 w h0 (by omega) (by omega) (by omega)
  obtain ⟨hi, lo, d, e1, e2, e3, l1, l2, l3, e4⟩ := md_words (M := y * 100) (c := z) (by omega) (by omega) (by omega) h2 (by omega)
  refine ⟨hi, lo, (((hi * 18446744073709551616 + lo) % d : Nat) : Int), fun w => ?_, fun w => ?_⟩
  · have := cT w
    rw [e1, e2] at this
    exact this
  · have := ref_Over hi lo d w l1 l2 l3
    rw [e4, ← e3] at this
    exact this
set_option maxRecDepth 20000 in
set_option maxHeartbeats 1000000 in
theorem ref08_Hundredths (f : Frac) (w : World) (hk : f.ok) : Calls Try.prog 50 #[f.val] w fun e w' => e = .returned (.tuple #[.int .i64 (hunV f), .int .i64 (hunE f)]) ∧ Below w.heap.size w w' := by
  obtain ⟨k1, k2, k3⟩ := hk
  have cR := fun w => ref08_Right f w
  have hr : rightF f = decide (0 ≤ f.whole ∧ 0 ≤ f.rest ∧ f.rest < f.by_) := rfl
  cases hb : rightF f
  · rw [hb] at cR
    have e1 : hunV f = 0 := by unfold hunV; rw [hb]; rfl
    have e2 : hunE f = 22 := by unfold hunE; rw [hb]; rfl
    rw [e1, e2]
    have CR := Lib.hid cR
    clear cR hr hb e1 e2 k1 k2 k3
    obtain ⟨x, y, z⟩ := f
    try simp only at *
    go_enter Try.func50, Try.ntmps50
    go_wp2_with fail
    refine (CR.out _).mono ?_
    rintro e w1 ⟨rfl, hb1⟩
    go_wp2
    go_ret2
    exact ⟨rfl, ((Below.refl _ _).alloc (Nat.le_refl _) _).trans (hb1.mono (by simp))⟩
  · rw [hb] at cR hr
    have hr2 := of_decide_eq_true hr.symm
    obtain ⟨r1, r2, r3⟩ := hr2
    have cM := fun w => ref_Mul f.whole 100 w k1 ⟨by omega, by omega⟩
    obtain ⟨q0, q1⟩ := hun_q r2 r3
    obtain ⟨hi, lo, q2, cT, cD⟩ := hun_words r2 r3 k3.2
    have y1 := k2.2
    have z1 := k3.2
    rcases Int.lt_or_le 9223372036854775807 (f.whole * 100) with hbig | hfit
    · have e1 : hunV f = 0 := by unfold hunV; rw [if_pos hb, if_neg (by omega)]
      have e2 : hunE f = 10 := by unfold hunE; rw [if_pos hb, if_neg (by omega)]
      rw [e1, e2]
      rw [(fit2_out hbig).1, (fit2_out hbig).2.2] at cM
      have CR := Lib.hid cR
      have CM := Lib.hid cM
      have CT := Lib.hid cT
      have CD := Lib.hid cD
      generalize f.rest * 100 / f.by_ = q at *
      clear cR cM cD cT hr hb e1 e2 k1 k2 k3 hbig
      obtain ⟨x, y, z⟩ := f
      try simp only at *
      have hz0 : 0 ≤ z := by omega
      go_enter Try.func50, Try.ntmps50
      go_wp2_with fail
      refine (CR.out _).mono ?_
      rintro e w1 ⟨rfl, hb1⟩
      have hB1 := ((Below.refl w.heap.size w).alloc (Nat.le_refl _) (.cells #[.int .i64 x, .int .i64 y, .int .i64 z] 32)).trans (hb1.mono (by simp))
      have hblk := (Blk.new w 32 #[.int .i64 x, .int .i64 y, .int .i64 z]).below hb1 (by simp)
      have z0 : w1.cell? ⟨w.heap.size, 0, none⟩ = some (.int .i64 x) := hblk.cell 0
      have z1 : w1.cell? ⟨w.heap.size, 1, none⟩ = some (.int .i64 y) := hblk.cell 1
      have z2 : w1.cell? ⟨w.heap.size, 2, none⟩ = some (.int .i64 z) := hblk.cell 2
      go_wp2_with (first | (go_at_call 81; refine (CT.out _).mono ?_; rintro e w' ⟨rfl, rfl⟩) | (go_at_call 93; refine (CD.out _).mono ?_; rintro e w' ⟨rfl, rfl⟩) | (go_at_call 94; refine (CM.out _).mono ?_; rintro e w' ⟨rfl, rfl⟩))
      go_ret2
      exact ⟨rfl, hB1⟩
    · have hw0 : 0 ≤ f.whole * 100 := by omega
      have e1 : hunV f = fit2V (f.whole * 100 + f.rest * 100 / f.by_) := by unfold hunV; rw [if_pos hb, if_pos hfit]
      have e2 : hunE f = fit2E (f.whole * 100 + f.rest * 100 / f.by_) := by unfold hunE; rw [if_pos hb, if_pos hfit]
      rw [e1, e2]
      have cA := fun w => ref_Add (f.whole * 100) (f.rest * 100 / f.by_) w ⟨by omega, by omega⟩ ⟨by omega, by omega⟩
      rw [(fit2_in hw0 hfit).1, (fit2_in hw0 hfit).2.2] at cM
      have hs : ∀ n, (fit2V n = n ∧ fit2E n = 0 ∧ fit2B n = true) ∨ (fit2V n = 0 ∧ fit2E n = 10 ∧ fit2B n = false) := by
        intro n
        unfold fit2V fit2E fit2B
        by_cases hn : -9223372036854775808 ≤ n ∧ n ≤ 9223372036854775807
        · exact .inl ⟨if_pos hn, if_pos hn, decide_eq_true hn⟩
        · exact .inr ⟨if_neg hn, if_neg hn, decide_eq_false hn⟩
      have hS := hs (f.whole * 100 + f.rest * 100 / f.by_)
      generalize fit2V (f.whole * 100 + f.rest * 100 / f.by_) = rv at *
      generalize fit2E (f.whole * 100 + f.rest * 100 / f.by_) = re at *
      generalize fit2B (f.whole * 100 + f.rest * 100 / f.by_) = rb at *
      generalize f.rest * 100 / f.by_ = q at *
      generalize f.whole * 100 = p at *
      obtain ⟨h1, h2, h3⟩ | ⟨h1, h2, h3⟩ := hS
      all_goals
        subst h3 h2
        try subst h1
        have CR := Lib.hid cR
        have CM := Lib.hid cM
        have CT := Lib.hid cT
        have CD := Lib.hid cD
        have CA := Lib.hid cA
        clear cR cM cD cA cT hr hb e1 e2 k1 k2 k3 hs
        obtain ⟨x, y, z⟩ := f
        try simp only at *
        have hz0 : 0 ≤ z := by omega
        go_enter Try.func50, Try.ntmps50
        go_wp2_with fail
        refine (CR.out _).mono ?_
        rintro e w1 ⟨rfl, hb1⟩
        have hB1 := ((Below.refl w.heap.size w).alloc (Nat.le_refl _) (.cells #[.int .i64 x, .int .i64 y, .int .i64 z] 32)).trans (hb1.mono (by simp))
        have hblk := (Blk.new w 32 #[.int .i64 x, .int .i64 y, .int .i64 z]).below hb1 (by simp)
        have z0 : w1.cell? ⟨w.heap.size, 0, none⟩ = some (.int .i64 x) := hblk.cell 0
        have z1 : w1.cell? ⟨w.heap.size, 1, none⟩ = some (.int .i64 y) := hblk.cell 1
        have z2 : w1.cell? ⟨w.heap.size, 2, none⟩ = some (.int .i64 z) := hblk.cell 2
        go_wp2_with (first | (go_at_call 81; refine (CT.out _).mono ?_; rintro e w' ⟨rfl, rfl⟩) | (go_at_call 93; refine (CD.out _).mono ?_; rintro e w' ⟨rfl, rfl⟩) | (go_at_call 94; refine (CM.out _).mono ?_; rintro e w' ⟨rfl, rfl⟩) | (go_at_call 19; refine (CA.out _).mono ?_; rintro e w' ⟨rfl, rfl⟩))
        go_ret2
        exact ⟨rfl, hB1⟩
theorem txtF_cat2 (a b c : List UInt8) : txt a ++ (((⟨#[32]⟩ ++ txt b) ++ ⟨#[47]⟩) ++ txt c) = txt (a ++ [32] ++ b ++ [47] ++ c) := by
  rw [show (⟨#[32]⟩ : ByteArray) = txt [32] from rfl, show (⟨#[47]⟩ : ByteArray) = txt [47] from rfl]
  simp only [txt_append, List.append_assoc]
set_option maxHeartbeats 1000000 in
theorem ref08_Text (f : Frac) (w : World) (hk : f.ok) : Calls Try.prog 52 #[f.val] w fun e w' => e = .returned (.string (txt (txtF f))) ∧ Below w.heap.size w w' := by
  obtain ⟨k1, k2, k3⟩ := hk
  have c1 := fun w => ref02_Of f.whole w k1
  have c2 := fun w => ref02_Of f.rest w k2
  have c3 := fun w => ref02_Of f.by_ w k3
  have C1 := Lib.hid c1
  have C2 := Lib.hid c2
  have C3 := Lib.hid c3
  clear c1 c2 c3 k1 k2 k3
  have s1 := decI_size f.whole
  have s2 := decI_size f.rest
  have s3 := decI_size f.by_
  obtain ⟨x, y, z⟩ := f
  simp only at *
  by_cases h0 : y = 0
  · have hl : txtF ⟨x, y, z⟩ = decI x := by unfold txtF; rw [if_pos h0]
    rw [hl]
    subst h0
    clear hl
    go_enter Try.func52, Try.ntmps52
    go_wp2_with fail
    obtain ⟨hBw1, hcw1, hzw1⟩ := box w 32 #[.int .i64 x, .int .i64 0, .int .i64 z]
    change Calls _ _ _ (w.alloc (.cells #[.int .i64 x, .int .i64 0, .int .i64 z] 32)) _
    generalize (w.alloc (.cells #[.int .i64 x, .int .i64 0, .int .i64 z] 32)) = w1 at *
    refine (C1.out _).mono ?_
    rintro e w2 ⟨rfl, hb2⟩
    have hq2 : ∀ i, w2.cell? ⟨w.heap.size, i, none⟩ = (#[.int .i64 x, .int .i64 0, .int .i64 z] : Array Value)[i]? := fun i => (hb2.cell (p := ⟨w.heap.size, i, none⟩) (by show w.heap.size < w1.heap.size; omega)).trans (hcw1 i)
    have hfin2 : Below w.heap.size w w2 := hBw1.trans (hb2.mono hBw1.size)
    clear hcw1 hb2
    go_wp2
    go_ret
    exact ⟨rfl, hfin2⟩
  · have hl : txtF ⟨x, y, z⟩ = decI x ++ [32] ++ decI y ++ [47] ++ decI z := by unfold txtF; rw [if_neg h0]
    rw [hl, ← txtF_cat2]
    have hzb : (y == 0) = false := by simp [h0]
    clear hl
    generalize txt (decI x) = a at *
    generalize txt (decI y) = b at *
    generalize txt (decI z) = c at *
    go_enter Try.func52, Try.ntmps52
    go_wp2_with fail
    obtain ⟨hBw1, hcw1, hzw1⟩ := box w 32 #[.int .i64 x, .int .i64 y, .int .i64 z]
    change Calls _ _ _ (w.alloc (.cells #[.int .i64 x, .int .i64 y, .int .i64 z] 32)) _
    generalize (w.alloc (.cells #[.int .i64 x, .int .i64 y, .int .i64 z] 32)) = w1 at *
    refine (C1.out _).mono ?_
    rintro e w2 ⟨rfl, hb2⟩
    have hq2 : ∀ i, w2.cell? ⟨w.heap.size, i, none⟩ = (#[.int .i64 x, .int .i64 y, .int .i64 z] : Array Value)[i]? := fun i => (hb2.cell (p := ⟨w.heap.size, i, none⟩) (by show w.heap.size < w1.heap.size; omega)).trans (hcw1 i)
    have hfin2 : Below w.heap.size w w2 := hBw1.trans (hb2.mono hBw1.size)
    have hlt2 : w.heap.size < w2.heap.size := by have := hb2.size; omega
    clear hcw1 hb2
    go_wp2
    refine wp_region_grow (by kernel_rfl) (by kernel_rfl) ?_
    repeat (go_big_quiet_step ((first | (go_at_call 34; with_reducible exact grow_of (C2.out _)) | (go_at_call 34; with_reducible exact grow_of (C3.out _)))))
    refine wpQuiet_nil ?_
    intro w3 hb3
    go_wp2
    go_ret
    exact ⟨rfl, hfin2.trans (hb3.mono hfin2.size)⟩
end Go.Proofs.Ytnlieclfajebbaa
