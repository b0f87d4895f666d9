
/-
  Ticks as a time of day, by the document: hoistwayref52.Text; clock.Span; the chapter's example. Condition: the numbers fit their kinds.
-/
import Derived.Test.YtnlieclfajebbaaClockT
set_option linter.unusedVariables false
set_option linter.unusedSimpArgs false
namespace Go.Proofs.Ytnlieclfajebbaa
open Go.Joins Go.ChangeShapes Go.WideShapes Go.ChangeAt Go.RowKit Go.Deep

set_option maxRecDepth 20000 in
set_option maxHeartbeats 400000 in
theorem ref52_Text0 (t : Nat) (w : World) (h : t < 9223372036854775808) : Calls Try.prog 16 #[.int .i64 (t : Int)] w fun e w' => e = .returned (.string (txt (clkN t))) ∧ Below w.heap.size w w' := by
  have c1 := fun w => ref52_two (t / 3600 % 24) w (by omega)
  have c2 := fun w => ref52_two (t / 60 % 60) w (by omega)
  have c3 := fun w => ref52_two (t % 60) w (by omega)
  have c4 := fun w => ref02_Text ((t / 86400 : Nat) : Int) w ⟨by omega, by omega⟩
  rw [decI_nat] at c4
  rw [show ((t / 3600 % 24 : Nat) : Int) = (t : Int) % 86400 / 3600 by omega] at c1
  rw [show ((t / 60 % 60 : Nat) : Int) = (t : Int) % 3600 / 60 by omega] at c2
  rw [show ((t % 60 : Nat) : Int) = (t : Int) % 60 by omega] at c3
  rw [show ((t / 86400 : Nat) : Int) = (t : Int) / 86400 by omega] at c4
  have s1 := two_size (t / 3600 % 24)
  have s2 := two_size (t / 60 % 60)
  have s3 := two_size (t % 60)
  have s4 : (txt (dec (t / 86400))).size ≤ 20 := by rw [txt_size]; exact dec_len _
  have hh := hms_txt t
  have C1 := Lib.hid c1
  have C2 := Lib.hid c2
  have C3 := Lib.hid c3
  have C4 := Lib.hid c4
  have t0 : (0 : Int) ≤ t := by omega
  have t1 : (t : Int) ≤ 9223372036854775807 := by omega
  have q0 : (0 : Int) ≤ (t : Int) % 86400 := by omega
  have q1 : (t : Int) % 86400 < 86400 := by omega
  have hz : ((t : Int) == -9223372036854775808) = false := beq_eq_false_iff_ne.2 (by omega)
  by_cases hd : 86400 ≤ t
  · have hc : clkN t = (dec (t / 86400) ++ [100]) ++ hmsL t := by unfold clkN; rw [if_pos hd]
    have hd2 : 1 ≤ (t : Int) / 86400 := by omega
    have HC := Lib.hid (hc ▸ (by rw [← txt_append, ← txt_append, ← hh]; rfl) : (txt (dec (t / 86400)) ++ ⟨#[100]⟩) ++ ((((txt (twoL (t / 3600 % 24)) ++ ⟨#[58]⟩) ++ txt (twoL (t / 60 % 60))) ++ ⟨#[58]⟩) ++ txt (twoL (t % 60))) = txt (clkN t))
    clear c1 c2 c3 c4 hh hc hd h
    generalize txt (twoL (t / 3600 % 24)) = b1 at *
    generalize txt (twoL (t / 60 % 60)) = b2 at *
    generalize txt (twoL (t % 60)) = b3 at *
    generalize txt (dec (t / 86400)) = b4 at *
    generalize txt (clkN t) = r at *
    generalize (t : Int) = x at *
    go_enter Try.func16, Try.ntmps16
    go_wp2_with fail
    refine (C1.out _).mono ?_
    rintro e w1 ⟨rfl, hb1⟩
    go_wp2_with fail
    refine (C2.out _).mono ?_
    rintro e w2 ⟨rfl, hb2⟩
    go_wp2_with fail
    refine (C3.out _).mono ?_
    rintro e w3 ⟨rfl, hb3⟩
    have hB3 := (hb1.trans (hb2.mono hb1.size)).trans (hb3.mono (Nat.le_trans hb1.size hb2.size))
    go_wp2_with fail
    refine (C4.out _).mono ?_
    rintro e w4 ⟨rfl, hb4⟩
    go_wp2
    go_ret
    exact ⟨ret_str HC.out, hB3.trans (hb4.mono hB3.size)⟩
  · have hc : clkN t = hmsL t := by unfold clkN; rw [if_neg hd]
    have hd2 : (t : Int) / 86400 = 0 := by omega
    have HC := Lib.hid (hc ▸ hh : (((txt (twoL (t / 3600 % 24)) ++ ⟨#[58]⟩) ++ txt (twoL (t / 60 % 60))) ++ ⟨#[58]⟩) ++ txt (twoL (t % 60)) = txt (clkN t))
    clear c1 c2 c3 c4 C4 s4 hh hc hd h
    generalize txt (twoL (t / 3600 % 24)) = b1 at *
    generalize txt (twoL (t / 60 % 60)) = b2 at *
    generalize txt (twoL (t % 60)) = b3 at *
    generalize txt (clkN t) = r at *
    generalize (t : Int) = x at *
    go_enter Try.func16, Try.ntmps16
    go_wp2_with fail
    refine (C1.out _).mono ?_
    rintro e w1 ⟨rfl, hb1⟩
    go_wp2_with fail
    refine (C2.out _).mono ?_
    rintro e w2 ⟨rfl, hb2⟩
    go_wp2_with fail
    refine (C3.out _).mono ?_
    rintro e w3 ⟨rfl, hb3⟩
    have hB3 := (hb1.trans (hb2.mono hb1.size)).trans (hb3.mono (Nat.le_trans hb1.size hb2.size))
    go_wp2
    go_ret
    exact ⟨ret_str HC.out, hB3⟩
set_option maxRecDepth 20000 in
set_option maxHeartbeats 400000 in
theorem ref52_Text (a : Int) (w : World) (h : I64 a) : Calls Try.prog 16 #[.int .i64 a] w fun e w' => e = .returned (.string (txt (clkI a))) ∧ Below w.heap.size w w' := by
  unfold I64 at h
  rcases Int.lt_or_le a 0 with h0 | h0
  · by_cases hm : a = -9223372036854775808
    · have hc : clkI a = 45 :: clkN 9223372036854775807 := by unfold clkI; rw [if_pos h0, if_pos hm]
      have cT := fun w => ref52_Text0 9223372036854775807 w (by omega)
      have hl := clkN_size 9223372036854775807
      have HC := Lib.hid (hc ▸ txt_cons 45 _ : (⟨#[45]⟩ : ByteArray) ++ txt (clkN 9223372036854775807) = txt (clkI a))
      have CT := Lib.hid cT
      clear hc cT
      generalize txt (clkI a) = r at *
      generalize txt (clkN 9223372036854775807) = s at *
      subst hm
      go_enter Try.func16, Try.ntmps16
      go_wp2_with fail
      refine (CT.out _).mono ?_
      rintro e w1 ⟨rfl, hb1⟩
      go_wp2
      go_ret
      exact ⟨ret_str HC.out, hb1⟩
    · have hc : clkI a = 45 :: clkN a.natAbs := by unfold clkI; rw [if_pos h0, if_neg hm]
      have cT := fun w => ref52_Text0 a.natAbs w (by omega)
      rw [show ((a.natAbs : Nat) : Int) = -a by omega] at cT
      have hl := clkN_size a.natAbs
      have HC := Lib.hid (hc ▸ txt_cons 45 _ : (⟨#[45]⟩ : ByteArray) ++ txt (clkN a.natAbs) = txt (clkI a))
      have CT := Lib.hid cT
      have hz : (a == -9223372036854775808) = false := beq_eq_false_iff_ne.2 hm
      have h1 : -9223372036854775807 ≤ a := by omega
      obtain ⟨_, h2⟩ := h
      clear hc cT
      generalize txt (clkI a) = r at *
      generalize txt (clkN a.natAbs) = s at *
      go_enter Try.func16, Try.ntmps16
      go_wp2_with fail
      refine (CT.out _).mono ?_
      rintro e w1 ⟨rfl, hb1⟩
      go_wp2
      go_ret
      exact ⟨ret_str HC.out, hb1⟩
  · have hc : clkI a = clkN a.toNat := by unfold clkI; rw [if_neg (by omega)]
    have := ref52_Text0 a.toNat w (by omega)
    rw [Int.toNat_of_nonneg h0] at this
    rw [hc]
    exact this
theorem clk52 : clkI 90061 = [49, 100, 48, 49, 58, 48, 49, 58, 48, 49] := by decide +kernel
set_option maxRecDepth 20000 in
theorem alive52 (w : World) : Calls Try.prog 18 #[] w fun e w' => e = .returned (.bool true) ∧ Below w.heap.size w w' := by
  have cT := fun w => clock_Text 90061 w ⟨by omega, by omega⟩
  rw [clk52] at cT
  have CT := Lib.hid cT
  have hq : ((txt [49, 100, 48, 49, 58, 48, 49, 58, 48, 49]).toList == [49, 100, 48, 49, 58, 48, 49, 58, 48, 49]) = true := by decide +kernel
  clear cT
  go_enter Try.func18, Try.ntmps18
  go_wp2_with fail
  refine (CT.out _).mono ?_
  rintro e w1 ⟨rfl, hb1⟩
  go_wp2
  go_ret
  exact ⟨rfl, hb1⟩
end Go.Proofs.Ytnlieclfajebbaa
