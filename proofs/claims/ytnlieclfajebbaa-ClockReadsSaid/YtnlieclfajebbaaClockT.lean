
/-
  Ticks as a time of day: clock.Text, clock.Span, hoistwayref52.Text. Condition: the numbers fit their kinds.
-/
import Derived.Test.YtnlieclfajebbaaClock
set_option linter.unusedVariables false
set_option linter.unusedSimpArgs false
namespace Go.Proofs.Ytnlieclfajebbaa
open Go.Joins Go.ChangeShapes Go.WideShapes Go.ChangeAt Go.RowKit Go.Deep

def hmsL (t : Nat) : List UInt8 := (((twoL (t / 3600 % 24) ++ [58]) ++ twoL (t / 60 % 60)) ++ [58]) ++ twoL (t % 60)
def clkN (t : Nat) : List UInt8 := if 86400 ≤ t then (dec (t / 86400) ++ [100]) ++ hmsL t else hmsL t
def clkI (a : Int) : List UInt8 := if a < 0 then 45 :: clkN (if a = -9223372036854775808 then 9223372036854775807 else a.natAbs) else clkN a.toNat
theorem two_size (n : Nat) : (txt (twoL n)).size ≤ 2 := by rw [txt_size]; simp [twoL]
theorem hms_size (t : Nat) : (txt (hmsL t)).size ≤ 8 := by rw [txt_size]; simp [hmsL, twoL]
theorem clkN_size (t : Nat) : (txt (clkN t)).size ≤ 29 := by
  have h1 := hms_size t
  have h2 := dec_len (t / 86400)
  rw [txt_size] at *
  unfold clkN
  split
  · simp; omega
  · omega
theorem hms_txt (t : Nat) : (((txt (twoL (t / 3600 % 24)) ++ ⟨#[58]⟩) ++ txt (twoL (t / 60 % 60))) ++ ⟨#[58]⟩) ++ txt (twoL (t % 60)) = txt (hmsL t) := by
  have e : (⟨#[58]⟩ : ByteArray) = txt [58] := rfl
  rw [e]
  simp only [txt_append]
  rfl
theorem hms_add {a b c : ByteArray} (ha : a.size ≤ 2) (hb : b.size ≤ 2) (hc : c.size ≤ 2) : True := trivial
theorem cat_size {a b : ByteArray} {n m : Nat} (ha : a.size ≤ n) (hb : b.size ≤ m) : (a ++ b).size ≤ n + m := by rw [ByteArray.size_append]; omega
set_option maxRecDepth 20000 in
set_option maxHeartbeats 2000000 in
theorem clock_Text0 (t : Nat) (w : World) (h : t < 9223372036854775808) : Calls Try.prog 15 #[.int .i64 (t : Int)] w fun e w' => e = .returned (.string (txt (clkN t))) ∧ Below w.heap.size w w' := by
  have c1 := fun w => clock_two (t / 3600 % 24) w (by omega)
  have c2 := fun w => clock_two (t / 60 % 60) w (by omega)
  have c3 := fun w => clock_two (t % 60) w (by omega)
  have c4 := fun w => digits_Text ((t / 86400 : Nat) : Int) w ⟨by omega, by omega⟩
  rw [decI_nat] at c4
  rw [show ((t / 3600 % 24 : Nat) : Int) = (t : Int) / 3600 % 24 by omega] at c1
  rw [show ((t / 60 % 60 : Nat) : Int) = (t : Int) / 60 % 60 by omega] at c2
  rw [show ((t % 60 : Nat) : Int) = (t : Int) % 60 by omega] at c3
  rw [show ((t / 86400 : Nat) : Int) = (t : Int) / 86400 by omega] at c4
  have s1 := two_size (t / 3600 % 24)
  have s2 := two_size (t / 60 % 60)
  have s3 := two_size (t % 60)
  have s4 : (txt (dec (t / 86400))).size ≤ 20 := by rw [txt_size]; exact dec_len _
  have hh := hms_txt t
  have C1 := Lib.hid c1
  have C2 := Lib.hid c2
  have C3 := Lib.hid c3
  have C4 := Lib.hid c4
  have t0 : (0 : Int) ≤ t := by omega
  have t1 : (t : Int) ≤ 9223372036854775807 := by omega
  by_cases hd : 86400 ≤ t
  · have hc : clkN t = (dec (t / 86400) ++ [100]) ++ hmsL t := by unfold clkN; rw [if_pos hd]
    have hd2 : 86400 ≤ (t : Int) := by omega
    have HC := Lib.hid (hc ▸ (by rw [← txt_append, ← txt_append, ← hh]; rfl) : (txt (dec (t / 86400)) ++ ⟨#[100]⟩) ++ ((((txt (twoL (t / 3600 % 24)) ++ ⟨#[58]⟩) ++ txt (twoL (t / 60 % 60))) ++ ⟨#[58]⟩) ++ txt (twoL (t % 60))) = txt (clkN t))
    clear c1 c2 c3 c4 hh hc hd h
    generalize txt (twoL (t / 3600 % 24)) = b1 at *
    generalize txt (twoL (t / 60 % 60)) = b2 at *
    generalize txt (twoL (t % 60)) = b3 at *
    generalize txt (dec (t / 86400)) = b4 at *
    generalize txt (clkN t) = r at *
    go_enter Try.func15, Try.ntmps15
    go_wp2_with fail
    refine (C1.out _).mono ?_
    rintro e w1 ⟨rfl, hb1⟩
    go_wp2_with fail
    refine (C2.out _).mono ?_
    rintro e w2 ⟨rfl, hb2⟩
    go_wp2_with fail
    refine (C3.out _).mono ?_
    rintro e w3 ⟨rfl, hb3⟩
    have hB3 := (hb1.trans (hb2.mono hb1.size)).trans (hb3.mono (Nat.le_trans hb1.size hb2.size))
    go_wp2_with fail
    refine (C4.out _).mono ?_
    rintro e w4 ⟨rfl, hb4⟩
    go_wp2
    go_ret
    exact ⟨ret_str HC.out, hB3.trans (hb4.mono hB3.size)⟩
  · have hc : clkN t = hmsL t := by unfold clkN; rw [if_neg hd]
    have HD2 := Lib.hid (show (t : Int) < 86400 by omega)
    have HC := Lib.hid (hc ▸ hh : (((txt (twoL (t / 3600 % 24)) ++ ⟨#[58]⟩) ++ txt (twoL (t / 60 % 60))) ++ ⟨#[58]⟩) ++ txt (twoL (t % 60)) = txt (clkN t))
    clear c1 c2 c3 c4 C4 s4 hh hc hd h
    generalize txt (twoL (t / 3600 % 24)) = b1 at *
    generalize txt (twoL (t / 60 % 60)) = b2 at *
    generalize txt (twoL (t % 60)) = b3 at *
    generalize txt (clkN t) = r at *
    generalize (t : Int) = x at *
    go_enter Try.func15, Try.ntmps15
    go_wp2_with fail
    refine (C1.out _).mono ?_
    rintro e w1 ⟨rfl, hb1⟩
    go_wp2_with fail
    refine (C2.out _).mono ?_
    rintro e w2 ⟨rfl, hb2⟩
    go_wp2_with fail
    refine (C3.out _).mono ?_
    rintro e w3 ⟨rfl, hb3⟩
    have hB3 := (hb1.trans (hb2.mono hb1.size)).trans (hb3.mono (Nat.le_trans hb1.size hb2.size))
    have hd2 := HD2.out
    go_wp2
    go_ret
    exact ⟨ret_str HC.out, hB3⟩
set_option maxRecDepth 20000 in
set_option maxHeartbeats 2000000 in
theorem clock_Text (a : Int) (w : World) (h : I64 a) : Calls Try.prog 15 #[.int .i64 a] w fun e w' => e = .returned (.string (txt (clkI a))) ∧ Below w.heap.size w w' := by
  unfold I64 at h
  rcases Int.lt_or_le a 0 with h0 | h0
  · by_cases hm : a = -9223372036854775808
    · have hc : clkI a = 45 :: clkN 9223372036854775807 := by unfold clkI; rw [if_pos h0, if_pos hm]
      have cT := fun w => clock_Text0 9223372036854775807 w (by omega)
      have hl := clkN_size 9223372036854775807
      have HC := Lib.hid (hc ▸ txt_cons 45 _ : (⟨#[45]⟩ : ByteArray) ++ txt (clkN 9223372036854775807) = txt (clkI a))
      have CT := Lib.hid cT
      clear hc cT
      generalize txt (clkI a) = r at *
      generalize txt (clkN 9223372036854775807) = s at *
      subst hm
      go_enter Try.func15, Try.ntmps15
      go_wp2_with fail
      refine (CT.out _).mono ?_
      rintro e w1 ⟨rfl, hb1⟩
      go_wp2
      go_ret
      exact ⟨ret_str HC.out, hb1⟩
    · have hc : clkI a = 45 :: clkN a.natAbs := by unfold clkI; rw [if_pos h0, if_neg hm]
      have cT := fun w => clock_Text0 a.natAbs w (by omega)
      rw [show ((a.natAbs : Nat) : Int) = -a by omega] at cT
      have hl := clkN_size a.natAbs
      have HC := Lib.hid (hc ▸ txt_cons 45 _ : (⟨#[45]⟩ : ByteArray) ++ txt (clkN a.natAbs) = txt (clkI a))
      have CT := Lib.hid cT
      have hz : (a == -9223372036854775808) = false := beq_eq_false_iff_ne.2 hm
      have h1 : -9223372036854775807 ≤ a := by omega
      obtain ⟨_, h2⟩ := h
      clear hc cT
      generalize txt (clkI a) = r at *
      generalize txt (clkN a.natAbs) = s at *
      go_enter Try.func15, Try.ntmps15
      go_wp2_with fail
      refine (CT.out _).mono ?_
      rintro e w1 ⟨rfl, hb1⟩
      go_wp2
      go_ret
      exact ⟨ret_str HC.out, hb1⟩
  · have hc : clkI a = clkN a.toNat := by unfold clkI; rw [if_neg (by omega)]
    have := clock_Text0 a.toNat w (by omega)
    rw [Int.toNat_of_nonneg h0] at this
    rw [hc]
    exact this
end Go.Proofs.Ytnlieclfajebbaa
