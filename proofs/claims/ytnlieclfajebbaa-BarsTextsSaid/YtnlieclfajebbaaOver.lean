
/-
  hoistwayref01.Over: a number of two words over one, bit by bit. Conditions: the upper word is below the divisor; all fit 64 bits.
-/
import Derived.Test.YtnlieclfajebbaaNumsMul2
set_option linter.unusedVariables false
set_option linter.unusedSimpArgs false
namespace Go.Proofs.Ytnlieclfajebbaa
open Go.Joins Go.ChangeShapes Go.WideShapes Go.ChangeAt Go.RowKit Go.Deep

theorem bit_next (hi lo k : Nat) (hk : k < 64) : (hi * 18446744073709551616 + lo) / 2 ^ k = 2 * ((hi * 18446744073709551616 + lo) / 2 ^ (k + 1)) + lo / 2 ^ k % 2 := by
  have h64 : 18446744073709551616 = 2 ^ (63 - k) * 2 * 2 ^ k := by
    rw [Nat.mul_assoc, ← Nat.pow_succ', ← Nat.pow_add, show 63 - k + (k + 1) = 64 by omega]
  have e : (hi * 18446744073709551616 + lo) / 2 ^ k = hi * (2 ^ (63 - k) * 2) + lo / 2 ^ k := by
    rw [h64, ← Nat.mul_assoc, Nat.mul_comm, Nat.add_comm]
    rw [Nat.add_mul_div_left _ _ (Nat.two_pow_pos k)]
    omega
  have e2 : (hi * 18446744073709551616 + lo) / 2 ^ (k + 1) = (hi * 18446744073709551616 + lo) / 2 ^ k / 2 := by
    rw [Nat.pow_succ, Nat.div_div_eq_div_mul]
  rw [e2, e]
  rw [← Nat.mul_assoc]
  generalize hi * 2 ^ (63 - k) = z
  omega
theorem over_step {c M b : Nat} (hc : 0 < c) (hb : b < 2) : ((2 * (M % c) + b < c) → (2 * M + b) / c = 2 * (M / c) ∧ (2 * M + b) % c = 2 * (M % c) + b) ∧
    (c ≤ 2 * (M % c) + b → (2 * M + b) / c = 2 * (M / c) + 1 ∧ (2 * M + b) % c = 2 * (M % c) + b - c) := by
  have hr := Nat.mod_lt M hc
  have hM := Nat.div_add_mod M c
  have e : 2 * M + b = 2 * (M % c) + b + c * (2 * (M / c)) := by
    rw [Nat.mul_left_comm]
    omega
  constructor
  · intro h
    rw [e, Nat.add_mul_div_left _ _ hc, Nat.add_mul_mod_self_left, Nat.div_eq_of_lt h, Nat.mod_eq_of_lt h]
    omega
  · intro h
    have e3 : 2 * M + b = (2 * (M % c) + b - c) + c * (2 * (M / c) + 1) := by rw [Nat.mul_add, Nat.mul_one]; omega
    rw [e3, Nat.add_mul_div_left _ _ hc, Nat.add_mul_mod_self_left, Nat.div_eq_of_lt (by omega), Nat.mod_eq_of_lt (by omega)]
    omega
theorem q_small {hi lo c k : Nat} (hc : hi < c) (hl : lo < 18446744073709551616) : (hi * 18446744073709551616 + lo) / 2 ^ k / c < 18446744073709551616 := by
  refine Nat.lt_of_le_of_lt (Nat.div_le_div_right (Nat.div_le_self _ _)) ?_
  rw [Nat.div_lt_iff_lt_mul (by omega)]
  have := Nat.mul_le_mul_left 18446744073709551616 (show hi + 1 ≤ c from hc)
  omega
set_option maxRecDepth 20000 in
set_option maxHeartbeats 1000000 in
theorem ref_Over (hi lo c : Nat) (w : World) (hc : hi < c) (hc2 : c < 18446744073709551616) (hl : lo < 18446744073709551616) :
    Calls Try.prog 93 #[.int .u64 hi, .int .u64 lo, .int .u64 c] w fun e w' => e = .returned (.tuple #[.int .u64 (((hi * 18446744073709551616 + lo) / c : Nat) : Int), .int .u64 (((hi * 18446744073709551616 + lo) % c : Nat) : Int)]) ∧ w = w' := by
  have hN : ∀ k, k < 64 → (hi * 18446744073709551616 + lo) / 2 ^ k = 2 * ((hi * 18446744073709551616 + lo) / 2 ^ (k + 1)) + lo / 2 ^ k % 2 := bit_next hi lo
  have hq : ∀ k, (hi * 18446744073709551616 + lo) / 2 ^ k / c < 18446744073709551616 := fun k => q_small hc hl
  have h0 : (hi * 18446744073709551616 + lo) / 2 ^ 64 = hi := by omega
  have h00 : (hi * 18446744073709551616 + lo) / 2 ^ 0 = hi * 18446744073709551616 + lo := by omega
  generalize hi * 18446744073709551616 + lo = N at *
  have HN := Lib.hid hN
  have HQ := Lib.hid hq
  have H0 := Lib.hid h0
  have H00 := Lib.hid h00
  clear hN hq h0 h00
  go_enter Try.func93, Try.ntmps93
  go_wp2
  go_loop [8, 9, 10] (fun x y z => ∃ k : Nat, k ≤ 64 ∧ z = .int .i64 ((k : Int) - 1) ∧ x = .int .u64 ((N / 2 ^ k / c : Nat) : Int) ∧ y = .int .u64 ((N / 2 ^ k % c : Nat) : Int)) (fun _ _ z => (intOf z + 1).toNat)
  case atStart => exact ⟨64, by omega, rfl, val_int (by rw [H0.out, Nat.div_eq_of_lt hc]; rfl), val_int (by rw [H0.out, Nat.mod_eq_of_lt hc])⟩
  case round =>
    obtain ⟨k, hk, rfl, rfl, rfl⟩ := hrel
    rcases k with _ | k
    · have e := H00.out
      rw [e]
      clear e
      go_wp2
      go_ret2
      exact ⟨rfl, rfl⟩
    · rw [show (((k + 1 : Nat) : Int) - 1) = (k : Int) by omega]
      have hs := over_step (c := c) (M := N / 2 ^ (k + 1)) (b := lo / 2 ^ k % 2) (by omega) (Nat.mod_lt _ (by omega))
      have hr := Nat.mod_lt (N / 2 ^ (k + 1)) (show 0 < c by omega)
      have hqb := HQ.out k
      have hqc := HQ.out (k + 1)
      rw [← HN.out k (by omega)] at hs
      have e1 : min k 64 = k := by omega
      have e2 : ((lo : Int) / 2 ^ k) = ((lo / 2 ^ k : Nat) : Int) := by rw [Int.natCast_ediv, Int.natCast_pow]; rfl
      have hb : lo / 2 ^ k % 2 < 2 := Nat.mod_lt _ (by omega)
      obtain ⟨hs1, hs2⟩ := hs
      generalize hMq : N / 2 ^ (k + 1) / c = q at *
      generalize hMr : N / 2 ^ (k + 1) % c = r at *
      generalize hlk : lo / 2 ^ k = lk at *
      rcases Nat.lt_or_ge (2 * r + lk % 2) c with hlt | hlt
      · obtain ⟨n1, n2⟩ := hs1 hlt
        have N1 := Lib.hid (show ((N / 2 ^ k / c : Nat) : Int) = (2 : Int) * (q : Int) by omega)
        have N2 := Lib.hid (show ((N / 2 ^ k % c : Nat) : Int) = (2 : Int) * (r : Int) + (lk : Int) % 2 by omega)
        have g1 : (2 : Int) * (q : Int) ≤ 18446744073709551615 := by omega
        have g2 : (2 : Int) * (r : Int) + (lk : Int) % 2 < (c : Int) := by omega
        have g3 : (c : Int) ≤ 18446744073709551615 := by omega
        have g4 : (0 : Int) ≤ (r : Int) := by omega
        have g5 : (0 : Int) ≤ (q : Int) := by omega
        have g6 : (0 : Int) ≤ (lk : Int) % 2 ∧ (lk : Int) % 2 ≤ 1 := by omega
        have g7 : (r : Int) < (c : Int) := by omega
        have g10 : (0 : Int) ≤ (lk : Int) := by omega
        obtain ⟨g8, g9⟩ := g6
        clear hs1 hs2 hMq hMr hlk hlt hqb hqc hr hb hl hc hc2 n1 n2
        generalize (r : Int) = ri at *
        generalize (q : Int) = qi at *
        generalize (c : Int) = ci at *
        generalize (lk : Int) = li at *
        have d1 : decide (9223372036854775808 ≤ ri) = false := decide_eq_false (by omega)
        go_wp2
        go_round
        case rel => exact ⟨k, by omega, rfl, val_int (by rw [N1.out]), val_int (by rw [N2.out])⟩
        case measure => simp [intOf] <;> omega
      · obtain ⟨n1, n2⟩ := hs2 hlt
        have N1 := Lib.hid (show ((N / 2 ^ k / c : Nat) : Int) = (2 : Int) * (q : Int) + 1 by omega)
        have N2 := Lib.hid (show ((N / 2 ^ k % c : Nat) : Int) = (2 : Int) * (r : Int) + (lk : Int) % 2 - (c : Int) by omega)
        have g1 : (2 : Int) * (q : Int) + 1 ≤ 18446744073709551615 := by omega
        have g2 : (c : Int) ≤ (2 : Int) * (r : Int) + (lk : Int) % 2 := by omega
        have g3 : (c : Int) ≤ 18446744073709551615 := by omega
        have g4 : (0 : Int) ≤ (r : Int) := by omega
        have g5 : (0 : Int) ≤ (q : Int) := by omega
        have g6 : (0 : Int) ≤ (lk : Int) % 2 ∧ (lk : Int) % 2 ≤ 1 := by omega
        have g7 : (r : Int) < (c : Int) := by omega
        have g10 : (0 : Int) ≤ (lk : Int) := by omega
        obtain ⟨g8, g9⟩ := g6
        clear hs1 hs2 hMq hMr hlk hlt hqb hqc hr hb hl hc hc2 n1 n2
        generalize (r : Int) = ri at *
        generalize (q : Int) = qi at *
        generalize (c : Int) = ci at *
        generalize (lk : Int) = li at *
        rcases Int.lt_or_le ri 9223372036854775808 with hd | hd
        · have d1 : decide (9223372036854775808 ≤ ri) = false := decide_eq_false (by omega)
          go_wp2
          go_round
          case rel => exact ⟨k, by omega, rfl, val_int (by rw [N1.out]), val_int (by have h2 := N2.out; first | exact h2.symm | omega | (simp only [IntKind.wrap_u64]; omega))⟩
          case measure => simp [intOf] <;> omega
        · have d1 : decide (9223372036854775808 ≤ ri) = true := decide_eq_true (by omega)
          go_wp2
          go_round
          case rel => exact ⟨k, by omega, rfl, val_int (by rw [N1.out]), val_int (by have h2 := N2.out; first | exact h2.symm | omega | (simp only [IntKind.wrap_u64]; omega))⟩
          case measure => simp [intOf] <;> omega
end Go.Proofs.Ytnlieclfajebbaa
