/-
  The greatest number that divides two: nums.Gcd (Euclid) and hoistwayref01.Gcd (by taking away twos). Condition: the arguments fit their kinds.
-/
import Derived.Test.YtokgokjgpmdlpaaNumsMul2
set_option linter.unusedVariables false
set_option linter.unusedSimpArgs false
namespace Go.Proofs.Ytokgokjgpmdlpaa
open Go.Joins Go.ChangeShapes Go.WideShapes Go.ChangeAt Go.RowKit Go.Deep

theorem nums_Gcd (a b : Int) (w : World) (ha : I64 a) (hb : I64 b) : Calls Try.prog 55 #[.int .i64 a, .int .i64 b] w fun e w' => e = .returned (.int .u64 (Nat.gcd (absI a).toNat (absI b).toNat : Nat)) ∧ ∃ n, w' = w.drewN n := by
  obtain ⟨A0, A1⟩ := absI_bd ha
  obtain ⟨B0, B1⟩ := absI_bd hb
  obtain ⟨x, hx⟩ := Int.eq_ofNat_of_zero_le A0
  obtain ⟨y, hy⟩ := Int.eq_ofNat_of_zero_le B0
  have cA := fun w => nums_Size a w ha
  have cB := fun w => nums_Size b w hb
  rw [hx] at cA A1
  rw [hy] at cB B1
  rw [hx, hy, Int.toNat_natCast, Int.toNat_natCast]
  have CA := Lib.hid cA
  have CB := Lib.hid cB
  clear hx hy A0 B0 ha hb cA cB
  go_enter Try.func55, Try.ntmps55
  go_wp2_with (first | (go_at_call 40; (with_reducible refine (CA.out _).mono ?_); rintro e w' ⟨rfl, rfl⟩) | (go_at_call 40; (with_reducible refine (CB.out _).mono ?_); rintro e w' ⟨rfl, rfl⟩))
  go_loopw [5, 6] (fun u v wr => ∃ (p q n : Nat), u = .int .u64 p ∧ v = .int .u64 q ∧ p ≤ 9223372036854775808 ∧ q ≤ 9223372036854775808 ∧ Nat.gcd p q = Nat.gcd x y ∧ wr = w.drewN n) (fun _ v _ => (intOf v).toNat)
  case atStart => exact ⟨x, y, 0, rfl, rfl, by omega, by omega, rfl, rfl⟩
  case round =>
    obtain ⟨p, q, n, rfl, rfl, hp, hq, hg, rfl⟩ := hrel
    have HG := Lib.hid hg
    clear hg
    by_cases hq0 : q = 0
    · subst hq0
      go_wp2
      go_ret
      exact ⟨ret_int (by rw [← HG.out, Nat.gcd_zero_right]), _, rfl⟩
    · have e1 : ((q : Int) != 0) = true := by simp [hq0]
      have e2 : ((q : Int) == 0) = false := by simp [hq0]
      have e3 : (p : Int).tmod q = ((p % q : Nat) : Int) := by rw [Int.tmod_eq_emod_of_nonneg (by omega)]; rfl
      have e4 : p % q < q := Nat.mod_lt _ (by omega)
      have e5 : Nat.gcd q (p % q) = Nat.gcd x y := by rw [Nat.gcd_comm q (p % q), ← Nat.gcd_rec, Nat.gcd_comm, HG.out]
      have E5 := Lib.hid e5
      have Q0 := Lib.hid hq0
      clear hq0 e5
      go_wp2
      go_quiet (fail)
      go_wp2
      go_roundw
      case rel => exact ⟨q, p % q, n + nq, rfl, by go_num, hq, by omega, E5.out, by rw [World.drewN_drewN]⟩
      case measure => simp [intOf]; omega

theorem gcd_half {m n : Nat} (h : m % 2 = 0) (h' : n % 2 ≠ 0) : Nat.gcd (m / 2) n = Nat.gcd m n := by
  have hc : Nat.Coprime 2 n := by
    unfold Nat.Coprime
    rw [Nat.gcd_rec, show n % 2 = 1 by omega]; decide
  have := Nat.Coprime.gcd_mul_left_cancel (m / 2) hc
  rw [← this]
  congr 1
  omega
theorem gcd_sub_half {m n : Nat} (h : m % 2 ≠ 0) (h' : n % 2 ≠ 0) (hl : n < m) : Nat.gcd ((m - n) / 2) n = Nat.gcd m n := by
  rw [gcd_half (by omega) h', Nat.gcd_sub_self_left (by omega)]

theorem ref_Gcd (x y : Nat) (w : World) (hx : x ≤ 9223372036854775808) (hy : y ≤ 9223372036854775808) : Calls Try.prog 56 #[.int .u64 x, .int .u64 y] w fun e w' => e = .returned (.int .u64 (Nat.gcd x y : Nat)) ∧ w = w' := by
  by_cases h0 : x = 0 ∨ y = 0
  · rcases h0 with rfl | rfl
    · go_enter Try.func56, Try.ntmps56
      go_wp2
      go_ret
      exact ⟨ret_int (by simp), rfl⟩
    · by_cases hx0 : x = 0
      · subst hx0
        go_enter Try.func56, Try.ntmps56
        go_wp2
        go_ret
        exact ⟨ret_int (by simp), rfl⟩
      · have e1 : ((x : Int) == 0) = false := by simp [hx0]
        go_enter Try.func56, Try.ntmps56
        go_wp2
        go_ret
        exact ⟨ret_int (by simp), rfl⟩
  · have hx0 : 1 ≤ x := by omega
    have hy0 : 1 ≤ y := by omega
    clear h0
    have e1 : ((x : Int) == 0) = false := by simp; omega
    have e2 : ((y : Int) == 0) = false := by simp; omega
    go_enter Try.func56, Try.ntmps56
    go_wp2
    go_loop [0, 1, 5] (fun u v t => ∃ (p q k : Nat), u = .int .u64 p ∧ v = .int .u64 q ∧ t = .int .u64 k ∧ 1 ≤ p ∧ 1 ≤ q ∧ k * p ≤ 9223372036854775808 ∧ k * q ≤ 9223372036854775808 ∧ 1 ≤ k ∧ k * Nat.gcd p q = Nat.gcd x y) (fun u _ _ => (intOf u).toNat)
    case atStart => exact ⟨x, y, 1, rfl, rfl, rfl, hx0, hy0, by omega, by omega, by omega, by omega⟩
    case round =>
      obtain ⟨p, q, k, rfl, rfl, rfl, hp, hq, hkp, hkq, hk, hg⟩ := hrel
      have HG := Lib.hid hg
      clear hg
      have K1 : (k : Int) ≤ 9223372036854775808 := by
        have := Nat.le_mul_of_pos_right k hp
        omega
      have P1 : (p : Int) ≤ 9223372036854775808 := by
        have := Nat.le_mul_of_pos_left p hk
        omega
      have Q1 : (q : Int) ≤ 9223372036854775808 := by
        have := Nat.le_mul_of_pos_left q hk
        omega
      by_cases hev : p % 2 = 0 ∧ q % 2 = 0
      · obtain ⟨hpe, hqe⟩ := hev
        have e3 : p = 2 * (p / 2) := by omega
        have e4 : q = 2 * (q / 2) := by omega
        have f1 : 2 * k * (p / 2) = k * p := by rw [Nat.mul_comm 2 k, Nat.mul_assoc, ← e3]
        have f2 : 2 * k * (q / 2) = k * q := by rw [Nat.mul_comm 2 k, Nat.mul_assoc, ← e4]
        have f3 : 2 * k * Nat.gcd (p / 2) (q / 2) = Nat.gcd x y := by
          rw [← HG.out, Nat.mul_comm 2 k, Nat.mul_assoc, ← Nat.gcd_mul_left, ← e3, ← e4]
        have F1 := Lib.hid f1
        have F2 := Lib.hid f2
        have F3 := Lib.hid f3
        have E3 := Lib.hid e3
        have E4 := Lib.hid e4
        have K2 : 2 * k ≤ 9223372036854775808 := by
          have := Nat.le_mul_of_pos_right (2 * k) (show 0 < p / 2 by omega)
          omega
        clear f1 f2 f3 e3 e4
        go_wp2
        go_round
        case rel => exact ⟨p / 2, q / 2, 2 * k, by go_num, by go_num, by go_num, by omega, by omega, by rw [F1.out]; exact hkp, by rw [F2.out]; exact hkq, by omega, F3.out⟩
        case measure => simp [intOf]; omega
      · have hodd : (p % 2 = 1) ∨ (p % 2 = 0 ∧ q % 2 = 1) := by omega
        have ho : p % 2 = 1 ∨ q % 2 = 1 := by omega
        clear hev
        have HO := Lib.hid ho
        clear ho
        have HKP := Lib.hid hkp
        have HKQ := Lib.hid hkq
        clear hkp hkq
        rcases hodd with h1 | ⟨h1, h2⟩
        all_goals
          go_wp2
          go_loop [0, 1] (fun u v => ∃ (m n : Nat), u = .int .u64 m ∧ v = .int .u64 n ∧ 1 ≤ m ∧ 1 ≤ n ∧ m ≤ p ∧ n ≤ q ∧ (m % 2 = 1 ∨ n % 2 = 1) ∧ Nat.gcd m n = Nat.gcd p q) (fun u v => (intOf u + intOf v).toNat)
          case atStart => exact ⟨p, q, rfl, rfl, hp, hq, Nat.le_refl _, Nat.le_refl _, HO.out, rfl⟩
          case round =>
            obtain ⟨m, n, rfl, rfl, hm, hn, hmp, hnq, ho2, hg2⟩ := hrel
            have HG2 := Lib.hid hg2
            clear hg2
            by_cases hmn : m = n
            · subst hmn
              have hkm : k * m ≤ 9223372036854775808 := Nat.le_trans (Nat.mul_le_mul_left k hmp) HKP.out
              have hkm1 : (k : Int) * m ≤ 9223372036854775808 := by rw [← Int.natCast_mul]; omega
              have hkm0 : 0 ≤ (k : Int) * m := Int.mul_nonneg (by omega) (by omega)
              have hr : (k : Int) * m = (Nat.gcd x y : Nat) := by rw [← Int.natCast_mul, ← HG.out, ← HG2.out, Nat.gcd_self]
              have HR := Lib.hid hr
              clear hr hkm
              go_wp2
              go_ret
              exact ⟨ret_int HR.out, rfl⟩
            · have hne : ((m : Int) != (n : Int)) = true := by simp; omega
              by_cases hme : m % 2 = 0
              · have hno : n % 2 = 1 := by omega
                have f1 : Nat.gcd (m / 2) n = Nat.gcd p q := by rw [gcd_half hme (by omega), HG2.out]
                have F1 := Lib.hid f1
                have MN := Lib.hid hmn
                clear f1 hmn ho2
                go_wp2
                go_round
                case rel => exact ⟨m / 2, n, by go_num, rfl, by omega, hn, by omega, hnq, .inr hno, F1.out⟩
                case measure => simp [intOf]; omega
              · by_cases hne2 : n % 2 = 0
                · have f1 : Nat.gcd m (n / 2) = Nat.gcd p q := by rw [Nat.gcd_comm, gcd_half hne2 (by omega), Nat.gcd_comm, HG2.out]
                  have F1 := Lib.hid f1
                  have MN := Lib.hid hmn
                  have hmo : m % 2 = 1 := by omega
                  clear f1 hmn ho2 hme
                  go_wp2
                  go_round
                  case rel => exact ⟨m, n / 2, rfl, by go_num, hm, by omega, hmp, by omega, .inl hmo, F1.out⟩
                  case measure => simp [intOf]; omega
                · have hmo : m % 2 = 1 := by omega
                  have hno : n % 2 = 1 := by omega
                  by_cases hlt : n < m
                  · have f1 : Nat.gcd ((m - n) / 2) n = Nat.gcd p q := by rw [gcd_sub_half (by omega) (by omega) hlt, HG2.out]
                    have F1 := Lib.hid f1
                    have MN := Lib.hid hmn
                    clear f1 hmn ho2 hme hne2
                    go_wp2
                    go_round
                    case rel => exact ⟨(m - n) / 2, n, by go_num, rfl, by omega, hn, by omega, hnq, .inr hno, F1.out⟩
                    case measure => simp [intOf]; omega
                  · have hlt2 : m < n := by omega
                    have f1 : Nat.gcd m ((n - m) / 2) = Nat.gcd p q := by rw [Nat.gcd_comm, gcd_sub_half (by omega) (by omega) hlt2, Nat.gcd_comm, HG2.out]
                    have F1 := Lib.hid f1
                    have MN := Lib.hid hmn
                    clear f1 hmn ho2 hme hne2 hlt
                    go_wp2
                    go_round
                    case rel => exact ⟨m, (n - m) / 2, rfl, by go_num, hm, by omega, hmp, by omega, .inl hmo, F1.out⟩
                    case measure => simp [intOf]; omega
end Go.Proofs.Ytokgokjgpmdlpaa
