/-
  Powers: nums.Pow and hoistwayref01.Pow. Condition: the number fits its kind, and it's asked how often: 0 times or more.
-/
import Derived.Test.YtokgokjgpmdlpaaNumsMul2
set_option linter.unusedVariables false
set_option linter.unusedSimpArgs false
namespace Go.Proofs.Ytokgokjgpmdlpaa
open Go.Joins Go.ChangeShapes Go.WideShapes Go.ChangeAt Go.RowKit Go.Deep

/-- How often the document multiplies. -/
def powN (n : Int) : Nat := if 200 < n then (200 + n % 2).toNat else n.toNat
theorem pow_small {a : Int} (h : -1 ≤ a ∧ a ≤ 1) (i : Nat) : -1 ≤ a ^ i ∧ a ^ i ≤ 1 := by
  induction i with
  | zero => simp
  | succ i ih =>
    rw [Int.pow_succ]
    have h1 : a = -1 ∨ a = 0 ∨ a = 1 := by omega
    rcases h1 with rfl | rfl | rfl <;> omega
theorem nat_abs {x : Int} (h : ¬ I64 x) : 9223372036854775808 ≤ x.natAbs := by unfold I64 at h; omega
theorem unfit_step {a x : Int} (h : ¬ I64 x) (ha : 2 ≤ a.natAbs) : ¬ I64 (x * a) := by
  have h1 := nat_abs h
  have h2 : 9223372036854775808 * 2 ≤ x.natAbs * a.natAbs := Nat.mul_le_mul h1 ha
  rw [← Int.natAbs_mul] at h2
  unfold I64
  omega
theorem unfit_mono {a : Int} {i n : Nat} (h : ¬ I64 (a ^ i)) (hn : i ≤ n) : ¬ I64 (a ^ n) := by
  by_cases ha : -1 ≤ a ∧ a ≤ 1
  · have := pow_small ha i
    exact absurd (by unfold I64; omega) h
  · have h2 : 2 ≤ a.natAbs := by omega
    induction n with
    | zero => obtain rfl : i = 0 := by omega
              exact h
    | succ n ih =>
      by_cases e : i = n + 1
      · rw [← e]; exact h
      · rw [Int.pow_succ]; exact unfit_step (ih (by omega)) h2
theorem unfit_64 {a : Int} (ha : 2 ≤ a.natAbs) : ¬ I64 (a ^ 64) := by
  have h1 : 2 ^ 64 ≤ a.natAbs ^ 64 := Nat.pow_le_pow_left ha 64
  rw [← Int.natAbs_pow] at h1
  unfold I64
  omega
theorem and_one (n : Int) (h : 0 ≤ n) (h' : n ≤ 9223372036854775807) : bits .and .i64 n 1 = n % 2 := by
  obtain ⟨m, rfl⟩ := Int.eq_ofNat_of_zero_le h
  show IntKind.i64.wrap ((BitVec.ofInt 64 (m : Int) &&& BitVec.ofInt 64 1).toNat : Int) = _
  have e1 : BitVec.ofInt 64 (m : Int) = BitVec.ofNat 64 m := BitVec.ofInt_natCast 64 m
  have e2 : BitVec.ofInt 64 1 = BitVec.ofNat 64 1 := by decide
  rw [e1, e2, BitVec.toNat_and, BitVec.toNat_ofNat, BitVec.toNat_ofNat, Nat.mod_eq_of_lt (show m < 2 ^ 64 by omega), IntKind.wrap_i64]
  have : m &&& 1 % 2 ^ 64 = m % 2 := Nat.and_one_is_mod m
  rw [this]
  omega
theorem pow_even {a : Int} (h : a = 1 ∨ a = -1) (m : Nat) : a ^ (2 * m) = 1 := by
  rw [Int.pow_mul]
  rcases h with rfl | rfl
  · exact Int.one_pow
  · exact Int.one_pow
theorem pow_one_odd {a : Int} (h : a = 1 ∨ a = -1) {m : Nat} (hm : m % 2 = 1) : a ^ m = a := by
  have : m = 2 * (m / 2) + 1 := by omega
  rw [this, Int.pow_succ, pow_even h, Int.one_mul]
theorem pow_one_even {a : Int} (h : a = 1 ∨ a = -1) {m : Nat} (hm : m % 2 = 0) : a ^ m = 1 := by
  have : m = 2 * (m / 2) := by omega
  rw [this, pow_even h]

theorem nums_Pow_neg (a n : Int) (w : World) (hn : n < 0) : Calls Try.prog 57 #[.int .i64 a, .int .i64 n] w fun e w' => e = .returned (.tuple #[.int .i64 0, .int .i64 22]) ∧ w = w' := by
  go_enter Try.func57, Try.ntmps57
  go_wp2
  go_ret2
  exact ⟨rfl, rfl⟩
theorem nums_Pow_small (a n : Int) (w : World) (hn : 0 ≤ n) (hn' : n ≤ 9223372036854775807) (ha : a = 0 ∨ a = 1 ∨ a = -1) :
    Calls Try.prog 57 #[.int .i64 a, .int .i64 n] w fun e w' => e = .returned (.tuple #[.int .i64 (fit2V (a ^ powN n)), .int .i64 (fit2E (a ^ powN n))]) ∧ w = w' := by
  have hb := and_one n hn hn'
  have hp : powN n % 2 = n.toNat % 2 := by unfold powN; split <;> omega
  have hp0 : powN n = 0 ↔ n = 0 := by unfold powN; split <;> omega
  have hs := pow_small (a := a) (by omega) (powN n)
  have hE : fit2E (a ^ powN n) = 0 := by unfold fit2E; omega
  have hV : fit2V (a ^ powN n) = a ^ powN n := by unfold fit2V; omega
  have hF : a ^ powN n = if n % 2 = 0 ∧ (n = 0 ∨ a ≠ 0) then 1 else a := by
    rcases ha with rfl | ha
    · by_cases h0 : n = 0
      · rw [hp0.mpr h0, h0]; rfl
      · have : powN n ≠ 0 := fun e => h0 (hp0.mp e)
        rw [Int.zero_pow this]; simp [h0]
    · by_cases h0 : n % 2 = 0
      · rw [pow_one_even ha (by omega), if_pos ⟨h0, .inr (by omega)⟩]
      · rw [pow_one_odd ha (by omega), if_neg (by omega)]
  rw [hV, hE, hF]
  clear hV hE hF hs hp hp0
  generalize hR : (if n % 2 = 0 ∧ (n = 0 ∨ a ≠ 0) then 1 else a) = R
  have HR := Lib.hid hR
  clear hR
  rcases ha with rfl | rfl | rfl <;> by_cases h2 : n % 2 = 0 <;> by_cases h0 : n = 0
  all_goals
    have g2 : (n % 2 == 0) = decide (n % 2 = 0) := rfl
    have g0 : (n == 0) = decide (n = 0) := rfl
    simp only [h2, h0, decide_true, decide_false] at g2 g0
    have H2 := Lib.hid h2
    have H0 := Lib.hid h0
    clear h2 h0
    first
    | (go_enter Try.func57, Try.ntmps57
       go_wp2
       go_ret2
       exact ⟨ret_two (by rw [← HR.out]; simp [H2.out, H0.out] <;> (have := H2.out; have := H0.out; omega)) rfl, rfl⟩)
    | (exfalso; have := H2.out; have := H0.out; omega)

theorem fit2_in {x : Int} (h : I64 x) : fit2V x = x ∧ fit2E x = 0 ∧ fit2B x = true := by
  unfold I64 at h
  exact ⟨by unfold fit2V; omega, by unfold fit2E; omega, by unfold fit2B; simp; omega⟩
theorem fit2_out {x : Int} (h : ¬ I64 x) : fit2V x = 0 ∧ fit2E x = 10 ∧ fit2B x = false := by
  unfold I64 at h
  exact ⟨by unfold fit2V; omega, by unfold fit2E; omega, by unfold fit2B; simp; omega⟩
set_option maxHeartbeats 1000000 in
theorem nums_Pow_big (a n : Int) (w : World) (hn : 0 ≤ n) (hn' : n ≤ 9223372036854775807) (ha : I64 a) (h2 : ¬ (a = 0 ∨ a = 1 ∨ a = -1)) :
    Calls Try.prog 57 #[.int .i64 a, .int .i64 n] w fun e w' => e = .returned (.tuple #[.int .i64 (fit2V (a ^ powN n)), .int .i64 (fit2E (a ^ powN n))]) ∧ w = w' := by
  have h64 := unfit_64 (a := a) (by omega)
  have g0 : (a == 0) = false := by simp; omega
  have g1 : (a == 1) = false := by simp; omega
  have g2 : (a == -1) = false := by simp; omega
  have hc : (n ≤ 64 ∧ n = powN n) ∨ (64 < n ∧ 64 ≤ powN n) := by unfold powN; split <;> omega
  generalize powN n = N at *
  have H64 := Lib.hid h64
  have HA := Lib.hid ha
  have H2 := Lib.hid h2
  clear h64 ha h2
  rcases hc with ⟨hc, hm⟩ | ⟨hc, hm⟩
  · obtain ⟨m, rfl⟩ := Int.eq_ofNat_of_zero_le hn
    have hmn : m = N := by omega
    have HMN := Lib.hid hmn
    clear hm hmn
    go_enter Try.func57, Try.ntmps57
    go_wp2
    go_loop [6, 35] (fun u v => ∃ k : Nat, k ≤ m ∧ v = .int .i64 k ∧ u = .int .i64 (a ^ k) ∧ I64 (a ^ k)) (fun _ v => m - (intOf v).toNat)
    case atStart => exact ⟨0, by omega, rfl, by rw [Int.pow_zero], by rw [Int.pow_zero]; unfold I64; omega⟩
    case round =>
      obtain ⟨k, hk, rfl, rfl, hf⟩ := hrel
      have HF := Lib.hid hf
      clear hf
      by_cases hkm : k = m
      · have hr : fit2V (a ^ N) = a ^ k ∧ fit2E (a ^ N) = 0 := by
          rw [← HMN.out, ← hkm]; exact ⟨(fit2_in HF.out).1, (fit2_in HF.out).2.1⟩
        have HR := Lib.hid hr
        clear hr
        subst hkm
        go_wp2
        go_ret2
        exact ⟨ret_two HR.out.1.symm HR.out.2.symm, rfl⟩
      · have hlt : k < m := by omega
        have cM := fun w => nums_Mul (a ^ k) a w HF.out HA.out
        rw [← Int.pow_succ] at cM
        by_cases hs : I64 (a ^ (k + 1))
        · obtain ⟨f1, f2, -⟩ := fit2_in hs
          rw [f1, f2] at cM
          have CM := Lib.hid cM
          have HS := Lib.hid hs
          clear cM hs f1 f2 hkm
          go_wp2_with (first | (go_at_call 47; (with_reducible refine (CM.out _).mono ?_); rintro e w' ⟨rfl, rfl⟩))
          go_round
          case rel => exact ⟨k + 1, by omega, by go_num, rfl, HS.out⟩
          case measure => simp [intOf]; omega
        · obtain ⟨f1, f2, -⟩ := fit2_out hs
          rw [f1, f2] at cM
          obtain ⟨r1, r2, -⟩ := fit2_out (unfit_mono hs (show k + 1 ≤ N by have := HMN.out; omega))
          have CM := Lib.hid cM
          have R1 := Lib.hid r1
          have R2 := Lib.hid r2
          clear cM hs f1 f2 hkm r1 r2
          go_wp2_with (first | (go_at_call 47; (with_reducible refine (CM.out _).mono ?_); rintro e w' ⟨rfl, rfl⟩))
          go_ret2
          exact ⟨ret_two R1.out.symm R2.out.symm, rfl⟩
  · have HMN := Lib.hid hm
    clear hm
    go_enter Try.func57, Try.ntmps57
    go_wp2
    go_loop [6, 35] (fun u v => ∃ k : Nat, k ≤ 64 ∧ v = .int .i64 k ∧ u = .int .i64 (a ^ k) ∧ I64 (a ^ k)) (fun _ v => 64 - (intOf v).toNat)
    case atStart => exact ⟨0, by omega, rfl, by rw [Int.pow_zero], by rw [Int.pow_zero]; unfold I64; omega⟩
    case round =>
      obtain ⟨k, hk, rfl, rfl, hf⟩ := hrel
      have HF := Lib.hid hf
      clear hf
      by_cases hkm : k = 64
      · have hr : fit2V (a ^ N) = a ^ k ∧ fit2E (a ^ N) = 0 := by
          rw [hkm] at HF; exact absurd HF.out H64.out
        have HR := Lib.hid hr
        clear hr
        subst hkm
        go_wp2
        go_ret2
        exact ⟨ret_two HR.out.1.symm HR.out.2.symm, rfl⟩
      · have hlt : k < 64 := by omega
        have cM := fun w => nums_Mul (a ^ k) a w HF.out HA.out
        rw [← Int.pow_succ] at cM
        by_cases hs : I64 (a ^ (k + 1))
        · obtain ⟨f1, f2, -⟩ := fit2_in hs
          rw [f1, f2] at cM
          have CM := Lib.hid cM
          have HS := Lib.hid hs
          clear cM hs f1 f2 hkm
          go_wp2_with (first | (go_at_call 47; (with_reducible refine (CM.out _).mono ?_); rintro e w' ⟨rfl, rfl⟩))
          go_round
          case rel => exact ⟨k + 1, by omega, by go_num, rfl, HS.out⟩
          case measure => simp [intOf]; omega
        · obtain ⟨f1, f2, -⟩ := fit2_out hs
          rw [f1, f2] at cM
          obtain ⟨r1, r2, -⟩ := fit2_out (unfit_mono hs (show k + 1 ≤ N by have := HMN.out; omega))
          have CM := Lib.hid cM
          have R1 := Lib.hid r1
          have R2 := Lib.hid r2
          clear cM hs f1 f2 hkm r1 r2
          go_wp2_with (first | (go_at_call 47; (with_reducible refine (CM.out _).mono ?_); rintro e w' ⟨rfl, rfl⟩))
          go_ret2
          exact ⟨ret_two R1.out.symm R2.out.symm, rfl⟩
theorem nums_Pow (a n : Int) (w : World) (hn : 0 ≤ n) (hn' : n ≤ 9223372036854775807) (ha : I64 a) :
    Calls Try.prog 57 #[.int .i64 a, .int .i64 n] w fun e w' => e = .returned (.tuple #[.int .i64 (fit2V (a ^ powN n)), .int .i64 (fit2E (a ^ powN n))]) ∧ w = w' := by
  by_cases h : a = 0 ∨ a = 1 ∨ a = -1
  · exact nums_Pow_small a n w hn hn' h
  · exact nums_Pow_big a n w hn hn' ha h

set_option maxHeartbeats 1000000 in
theorem ref_Pow (a n : Int) (w : World) (hn : 0 ≤ n) (hn' : n ≤ 9223372036854775807) (ha : I64 a) :
    Calls Try.prog 58 #[.int .i64 a, .int .i64 n] w fun e w' => e = .returned (.tuple #[.int .i64 (fit2V (a ^ powN n)), .bool (fit2B (a ^ powN n))]) ∧ w = w' := by
  obtain ⟨m, hm⟩ : ∃ m : Nat, m = powN n := ⟨_, rfl⟩
  rw [← hm]
  have hc : (200 < n ∧ (m : Int) = 200 + n % 2) ∨ (n ≤ 200 ∧ n = m) := by rw [hm]; unfold powN; split <;> omega
  have HA := Lib.hid ha
  clear ha hm
  rcases hc with ⟨hc, hm⟩ | ⟨hc, rfl⟩
  · go_enter Try.func58, Try.ntmps58
    go_wp2
    rw [← hm]
    have hm2 : m ≤ 201 := by omega
    clear hm
    go_loop [6, 7] (fun u v => ∃ k : Nat, k ≤ m ∧ v = .int .i64 k ∧ u = .int .i64 (a ^ k) ∧ I64 (a ^ k)) (fun _ v => m - (intOf v).toNat)
    case atStart => exact ⟨0, by omega, rfl, by rw [Int.pow_zero], by rw [Int.pow_zero]; unfold I64; omega⟩
    case round =>
      obtain ⟨k, hk, rfl, rfl, hf⟩ := hrel
      have HF := Lib.hid hf
      clear hf
      by_cases hkm : k = m
      · subst hkm
        obtain ⟨r1, -, r2⟩ := fit2_in HF.out
        have R1 := Lib.hid r1
        have R2 := Lib.hid r2
        clear r1 r2
        go_wp2
        go_ret2
        exact ⟨ret_ib R1.out.symm R2.out.symm, rfl⟩
      · have hlt : k < m := by omega
        have cM := fun w => ref_Mul (a ^ k) a w HF.out HA.out
        rw [← Int.pow_succ] at cM
        by_cases hs : I64 (a ^ (k + 1))
        · obtain ⟨f1, -, f2⟩ := fit2_in hs
          rw [f1, f2] at cM
          have CM := Lib.hid cM
          have HS := Lib.hid hs
          clear cM hs f1 f2 hkm
          go_wp2_with (first | (go_at_call 48; (with_reducible refine (CM.out _).mono ?_); rintro e w' ⟨rfl, rfl⟩))
          go_round
          case rel => exact ⟨k + 1, by omega, by go_num, rfl, HS.out⟩
          case measure => simp [intOf]; omega
        · obtain ⟨f1, -, f2⟩ := fit2_out hs
          rw [f1, f2] at cM
          obtain ⟨r1, -, r2⟩ := fit2_out (unfit_mono hs (show k + 1 ≤ m by omega))
          have CM := Lib.hid cM
          have R1 := Lib.hid r1
          have R2 := Lib.hid r2
          clear cM hs f1 f2 hkm r1 r2
          go_wp2_with (first | (go_at_call 48; (with_reducible refine (CM.out _).mono ?_); rintro e w' ⟨rfl, rfl⟩))
          go_ret2
          exact ⟨ret_ib R1.out.symm R2.out.symm, rfl⟩
  · go_enter Try.func58, Try.ntmps58
    go_wp2
    go_loop [6, 7] (fun u v => ∃ k : Nat, k ≤ m ∧ v = .int .i64 k ∧ u = .int .i64 (a ^ k) ∧ I64 (a ^ k)) (fun _ v => m - (intOf v).toNat)
    case atStart => exact ⟨0, by omega, rfl, by rw [Int.pow_zero], by rw [Int.pow_zero]; unfold I64; omega⟩
    case round =>
      obtain ⟨k, hk, rfl, rfl, hf⟩ := hrel
      have HF := Lib.hid hf
      clear hf
      by_cases hkm : k = m
      · subst hkm
        obtain ⟨r1, -, r2⟩ := fit2_in HF.out
        have R1 := Lib.hid r1
        have R2 := Lib.hid r2
        clear r1 r2
        go_wp2
        go_ret2
        exact ⟨ret_ib R1.out.symm R2.out.symm, rfl⟩
      · have hlt : k < m := by omega
        have cM := fun w => ref_Mul (a ^ k) a w HF.out HA.out
        rw [← Int.pow_succ] at cM
        by_cases hs : I64 (a ^ (k + 1))
        · obtain ⟨f1, -, f2⟩ := fit2_in hs
          rw [f1, f2] at cM
          have CM := Lib.hid cM
          have HS := Lib.hid hs
          clear cM hs f1 f2 hkm
          go_wp2_with (first | (go_at_call 48; (with_reducible refine (CM.out _).mono ?_); rintro e w' ⟨rfl, rfl⟩))
          go_round
          case rel => exact ⟨k + 1, by omega, by go_num, rfl, HS.out⟩
          case measure => simp [intOf]; omega
        · obtain ⟨f1, -, f2⟩ := fit2_out hs
          rw [f1, f2] at cM
          obtain ⟨r1, -, r2⟩ := fit2_out (unfit_mono hs (show k + 1 ≤ m by omega))
          have CM := Lib.hid cM
          have R1 := Lib.hid r1
          have R2 := Lib.hid r2
          clear cM hs f1 f2 hkm r1 r2
          go_wp2_with (first | (go_at_call 48; (with_reducible refine (CM.out _).mono ?_); rintro e w' ⟨rfl, rfl⟩))
          go_ret2
          exact ⟨ret_ib R1.out.symm R2.out.symm, rfl⟩
end Go.Proofs.Ytokgokjgpmdlpaa
