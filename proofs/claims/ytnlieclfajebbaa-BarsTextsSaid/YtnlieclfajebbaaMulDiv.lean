
/-
  A product over a number, however great the product is: nums.MulDiv and the document's. Condition: the numbers fit their kind.
-/
import Derived.Test.YtnlieclfajebbaaDiv64
import Derived.Test.YtnlieclfajebbaaOver
set_option linter.unusedVariables false
set_option linter.unusedSimpArgs false
namespace Go.Proofs.Ytnlieclfajebbaa
open Go.Joins Go.ChangeShapes Go.WideShapes Go.ChangeAt Go.RowKit Go.Deep

def mdV (a b c : Int) : Int := if a < 0 ∨ b < 0 ∨ c ≤ 0 then 0 else if a * b / c ≤ 9223372036854775807 then a * b / c else 0
def mdE (a b c : Int) : Int := if a < 0 ∨ b < 0 ∨ c < 0 then 22 else if c = 0 then 11 else if a * b / c ≤ 9223372036854775807 then 0 else 10
def MdPost (a b c : Int) (w : World) (e : Ending) (w' : World) : Prop := e = .returned (.tuple #[.int .i64 (mdV a b c), .int .i64 (mdE a b c)]) ∧ ∃ n, w' = w.drewN n
theorem md_neg {a b c : Int} (h : a < 0 ∨ b < 0 ∨ c < 0) : mdV a b c = 0 ∧ mdE a b c = 22 := by
  unfold mdV mdE; rw [if_pos (by omega), if_pos h]; exact ⟨rfl, rfl⟩
theorem md_zero {a b : Int} (h : 0 ≤ a ∧ 0 ≤ b) : mdV a b 0 = 0 ∧ mdE a b 0 = 11 := by
  unfold mdV mdE; rw [if_pos (by omega), if_neg (by omega), if_pos rfl]; exact ⟨rfl, rfl⟩
theorem md_big {a b c : Int} (h : 0 ≤ a ∧ 0 ≤ b ∧ 0 < c) (hb : 9223372036854775807 < a * b / c) : mdV a b c = 0 ∧ mdE a b c = 10 := by
  unfold mdV mdE; rw [if_neg (by omega), if_neg (by omega), if_neg (by omega), if_neg (by omega), if_neg (by omega)]; exact ⟨rfl, rfl⟩
theorem md_ok {a b c : Int} (h : 0 ≤ a ∧ 0 ≤ b ∧ 0 < c) (hb : a * b / c ≤ 9223372036854775807) : mdV a b c = a * b / c ∧ mdE a b c = 0 := by
  unfold mdV mdE; rw [if_neg (by omega), if_pos hb, if_neg (by omega), if_neg (by omega), if_pos hb]; exact ⟨rfl, rfl⟩
/-- The product in two words, as natural numbers. -/
theorem md_words {M c : Int} (hM : 0 ≤ M) (hM2 : M ≤ 85070591730234615847396907784232501249) (hc : 0 < c) (hc2 : c ≤ 9223372036854775807) (h : M / 18446744073709551616 < c) :
    ∃ hi lo d : Nat, M / 18446744073709551616 = hi ∧ M % 18446744073709551616 = lo ∧ c = d ∧ hi < d ∧ d < 18446744073709551616 ∧ lo < 18446744073709551616 ∧ (((hi * 18446744073709551616 + lo) / d : Nat) : Int) = M / c := by
  refine ⟨(M / 18446744073709551616).toNat, (M % 18446744073709551616).toNat, c.toNat, by omega, by omega, by omega, by omega, by omega, by omega, ?_⟩
  rw [Int.natCast_ediv, Int.toNat_of_nonneg (by omega)]
  congr 1
  omega
theorem md_over {M c : Int} (hc : 0 < c) (h : c ≤ M / 18446744073709551616) : 9223372036854775807 < M / c := by
  have : 18446744073709551616 ≤ M / c := by rw [Int.le_ediv_iff_mul_le hc]; omega
  omega
theorem bits_Div64 (hi lo y : Nat) (w : World) (hy : hi < y) (hy2 : y < 18446744073709551616) (h1 : lo < 18446744073709551616) :
    Calls Try.prog 103 #[.int .u64 hi, .int .u64 lo, .int .u64 y] w (DivPost ((((hi * 18446744073709551616 + lo) / y : Nat) : Int)) w) := by
  rcases Nat.eq_zero_or_pos hi with h0 | h0
  · subst h0
    have h := div64_low lo y w (by omega) (by omega) (by omega) (by omega)
    rw [← Int.natCast_ediv] at h
    rw [Nat.zero_mul, Nat.zero_add]
    exact h
  · exact div64_high hi lo y w hy h0 hy2 h1
theorem quo_u64 {hi lo d : Nat} (h : hi < d) (hl : lo < 18446744073709551616) : (hi * 18446744073709551616 + lo) / d < 18446744073709551616 := by
  have := q_small (k := 0) (lo := lo) h hl
  rwa [Nat.pow_zero, Nat.div_one] at this
theorem sgn_false (q : Int) : sgn1 q false = (if q ≤ 9223372036854775807 then q else 0) ∧ sgn2 q false = (if q ≤ 9223372036854775807 then 0 else 10) ∧ sgnOk q false = decide (q ≤ 9223372036854775807) := ⟨rfl, rfl, rfl⟩
set_option maxHeartbeats 1000000 in
theorem nums_MulDiv (a b c : Int) (w : World) (ha : I64 a) (hb : I64 b) (hc : I64 c) : Calls Try.prog 80 #[.int .i64 a, .int .i64 b, .int .i64 c] w (MdPost a b c w) := by
  unfold I64 at ha hb hc
  by_cases hn : a < 0 ∨ b < 0 ∨ c < 0
  · obtain ⟨m1, m2⟩ := md_neg hn
    have M1 := Lib.hid m1
    have M2 := Lib.hid m2
    have hcs : a < 0 ∨ (0 ≤ a ∧ b < 0) ∨ (0 ≤ a ∧ 0 ≤ b ∧ c < 0) := by omega
    clear m1 m2 hn
    rcases hcs with h1 | ⟨h1, h2⟩ | ⟨h1, h2, h3⟩
    all_goals
      go_enter Try.func80, Try.ntmps80
      go_wp2
      go_ret2
      exact ⟨ret_two M1.out.symm M2.out.symm, 0, rfl⟩
  · by_cases hz : c = 0
    · subst hz
      obtain ⟨m1, m2⟩ := md_zero (a := a) (b := b) (by omega)
      have M1 := Lib.hid m1
      have M2 := Lib.hid m2
      have h1 : 0 ≤ a := by omega
      have h2 : 0 ≤ b := by omega
      clear m1 m2 hn
      go_enter Try.func80, Try.ntmps80
      go_wp2
      go_ret2
      exact ⟨ret_two M1.out.symm M2.out.symm, 0, rfl⟩
    · have h1 : 0 ≤ a := by omega
      have h2 : 0 ≤ b := by omega
      have h3 : 0 < c := by omega
      have hzb : (c == 0) = false := beq_eq_false_iff_ne.2 hz
      have cM := fun w => mul64 a b w h1 (by omega) h2 (by omega)
      have m0 : 0 ≤ a * b := Int.mul_nonneg h1 h2
      have m1 : a * b ≤ 9223372036854775807 * 9223372036854775807 := Int.mul_le_mul ha.2 hb.2 h2 (by omega)
      have mB := md_big (a := a) (b := b) (c := c) (by omega)
      have mO := md_ok (a := a) (b := b) (c := c) (by omega)
      have mv := fun h => md_over (M := a * b) h3 h
      have mw := fun h => md_words (M := a * b) m0 (by omega) h3 (by omega) h
      generalize a * b = M at *
      have hh0 : 0 ≤ M / 18446744073709551616 := by omega
      have hh1 : M / 18446744073709551616 ≤ 4611686018427387904 := by omega
      have CM := Lib.hid cM
      have MB := Lib.hid mB
      have MO := Lib.hid mO
      rcases Int.lt_or_le (M / 18446744073709551616) c with hlt | hge
      · obtain ⟨hi, lo, d, e1, e2, e3, l1, l2, l3, e4⟩ := mw hlt
        have hqu := quo_u64 l1 l3
        have cD := fun w => bits_Div64 hi lo d w l1 l2 l3
        generalize (hi * 18446744073709551616 + lo) / d = Q at *
        have cS := fun w => nums_signed (Q : Int) false w (by omega) (by omega)
        rw [e4] at cD cS
        rw [(sgn_false _).1, (sgn_false _).2.1] at cS
        have hres : (if M / c ≤ 9223372036854775807 then M / c else 0) = mdV a b c ∧ (if M / c ≤ 9223372036854775807 then (0 : Int) else 10) = mdE a b c := by
          rcases Int.lt_or_le 9223372036854775807 (M / c) with hh | hh
          · have hx := MB.out hh
            have hy := Int.not_le.2 hh
            rw [if_neg hy, if_neg hy]; exact ⟨hx.1.symm, hx.2.symm⟩
          · have hx := MO.out hh
            rw [if_pos hh, if_pos hh]; exact ⟨hx.1.symm, hx.2.symm⟩
        rw [hres.1, hres.2] at cS
        rw [e1, e2] at cM
        have hle : (hi : Int) < (d : Int) := by omega
        have hd1 : (d : Int) ≤ 9223372036854775807 := by omega
        have hd0 : 0 < (d : Int) := by omega
        have CM := Lib.hid cM
        have CD := Lib.hid cD
        have CS := Lib.hid cS
        subst e3
        generalize hq : M / (d : Int) = q at *
        clear mB mO mv mw MB MO hres cM cD cS e1 e2 e4 hn hh0 hh1 hlt hqu hq l1 l2 l3 m0 m1
        generalize (d : Int) = di at *
        go_enter Try.func80, Try.ntmps80
        go_wp2_with fail
        refine (CM.out _).mono ?_
        rintro e w' ⟨rfl, rfl⟩
        go_wp2_with fail
        refine (CD.out _).mono ?_
        rintro e w' ⟨⟨r, rfl⟩, n, rfl⟩
        go_wp2_with fail
        refine (CS.out _).mono ?_
        rintro e w' ⟨rfl, rfl⟩
        go_wp2
        go_ret2
        exact ⟨rfl, n, rfl⟩
      · obtain ⟨n1, n2⟩ := MB.out (mv hge)
        have M1 := Lib.hid n1
        have M2 := Lib.hid n2
        clear mB mO mv mw n1 n2 hn cM MB MO
        generalize M / 18446744073709551616 = mh at *
        generalize M % 18446744073709551616 = ml at *
        go_enter Try.func80, Try.ntmps80
        go_wp2_with (first | (go_at_call 101; refine (CM.out _).mono ?_; rintro e w' ⟨rfl, rfl⟩))
        go_ret2
        exact ⟨ret_two M1.out.symm M2.out.symm, 0, rfl⟩
end Go.Proofs.Ytnlieclfajebbaa
