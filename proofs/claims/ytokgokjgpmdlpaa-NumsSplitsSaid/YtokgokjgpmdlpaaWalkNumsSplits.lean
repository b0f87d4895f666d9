/-
  The law NumsSplits, walked: it returns true, and nothing that was there turns.
-/
import Derived.Test.YtokgokjgpmdlpaaNumsMul2
import Derived.Test.YtokgokjgpmdlpaaArgI
set_option linter.unusedVariables false
set_option linter.unusedSimpArgs false
namespace Go.Proofs.Ytokgokjgpmdlpaa
open Go.Joins Go.ChangeShapes Go.WideShapes Go.ChangeAt Go.RowKit Go.Deep

theorem split_facts {a b : Int} (ha : I64 a) (hb : I64 b) (h : b ≠ 0) : quoF a b * b = a - modF a b ∧ I64 (modF a b) ∧ absI (modF a b) < absI b ∧ (modF a b = 0 ∨ (modF a b < 0 ↔ b < 0)) ∧ -9223372036854775808 ≤ quoF a b := by
  obtain ⟨f1, f2, f3, f4, f5, f6, f7, f8⟩ := sz_facts ha hb h
  have hq1 : szQ a b ≤ 4611686018427387904 ∨ szR a b = 0 := by
    by_cases h2 : 2 ≤ absI b
    · exact .inl (f7 h2)
    · exact .inr (f8 (by omega)).1
  have f6' := f6
  clear f7 f8
  unfold I64 at ha hb ⊢
  unfold quoF modF
  generalize szQ a b = q at *
  generalize szR a b = r at *
  by_cases sa : a < 0 <;> by_cases sb : b < 0 <;> by_cases hr : r = 0
  all_goals
    simp only [sa, sb, hr, if_true, if_false, eq_self_iff_true, eq_iff_iff, iff_true, true_iff, iff_false, not_true_eq_false, not_false_eq_true, Int.sub_mul, Int.neg_mul, Int.one_mul]
    unfold absI at *
    simp only [sa, sb, if_true, if_false, Int.mul_neg] at f6 f5 f1
    refine ⟨by omega, by omega, by omega, by first | omega | (simp; done) | (simp; omega), by omega⟩

theorem splits_0 (a : Int) (W : World) : Calls Try.prog 10 #[.int .i64 a, .int .i64 0] W fun e W' => e = .returned (.bool true) ∧ W = W' := by
  go_enter Try.func10, Try.ntmps10
  go_wp2_with (first | (go_at_call 15; refine (nums_Div0 _ _).mono ?_; rintro e w' ⟨rfl, rfl⟩) | (go_at_call 18; refine (alive01 _).mono ?_; rintro e w' ⟨rfl, rfl⟩))
  go_ret
  exact ⟨rfl, rfl⟩
theorem splits_1 (a b : Int) (W : World) (ha : I64 a) (hb : I64 b) (h : b ≠ 0) : Calls Try.prog 10 #[.int .i64 a, .int .i64 b] W fun e W' => e = .returned (.bool true) ∧ W = W' := by
  obtain ⟨s1, s2, s3, s4, s5⟩ := split_facts ha hb h
  have hbz : (b == 0) = false := by simp [h]
  have cD := fun w => nums_Div a b w ha hb h
  have cMo := fun w => nums_Mod a b w ha hb h
  have cS := fun w => nums_Sub a (modF a b) w ha s2
  have cB := fun w => nums_Size b w hb
  have cR := fun w => nums_Size (modF a b) w s2
  have HA := Lib.hid ha
  have HB := Lib.hid hb
  have H0 := Lib.hid h
  have CMo := Lib.hid cMo
  have CS := Lib.hid cS
  have CB := Lib.hid cB
  have CR := Lib.hid cR
  by_cases hq : quoF a b ≤ 9223372036854775807
  · have cM := fun w => nums_Mul (quoF a b) b w ⟨s5, hq⟩ hb
    rw [s1] at cM
    have CM := Lib.hid cM
    have e0 : fitE (quoF a b) = 0 := by unfold fitE; omega
    have e1 : fitV (quoF a b) = quoF a b := by unfold fitV; omega
    rw [e0, e1] at cD
    have CD := Lib.hid cD
    by_cases hd : -9223372036854775808 ≤ a - modF a b ∧ a - modF a b ≤ 9223372036854775807
    · have e2 : fit2E (a - modF a b) = 0 := by unfold fit2E; omega
      have e1b : fit2V (a - modF a b) = a - modF a b := by unfold fit2V; omega
      have e3 : decide (absI (modF a b) < absI b) = true := by simpa using s3
      rcases s4 with s4 | s4
      · have e4 : (modF a b == 0) = true := by simp [s4]
        have S4 := Lib.hid s4
        clear ha hb h cD cMo cS cB cR cM hq hd s1 s2 s3 s4 s5 e1 e0
        go_enter Try.func10, Try.ntmps10
        go_wp2_with (first | (go_at_call 15; (with_reducible refine (CD.out _).mono ?_); rintro e w' ⟨rfl, rfl⟩) | (go_at_call 17; (with_reducible refine (CMo.out _).mono ?_); rintro e w' ⟨rfl, rfl⟩) | (go_at_call 37; (with_reducible refine (CS.out _).mono ?_); rintro e w' ⟨rfl, rfl⟩) | (go_at_call 47; (with_reducible refine (CM.out _).mono ?_); rintro e w' ⟨rfl, rfl⟩) | (go_at_call 40; (with_reducible refine (CR.out _).mono ?_); rintro e w' ⟨rfl, rfl⟩) | (go_at_call 40; (with_reducible refine (CB.out _).mono ?_); rintro e w' ⟨rfl, rfl⟩) | (go_at_call 18; refine (alive01 _).mono ?_; rintro e w' ⟨rfl, rfl⟩))
        go_ret
        exact ⟨ret_bool (by simp), rfl⟩
      · have e4 : (decide (modF a b < 0) == decide (b < 0)) = true := by simp [s4]
        have S4 := Lib.hid s4
        by_cases hz : (modF a b == 0) = true
        · clear ha hb h cD cMo cS cB cR cM hq hd s1 s2 s3 s4 s5 e1 e0
          go_enter Try.func10, Try.ntmps10
          go_wp2_with (first | (go_at_call 15; (with_reducible refine (CD.out _).mono ?_); rintro e w' ⟨rfl, rfl⟩) | (go_at_call 17; (with_reducible refine (CMo.out _).mono ?_); rintro e w' ⟨rfl, rfl⟩) | (go_at_call 37; (with_reducible refine (CS.out _).mono ?_); rintro e w' ⟨rfl, rfl⟩) | (go_at_call 47; (with_reducible refine (CM.out _).mono ?_); rintro e w' ⟨rfl, rfl⟩) | (go_at_call 40; (with_reducible refine (CR.out _).mono ?_); rintro e w' ⟨rfl, rfl⟩) | (go_at_call 40; (with_reducible refine (CB.out _).mono ?_); rintro e w' ⟨rfl, rfl⟩) | (go_at_call 18; refine (alive01 _).mono ?_; rintro e w' ⟨rfl, rfl⟩))
          go_ret
          exact ⟨ret_bool (by simp), rfl⟩
        · simp only [Bool.not_eq_true] at hz
          clear ha hb h cD cMo cS cB cR cM hq hd s1 s2 s3 s4 s5 e1 e0
          go_enter Try.func10, Try.ntmps10
          go_wp2_with (first | (go_at_call 15; (with_reducible refine (CD.out _).mono ?_); rintro e w' ⟨rfl, rfl⟩) | (go_at_call 17; (with_reducible refine (CMo.out _).mono ?_); rintro e w' ⟨rfl, rfl⟩) | (go_at_call 37; (with_reducible refine (CS.out _).mono ?_); rintro e w' ⟨rfl, rfl⟩) | (go_at_call 47; (with_reducible refine (CM.out _).mono ?_); rintro e w' ⟨rfl, rfl⟩) | (go_at_call 40; (with_reducible refine (CR.out _).mono ?_); rintro e w' ⟨rfl, rfl⟩) | (go_at_call 40; (with_reducible refine (CB.out _).mono ?_); rintro e w' ⟨rfl, rfl⟩) | (go_at_call 18; refine (alive01 _).mono ?_; rintro e w' ⟨rfl, rfl⟩))
          go_ret
          exact ⟨ret_bool (by simp), rfl⟩
    · have e2 : fit2E (a - modF a b) = 10 := by unfold fit2E; rw [if_neg hd]
      clear ha hb h cD cMo cS cB cR cM hq hd s1 s2 s3 s4 s5 e1 e0
      go_enter Try.func10, Try.ntmps10
      go_wp2_with (first | (go_at_call 15; (with_reducible refine (CD.out _).mono ?_); rintro e w' ⟨rfl, rfl⟩) | (go_at_call 17; (with_reducible refine (CMo.out _).mono ?_); rintro e w' ⟨rfl, rfl⟩) | (go_at_call 37; (with_reducible refine (CS.out _).mono ?_); rintro e w' ⟨rfl, rfl⟩) | (go_at_call 18; refine (alive01 _).mono ?_; rintro e w' ⟨rfl, rfl⟩))
      go_ret
      exact ⟨ret_bool (by simp), rfl⟩
  · have e0 : fitE (quoF a b) = 10 := by unfold fitE; omega
    have CD := Lib.hid cD
    clear ha hb h cD cMo cS cB cR hq s1 s2 s3 s4 s5
    go_enter Try.func10, Try.ntmps10
    go_wp2_with (first | (go_at_call 15; (with_reducible refine (CD.out _).mono ?_); rintro e w' ⟨rfl, rfl⟩) | (go_at_call 18; refine (alive01 _).mono ?_; rintro e w' ⟨rfl, rfl⟩))
    go_ret
    exact ⟨ret_bool (by simp), rfl⟩

set_option maxRecDepth 100000 in
theorem walkNumsSplits {H : Type} (W : World) (base : Nat) (enc : TypeId × Value → H) {v0 : Value} {d0 : DataW H} {p0 : List MemPlace} {v1 : Value} {d1 : DataW H} {p1 : List MemPlace}
    (h0 : DataW.Trod enc Try.prog W 0 (fun _ => true) true 2 v0 d0 p0) (h1 : DataW.Trod enc Try.prog W 0 (fun _ => true) true 2 v1 d1 p1)
    (o0 : Value.okWide Try.prog W .any base 2 v0) (o1 : Value.okWide Try.prog W .any base 2 v1) :
    Calls Try.prog 10 #[v0, v1] W fun e W' => e = .returned (.bool true) ∧ Below W.heap.size W W' := by
  obtain ⟨a, rfl, a0, a1⟩ := arg_int64 o0 h0
  obtain ⟨b, rfl, b0, b1⟩ := arg_int64 o1 h1
  by_cases hb : b = 0
  · subst hb
    exact (splits_0 a W).mono fun e W' h => ⟨h.1, h.2 ▸ Below.refl _ _⟩
  · exact (splits_1 a b W ⟨a0, a1⟩ ⟨b0, b1⟩ hb).mono fun e W' h => ⟨h.1, h.2 ▸ Below.refl _ _⟩
end Go.Proofs.Ytokgokjgpmdlpaa
