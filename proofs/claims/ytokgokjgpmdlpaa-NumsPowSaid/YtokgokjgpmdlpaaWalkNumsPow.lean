/-
  The law NumsPow, walked: it returns true, and nothing that was there turns.
-/
import Derived.Test.YtokgokjgpmdlpaaGcd
import Derived.Test.YtokgokjgpmdlpaaPow
import Derived.Test.YtokgokjgpmdlpaaArgI
set_option linter.unusedVariables false
set_option linter.unusedSimpArgs false
namespace Go.Proofs.Ytokgokjgpmdlpaa
open Go.Joins Go.ChangeShapes Go.WideShapes Go.ChangeAt Go.RowKit Go.Deep

theorem ref_GcdI (a b : Int) (w : World) (ha : I64 a) (hb : I64 b) : Calls Try.prog 56 #[.int .u64 (absI a), .int .u64 (absI b)] w fun e w' => e = .returned (.int .u64 (Nat.gcd (absI a).toNat (absI b).toNat : Nat)) ∧ w = w' := by
  obtain ⟨A0, A1⟩ := absI_bd ha
  obtain ⟨B0, B1⟩ := absI_bd hb
  obtain ⟨x, hx⟩ := Int.eq_ofNat_of_zero_le A0
  obtain ⟨y, hy⟩ := Int.eq_ofNat_of_zero_le B0
  rw [hx, hy]
  exact ref_Gcd x y w (by omega) (by omega)
theorem is_fit2' (q : Int) (w : World) : Calls Try.prog 21 #[.int .i64 (fit2V q), .int .i64 (fit2E q), .int .i64 (fit2V q), .bool (fit2B q)] w fun e w' => e = .returned (.bool true) ∧ w = w' := is_fit2 q w

theorem pow_0 (a b n : Int) (W : World) (ha : I64 a) (hb : I64 b) (hn : n < 0) : Calls Try.prog 13 #[.int .i64 a, .int .i64 b, .int .i64 n] W fun e W' => e = .returned (.bool true) ∧ ∃ m, W' = W.drewN m := by
  have HA := Lib.hid ha
  have HB := Lib.hid hb
  clear ha hb
  go_enter Try.func13, Try.ntmps13
  go_wp2_with (first | (go_at_call 55; refine (nums_Gcd _ _ _ HA.out HB.out).mono ?_; rintro e w' ⟨rfl, nq, rfl⟩) | (go_at_call 41; (with_reducible refine (ref_Size _ _ HA.out).mono ?_); rintro e w' ⟨rfl, rfl⟩) | (go_at_call 41; (with_reducible refine (ref_Size _ _ HB.out).mono ?_); rintro e w' ⟨rfl, rfl⟩) | (go_at_call 56; refine (ref_GcdI _ _ _ HA.out HB.out).mono ?_; rintro e w' ⟨rfl, rfl⟩) | (go_at_call 57; refine (nums_Pow_neg _ _ _ (by omega)).mono ?_; rintro e w' ⟨rfl, rfl⟩) | (go_at_call 18; refine (alive01 _).mono ?_; rintro e w' ⟨rfl, rfl⟩))
  go_ret
  exact ⟨rfl, _, rfl⟩
theorem pow_1 (a b n : Int) (W : World) (ha : I64 a) (hb : I64 b) (hn : 0 ≤ n) (hn' : n ≤ 9223372036854775807) : Calls Try.prog 13 #[.int .i64 a, .int .i64 b, .int .i64 n] W fun e W' => e = .returned (.bool true) ∧ ∃ m, W' = W.drewN m := by
  have cP := fun w => nums_Pow a n w hn hn' ha
  have cR := fun w => ref_Pow a n w hn hn' ha
  have cI := fun w => is_fit2 (a ^ powN n) w
  have CP := Lib.hid cP
  have CR := Lib.hid cR
  have CI := Lib.hid cI
  have HA := Lib.hid ha
  have HB := Lib.hid hb
  clear ha hb cP cR cI
  go_enter Try.func13, Try.ntmps13
  go_wp2_with (first | (go_at_call 55; refine (nums_Gcd _ _ _ HA.out HB.out).mono ?_; rintro e w' ⟨rfl, nq, rfl⟩) | (go_at_call 41; (with_reducible refine (ref_Size _ _ HA.out).mono ?_); rintro e w' ⟨rfl, rfl⟩) | (go_at_call 41; (with_reducible refine (ref_Size _ _ HB.out).mono ?_); rintro e w' ⟨rfl, rfl⟩) | (go_at_call 56; refine (ref_GcdI _ _ _ HA.out HB.out).mono ?_; rintro e w' ⟨rfl, rfl⟩) | (go_at_call 57; refine (CP.out _).mono ?_; rintro e w' ⟨rfl, rfl⟩) | (go_at_call 58; refine (CR.out _).mono ?_; rintro e w' ⟨rfl, rfl⟩) | (go_at_call 21; refine (CI.out _).mono ?_; rintro e w' ⟨rfl, rfl⟩) | (go_at_call 18; refine (alive01 _).mono ?_; rintro e w' ⟨rfl, rfl⟩))
  go_ret
  exact ⟨rfl, _, rfl⟩

set_option maxRecDepth 100000 in
theorem walkNumsPow {H : Type} (W : World) (base : Nat) (enc : TypeId × Value → H) {v0 : Value} {d0 : DataW H} {p0 : List MemPlace} {v1 : Value} {d1 : DataW H} {p1 : List MemPlace} {v2 : Value} {d2 : DataW H} {p2 : List MemPlace}
    (h0 : DataW.Trod enc Try.prog W 0 (fun _ => true) true 2 v0 d0 p0) (h1 : DataW.Trod enc Try.prog W 0 (fun _ => true) true 2 v1 d1 p1) (h2 : DataW.Trod enc Try.prog W 0 (fun _ => true) true 3 v2 d2 p2)
    (o0 : Value.okWide Try.prog W .any base 2 v0) (o1 : Value.okWide Try.prog W .any base 2 v1) (o2 : Value.okWide Try.prog W .any base 3 v2) :
    Calls Try.prog 13 #[v0, v1, v2] W fun e W' => e = .returned (.bool true) ∧ Below W.heap.size W W' := by
  obtain ⟨a, rfl, a0, a1⟩ := arg_int64 o0 h0
  obtain ⟨b, rfl, b0, b1⟩ := arg_int64 o1 h1
  obtain ⟨n, rfl, n0, n1⟩ := arg_int o2 h2
  by_cases hn : n < 0
  · exact (pow_0 a b n W ⟨a0, a1⟩ ⟨b0, b1⟩ hn).mono fun e W' h => ⟨h.1, by obtain ⟨m, rfl⟩ := h.2; exact below_drewN (Below.refl _ _) m⟩
  · exact (pow_1 a b n W ⟨a0, a1⟩ ⟨b0, b1⟩ (by omega) n1).mono fun e W' h => ⟨h.1, by obtain ⟨m, rfl⟩ := h.2; exact below_drewN (Below.refl _ _) m⟩
end Go.Proofs.Ytokgokjgpmdlpaa
