/-
  The law NearLeast, walked: it returns true, and nothing that was there turns.
-/
import Derived.Test.YtfpmdldngnopjaaAlive32
set_option linter.unusedVariables false
set_option linter.unusedSimpArgs false
namespace Go.Proofs.Ytfpmdldngnopjaa
open Go.Joins Go.ChangeShapes Go.WideShapes Go.ChangeAt Go.RowKit Go.Deep
theorem law_least (A : Option Addr) (C : Nat) (xs : List Int) (W : World) (hx : Ints W A xs) :
    Calls Try.prog 8 #[.slice A xs.length C] W fun e W' => e = .returned (.bool true) ∧ Below W.heap.size W W' := by
  by_cases h200 : 200 < xs.length
  · go_enter Try.func8, Try.ntmps8
    go_wp2
    go_ret
    exact ⟨rfl, Below.refl _ _⟩
  · by_cases h0 : xs.length = 0
    · have e0 : leastN xs 0 = -1 := rfl
      have hxl : xs = [] := List.eq_nil_of_length_eq_zero h0
      subst hxl
      clear h0 h200
      go_enter Try.func8, Try.ntmps8
      go_wp2_with (first | (go_at_call 39; refine (near_Least A C [] _ hx (by simp)).mono ?_; rintro e w' ⟨rfl, rfl⟩) | (go_at_call 40; refine (alive32 _).mono ?_; rintro e w' ⟨rfl, hb⟩))
      go_ret
      exact ⟨rfl, hb⟩
    · obtain ⟨b0, b1, b2⟩ := leastN_bd xs xs.length
      have b3 := b2 (by omega)
      have hm := leastN_min xs xs.length
      obtain ⟨k, hk⟩ : ∃ k : Nat, leastN xs xs.length = k := ⟨_, (Int.toNat_of_nonneg b3).symm⟩
      have hnl := near_Least A C xs W hx (by omega)
      rw [hk] at b0 b1 b3 hm hnl
      rw [Int.toNat_natCast] at hm
      obtain ⟨b, off, rfl, hbl, hc⟩ := hx (by omega)
      have HL := Lib.hid hnl
      have HM := Lib.hid hm
      have HC := Lib.hid hc
      have HK := Lib.hid hk
      clear hnl hm hk b2 hx
      have hck := hc k (by omega)
      clear hc
      have hne : ((xs.length : Int) == 0) = false := beq_eq_false_iff_ne.2 (by omega)
      go_enter Try.func8, Try.ntmps8
      go_wp2_with (first | (go_at_call 39; refine (HL.out).mono ?_; rintro e w' ⟨rfl, rfl⟩))
      go_loopw [4] (fun i wr => ∃ (j n : Nat), j ≤ xs.length ∧ i = .int .i64 j ∧ wr = W.drewN n) (fun i _ => xs.length - (intOf i).toNat)
      case atStart => exact ⟨0, 0, by omega, rfl, rfl⟩
      case round =>
        obtain ⟨j, n, hj, rfl, rfl⟩ := hrel
        by_cases hjl : j < xs.length
        · have hcj := HC.out j hjl
          obtain ⟨m1, m2⟩ := HM.out j hjl
          have m5 : decide (at0 xs j < at0 xs k) = false := by simp; omega
          by_cases hjk : j < k
          · have m3 := m2 (by omega)
            have m4 : (at0 xs j == at0 xs k) = false := beq_eq_false_iff_ne.2 (by omega)
            have m6 : decide ((j : Int) < (k : Int)) = true := by simp; omega
            clear m2
            go_wp2
            go_quiet (fail)
            go_wp2
            go_roundw
            case rel => exact ⟨j + 1, _, by omega, by go_num, rfl⟩
            case measure => simp [intOf] <;> omega
          · have m6 : decide ((j : Int) < (k : Int)) = false := by simp; omega
            clear m2
            go_wp2
            go_quiet (fail)
            go_wp2
            go_roundw
            case rel => exact ⟨j + 1, _, by omega, by go_num, rfl⟩
            case measure => simp [intOf] <;> omega
        · go_wp2_with (first | (go_at_call 40; refine (alive32 _).mono ?_; rintro e w' ⟨rfl, hb⟩))
          go_ret
          exact ⟨rfl, (below_draws _ _ _).trans (hb.mono (by simp))⟩

set_option maxRecDepth 100000 in
theorem walkNearLeast {H : Type} (W : World) (base : Nat) (enc : TypeId × Value → H) {v0 : Value} {d0 : DataW H} {p0 : List MemPlace}
    (h0 : DataW.Trod enc Try.prog W 0 (fun _ => true) true 53 v0 d0 p0)
    (o0 : Value.okWide Try.prog W .any base 53 v0) :
    Calls Try.prog 8 #[v0] W fun e W' => e = .returned (.bool true) ∧ Below W.heap.size W W' := by
  obtain ⟨n, hn⟩ := arg_slice Try.underlying53 o0 h0
  obtain ⟨xs, hxs⟩ := read_slice (size := 1) Try.underlying53 (by kernel_rfl) (by decide) (fun _ _ _ h => read_int Try.underlying3 h) hn
  obtain ⟨A, C, hv, hrest⟩ := id hxs
  injection hv with hv
  subst hv
  exact law_least A C xs W (ints_of hxs)
end Go.Proofs.Ytfpmdldngnopjaa
