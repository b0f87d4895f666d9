
/-
  The document's sets: hoistwayref03.Has. Condition: the number fits.
-/
import Derived.Test.YtlcnhpjmmjmkcaaDoorRef03d
set_option linter.unusedVariables false
set_option linter.unusedSimpArgs false
namespace Go.Proofs.YtlcnhpjmmjmkcaaDoor
open Go.Joins Go.ChangeShapes Go.WideShapes Go.ChangeAt Go.RowKit Go.Deep

set_option maxRecDepth 20000 in
set_option maxHeartbeats 4000000 in
theorem ref03_Has (x y : Nat) (n : Int) (w : World) (hx : Wd x) (hy : Wd y) (hn : I64 n) : Calls Tryd.prog 25 #[sv x y, .int .i64 n] w fun e w' => e = .returned (.bool (memB x y n)) ∧ Below w.heap.size w w' := by
  unfold sv
  unfold I64 at hn
  by_cases hu : n < 0 ∨ 127 < n
  · rw [mem_out (by omega)]
    rcases hu with hu | hu
    · have q1 : decide (n < 0) = true := decide_eq_true hu
      go_enter Tryd.func25, Tryd.ntmps25
      go_wp2
      go_ret
      exact ⟨rfl, box_below _ _⟩
    · have q1 : decide (n < 0) = false := decide_eq_false (by omega)
      have q2 : decide (127 < n) = true := decide_eq_true hu
      go_enter Tryd.func25, Tryd.ntmps25
      go_wp2
      go_ret
      exact ⟨rfl, box_below _ _⟩
  · have q1 : decide (n < 0) = false := decide_eq_false (by omega)
    have q2 : decide (127 < n) = false := decide_eq_false (by omega)
    obtain ⟨n, rfl⟩ := Int.eq_ofNat_of_zero_le (show 0 ≤ n by omega)
    rcases Nat.lt_or_ge n 64 with h64 | h64
    · obtain ⟨m, hm, hmn⟩ : ∃ m, m < 64 ∧ n = m := ⟨n, by omega, by omega⟩
      have e1 : (n : Int) / 64 = 0 := by omega
      have e2 : (n : Int) % 64 = (m : Int) := by omega
      have e3 := tdiv64_low (n := n) (by omega)
      have e3b : Int.tmod (n : Int) 64 = (m : Int) := by rw [Int.tmod_eq_emod_of_nonneg (by omega)]; exact e2
      have hmem : memB x y (n : Int) = x.testBit m := by
        rw [hmn]; exact mem_low hm
      rw [hmem]
      have E9 : Hid ((((x / 2 ^ m : Nat) : Int) % 2 == 1) = x.testBit m) := Lib.hid (by rw [← bit_eq x m]; rfl)
      clear hmem
      have hmn2 : (n : Int) < 128 := by omega
      clear hmn
      go_enter Tryd.func25, Tryd.ntmps25
      go_wp2
      have k0 : Blk (w.alloc (.cells #[.int .u64 (x : Int), .int .u64 (y : Int)] 24)) (w.heap.size) 24 #[.int .u64 (x : Int), .int .u64 (y : Int)] := (blk_at (by simp))
      have hB : Below w.heap.size w (w.alloc (.cells #[.int .u64 (x : Int), .int .u64 (y : Int)] 24)) := (bel_at (Below.refl _ _) (.cells #[.int .u64 (x : Int), .int .u64 (y : Int)] 24))
      generalize (w.alloc (.cells #[.int .u64 (x : Int), .int .u64 (y : Int)] 24)) = w1 at *
      (try clear k0c k0f k0z); have k0c := fun i => Blk.cell k0 i; have k0f := fun i => Blk.free k0 i; have k0z := Blk.lt k0
      go_loop [5, 6] (fun v i => ∃ k : Nat, k ≤ m ∧ i = .int .i64 k ∧ v = .int .u64 ((x / 2 ^ k : Nat) : Int)) (fun _ i => m - (intOf i).toNat)
      case atStart => exact ⟨0, by omega, rfl, by simp⟩
      case round =>
        obtain ⟨k, hk, rfl, rfl⟩ := hrel
        by_cases hlt : k < m
        · have q3 : decide ((k : Int) < (m : Int)) = true := decide_eq_true (by omega)
          have e5 : x / 2 ^ (k + 1) = x / 2 ^ k / 2 := by rw [Nat.div_div_eq_div_mul, Nat.pow_succ]
          have e6 : x / 2 ^ k < 18446744073709551616 := Nat.lt_of_le_of_lt (Nat.div_le_self _ _) hx
          have E5 := Lib.hid e5
          clear e5
          generalize x / 2 ^ k = t at *
          have e7 : IntKind.u64.wrap ((t : Int) / 2) = (t : Int) / 2 := IntWalk.u64_in _ (by omega)
          go_wp2
          go_round
          case rel => exact ⟨k + 1, by omega, by go_num, by rw [E5.out]; simp⟩
          case measure => simp [intOf]; try omega
        · obtain rfl : k = m := by omega
          have e9 := E9.out
          obtain ⟨res, hres⟩ : ∃ r, r = x.testBit k := ⟨_, rfl⟩
          rw [← hres] at e9
          have HRES := Lib.hid hres
          clear hres
          generalize x / 2 ^ k = t at *
          have e9b : ((t : Int) % 2 == 1) = res := e9
          clear e9
          go_wp2
          go_ret
          exact ⟨congrArg (fun b => Ending.returned (.bool b)) HRES.out, hB⟩
    · obtain ⟨m, hm, hmn⟩ : ∃ m, m < 64 ∧ n = m + 64 := ⟨n - 64, by omega, by omega⟩
      have e1 : (n : Int) / 64 = 1 := by omega
      have e2 : (n : Int) % 64 = (m : Int) := by omega
      have e3 := tdiv64_high (n := n) (by omega) (by omega)
      have e3b : Int.tmod (n : Int) 64 = (m : Int) := by rw [Int.tmod_eq_emod_of_nonneg (by omega)]; exact e2
      have hmem : memB x y (n : Int) = y.testBit m := by
        rw [hmn, ← mem_high (x := x) (y := y) hm]; congr 1
      rw [hmem]
      have E9 : Hid ((((y / 2 ^ m : Nat) : Int) % 2 == 1) = y.testBit m) := Lib.hid (by rw [← bit_eq y m]; rfl)
      clear hmem
      have hmn2 : (n : Int) < 128 := by omega
      clear hmn
      go_enter Tryd.func25, Tryd.ntmps25
      go_wp2
      have k0 : Blk (w.alloc (.cells #[.int .u64 (x : Int), .int .u64 (y : Int)] 24)) (w.heap.size) 24 #[.int .u64 (x : Int), .int .u64 (y : Int)] := (blk_at (by simp))
      have hB : Below w.heap.size w (w.alloc (.cells #[.int .u64 (x : Int), .int .u64 (y : Int)] 24)) := (bel_at (Below.refl _ _) (.cells #[.int .u64 (x : Int), .int .u64 (y : Int)] 24))
      generalize (w.alloc (.cells #[.int .u64 (x : Int), .int .u64 (y : Int)] 24)) = w1 at *
      (try clear k0c k0f k0z); have k0c := fun i => Blk.cell k0 i; have k0f := fun i => Blk.free k0 i; have k0z := Blk.lt k0
      go_loop [5, 6] (fun v i => ∃ k : Nat, k ≤ m ∧ i = .int .i64 k ∧ v = .int .u64 ((y / 2 ^ k : Nat) : Int)) (fun _ i => m - (intOf i).toNat)
      case atStart => exact ⟨0, by omega, rfl, by simp⟩
      case round =>
        obtain ⟨k, hk, rfl, rfl⟩ := hrel
        by_cases hlt : k < m
        · have q3 : decide ((k : Int) < (m : Int)) = true := decide_eq_true (by omega)
          have e5 : y / 2 ^ (k + 1) = y / 2 ^ k / 2 := by rw [Nat.div_div_eq_div_mul, Nat.pow_succ]
          have e6 : y / 2 ^ k < 18446744073709551616 := Nat.lt_of_le_of_lt (Nat.div_le_self _ _) hy
          have E5 := Lib.hid e5
          clear e5
          generalize y / 2 ^ k = t at *
          have e7 : IntKind.u64.wrap ((t : Int) / 2) = (t : Int) / 2 := IntWalk.u64_in _ (by omega)
          go_wp2
          go_round
          case rel => exact ⟨k + 1, by omega, by go_num, by rw [E5.out]; simp⟩
          case measure => simp [intOf]; try omega
        · obtain rfl : k = m := by omega
          have e9 := E9.out
          obtain ⟨res, hres⟩ : ∃ r, r = y.testBit k := ⟨_, rfl⟩
          rw [← hres] at e9
          have HRES := Lib.hid hres
          clear hres
          generalize y / 2 ^ k = t at *
          have e9b : ((t : Int) % 2 == 1) = res := e9
          clear e9
          go_wp2
          go_ret
          exact ⟨congrArg (fun b => Ending.returned (.bool b)) HRES.out, hB⟩
end Go.Proofs.YtlcnhpjmmjmkcaaDoor
