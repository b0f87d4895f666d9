
/-
  The document's sets: hoistwayref03.Make. No conditions.
-/
import Derived.Test.YtlcnhpjmmjmkcaaDoorRef03a
set_option linter.unusedVariables false
set_option linter.unusedSimpArgs false
namespace Go.Proofs.YtlcnhpjmmjmkcaaDoor
open Go.Joins Go.ChangeShapes Go.WideShapes Go.ChangeAt Go.RowKit Go.Deep

def b2n (b : Bool) : Nat := if b then 1 else 0
/-- The words behind the first m rounds. -/
def hiN (f : Nat → Bool) : Nat → Nat
  | 0 => 0
  | m + 1 => if m < 64 then 2 * hiN f m + b2n (f (127 - m)) else hiN f m
def loN (f : Nat → Bool) : Nat → Nat
  | 0 => 0
  | m + 1 => if m < 64 then loN f m else 2 * loN f m + b2n (f (127 - m))
theorem b2n_le (b : Bool) : b2n b ≤ 1 := by unfold b2n; split <;> omega
theorem hi_lt (f : Nat → Bool) (m : Nat) (h : m ≤ 64) : hiN f m < 2 ^ m := by
  induction m with
  | zero => simp [hiN]
  | succ m ih =>
    unfold hiN
    rw [if_pos (by omega), Nat.pow_succ]
    have := ih (by omega)
    have := b2n_le (f (127 - m))
    omega
theorem hi_top (f : Nat → Bool) (m : Nat) : hiN f (64 + m) = hiN f 64 := by
  induction m with
  | zero => rfl
  | succ m ih =>
    rw [show 64 + (m + 1) = (64 + m) + 1 by omega]
    show (if 64 + m < 64 then _ else _) = _
    rw [if_neg (by omega), ih]
theorem lo_zero (f : Nat → Bool) (m : Nat) (h : m ≤ 64) : loN f m = 0 := by
  induction m with
  | zero => rfl
  | succ m ih =>
    unfold loN
    rw [if_pos (by omega), ih (by omega)]
theorem lo_lt (f : Nat → Bool) (m : Nat) : loN f (64 + m) < 2 ^ m := by
  induction m with
  | zero => rw [lo_zero f _ (by omega)]; simp
  | succ m ih =>
    rw [show 64 + (m + 1) = (64 + m) + 1 by omega]
    show (if 64 + m < 64 then _ else _) < _
    rw [if_neg (by omega), Nat.pow_succ]
    have := b2n_le (f (127 - (64 + m)))
    omega
theorem wd_hi (f : Nat → Bool) (m : Nat) : Wd (hiN f m) := by
  rcases Nat.lt_or_ge m 64 with h | h
  · have := hi_lt f m (by omega)
    have h2 : 2 ^ m ≤ 2 ^ 64 := Nat.pow_le_pow_right (by omega) (by omega)
    show _ < 2 ^ 64
    omega
  · obtain ⟨k, rfl⟩ : ∃ k, m = 64 + k := ⟨m - 64, by omega⟩
    rw [hi_top]
    have := hi_lt f 64 (by omega)
    exact this
theorem wd_lo (f : Nat → Bool) (m : Nat) (hm : m ≤ 128) : Wd (loN f m) := by
  rcases Nat.lt_or_ge m 64 with h | h
  · rw [lo_zero f m (by omega)]; show 0 < 2 ^ 64; omega
  · obtain ⟨k, rfl⟩ : ∃ k, m = 64 + k := ⟨m - 64, by omega⟩
    have := lo_lt f k
    have h2 : 2 ^ k ≤ 2 ^ 64 := Nat.pow_le_pow_right (by omega) (by omega)
    show _ < 2 ^ 64
    omega
theorem bit_double (x j : Nat) (b : Bool) : (2 * x + b2n b).testBit j = if j = 0 then b else x.testBit (j - 1) := by
  cases j with
  | zero => cases b <;> simp [b2n, Nat.testBit_zero] <;> omega
  | succ j =>
    rw [if_neg (by omega), Nat.testBit_succ, show (2 * x + b2n b) / 2 = x by have := b2n_le b; omega]
    rfl
theorem hi_bit (f : Nat → Bool) (m : Nat) (h : m ≤ 64) (j : Nat) : (hiN f m).testBit j = (decide (j < m) && f (128 - m + j)) := by
  induction m generalizing j with
  | zero => simp [hiN]
  | succ m ih =>
    unfold hiN
    rw [if_pos (by omega), bit_double]
    cases j with
    | zero => rw [if_pos rfl]; simp; try (congr 1; omega)
    | succ j =>
      rw [if_neg (by omega), Nat.add_sub_cancel, ih (by omega) j]
      have e : 128 - m + j = 128 - (m + 1) + (j + 1) := by omega
      rw [e]
      congr 1
      by_cases hj : j < m
      · rw [decide_eq_true hj, decide_eq_true (by omega)]
      · rw [decide_eq_false hj, decide_eq_false (by omega)]
theorem lo_bit (f : Nat → Bool) (m : Nat) (h : m ≤ 64) (j : Nat) : (loN f (64 + m)).testBit j = (decide (j < m) && f (64 - m + j)) := by
  induction m generalizing j with
  | zero => rw [lo_zero f _ (by omega)]; simp
  | succ m ih =>
    rw [show 64 + (m + 1) = (64 + m) + 1 by omega]
    show (if 64 + m < 64 then loN f (64 + m) else 2 * loN f (64 + m) + b2n (f (127 - (64 + m)))).testBit j = _
    rw [if_neg (by omega), bit_double]
    cases j with
    | zero =>
      rw [if_pos rfl]; simp; try (congr 1; omega)
    | succ j =>
      rw [if_neg (by omega), Nat.add_sub_cancel, ih (by omega) j]
      have e : 64 - m + j = 64 - (m + 1) + (j + 1) := by omega
      rw [e]
      congr 1
      by_cases hj : j < m
      · rw [decide_eq_true hj, decide_eq_true (by omega)]
      · rw [decide_eq_false hj, decide_eq_false (by omega)]
/-- The words of a row. -/
def mkX (f : Nat → Bool) : Nat := loN f 128
def mkY (f : Nat → Bool) : Nat := hiN f 128
theorem wd_mk (f : Nat → Bool) : Wd (mkX f) ∧ Wd (mkY f) := ⟨wd_lo f 128 (by omega), wd_hi f 128⟩
theorem mem_mk (f : Nat → Bool) (n : Int) (h : 0 ≤ n) (h2 : n < 128) : memB (mkX f) (mkY f) n = f n.toNat := by
  unfold memB mkX mkY
  by_cases hn : n < 64
  · rw [if_pos ⟨h, hn⟩, show (128 : Nat) = 64 + 64 from rfl, lo_bit f 64 (by omega)]
    have : n.toNat < 64 := by omega
    simp [this]
  · rw [if_neg (by omega), if_pos (by omega), show (128 : Nat) = 64 + 64 from rfl, hi_top, hi_bit f 64 (by omega)]
    have : (n - 64).toNat < 64 := by omega
    simp [this]
    congr 1
    omega
theorem mem_mk_out (f : Nat → Bool) (n : Int) (h : n < 0 ∨ 128 ≤ n) : memB (mkX f) (mkY f) n = false := mem_out h
/-- A set is the words that Make makes of its row. -/
theorem mk_bits {x y : Nat} {f : Nat → Bool} (hx : Wd x) (hy : Wd y) (h : ∀ n, n < 128 → f n = memB x y (n : Int)) : mkX f = x ∧ mkY f = y :=
  set_ext (wd_mk f).1 (wd_mk f).2 hx hy fun n a b => by
    rw [mem_mk f n a b, h n.toNat (by omega)]
    congr 1
    omega
set_option maxRecDepth 20000 in
set_option maxHeartbeats 4000000 in
theorem ref03_Make (f : Nat → Bool) (w : World) : Calls Tryd.prog 48 #[.agg (rowA f)] w fun e w' => e = .returned (sv (mkX f) (mkY f)) ∧ Below w.heap.size w w' := by
  unfold sv mkX mkY
  go_enter Tryd.func48, Tryd.ntmps48
  go_wp2
  have k0 : Blk (((w.alloc (.cells (rowA f) 61)).alloc (.cells #[.int .u64 0, .int .u64 0] 24)).alloc (.cells #[.int .u64 0, .int .u64 0] 24)) (w.heap.size) 61 (rowA f) := (Blk.alloc (Blk.alloc (blk_at (by simp)) (.cells #[.int .u64 0, .int .u64 0] 24)) (.cells #[.int .u64 0, .int .u64 0] 24))
  have k1 : Blk (((w.alloc (.cells (rowA f) 61)).alloc (.cells #[.int .u64 0, .int .u64 0] 24)).alloc (.cells #[.int .u64 0, .int .u64 0] 24)) (w.heap.size + 1) 24 #[.int .u64 0, .int .u64 0] := (Blk.alloc (blk_at (by simp)) (.cells #[.int .u64 0, .int .u64 0] 24))
  have k2 : Blk (((w.alloc (.cells (rowA f) 61)).alloc (.cells #[.int .u64 0, .int .u64 0] 24)).alloc (.cells #[.int .u64 0, .int .u64 0] 24)) (w.heap.size + 2) 24 #[.int .u64 0, .int .u64 0] := (blk_at (by simp))
  have hB : Below w.heap.size w (((w.alloc (.cells (rowA f) 61)).alloc (.cells #[.int .u64 0, .int .u64 0] 24)).alloc (.cells #[.int .u64 0, .int .u64 0] 24)) := (bel_at (bel_at (bel_at (Below.refl _ _) (.cells (rowA f) 61)) (.cells #[.int .u64 0, .int .u64 0] 24)) (.cells #[.int .u64 0, .int .u64 0] 24))
  generalize (((w.alloc (.cells (rowA f) 61)).alloc (.cells #[.int .u64 0, .int .u64 0] 24)).alloc (.cells #[.int .u64 0, .int .u64 0] 24)) = w1 at *
  (try clear k0c k0f k0z); have k0c := fun i => Blk.cell k0 i; have k0f := fun i => Blk.free k0 i; have k0z := Blk.lt k0; (try clear k1c k1f k1z); have k1c := fun i => Blk.cell k1 i; have k1f := fun i => Blk.free k1 i; have k1z := Blk.lt k1; (try clear k2c k2f k2z); have k2c := fun i => Blk.cell k2 i; have k2f := fun i => Blk.free k2 i; have k2z := Blk.lt k2
  clear k0c k0f k0z k1c k1f k1z k2c k2f k2z
  go_loopw [4] (fun i wr => ∃ m : Nat, m ≤ 128 ∧ i = .int .i64 (127 - (m : Int)) ∧ Blk wr w.heap.size 61 (rowA f) ∧ Blk wr (w.heap.size + 1) 24 #[.int .u64 0, .int .u64 0] ∧ Blk wr (w.heap.size + 2) 24 #[.int .u64 (loN f m : Nat), .int .u64 (hiN f m : Nat)] ∧ Below w.heap.size w wr) (fun i _ => (intOf i + 1).toNat)
  case atStart => exact ⟨0, by omega, rfl, k0, k1, k2, hB⟩
  case round =>
    obtain ⟨m, hm, rfl, b0, b1, b2, hb⟩ := hrel
    have k2c := fun i => Blk.cell b2 i
    have k2f := fun i => Blk.free b2 i
    by_cases hlt : m < 128
    · obtain ⟨n, hn⟩ : ∃ n : Nat, (127 : Int) - (m : Int) = (n : Int) := ⟨127 - m, by omega⟩
      have hn2 : n = 127 - m := by omega
      have k0n : wr.cell? ⟨w.heap.size, n, none⟩ = some (.bool (f n)) := by rw [b0.cell]; exact row_get _ (by omega)
      have e7 : (127 : Int) - ((m + 1 : Nat) : Int) = (n : Int) - 1 := by omega
      have B0 := Lib.hid b0
      have B1 := Lib.hid b1
      have B2 := Lib.hid b2
      have E7 := Lib.hid e7
      clear b0 b1 b2 e7
      have hhi := hi_lt f m
      have hlo := wd_hi f m
      rcases Nat.lt_or_ge m 64 with h64 | h64
      · have e1 := tdiv64_high (n := n) (by omega) (by omega)
        have hh := hhi (by omega)
        have h2 : 2 ^ m ≤ 2 ^ 63 := Nat.pow_le_pow_right (by omega) (by omega)
        have h3 : hiN f m < 9223372036854775808 := by
          have : (2 : Nat) ^ 63 = 9223372036854775808 := rfl
          omega
        have e3 : IntKind.u64.wrap (2 * ((hiN f m : Nat) : Int)) = 2 * ((hiN f m : Nat) : Int) := IntWalk.u64_in _ (by omega)
        have e3b : IntKind.u64.wrap (2 * ((hiN f m : Nat) : Int) + 1) = 2 * ((hiN f m : Nat) : Int) + 1 := IntWalk.u64_in _ (by omega)
        have e5 : hiN f (m + 1) = 2 * hiN f m + b2n (f n) := by show (if m < 64 then _ else _) = _; rw [if_pos h64, hn2]
        have e6 : loN f (m + 1) = loN f m := by show (if m < 64 then _ else _) = _; rw [if_pos h64]
        have E5 := Lib.hid e5
        have E6 := Lib.hid e6
        have hn3 : n < 128 := by omega
        have hn4 : 64 ≤ n := by omega
        rw [hn] at *
        clear e5 e6 hhi hlo hh h2 hn2 hn
        cases hf : f n with
        | true =>
          rw [hf] at k0n E5
          go_wp2_with fail
          go_roundw
          case rel => exact ⟨m + 1, by omega, by rw [E7.out], (B0.out.far (p := ⟨w.heap.size + 2, 1, none⟩) (by simp) _).far (p := ⟨w.heap.size + 2, 1, none⟩) (by simp) _, (B1.out.far (p := ⟨w.heap.size + 2, 1, none⟩) (by simp) _).far (p := ⟨w.heap.size + 2, 1, none⟩) (by simp) _, by rw [E5.out, E6.out]; exact (B2.out.set_ 1 _).set_ 1 _, (hb.setCell (p := ⟨w.heap.size + 2, 1, none⟩) (by simp) _).setCell (p := ⟨w.heap.size + 2, 1, none⟩) (by simp) _⟩
          case measure => simp [intOf]; try omega
        | false =>
          rw [hf] at k0n E5
          go_wp2_with fail
          go_roundw
          case rel => exact ⟨m + 1, by omega, by rw [E7.out], (B0.out.far (p := ⟨w.heap.size + 2, 1, none⟩) (by simp) _), (B1.out.far (p := ⟨w.heap.size + 2, 1, none⟩) (by simp) _), by rw [E5.out, E6.out]; exact (B2.out.set_ 1 _), (hb.setCell (p := ⟨w.heap.size + 2, 1, none⟩) (by simp) _)⟩
          case measure => simp [intOf]; try omega
      · have e1 := tdiv64_low (n := n) (by omega)
        obtain ⟨k, hk⟩ : ∃ k, m = 64 + k := ⟨m - 64, by omega⟩
        have hh := lo_lt f k
        rw [← hk] at hh
        have h2 : 2 ^ k ≤ 2 ^ 63 := Nat.pow_le_pow_right (by omega) (by omega)
        have h3 : loN f m < 9223372036854775808 := by
          have : (2 : Nat) ^ 63 = 9223372036854775808 := rfl
          omega
        have e3 : IntKind.u64.wrap (2 * ((loN f m : Nat) : Int)) = 2 * ((loN f m : Nat) : Int) := IntWalk.u64_in _ (by omega)
        have e3b : IntKind.u64.wrap (2 * ((loN f m : Nat) : Int) + 1) = 2 * ((loN f m : Nat) : Int) + 1 := IntWalk.u64_in _ (by omega)
        have e5 : loN f (m + 1) = 2 * loN f m + b2n (f n) := by show (if m < 64 then _ else _) = _; rw [if_neg (by omega), hn2]
        have e6 : hiN f (m + 1) = hiN f m := by show (if m < 64 then _ else _) = _; rw [if_neg (by omega)]
        have E5 := Lib.hid e5
        have E6 := Lib.hid e6
        have hn3 : n < 64 := by omega
        rw [hn] at *
        clear e5 e6 hhi hlo hh h2 hn2 hn hk
        cases hf : f n with
        | true =>
          rw [hf] at k0n E5
          go_wp2_with fail
          go_roundw
          case rel => exact ⟨m + 1, by omega, by rw [E7.out], (B0.out.far (p := ⟨w.heap.size + 2, 0, none⟩) (by simp) _).far (p := ⟨w.heap.size + 2, 0, none⟩) (by simp) _, (B1.out.far (p := ⟨w.heap.size + 2, 0, none⟩) (by simp) _).far (p := ⟨w.heap.size + 2, 0, none⟩) (by simp) _, by rw [E5.out, E6.out]; exact (B2.out.set_ 0 _).set_ 0 _, (hb.setCell (p := ⟨w.heap.size + 2, 0, none⟩) (by simp) _).setCell (p := ⟨w.heap.size + 2, 0, none⟩) (by simp) _⟩
          case measure => simp [intOf]; try omega
        | false =>
          rw [hf] at k0n E5
          go_wp2_with fail
          go_roundw
          case rel => exact ⟨m + 1, by omega, by rw [E7.out], (B0.out.far (p := ⟨w.heap.size + 2, 0, none⟩) (by simp) _), (B1.out.far (p := ⟨w.heap.size + 2, 0, none⟩) (by simp) _), by rw [E5.out, E6.out]; exact (B2.out.set_ 0 _), (hb.setCell (p := ⟨w.heap.size + 2, 0, none⟩) (by simp) _)⟩
          case measure => simp [intOf]; try omega
    · obtain rfl : m = 128 := by omega
      have k1c := fun i => Blk.cell b1 i
      have k1f := fun i => Blk.free b1 i
      obtain ⟨r1, hr1⟩ : ∃ r, r = ((loN f 128 : Nat) : Int) := ⟨_, rfl⟩
      obtain ⟨r2, hr2⟩ : ∃ r, r = ((hiN f 128 : Nat) : Int) := ⟨_, rfl⟩
      rw [← hr1, ← hr2] at k2c
      have R1 := Lib.hid hr1
      have R2 := Lib.hid hr2
      clear hr1 hr2 b0 b1 b2
      go_wp2
      refine bodyPost_ret (v := .agg #[.int .u64 r1, .int .u64 r2]) (by simp [results, Tryd.results48, go_sem, k1c, k1f]) rfl ?_
      exact ⟨by rw [R1.out, R2.out], set2b hb⟩
end Go.Proofs.YtlcnhpjmmjmkcaaDoor
