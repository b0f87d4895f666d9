
/-
  The document's sets: hoistwayref03.Row. No conditions beyond the kinds.
-/
import Derived.Test.YtlcnhpjmmjmkcaaDoorRow
set_option linter.unusedVariables false
set_option linter.unusedSimpArgs false
namespace Go.Proofs.YtlcnhpjmmjmkcaaDoor
open Go.Joins Go.ChangeShapes Go.WideShapes Go.ChangeAt Go.RowKit Go.Deep

/-- The words while their bits are read off. -/
def hxN (x : Nat) : Nat → Nat
  | 0 => x
  | n + 1 => if n < 64 then hxN x n / 2 else hxN x n
def hyN (y : Nat) : Nat → Nat
  | 0 => y
  | n + 1 => if n < 64 then hyN y n else hyN y n / 2
theorem wd_hx {x : Nat} (h : Wd x) (n : Nat) : Wd (hxN x n) := by
  induction n with
  | zero => exact h
  | succ n ih => unfold hxN; split; (exact Nat.lt_of_le_of_lt (Nat.div_le_self _ _) ih); exact ih
theorem wd_hy {x : Nat} (h : Wd x) (n : Nat) : Wd (hyN x n) := by
  induction n with
  | zero => exact h
  | succ n ih => unfold hyN; split; exact ih; exact Nat.lt_of_le_of_lt (Nat.div_le_self _ _) ih
theorem hx_eq (x n : Nat) (h : n ≤ 64) : hxN x n = x / 2 ^ n := by
  induction n with
  | zero => simp [hxN]
  | succ n ih =>
    unfold hxN
    rw [if_pos (by omega), ih (by omega), Nat.div_div_eq_div_mul, Nat.pow_succ]
theorem hy_low (y n : Nat) (h : n ≤ 64) : hyN y n = y := by
  induction n with
  | zero => rfl
  | succ n ih =>
    unfold hyN
    rw [if_pos (by omega), ih (by omega)]
theorem hy_eq (y m : Nat) : hyN y (64 + m) = y / 2 ^ m := by
  induction m with
  | zero => rw [Nat.add_zero, hy_low y 64 (by omega)]; simp
  | succ m ih =>
    rw [show 64 + (m + 1) = (64 + m) + 1 by omega]
    unfold hyN
    rw [if_neg (by omega), ih, Nat.div_div_eq_div_mul, Nat.pow_succ]
theorem hx_bit (x y n : Nat) (h : n < 64) : (((hxN x n % 2 : Nat) : Int) == 1) = memB x y (n : Int) := by
  rw [hx_eq x n (by omega), bit_eq, mem_low h]
theorem hy_bit (x y n : Nat) (h : 64 ≤ n) (h2 : n < 128) : (((hyN y n % 2 : Nat) : Int) == 1) = memB x y (n : Int) := by
  obtain ⟨m, rfl⟩ : ∃ m, n = 64 + m := ⟨n - 64, by omega⟩
  rw [hy_eq y m, bit_eq]
  have := mem_high (x := x) (y := y) (m := m) (by omega)
  rw [← this]
  congr 1
  omega
def bitsF (x y : Nat) (i : Nat) : Bool := memB x y (i : Int)
def partF (x y n : Nat) (i : Nat) : Bool := decide (i < n) && bitsF x y i
theorem part_succ (x y n : Nat) : rowA (fun j => if j = n then memB x y (n : Int) else partF x y n j) = rowA (partF x y (n + 1)) := by
  apply row_ext
  intro i _
  unfold partF bitsF
  by_cases h : i = n
  · subst h; simp
  · rw [if_neg h]
    by_cases h2 : i < n
    · simp [h2]; omega
    · have : ¬ i < n + 1 := by omega
      simp [h2, this]
theorem part_full (x y : Nat) : rowA (partF x y 128) = rowA (bitsF x y) := row_ext fun i hi => by simp [partF, hi]
theorem tdiv64_low {n : Nat} (h : n < 64) : Int.tdiv (n : Int) 64 = 0 := by
  rw [Int.tdiv_eq_ediv_of_nonneg (by omega)]; omega
theorem tdiv64_high {n : Nat} (h : 64 ≤ n) (h2 : n < 128) : Int.tdiv (n : Int) 64 = 1 := by
  rw [Int.tdiv_eq_ediv_of_nonneg (by omega)]; omega
set_option maxRecDepth 20000 in
set_option maxHeartbeats 4000000 in
theorem ref03_Row (x y : Nat) (w : World) (hx : Wd x) (hy : Wd y) : Calls Tryd.prog 50 #[sv x y] w fun e w' => e = .returned (.agg (rowA (bitsF x y))) ∧ Below w.heap.size w w' := by
  unfold sv
  have z := row_zero
  go_enter Tryd.func50, Tryd.ntmps50
  go_wp2
  have k0 : Blk (((w.alloc (.cells #[.int .u64 (x : Int), .int .u64 (y : Int)] 24)).alloc (.cells (rowA fun _ => false) 61)).alloc (.cells (rowA fun _ => false) 61)) (w.heap.size) 24 #[.int .u64 (x : Int), .int .u64 (y : Int)] := (Blk.alloc (Blk.alloc (blk_at (by simp)) (.cells (rowA fun _ => false) 61)) (.cells (rowA fun _ => false) 61))
  have k1 : Blk (((w.alloc (.cells #[.int .u64 (x : Int), .int .u64 (y : Int)] 24)).alloc (.cells (rowA fun _ => false) 61)).alloc (.cells (rowA fun _ => false) 61)) (w.heap.size + 1) 61 (rowA fun _ => false) := (Blk.alloc (blk_at (by simp)) (.cells (rowA fun _ => false) 61))
  have k2 : Blk (((w.alloc (.cells #[.int .u64 (x : Int), .int .u64 (y : Int)] 24)).alloc (.cells (rowA fun _ => false) 61)).alloc (.cells (rowA fun _ => false) 61)) (w.heap.size + 2) 61 (rowA fun _ => false) := (blk_at (by simp))
  have hB : Below w.heap.size w (((w.alloc (.cells #[.int .u64 (x : Int), .int .u64 (y : Int)] 24)).alloc (.cells (rowA fun _ => false) 61)).alloc (.cells (rowA fun _ => false) 61)) := (bel_at (bel_at (bel_at (Below.refl _ _) (.cells #[.int .u64 (x : Int), .int .u64 (y : Int)] 24)) (.cells (rowA fun _ => false) 61)) (.cells (rowA fun _ => false) 61))
  generalize (((w.alloc (.cells #[.int .u64 (x : Int), .int .u64 (y : Int)] 24)).alloc (.cells (rowA fun _ => false) 61)).alloc (.cells (rowA fun _ => false) 61)) = w1 at *
  (try clear k0c k0f k0z); have k0c := fun i => Blk.cell k0 i; have k0f := fun i => Blk.free k0 i; have k0z := Blk.lt k0; (try clear k1c k1f k1z); have k1c := fun i => Blk.cell k1 i; have k1f := fun i => Blk.free k1 i; have k1z := Blk.lt k1; (try clear k2c k2f k2z); have k2c := fun i => Blk.cell k2 i; have k2f := fun i => Blk.free k2 i; have k2z := Blk.lt k2
  have hp0 : rowA (fun _ => false) = rowA (partF x y 0) := row_ext fun i _ => by simp [partF]
  rw [hp0] at k2
  have K1 := Lib.hid k1
  clear k0c k0f k0z k1c k1f k1z k2c k2f k2z k1
  go_loopw [4] (fun i wr => ∃ n : Nat, n ≤ 128 ∧ i = .int .i64 n ∧ Blk wr w.heap.size 24 #[.int .u64 (hxN x n : Nat), .int .u64 (hyN y n : Nat)] ∧ Blk wr (w.heap.size + 1) 61 (rowA fun _ => false) ∧ Blk wr (w.heap.size + 2) 61 (rowA (partF x y n)) ∧ Below w.heap.size w wr) (fun i _ => 128 - (intOf i).toNat)
  case atStart => exact ⟨0, by omega, rfl, k0, K1.out, k2, hB⟩
  case round =>
    obtain ⟨n, hn, rfl, b0, b1, b2, hb⟩ := hrel
    have k0c := fun i => Blk.cell b0 i
    have k0f := fun i => Blk.free b0 i
    have k2f := fun i => Blk.free b2 i
    by_cases hlt : n < 128
    · have k2n : wr.cell? ⟨w.heap.size + 2, n, none⟩ = some (.bool (partF x y n n)) := by rw [b2.cell]; exact row_get _ hlt
      have q1 : decide ((n : Int) < 128) = true := decide_eq_true (by omega)
      have B0 := Lib.hid b0
      have B1 := Lib.hid b1
      have B2 := Lib.hid b2
      clear b0 b1 b2
      have hs : (rowA (partF x y n)).setIfInBounds n (.bool (memB x y (n : Int))) = rowA (partF x y (n + 1)) := by rw [row_set, part_succ]
      rcases Nat.lt_or_ge n 64 with h64 | h64
      · have e1 := tdiv64_low h64
        have e4 : (((hxN x n : Nat) : Int) % 2 == 1) = memB x y (n : Int) := by rw [← hx_bit x y n h64]; rfl
        have e5 : hxN x (n + 1) = hxN x n / 2 := by show (if n < 64 then _ else _) = _; rw [if_pos h64]
        have e6 : hyN y (n + 1) = hyN y n := by show (if n < 64 then _ else _) = _; rw [if_pos h64]
        have e3 : IntKind.u64.wrap (((hxN x n : Nat) : Int) / 2) = ((hxN x (n + 1) : Nat) : Int) := by
          rw [e5, IntWalk.u64_in _ (by have := wd_hx hx n; unfold Wd at this; omega)]; rfl
        have RX := Lib.hid e6
        generalize memB x y (n : Int) = r at *
        obtain ⟨v, hv⟩ : ∃ v, v = hxN x (n + 1) := ⟨_, rfl⟩
        rw [← hv] at e3
        have HV := Lib.hid hv
        clear hv e5 e6
        go_wp2_with fail
        go_roundw
        case rel => exact ⟨n + 1, by omega, by go_num, by rw [← HV.out, RX.out]; exact (B0.out.far (p := ⟨w.heap.size + 2, n, none⟩) (by simp) _).set_ 0 _, (B1.out.far (p := ⟨w.heap.size + 2, n, none⟩) (by simp) _).far (p := ⟨w.heap.size, 0, none⟩) (by simp) _, by rw [← hs]; exact (B2.out.set_ n _).far (p := ⟨w.heap.size, 0, none⟩) (by simp) _, (hb.setCell (p := ⟨w.heap.size + 2, n, none⟩) (by simp) _).setCell (p := ⟨w.heap.size, 0, none⟩) (by simp) _⟩
        case measure => simp [intOf]; omega
      · have e1 := tdiv64_high h64 hlt
        have e4 : (((hyN y n : Nat) : Int) % 2 == 1) = memB x y (n : Int) := by rw [← hy_bit x y n h64 hlt]; rfl
        have e5 : hxN x (n + 1) = hxN x n := by show (if n < 64 then _ else _) = _; rw [if_neg (by omega)]
        have e6 : hyN y (n + 1) = hyN y n / 2 := by show (if n < 64 then _ else _) = _; rw [if_neg (by omega)]
        have e3 : IntKind.u64.wrap (((hyN y n : Nat) : Int) / 2) = ((hyN y (n + 1) : Nat) : Int) := by
          rw [e6, IntWalk.u64_in _ (by have := wd_hy hy n; unfold Wd at this; omega)]; rfl
        have RX := Lib.hid e5
        generalize memB x y (n : Int) = r at *
        obtain ⟨v, hv⟩ : ∃ v, v = hyN y (n + 1) := ⟨_, rfl⟩
        rw [← hv] at e3
        have HV := Lib.hid hv
        clear hv e5 e6
        go_wp2_with fail
        go_roundw
        case rel => exact ⟨n + 1, by omega, by go_num, by rw [← HV.out, RX.out]; exact (B0.out.far (p := ⟨w.heap.size + 2, n, none⟩) (by simp) _).set_ 1 _, (B1.out.far (p := ⟨w.heap.size + 2, n, none⟩) (by simp) _).far (p := ⟨w.heap.size, 1, none⟩) (by simp) _, by rw [← hs]; exact (B2.out.set_ n _).far (p := ⟨w.heap.size, 1, none⟩) (by simp) _, (hb.setCell (p := ⟨w.heap.size + 2, n, none⟩) (by simp) _).setCell (p := ⟨w.heap.size, 1, none⟩) (by simp) _⟩
        case measure => simp [intOf]; omega
    · obtain rfl : n = 128 := by omega
      rw [part_full] at b2
      have hB2 := below_row (b := w.heap.size + 1) (c' := rowA (bitsF x y)) hb (by omega)
      have B1 := blk_row (c' := rowA (bitsF x y)) b1
      clear k0c k0f k2f
      have S := row_store (g := bitsF x y) b1
      go_wp2_with (first | ((with_reducible refine row_load_step ?_ b2 ?_); (· rfl); simp only [Act.put, List.setIfInBounds_toArray, List.set_cons_succ, List.set_cons_zero]) | ((with_reducible refine row_store_step ?_ ?_ b1 ?_); (· rfl); (· rfl)))
      all_goals (try (go_wp2_with (first | ((with_reducible refine row_load_step ?_ b2 ?_); (· rfl); simp only [Act.put, List.setIfInBounds_toArray, List.set_cons_succ, List.set_cons_zero]) | ((with_reducible refine row_store_step ?_ ?_ b1 ?_); (· rfl); (· rfl)))))
      all_goals (try (go_wp2_with (first | ((with_reducible refine row_load_step ?_ b2 ?_); (· rfl); simp only [Act.put, List.setIfInBounds_toArray, List.set_cons_succ, List.set_cons_zero]) | ((with_reducible refine row_store_step ?_ ?_ b1 ?_); (· rfl); (· rfl)))))
      refine bodyPost_ret (v := .agg (rowA (bitsF x y))) (row_result Tryd.results50 rfl B1) rfl ⟨rfl, hB2⟩
end Go.Proofs.YtlcnhpjmmjmkcaaDoor
