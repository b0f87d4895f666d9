
/-
  The program's sets, by the library's counts: bits.Prev, Count, And. No conditions beyond the kinds.
-/
import Derived.Test.YtlcnhpjmmjmkcaaDoorDoorN
set_option linter.unusedVariables false
set_option linter.unusedSimpArgs false
namespace Go.Proofs.YtlcnhpjmmjmkcaaDoor
open Go.Joins Go.ChangeShapes Go.WideShapes Go.ChangeAt Go.RowKit Go.Deep

/-- Where the words below a number end. -/
def upto (n : Int) : Int := min n 128 + 1
def prevX (x : Nat) (n : Int) : Nat := belX x (upto n)
def prevY (y : Nat) (n : Int) : Nat := belY y (upto n)
theorem bl_aux (f x : Nat) : Lib.bitLenAux f x ≤ f := by
  induction f generalizing x with
  | zero => simp [Lib.bitLenAux]
  | succ f ih =>
    have := ih (x / 2)
    rw [Lib.bitLenAux]
    split <;> omega
theorem bl_le (x : Nat) (hx : Wd x) : Lib.bitLen x ≤ 64 := bl_aux 64 x
theorem bl_aux2 (f x : Nat) (h : x < 2 ^ f) (h0 : x ≠ 0) : ∃ k, Lib.bitLenAux f x = k + 1 ∧ 2 ^ k ≤ x ∧ x < 2 ^ (k + 1) := by
  induction f generalizing x with
  | zero => simp at h; omega
  | succ f ih =>
    rw [Lib.bitLenAux, if_neg h0]
    rw [Nat.pow_succ] at h
    by_cases h2 : x / 2 = 0
    · have h1 : x = 1 := by omega
      subst h1
      refine ⟨0, ?_, by simp, by simp⟩
      cases f <;> simp [Lib.bitLenAux]
    · obtain ⟨k, e, l, u⟩ := ih (x / 2) (by omega) h2
      rw [Nat.pow_succ] at u
      refine ⟨k + 1, by omega, by rw [Nat.pow_succ]; omega, by rw [Nat.pow_succ, Nat.pow_succ]; omega⟩
/-- The greatest bit of a word that isn't 0. -/
theorem bl_spec {x : Nat} (hx : Wd x) (h0 : x ≠ 0) : ∃ k, Lib.bitLen x = k + 1 ∧ 2 ^ k ≤ x ∧ x < 2 ^ (k + 1) := bl_aux2 64 x hx h0
set_option maxRecDepth 20000 in
set_option maxHeartbeats 1000000 in
theorem bits_Prev_neg (x y : Nat) (n : Int) (w : World) (hn : n < 0) :
    Calls Tryd.prog 45 #[sv x y, .int .i64 n] w fun e w' => e = .returned (.tuple #[.int .i64 0, .bool false]) ∧ Below w.heap.size w w' := by
  have q0 : decide (n < 0) = true := decide_eq_true hn
  unfold sv
  go_enter Tryd.func45, Tryd.ntmps45
  go_wp2
  go_ret2
  exact ⟨rfl, below_alloc1 _ _⟩
set_option maxRecDepth 20000 in
set_option maxHeartbeats 4000000 in
theorem bits_Prev_pos (x y : Nat) (n : Int) (w : World) (hx : Wd x) (hy : Wd y) (hn : 0 ≤ n ∧ n ≤ 9223372036854775807) :
    Calls Tryd.prog 45 #[sv x y, .int .i64 n] w fun e w' => e = .returned (.tuple #[.int .i64 (prevI (prevX x n) (prevY y n)), .bool (nextB (prevX x n) (prevY y n))]) ∧ Below w.heap.size w w' := by
  have q0 : decide (n < 0) = false := decide_eq_false (by omega)
  have hu : 0 ≤ upto n ∧ upto n ≤ 129 := by unfold upto; omega
  have m1 : IntKind.i64.wrap (upto n) = upto n := IntWalk.i64_in _ (by omega)
  have m2 : min n 128 + 1 = upto n := rfl
  have cF := fun w => bits_Below x y (upto n) w hx hy (by unfold I64; omega)
  have hf1 := wd_belX (upto n) hx
  have hf2 := wd_belY (upto n) hy
  unfold prevX prevY
  generalize belX x (upto n) = a at *
  generalize belY y (upto n) = b at *
  have cX := fun w => bits_LZ a w hf1
  have cY := fun w => bits_LZ b w hf2
  have l1 := bl_le a hf1
  have l2 := bl_le b hf2
  unfold sv at *
  have CF := Lib.hid cF
  have CX := Lib.hid cX
  have CY := Lib.hid cY
  have e1 : prevI a b = if b ≠ 0 then 63 + (Lib.bitLen b : Int) else if a ≠ 0 then (Lib.bitLen a : Int) - 1 else 0 := rfl
  have e2 : nextB a b = (decide (a ≠ 0) || decide (b ≠ 0)) := rfl
  clear cF cX cY hf1 hf2 hx hy hn hu
  by_cases hb : b ≠ 0
  · rw [if_pos hb] at e1
    have e3 : nextB a b = true := by rw [e2]; simp [hb]
    rw [e1, e3]
    have q1 := ne_word hb
    have e4 : IntKind.i64.wrap (127 - (64 - (Lib.bitLen b : Int))) = 63 + (Lib.bitLen b : Int) := by rw [IntWalk.i64_in _ (by omega)]; omega
    clear e1 e2 e3 hb l1 l2 CX
    generalize (Lib.bitLen b : Int) = r at *
    go_enter Tryd.func45, Tryd.ntmps45
    go_wp2_with (first | ((with_reducible refine hold_list ?_ ?_); (· exact Eq.refl true)) | ((with_reducible refine hold_region ?_ ?_); (· exact Eq.refl true)) | (with_reducible refine hold_loop ?_))
    have k0 : Blk (w.alloc (.cells #[.int .u64 (x : Int), .int .u64 (y : Int)] 24)) (w.heap.size) 24 #[.int .u64 (x : Int), .int .u64 (y : Int)] := (blk_at (by simp))
    have hB : Below w.heap.size w (w.alloc (.cells #[.int .u64 (x : Int), .int .u64 (y : Int)] 24)) := (bel_at (Below.refl _ _) (.cells #[.int .u64 (x : Int), .int .u64 (y : Int)] 24))
    generalize (w.alloc (.cells #[.int .u64 (x : Int), .int .u64 (y : Int)] 24)) = w1 at *
    (try clear k0c k0f k0z); have k0c := fun i => Blk.cell k0 i; have k0f := fun i => Blk.free k0 i; have k0z := Blk.lt k0
    unfold Hold
    go_wp2_with (first | (first | ((with_reducible refine wpList_here ?_ ?_); (· exact Eq.refl true); first | ((with_reducible refine wpList_grow 5 ?_ ?_); (· exact Eq.refl true))) | ((with_reducible refine wp_region_any_here ?_ ?_); (· exact Eq.refl true); first | ((with_reducible refine wp_region_drawn 5 ?_ ?_ ?_ ?_); (· exact Eq.refl true); (· kernel_rfl); (· kernel_rfl)) | refine wp_region_grow (by kernel_rfl) (by kernel_rfl) ?_)); (try simp only [List.take_succ_cons, List.take_zero, List.drop_succ_cons, List.drop_zero]); (repeat (go_big_quiet_step ((first | (go_at_call 39; with_reducible exact grow_of (CF.out _)))))); (first | (refine wpQuiet_nil ?_; intro w' hb; replace hB := Below.trans hB (Below.mono hb (Below.size hB)); replace k0 := Blk.below k0 hb (Blk.lt k0); (try clear k0c k0f k0z); have k0c := fun i => Blk.cell k0 i; have k0f := fun i => Blk.free k0 i; have k0z := Blk.lt k0) | skip) | (with_reducible refine hold_slot 15 ?_))
    all_goals (try (go_wp2_with (with_reducible refine hold_slot 15 ?_)))
    have k9 : Blk (w'.alloc (.cells #[.int .u64 (a : Int), .int .u64 (b : Int)] 24)) w'.heap.size 24 #[.int .u64 (a : Int), .int .u64 (b : Int)] := Blk.new _ _ _
    replace k0 := Blk.alloc k0 (.cells #[.int .u64 (a : Int), .int .u64 (b : Int)] 24)
    replace hB := bel_at hB (.cells #[.int .u64 (a : Int), .int .u64 (b : Int)] 24)
    generalize w'.alloc (.cells #[.int .u64 (a : Int), .int .u64 (b : Int)] 24) = w3 at *
    (try clear k0c k0f k0z); have k0c := fun i => Blk.cell k0 i; have k0f := fun i => Blk.free k0 i; have k0z := Blk.lt k0; (try clear k9c k9f k9z); have k9c := fun i => Blk.cell k9 i; have k9f := fun i => Blk.free k9 i; have k9z := Blk.lt k9
    unfold Hold
    go_wp2_with (first | ((with_reducible refine wpList_here ?_ ?_); (· exact Eq.refl true); first | ((with_reducible refine wpList_grow 3 ?_ ?_); (· exact Eq.refl true))) | ((with_reducible refine wp_region_any_here ?_ ?_); (· exact Eq.refl true); first | ((with_reducible refine wp_region_drawn 3 ?_ ?_ ?_ ?_); (· exact Eq.refl true); (· kernel_rfl); (· kernel_rfl)) | refine wp_region_grow (by kernel_rfl) (by kernel_rfl) ?_)); (try simp only [List.take_succ_cons, List.take_zero, List.drop_succ_cons, List.drop_zero]); (repeat (go_big_quiet_step ((first | (go_at_call 53; with_reducible exact grow_same (CY.out _)))))); (first | (refine wpQuiet_nil ?_; intro w' hb; replace hB := Below.trans hB (Below.mono hb (Below.size hB)); replace k0 := Blk.below k0 hb (Blk.lt k0); replace k9 := Blk.below k9 hb (Blk.lt k9); (try clear k0c k0f k0z); have k0c := fun i => Blk.cell k0 i; have k0f := fun i => Blk.free k0 i; have k0z := Blk.lt k0; (try clear k9c k9f k9z); have k9c := fun i => Blk.cell k9 i; have k9f := fun i => Blk.free k9 i; have k9z := Blk.lt k9) | skip)
    all_goals (try (go_wp2_with (first | ((with_reducible refine wpList_here ?_ ?_); (· exact Eq.refl true); first | ((with_reducible refine wpList_grow 3 ?_ ?_); (· exact Eq.refl true))) | ((with_reducible refine wp_region_any_here ?_ ?_); (· exact Eq.refl true); first | ((with_reducible refine wp_region_drawn 3 ?_ ?_ ?_ ?_); (· exact Eq.refl true); (· kernel_rfl); (· kernel_rfl)) | refine wp_region_grow (by kernel_rfl) (by kernel_rfl) ?_)); (try simp only [List.take_succ_cons, List.take_zero, List.drop_succ_cons, List.drop_zero]); (repeat (go_big_quiet_step ((first | (go_at_call 53; with_reducible exact grow_same (CY.out _)))))); (first | (refine wpQuiet_nil ?_; intro w' hb; replace hB := Below.trans hB (Below.mono hb (Below.size hB)); replace k0 := Blk.below k0 hb (Blk.lt k0); replace k9 := Blk.below k9 hb (Blk.lt k9); (try clear k0c k0f k0z); have k0c := fun i => Blk.cell k0 i; have k0f := fun i => Blk.free k0 i; have k0z := Blk.lt k0; (try clear k9c k9f k9z); have k9c := fun i => Blk.cell k9 i; have k9f := fun i => Blk.free k9 i; have k9z := Blk.lt k9) | skip)))
    all_goals (try (go_wp2_with (first | ((with_reducible refine wpList_here ?_ ?_); (· exact Eq.refl true); first | ((with_reducible refine wpList_grow 3 ?_ ?_); (· exact Eq.refl true))) | ((with_reducible refine wp_region_any_here ?_ ?_); (· exact Eq.refl true); first | ((with_reducible refine wp_region_drawn 3 ?_ ?_ ?_ ?_); (· exact Eq.refl true); (· kernel_rfl); (· kernel_rfl)) | refine wp_region_grow (by kernel_rfl) (by kernel_rfl) ?_)); (try simp only [List.take_succ_cons, List.take_zero, List.drop_succ_cons, List.drop_zero]); (repeat (go_big_quiet_step ((first | (go_at_call 53; with_reducible exact grow_same (CY.out _)))))); (first | (refine wpQuiet_nil ?_; intro w' hb; replace hB := Below.trans hB (Below.mono hb (Below.size hB)); replace k0 := Blk.below k0 hb (Blk.lt k0); replace k9 := Blk.below k9 hb (Blk.lt k9); (try clear k0c k0f k0z); have k0c := fun i => Blk.cell k0 i; have k0f := fun i => Blk.free k0 i; have k0z := Blk.lt k0; (try clear k9c k9f k9z); have k9c := fun i => Blk.cell k9 i; have k9f := fun i => Blk.free k9 i; have k9z := Blk.lt k9) | skip)))
    go_ret2
    exact ⟨rfl, hB⟩

  · have hb0 : b = 0 := by omega
    subst hb0
    rw [if_neg (by simp)] at e1
    clear CY hb l2
    by_cases ha : a ≠ 0
    · rw [if_pos ha] at e1
      have e3 : nextB a 0 = true := by rw [e2]; simp [ha]
      rw [e1, e3]
      have q1 := ne_word ha
      have e4 : IntKind.i64.wrap (63 - (64 - (Lib.bitLen a : Int))) = (Lib.bitLen a : Int) - 1 := by rw [IntWalk.i64_in _ (by omega)]; omega
      clear e1 e2 e3 ha l1
      generalize (Lib.bitLen a : Int) = r at *
      go_enter Tryd.func45, Tryd.ntmps45
      go_wp2_with (first | ((with_reducible refine hold_list ?_ ?_); (· exact Eq.refl true)) | ((with_reducible refine hold_region ?_ ?_); (· exact Eq.refl true)) | (with_reducible refine hold_loop ?_))
      have k0 : Blk (w.alloc (.cells #[.int .u64 (x : Int), .int .u64 (y : Int)] 24)) (w.heap.size) 24 #[.int .u64 (x : Int), .int .u64 (y : Int)] := (blk_at (by simp))
      have hB : Below w.heap.size w (w.alloc (.cells #[.int .u64 (x : Int), .int .u64 (y : Int)] 24)) := (bel_at (Below.refl _ _) (.cells #[.int .u64 (x : Int), .int .u64 (y : Int)] 24))
      generalize (w.alloc (.cells #[.int .u64 (x : Int), .int .u64 (y : Int)] 24)) = w1 at *
      (try clear k0c k0f k0z); have k0c := fun i => Blk.cell k0 i; have k0f := fun i => Blk.free k0 i; have k0z := Blk.lt k0
      unfold Hold
      go_wp2_with (first | (first | ((with_reducible refine wpList_here ?_ ?_); (· exact Eq.refl true); first | ((with_reducible refine wpList_grow 5 ?_ ?_); (· exact Eq.refl true))) | ((with_reducible refine wp_region_any_here ?_ ?_); (· exact Eq.refl true); first | ((with_reducible refine wp_region_drawn 5 ?_ ?_ ?_ ?_); (· exact Eq.refl true); (· kernel_rfl); (· kernel_rfl)) | refine wp_region_grow (by kernel_rfl) (by kernel_rfl) ?_)); (try simp only [List.take_succ_cons, List.take_zero, List.drop_succ_cons, List.drop_zero]); (repeat (go_big_quiet_step ((first | (go_at_call 39; with_reducible exact grow_of (CF.out _)))))); (first | (refine wpQuiet_nil ?_; intro w' hb; replace hB := Below.trans hB (Below.mono hb (Below.size hB)); replace k0 := Blk.below k0 hb (Blk.lt k0); (try clear k0c k0f k0z); have k0c := fun i => Blk.cell k0 i; have k0f := fun i => Blk.free k0 i; have k0z := Blk.lt k0) | skip) | (with_reducible refine hold_slot 15 ?_))
      all_goals (try (go_wp2_with (with_reducible refine hold_slot 15 ?_)))
      have k9 : Blk (w'.alloc (.cells #[.int .u64 (a : Int), .int .u64 0] 24)) w'.heap.size 24 #[.int .u64 (a : Int), .int .u64 0] := Blk.new _ _ _
      replace k0 := Blk.alloc k0 (.cells #[.int .u64 (a : Int), .int .u64 0] 24)
      replace hB := bel_at hB (.cells #[.int .u64 (a : Int), .int .u64 0] 24)
      generalize w'.alloc (.cells #[.int .u64 (a : Int), .int .u64 0] 24) = w3 at *
      (try clear k0c k0f k0z); have k0c := fun i => Blk.cell k0 i; have k0f := fun i => Blk.free k0 i; have k0z := Blk.lt k0; (try clear k9c k9f k9z); have k9c := fun i => Blk.cell k9 i; have k9f := fun i => Blk.free k9 i; have k9z := Blk.lt k9
      unfold Hold
      go_wp2_with (first | ((with_reducible refine wpList_here ?_ ?_); (· exact Eq.refl true); first | ((with_reducible refine wpList_grow 3 ?_ ?_); (· exact Eq.refl true))) | ((with_reducible refine wp_region_any_here ?_ ?_); (· exact Eq.refl true); first | ((with_reducible refine wp_region_drawn 3 ?_ ?_ ?_ ?_); (· exact Eq.refl true); (· kernel_rfl); (· kernel_rfl)) | refine wp_region_grow (by kernel_rfl) (by kernel_rfl) ?_)); (try simp only [List.take_succ_cons, List.take_zero, List.drop_succ_cons, List.drop_zero]); (repeat (go_big_quiet_step ((first | (go_at_call 53; with_reducible exact grow_same (CX.out _)))))); (first | (refine wpQuiet_nil ?_; intro w' hb; replace hB := Below.trans hB (Below.mono hb (Below.size hB)); replace k0 := Blk.below k0 hb (Blk.lt k0); replace k9 := Blk.below k9 hb (Blk.lt k9); (try clear k0c k0f k0z); have k0c := fun i => Blk.cell k0 i; have k0f := fun i => Blk.free k0 i; have k0z := Blk.lt k0; (try clear k9c k9f k9z); have k9c := fun i => Blk.cell k9 i; have k9f := fun i => Blk.free k9 i; have k9z := Blk.lt k9) | skip)
      all_goals (try (go_wp2_with (first | ((with_reducible refine wpList_here ?_ ?_); (· exact Eq.refl true); first | ((with_reducible refine wpList_grow 3 ?_ ?_); (· exact Eq.refl true))) | ((with_reducible refine wp_region_any_here ?_ ?_); (· exact Eq.refl true); first | ((with_reducible refine wp_region_drawn 3 ?_ ?_ ?_ ?_); (· exact Eq.refl true); (· kernel_rfl); (· kernel_rfl)) | refine wp_region_grow (by kernel_rfl) (by kernel_rfl) ?_)); (try simp only [List.take_succ_cons, List.take_zero, List.drop_succ_cons, List.drop_zero]); (repeat (go_big_quiet_step ((first | (go_at_call 53; with_reducible exact grow_same (CX.out _)))))); (first | (refine wpQuiet_nil ?_; intro w' hb; replace hB := Below.trans hB (Below.mono hb (Below.size hB)); replace k0 := Blk.below k0 hb (Blk.lt k0); replace k9 := Blk.below k9 hb (Blk.lt k9); (try clear k0c k0f k0z); have k0c := fun i => Blk.cell k0 i; have k0f := fun i => Blk.free k0 i; have k0z := Blk.lt k0; (try clear k9c k9f k9z); have k9c := fun i => Blk.cell k9 i; have k9f := fun i => Blk.free k9 i; have k9z := Blk.lt k9) | skip)))
      all_goals (try (go_wp2_with (first | ((with_reducible refine wpList_here ?_ ?_); (· exact Eq.refl true); first | ((with_reducible refine wpList_grow 3 ?_ ?_); (· exact Eq.refl true))) | ((with_reducible refine wp_region_any_here ?_ ?_); (· exact Eq.refl true); first | ((with_reducible refine wp_region_drawn 3 ?_ ?_ ?_ ?_); (· exact Eq.refl true); (· kernel_rfl); (· kernel_rfl)) | refine wp_region_grow (by kernel_rfl) (by kernel_rfl) ?_)); (try simp only [List.take_succ_cons, List.take_zero, List.drop_succ_cons, List.drop_zero]); (repeat (go_big_quiet_step ((first | (go_at_call 53; with_reducible exact grow_same (CX.out _)))))); (first | (refine wpQuiet_nil ?_; intro w' hb; replace hB := Below.trans hB (Below.mono hb (Below.size hB)); replace k0 := Blk.below k0 hb (Blk.lt k0); replace k9 := Blk.below k9 hb (Blk.lt k9); (try clear k0c k0f k0z); have k0c := fun i => Blk.cell k0 i; have k0f := fun i => Blk.free k0 i; have k0z := Blk.lt k0; (try clear k9c k9f k9z); have k9c := fun i => Blk.cell k9 i; have k9f := fun i => Blk.free k9 i; have k9z := Blk.lt k9) | skip)))
      go_ret2
      exact ⟨rfl, hB⟩

    · have ha0 : a = 0 := by omega
      subst ha0
      rw [if_neg (by simp)] at e1
      have e3 : nextB 0 0 = false := by rw [e2]; simp
      rw [e1, e3]
      clear e1 e2 e3 ha l1
      go_enter Tryd.func45, Tryd.ntmps45
      go_wp2_with (first | ((with_reducible refine hold_list ?_ ?_); (· exact Eq.refl true)) | ((with_reducible refine hold_region ?_ ?_); (· exact Eq.refl true)) | (with_reducible refine hold_loop ?_))
      have k0 : Blk (w.alloc (.cells #[.int .u64 (x : Int), .int .u64 (y : Int)] 24)) (w.heap.size) 24 #[.int .u64 (x : Int), .int .u64 (y : Int)] := (blk_at (by simp))
      have hB : Below w.heap.size w (w.alloc (.cells #[.int .u64 (x : Int), .int .u64 (y : Int)] 24)) := (bel_at (Below.refl _ _) (.cells #[.int .u64 (x : Int), .int .u64 (y : Int)] 24))
      generalize (w.alloc (.cells #[.int .u64 (x : Int), .int .u64 (y : Int)] 24)) = w1 at *
      (try clear k0c k0f k0z); have k0c := fun i => Blk.cell k0 i; have k0f := fun i => Blk.free k0 i; have k0z := Blk.lt k0
      unfold Hold
      go_wp2_with (first | (first | ((with_reducible refine wpList_here ?_ ?_); (· exact Eq.refl true); first | ((with_reducible refine wpList_grow 5 ?_ ?_); (· exact Eq.refl true))) | ((with_reducible refine wp_region_any_here ?_ ?_); (· exact Eq.refl true); first | ((with_reducible refine wp_region_drawn 5 ?_ ?_ ?_ ?_); (· exact Eq.refl true); (· kernel_rfl); (· kernel_rfl)) | refine wp_region_grow (by kernel_rfl) (by kernel_rfl) ?_)); (try simp only [List.take_succ_cons, List.take_zero, List.drop_succ_cons, List.drop_zero]); (repeat (go_big_quiet_step ((first | (go_at_call 39; with_reducible exact grow_of (CF.out _)))))); (first | (refine wpQuiet_nil ?_; intro w' hb; replace hB := Below.trans hB (Below.mono hb (Below.size hB)); replace k0 := Blk.below k0 hb (Blk.lt k0); (try clear k0c k0f k0z); have k0c := fun i => Blk.cell k0 i; have k0f := fun i => Blk.free k0 i; have k0z := Blk.lt k0) | skip) | (with_reducible refine hold_slot 15 ?_))
      all_goals (try (go_wp2_with (with_reducible refine hold_slot 15 ?_)))
      have k9 : Blk (w'.alloc (.cells #[.int .u64 0, .int .u64 0] 24)) w'.heap.size 24 #[.int .u64 0, .int .u64 0] := Blk.new _ _ _
      replace k0 := Blk.alloc k0 (.cells #[.int .u64 0, .int .u64 0] 24)
      replace hB := bel_at hB (.cells #[.int .u64 0, .int .u64 0] 24)
      generalize w'.alloc (.cells #[.int .u64 0, .int .u64 0] 24) = w3 at *
      (try clear k0c k0f k0z); have k0c := fun i => Blk.cell k0 i; have k0f := fun i => Blk.free k0 i; have k0z := Blk.lt k0; (try clear k9c k9f k9z); have k9c := fun i => Blk.cell k9 i; have k9f := fun i => Blk.free k9 i; have k9z := Blk.lt k9
      unfold Hold
      go_wp2
      go_ret2
      exact ⟨rfl, hB⟩

set_option maxRecDepth 20000 in
set_option maxHeartbeats 1000000 in
theorem bits_Count (x y : Nat) (w : World) (hx : Wd x) (hy : Wd y) :
    Calls Tryd.prog 29 #[sv x y] w fun e w' => e = .returned (.int .i64 ((popN x 64 : Nat) + (popN y 64 : Nat))) ∧ Below w.heap.size w w' := by
  have cX := fun w => bits_Ones x w hx
  have cY := fun w => bits_Ones y w hy
  have l1 := popN_le x 64
  have l2 := popN_le y 64
  have e1 : IntKind.i64.wrap (((popN x 64 : Nat) : Int) + ((popN y 64 : Nat) : Int)) = ((popN x 64 : Nat) : Int) + ((popN y 64 : Nat) : Int) := IntWalk.i64_in _ (by omega)
  unfold sv
  have CX := Lib.hid cX
  have CY := Lib.hid cY
  clear cX cY hx hy l1 l2
  generalize ((popN x 64 : Nat) : Int) = p at *
  generalize ((popN y 64 : Nat) : Int) = q at *
  go_enter Tryd.func29, Tryd.ntmps29
  go_wp2_with (first | ((with_reducible refine hold_list ?_ ?_); (· exact Eq.refl true)) | ((with_reducible refine hold_region ?_ ?_); (· exact Eq.refl true)) | (with_reducible refine hold_loop ?_))
  have k0 : Blk (w.alloc (.cells #[.int .u64 (x : Int), .int .u64 (y : Int)] 24)) (w.heap.size) 24 #[.int .u64 (x : Int), .int .u64 (y : Int)] := (blk_at (by simp))
  have hB : Below w.heap.size w (w.alloc (.cells #[.int .u64 (x : Int), .int .u64 (y : Int)] 24)) := (bel_at (Below.refl _ _) (.cells #[.int .u64 (x : Int), .int .u64 (y : Int)] 24))
  generalize (w.alloc (.cells #[.int .u64 (x : Int), .int .u64 (y : Int)] 24)) = w1 at *
  (try clear k0c k0f k0z); have k0c := fun i => Blk.cell k0 i; have k0f := fun i => Blk.free k0 i; have k0z := Blk.lt k0
  unfold Hold
  go_wp2_with (first | ((with_reducible refine wpList_here ?_ ?_); (· exact Eq.refl true); first | ((with_reducible refine wpList_grow 6 ?_ ?_); (· exact Eq.refl true)) | ((with_reducible refine wpList_grow 99 ?_ ?_); (· exact Eq.refl true))) | ((with_reducible refine wp_region_any_here ?_ ?_); (· exact Eq.refl true); first | ((with_reducible refine wp_region_drawn 6 ?_ ?_ ?_ ?_); (· exact Eq.refl true); (· kernel_rfl); (· kernel_rfl)) | ((with_reducible refine wp_region_drawn 99 ?_ ?_ ?_ ?_); (· exact Eq.refl true); (· kernel_rfl); (· kernel_rfl)) | refine wp_region_grow (by kernel_rfl) (by kernel_rfl) ?_)); (try simp only [List.take_succ_cons, List.take_zero, List.drop_succ_cons, List.drop_zero]); (repeat (go_big_quiet_step ((first | (go_at_call 51; with_reducible exact grow_same (CX.out _)) | (go_at_call 51; with_reducible exact grow_same (CY.out _)))))); (first | (refine wpQuiet_nil ?_; intro w' hb; replace hB := Below.trans hB (Below.mono hb (Below.size hB)); replace k0 := Blk.below k0 hb (Blk.lt k0); (try clear k0c k0f k0z); have k0c := fun i => Blk.cell k0 i; have k0f := fun i => Blk.free k0 i; have k0z := Blk.lt k0) | skip)
  all_goals (try (go_wp2_with (first | ((with_reducible refine wpList_here ?_ ?_); (· exact Eq.refl true); first | ((with_reducible refine wpList_grow 6 ?_ ?_); (· exact Eq.refl true)) | ((with_reducible refine wpList_grow 99 ?_ ?_); (· exact Eq.refl true))) | ((with_reducible refine wp_region_any_here ?_ ?_); (· exact Eq.refl true); first | ((with_reducible refine wp_region_drawn 6 ?_ ?_ ?_ ?_); (· exact Eq.refl true); (· kernel_rfl); (· kernel_rfl)) | ((with_reducible refine wp_region_drawn 99 ?_ ?_ ?_ ?_); (· exact Eq.refl true); (· kernel_rfl); (· kernel_rfl)) | refine wp_region_grow (by kernel_rfl) (by kernel_rfl) ?_)); (try simp only [List.take_succ_cons, List.take_zero, List.drop_succ_cons, List.drop_zero]); (repeat (go_big_quiet_step ((first | (go_at_call 51; with_reducible exact grow_same (CX.out _)) | (go_at_call 51; with_reducible exact grow_same (CY.out _)))))); (first | (refine wpQuiet_nil ?_; intro w' hb; replace hB := Below.trans hB (Below.mono hb (Below.size hB)); replace k0 := Blk.below k0 hb (Blk.lt k0); (try clear k0c k0f k0z); have k0c := fun i => Blk.cell k0 i; have k0f := fun i => Blk.free k0 i; have k0z := Blk.lt k0) | skip)))
  all_goals (try (go_wp2_with (first | ((with_reducible refine wpList_here ?_ ?_); (· exact Eq.refl true); first | ((with_reducible refine wpList_grow 6 ?_ ?_); (· exact Eq.refl true)) | ((with_reducible refine wpList_grow 99 ?_ ?_); (· exact Eq.refl true))) | ((with_reducible refine wp_region_any_here ?_ ?_); (· exact Eq.refl true); first | ((with_reducible refine wp_region_drawn 6 ?_ ?_ ?_ ?_); (· exact Eq.refl true); (· kernel_rfl); (· kernel_rfl)) | ((with_reducible refine wp_region_drawn 99 ?_ ?_ ?_ ?_); (· exact Eq.refl true); (· kernel_rfl); (· kernel_rfl)) | refine wp_region_grow (by kernel_rfl) (by kernel_rfl) ?_)); (try simp only [List.take_succ_cons, List.take_zero, List.drop_succ_cons, List.drop_zero]); (repeat (go_big_quiet_step ((first | (go_at_call 51; with_reducible exact grow_same (CX.out _)) | (go_at_call 51; with_reducible exact grow_same (CY.out _)))))); (first | (refine wpQuiet_nil ?_; intro w' hb; replace hB := Below.trans hB (Below.mono hb (Below.size hB)); replace k0 := Blk.below k0 hb (Blk.lt k0); (try clear k0c k0f k0z); have k0c := fun i => Blk.cell k0 i; have k0f := fun i => Blk.free k0 i; have k0z := Blk.lt k0) | skip)))
  go_ret
  exact ⟨rfl, hB⟩
set_option maxRecDepth 20000 in
set_option maxHeartbeats 1000000 in
theorem bits_And (x y x' y' : Nat) (w : World) (hx : Wd x) (hy : Wd y) (hx' : Wd x') (hy' : Wd y') : Calls Tryd.prog 20 #[sv x y, sv x' y'] w fun e w' => e = .returned (sv (x &&& x') (y &&& y')) ∧ Below w.heap.size w w' := by
  unfold sv
  have a1 := and_word x x' hx hx'
  have a2 := and_word y y' hy hy'
  generalize ((x &&& x' : Nat) : Int) = r1 at *
  generalize ((y &&& y' : Nat) : Int) = r2 at *
  clear hx hy hx' hy'
  go_enter Tryd.func20, Tryd.ntmps20
  go_wp2
  refine bodyPost_ret (v := .agg #[.int .u64 r1, .int .u64 r2]) (by simp [results, Tryd.results20, go_sem]) rfl ?_
  exact ⟨rfl, bel3 _ _ _ _⟩
end Go.Proofs.YtlcnhpjmmjmkcaaDoor
