
/-
  want.Nearest, want.Last: the first and the last of those that lie on. Condition: the library's table lies as laid.
-/
import Derived.Test.YtlcnhpjmmjmkcaaDoorAll
import Derived.Test.YtlcnhpjmmjmkcaaDoorFace
import Derived.Test.YtlcnhpjmmjmkcaaDoorRef30c
set_option linter.unusedVariables false
set_option linter.unusedSimpArgs false
namespace Go.Proofs.YtlcnhpjmmjmkcaaDoor
open Go.Joins Go.ChangeShapes Go.WideShapes Go.ChangeAt Go.RowKit Go.Deep

theorem items_filter {x y a b : Nat} {p : Int → Bool} (h : ∀ k : Int, memB a b k = (memB x y k && p k)) : items a b = (items x y).filter p := by
  unfold items preI
  rw [List.filter_map, List.filter_filter]
  congr 1
  apply List.filter_congr
  intro i _
  unfold bitsF
  rw [h (i : Int), Bool.and_comm]
  rfl
theorem bey_items {x y : Nat} (hx : Wd x) (hy : Wd y) (f d : Int) : items (beyX x f d) (beyY y f d) = (items x y).filter (onP f d) := items_filter fun k => by rw [mem_bey hx hy]; rfl
theorem bey_row {x y : Nat} (hx : Wd x) (hy : Wd y) (f d : Int) : beyL x y f d = if d < 0 then (items (beyX x f d) (beyY y f d)).reverse else items (beyX x f d) (beyY y f d) := by
  rw [bey_items hx hy]
  unfold beyL beyS
  split
  · rw [List.filter_reverse]
  · rfl
theorem bey_zero {x y : Nat} (hx : Wd x) (hy : Wd y) (f : Int) : items (beyX x f 0) (beyY y f 0) = [] := by
  rw [bey_items hx hy]
  apply List.filter_eq_nil_iff.2
  intro a _
  unfold onP
  simp
theorem leL_last (n : Int) (l : List Int) (h : ∀ v ∈ l, v ≤ n) : leL n l = hdL l.reverse := by
  rcases List.eq_nil_or_concat l with rfl | ⟨a, v, rfl⟩
  · rfl
  · rw [List.concat_eq_append] at h ⊢
    rw [leL_snoc, if_pos (h v (by simp)), List.reverse_append]
    rfl
/-- Nearest and Last, by the row. -/
theorem near_row {x y : Nat} (hx : Wd x) (hy : Wd y) (f d : Int) : (if 0 < d then geL 0 (0, false) (items (beyX x f d) (beyY y f d)) else leL 128 (items (beyX x f d) (beyY y f d))) = hdL (beyL x y f d) := by
  have h0 : ∀ v ∈ items (beyX x f d) (beyY y f d), 0 ≤ v := fun v hv => (item_in hv).1
  have h1 : ∀ v ∈ items (beyX x f d) (beyY y f d), v ≤ 128 := fun v hv => by have := (item_in hv).2; omega
  rw [bey_row hx hy]
  by_cases hd : 0 < d
  · rw [if_pos hd, if_neg (by omega), geL_high 0 _ h0]
  · rw [if_neg hd, leL_last 128 _ h1]
    by_cases hn : d < 0
    · rw [if_pos hn]
    · obtain rfl : d = 0 := by omega
      rw [if_neg hn, bey_zero hx hy]
      rfl
theorem last_row {x y : Nat} (hx : Wd x) (hy : Wd y) (f d : Int) : (if 0 < d then leL 128 (items (beyX x f d) (beyY y f d)) else geL 0 (0, false) (items (beyX x f d) (beyY y f d))) = hdL (beyL x y f d).reverse := by
  have h0 : ∀ v ∈ items (beyX x f d) (beyY y f d), 0 ≤ v := fun v hv => (item_in hv).1
  have h1 : ∀ v ∈ items (beyX x f d) (beyY y f d), v ≤ 128 := fun v hv => by have := (item_in hv).2; omega
  rw [bey_row hx hy]
  by_cases hd : 0 < d
  · rw [if_pos hd, if_neg (by omega), leL_last 128 _ h1]
  · rw [if_neg hd, geL_high 0 _ h0]
    by_cases hn : d < 0
    · rw [if_pos hn, List.reverse_reverse]
    · obtain rfl : d = 0 := by omega
      rw [if_neg hn, bey_zero hx hy]
      rfl
/-- What Prev finds, by the row. -/
theorem bits_PrevL (x y : Nat) (n : Int) (w : World) (hx : Wd x) (hy : Wd y) (hn : I64 n) :
    Calls Tryd.prog 45 #[sv x y, .int .i64 n] w fun e w' => e = .returned (.tuple #[.int .i64 (leL n (items x y)).1, .bool (leL n (items x y)).2]) ∧ Below w.heap.size w w' := by
  rcases Int.lt_or_le n 0 with h | h
  · rw [prev_neg x y n h]
    exact bits_Prev_neg x y n w h
  · rw [prev_of x y n hx hy h]
    exact bits_Prev_pos x y n w hx hy ⟨h, hn.2⟩
theorem bits_NextG (x y : Nat) (n : Int) (w : World) (hx : Wd x) (hy : Wd y) (hn : I64 n) (hT : Tab w) :
    Calls Tryd.prog 44 #[sv x y, .int .i64 n] w fun e w' => e = .returned (.tuple #[.int .i64 (geL n (0, false) (items x y)).1, .bool (geL n (0, false) (items x y)).2]) ∧ Below w.heap.size w w' := by
  rw [next_of x y n hx hy]
  exact bits_Next x y n w hx hy hn hT
set_option maxRecDepth 20000 in
set_option maxHeartbeats 4000000 in
theorem want_Nearest (x y : Nat) (f d : Int) (w : World) (hx : Wd x) (hy : Wd y) (hf : -1000000 ≤ f ∧ f ≤ 1000000) (hd : I64 d) (hT : Tab w) :
    Calls Tryd.prog 10 #[sv x y, .int .i64 f, .int .i64 d] w fun e w' => e = .returned (.tuple #[.int .i64 (hdL (beyL x y f d)).1, .bool (hdL (beyL x y f d)).2]) ∧ Below w.heap.size w w' := by
  have cB := fun w => want_Beyond x y f d w hx hy hf hd
  have cN := fun w hT => bits_NextG (beyX x f d) (beyY y f d) 0 w (wd_beyX f d hx) (wd_beyY f d hy) (by unfold I64; omega) hT
  have cP := fun w => bits_PrevL (beyX x f d) (beyY y f d) 128 w (wd_beyX f d hx) (wd_beyY f d hy) (by unfold I64; omega)
  rw [← near_row hx hy]
  unfold sv at *
  generalize items (beyX x f d) (beyY y f d) = T at *
  generalize (beyX x f d : Int) = b1 at *
  generalize (beyY y f d : Int) = b2 at *
  have CB := Lib.hid cB
  have CN := Lib.hid cN
  have CP := Lib.hid cP
  have HT := Lib.hid hT
  by_cases h1 : 0 < d
  · have q1 : decide (0 < d) = true := decide_eq_true h1
    rw [if_pos h1]
    clear cB cN cP hT hx hy hf hd h1 CP
    generalize (geL 0 (0, false) T).1 = z1 at *
    generalize (geL 0 (0, false) T).2 = z2 at *
    go_enter Tryd.func10, Tryd.ntmps10
    go_wp2_with (first | ((with_reducible refine hold_list ?_ ?_); (· exact Eq.refl true)) | ((with_reducible refine hold_region ?_ ?_); (· exact Eq.refl true)) | (with_reducible refine hold_loop ?_))
    have k0 : Blk (w.alloc (.cells #[.int .u64 (x : Int), .int .u64 (y : Int)] 24)) (w.heap.size) 24 #[.int .u64 (x : Int), .int .u64 (y : Int)] := (blk_at (by simp))
    have hB : Below w.heap.size w (w.alloc (.cells #[.int .u64 (x : Int), .int .u64 (y : Int)] 24)) := (bel_at (Below.refl _ _) (.cells #[.int .u64 (x : Int), .int .u64 (y : Int)] 24))
    generalize (w.alloc (.cells #[.int .u64 (x : Int), .int .u64 (y : Int)] 24)) = w1 at *
    (try clear k0c k0f k0z); have k0c := fun i => Blk.cell k0 i; have k0f := fun i => Blk.free k0 i; have k0z := Blk.lt k0
    unfold Hold
    go_wp2_with (first | (first | ((with_reducible refine wpList_here ?_ ?_); (· exact Eq.refl true); first | ((with_reducible refine wpList_grow 4 ?_ ?_); (· exact Eq.refl true))) | ((with_reducible refine wp_region_any_here ?_ ?_); (· exact Eq.refl true); first | ((with_reducible refine wp_region_drawn 4 ?_ ?_ ?_ ?_); (· exact Eq.refl true); (· kernel_rfl); (· kernel_rfl)) | refine wp_region_grow (by kernel_rfl) (by kernel_rfl) ?_)); (try simp only [List.take_succ_cons, List.take_zero, List.drop_succ_cons, List.drop_zero]); (repeat (go_big_quiet_step ((first | (go_at_call 12; with_reducible exact grow_of (CB.out _)))))); (first | (refine wpQuiet_nil ?_; intro w' hb; replace hB := Below.trans hB (Below.mono hb (Below.size hB)); replace k0 := Blk.below k0 hb (Blk.lt k0); (try clear k0c k0f k0z); have k0c := fun i => Blk.cell k0 i; have k0f := fun i => Blk.free k0 i; have k0z := Blk.lt k0) | skip) | (with_reducible refine hold_slot 15 ?_))
    all_goals (try (go_wp2_with (with_reducible refine hold_slot 15 ?_)))
    have k9 : Blk (w'.alloc (.cells #[.int .u64 b1, .int .u64 b2] 24)) w'.heap.size 24 #[.int .u64 b1, .int .u64 b2] := Blk.new _ _ _
    replace k0 := Blk.alloc k0 (.cells #[.int .u64 b1, .int .u64 b2] 24)
    replace hB := bel_at hB (.cells #[.int .u64 b1, .int .u64 b2] 24)
    generalize w'.alloc (.cells #[.int .u64 b1, .int .u64 b2] 24) = w3 at *
    (try clear k0c k0f k0z); have k0c := fun i => Blk.cell k0 i; have k0f := fun i => Blk.free k0 i; have k0z := Blk.lt k0; (try clear k9c k9f k9z); have k9c := fun i => Blk.cell k9 i; have k9f := fun i => Blk.free k9 i; have k9z := Blk.lt k9
    unfold Hold
    go_wp2_with (first | ((with_reducible refine wpList_here ?_ ?_); (· exact Eq.refl true); first | ((with_reducible refine wpList_grow 2 ?_ ?_); (· exact Eq.refl true))) | ((with_reducible refine wp_region_any_here ?_ ?_); (· exact Eq.refl true); first | ((with_reducible refine wp_region_drawn 2 ?_ ?_ ?_ ?_); (· exact Eq.refl true); (· kernel_rfl); (· kernel_rfl)) | refine wp_region_grow (by kernel_rfl) (by kernel_rfl) ?_)); (try simp only [List.take_succ_cons, List.take_zero, List.drop_succ_cons, List.drop_zero]); (repeat (go_big_quiet_step ((first | (go_at_call 44; with_reducible exact grow_of (CN.out _ ((HT.out.below hB).below (Grow.below _)))))))); (first | (refine wpQuiet_nil ?_; intro w' hb; replace hB := Below.trans hB (Below.mono hb (Below.size hB)); replace k0 := Blk.below k0 hb (Blk.lt k0); replace k9 := Blk.below k9 hb (Blk.lt k9); (try clear k0c k0f k0z); have k0c := fun i => Blk.cell k0 i; have k0f := fun i => Blk.free k0 i; have k0z := Blk.lt k0; (try clear k9c k9f k9z); have k9c := fun i => Blk.cell k9 i; have k9f := fun i => Blk.free k9 i; have k9z := Blk.lt k9) | skip)
    all_goals (try (go_wp2_with (first | ((with_reducible refine wpList_here ?_ ?_); (· exact Eq.refl true); first | ((with_reducible refine wpList_grow 2 ?_ ?_); (· exact Eq.refl true))) | ((with_reducible refine wp_region_any_here ?_ ?_); (· exact Eq.refl true); first | ((with_reducible refine wp_region_drawn 2 ?_ ?_ ?_ ?_); (· exact Eq.refl true); (· kernel_rfl); (· kernel_rfl)) | refine wp_region_grow (by kernel_rfl) (by kernel_rfl) ?_)); (try simp only [List.take_succ_cons, List.take_zero, List.drop_succ_cons, List.drop_zero]); (repeat (go_big_quiet_step ((first | (go_at_call 44; with_reducible exact grow_of (CN.out _ ((HT.out.below hB).below (Grow.below _)))))))); (first | (refine wpQuiet_nil ?_; intro w' hb; replace hB := Below.trans hB (Below.mono hb (Below.size hB)); replace k0 := Blk.below k0 hb (Blk.lt k0); replace k9 := Blk.below k9 hb (Blk.lt k9); (try clear k0c k0f k0z); have k0c := fun i => Blk.cell k0 i; have k0f := fun i => Blk.free k0 i; have k0z := Blk.lt k0; (try clear k9c k9f k9z); have k9c := fun i => Blk.cell k9 i; have k9f := fun i => Blk.free k9 i; have k9z := Blk.lt k9) | skip)))
    all_goals (try (go_wp2_with (first | ((with_reducible refine wpList_here ?_ ?_); (· exact Eq.refl true); first | ((with_reducible refine wpList_grow 2 ?_ ?_); (· exact Eq.refl true))) | ((with_reducible refine wp_region_any_here ?_ ?_); (· exact Eq.refl true); first | ((with_reducible refine wp_region_drawn 2 ?_ ?_ ?_ ?_); (· exact Eq.refl true); (· kernel_rfl); (· kernel_rfl)) | refine wp_region_grow (by kernel_rfl) (by kernel_rfl) ?_)); (try simp only [List.take_succ_cons, List.take_zero, List.drop_succ_cons, List.drop_zero]); (repeat (go_big_quiet_step ((first | (go_at_call 44; with_reducible exact grow_of (CN.out _ ((HT.out.below hB).below (Grow.below _)))))))); (first | (refine wpQuiet_nil ?_; intro w' hb; replace hB := Below.trans hB (Below.mono hb (Below.size hB)); replace k0 := Blk.below k0 hb (Blk.lt k0); replace k9 := Blk.below k9 hb (Blk.lt k9); (try clear k0c k0f k0z); have k0c := fun i => Blk.cell k0 i; have k0f := fun i => Blk.free k0 i; have k0z := Blk.lt k0; (try clear k9c k9f k9z); have k9c := fun i => Blk.cell k9 i; have k9f := fun i => Blk.free k9 i; have k9z := Blk.lt k9) | skip)))
    go_ret2
    exact ⟨rfl, hB⟩
  · have q1 : decide (0 < d) = false := decide_eq_false h1
    rw [if_neg h1]
    clear cB cN cP hT hx hy hf hd h1 CN HT
    generalize (leL 128 T).1 = z1 at *
    generalize (leL 128 T).2 = z2 at *
    go_enter Tryd.func10, Tryd.ntmps10
    go_wp2_with (first | ((with_reducible refine hold_list ?_ ?_); (· exact Eq.refl true)) | ((with_reducible refine hold_region ?_ ?_); (· exact Eq.refl true)) | (with_reducible refine hold_loop ?_))
    have k0 : Blk (w.alloc (.cells #[.int .u64 (x : Int), .int .u64 (y : Int)] 24)) (w.heap.size) 24 #[.int .u64 (x : Int), .int .u64 (y : Int)] := (blk_at (by simp))
    have hB : Below w.heap.size w (w.alloc (.cells #[.int .u64 (x : Int), .int .u64 (y : Int)] 24)) := (bel_at (Below.refl _ _) (.cells #[.int .u64 (x : Int), .int .u64 (y : Int)] 24))
    generalize (w.alloc (.cells #[.int .u64 (x : Int), .int .u64 (y : Int)] 24)) = w1 at *
    (try clear k0c k0f k0z); have k0c := fun i => Blk.cell k0 i; have k0f := fun i => Blk.free k0 i; have k0z := Blk.lt k0
    unfold Hold
    go_wp2_with (first | (first | ((with_reducible refine wpList_here ?_ ?_); (· exact Eq.refl true); first | ((with_reducible refine wpList_grow 4 ?_ ?_); (· exact Eq.refl true))) | ((with_reducible refine wp_region_any_here ?_ ?_); (· exact Eq.refl true); first | ((with_reducible refine wp_region_drawn 4 ?_ ?_ ?_ ?_); (· exact Eq.refl true); (· kernel_rfl); (· kernel_rfl)) | refine wp_region_grow (by kernel_rfl) (by kernel_rfl) ?_)); (try simp only [List.take_succ_cons, List.take_zero, List.drop_succ_cons, List.drop_zero]); (repeat (go_big_quiet_step ((first | (go_at_call 12; with_reducible exact grow_of (CB.out _)))))); (first | (refine wpQuiet_nil ?_; intro w' hb; replace hB := Below.trans hB (Below.mono hb (Below.size hB)); replace k0 := Blk.below k0 hb (Blk.lt k0); (try clear k0c k0f k0z); have k0c := fun i => Blk.cell k0 i; have k0f := fun i => Blk.free k0 i; have k0z := Blk.lt k0) | skip) | (with_reducible refine hold_slot 19 ?_))
    all_goals (try (go_wp2_with (with_reducible refine hold_slot 19 ?_)))
    have k9 : Blk (w'.alloc (.cells #[.int .u64 b1, .int .u64 b2] 24)) w'.heap.size 24 #[.int .u64 b1, .int .u64 b2] := Blk.new _ _ _
    replace k0 := Blk.alloc k0 (.cells #[.int .u64 b1, .int .u64 b2] 24)
    replace hB := bel_at hB (.cells #[.int .u64 b1, .int .u64 b2] 24)
    generalize w'.alloc (.cells #[.int .u64 b1, .int .u64 b2] 24) = w3 at *
    (try clear k0c k0f k0z); have k0c := fun i => Blk.cell k0 i; have k0f := fun i => Blk.free k0 i; have k0z := Blk.lt k0; (try clear k9c k9f k9z); have k9c := fun i => Blk.cell k9 i; have k9f := fun i => Blk.free k9 i; have k9z := Blk.lt k9
    unfold Hold
    go_wp2_with (first | ((with_reducible refine wpList_here ?_ ?_); (· exact Eq.refl true); first | ((with_reducible refine wpList_grow 2 ?_ ?_); (· exact Eq.refl true))) | ((with_reducible refine wp_region_any_here ?_ ?_); (· exact Eq.refl true); first | ((with_reducible refine wp_region_drawn 2 ?_ ?_ ?_ ?_); (· exact Eq.refl true); (· kernel_rfl); (· kernel_rfl)) | refine wp_region_grow (by kernel_rfl) (by kernel_rfl) ?_)); (try simp only [List.take_succ_cons, List.take_zero, List.drop_succ_cons, List.drop_zero]); (repeat (go_big_quiet_step ((first | (go_at_call 45; with_reducible exact grow_of (CP.out _)))))); (first | (refine wpQuiet_nil ?_; intro w' hb; replace hB := Below.trans hB (Below.mono hb (Below.size hB)); replace k0 := Blk.below k0 hb (Blk.lt k0); replace k9 := Blk.below k9 hb (Blk.lt k9); (try clear k0c k0f k0z); have k0c := fun i => Blk.cell k0 i; have k0f := fun i => Blk.free k0 i; have k0z := Blk.lt k0; (try clear k9c k9f k9z); have k9c := fun i => Blk.cell k9 i; have k9f := fun i => Blk.free k9 i; have k9z := Blk.lt k9) | skip)
    all_goals (try (go_wp2_with (first | ((with_reducible refine wpList_here ?_ ?_); (· exact Eq.refl true); first | ((with_reducible refine wpList_grow 2 ?_ ?_); (· exact Eq.refl true))) | ((with_reducible refine wp_region_any_here ?_ ?_); (· exact Eq.refl true); first | ((with_reducible refine wp_region_drawn 2 ?_ ?_ ?_ ?_); (· exact Eq.refl true); (· kernel_rfl); (· kernel_rfl)) | refine wp_region_grow (by kernel_rfl) (by kernel_rfl) ?_)); (try simp only [List.take_succ_cons, List.take_zero, List.drop_succ_cons, List.drop_zero]); (repeat (go_big_quiet_step ((first | (go_at_call 45; with_reducible exact grow_of (CP.out _)))))); (first | (refine wpQuiet_nil ?_; intro w' hb; replace hB := Below.trans hB (Below.mono hb (Below.size hB)); replace k0 := Blk.below k0 hb (Blk.lt k0); replace k9 := Blk.below k9 hb (Blk.lt k9); (try clear k0c k0f k0z); have k0c := fun i => Blk.cell k0 i; have k0f := fun i => Blk.free k0 i; have k0z := Blk.lt k0; (try clear k9c k9f k9z); have k9c := fun i => Blk.cell k9 i; have k9f := fun i => Blk.free k9 i; have k9z := Blk.lt k9) | skip)))
    all_goals (try (go_wp2_with (first | ((with_reducible refine wpList_here ?_ ?_); (· exact Eq.refl true); first | ((with_reducible refine wpList_grow 2 ?_ ?_); (· exact Eq.refl true))) | ((with_reducible refine wp_region_any_here ?_ ?_); (· exact Eq.refl true); first | ((with_reducible refine wp_region_drawn 2 ?_ ?_ ?_ ?_); (· exact Eq.refl true); (· kernel_rfl); (· kernel_rfl)) | refine wp_region_grow (by kernel_rfl) (by kernel_rfl) ?_)); (try simp only [List.take_succ_cons, List.take_zero, List.drop_succ_cons, List.drop_zero]); (repeat (go_big_quiet_step ((first | (go_at_call 45; with_reducible exact grow_of (CP.out _)))))); (first | (refine wpQuiet_nil ?_; intro w' hb; replace hB := Below.trans hB (Below.mono hb (Below.size hB)); replace k0 := Blk.below k0 hb (Blk.lt k0); replace k9 := Blk.below k9 hb (Blk.lt k9); (try clear k0c k0f k0z); have k0c := fun i => Blk.cell k0 i; have k0f := fun i => Blk.free k0 i; have k0z := Blk.lt k0; (try clear k9c k9f k9z); have k9c := fun i => Blk.cell k9 i; have k9f := fun i => Blk.free k9 i; have k9z := Blk.lt k9) | skip)))
    go_ret2
    exact ⟨rfl, hB⟩
set_option maxRecDepth 20000 in
set_option maxHeartbeats 4000000 in
theorem want_Last (x y : Nat) (f d : Int) (w : World) (hx : Wd x) (hy : Wd y) (hf : -1000000 ≤ f ∧ f ≤ 1000000) (hd : I64 d) (hT : Tab w) :
    Calls Tryd.prog 11 #[sv x y, .int .i64 f, .int .i64 d] w fun e w' => e = .returned (.tuple #[.int .i64 (hdL (beyL x y f d).reverse).1, .bool (hdL (beyL x y f d).reverse).2]) ∧ Below w.heap.size w w' := by
  have cB := fun w => want_Beyond x y f d w hx hy hf hd
  have cN := fun w hT => bits_NextG (beyX x f d) (beyY y f d) 0 w (wd_beyX f d hx) (wd_beyY f d hy) (by unfold I64; omega) hT
  have cP := fun w => bits_PrevL (beyX x f d) (beyY y f d) 128 w (wd_beyX f d hx) (wd_beyY f d hy) (by unfold I64; omega)
  rw [← last_row hx hy]
  unfold sv at *
  generalize items (beyX x f d) (beyY y f d) = T at *
  generalize (beyX x f d : Int) = b1 at *
  generalize (beyY y f d : Int) = b2 at *
  have CB := Lib.hid cB
  have CN := Lib.hid cN
  have CP := Lib.hid cP
  have HT := Lib.hid hT
  by_cases h1 : 0 < d
  · have q1 : decide (0 < d) = true := decide_eq_true h1
    rw [if_pos h1]
    clear cB cN cP hT hx hy hf hd h1 CN HT
    generalize (leL 128 T).1 = z1 at *
    generalize (leL 128 T).2 = z2 at *
    go_enter Tryd.func11, Tryd.ntmps11
    go_wp2_with (first | ((with_reducible refine hold_list ?_ ?_); (· exact Eq.refl true)) | ((with_reducible refine hold_region ?_ ?_); (· exact Eq.refl true)) | (with_reducible refine hold_loop ?_))
    have k0 : Blk (w.alloc (.cells #[.int .u64 (x : Int), .int .u64 (y : Int)] 24)) (w.heap.size) 24 #[.int .u64 (x : Int), .int .u64 (y : Int)] := (blk_at (by simp))
    have hB : Below w.heap.size w (w.alloc (.cells #[.int .u64 (x : Int), .int .u64 (y : Int)] 24)) := (bel_at (Below.refl _ _) (.cells #[.int .u64 (x : Int), .int .u64 (y : Int)] 24))
    generalize (w.alloc (.cells #[.int .u64 (x : Int), .int .u64 (y : Int)] 24)) = w1 at *
    (try clear k0c k0f k0z); have k0c := fun i => Blk.cell k0 i; have k0f := fun i => Blk.free k0 i; have k0z := Blk.lt k0
    unfold Hold
    go_wp2_with (first | (first | ((with_reducible refine wpList_here ?_ ?_); (· exact Eq.refl true); first | ((with_reducible refine wpList_grow 4 ?_ ?_); (· exact Eq.refl true))) | ((with_reducible refine wp_region_any_here ?_ ?_); (· exact Eq.refl true); first | ((with_reducible refine wp_region_drawn 4 ?_ ?_ ?_ ?_); (· exact Eq.refl true); (· kernel_rfl); (· kernel_rfl)) | refine wp_region_grow (by kernel_rfl) (by kernel_rfl) ?_)); (try simp only [List.take_succ_cons, List.take_zero, List.drop_succ_cons, List.drop_zero]); (repeat (go_big_quiet_step ((first | (go_at_call 12; with_reducible exact grow_of (CB.out _)))))); (first | (refine wpQuiet_nil ?_; intro w' hb; replace hB := Below.trans hB (Below.mono hb (Below.size hB)); replace k0 := Blk.below k0 hb (Blk.lt k0); (try clear k0c k0f k0z); have k0c := fun i => Blk.cell k0 i; have k0f := fun i => Blk.free k0 i; have k0z := Blk.lt k0) | skip) | (with_reducible refine hold_slot 15 ?_))
    all_goals (try (go_wp2_with (with_reducible refine hold_slot 15 ?_)))
    have k9 : Blk (w'.alloc (.cells #[.int .u64 b1, .int .u64 b2] 24)) w'.heap.size 24 #[.int .u64 b1, .int .u64 b2] := Blk.new _ _ _
    replace k0 := Blk.alloc k0 (.cells #[.int .u64 b1, .int .u64 b2] 24)
    replace hB := bel_at hB (.cells #[.int .u64 b1, .int .u64 b2] 24)
    generalize w'.alloc (.cells #[.int .u64 b1, .int .u64 b2] 24) = w3 at *
    (try clear k0c k0f k0z); have k0c := fun i => Blk.cell k0 i; have k0f := fun i => Blk.free k0 i; have k0z := Blk.lt k0; (try clear k9c k9f k9z); have k9c := fun i => Blk.cell k9 i; have k9f := fun i => Blk.free k9 i; have k9z := Blk.lt k9
    unfold Hold
    go_wp2_with (first | ((with_reducible refine wpList_here ?_ ?_); (· exact Eq.refl true); first | ((with_reducible refine wpList_grow 2 ?_ ?_); (· exact Eq.refl true))) | ((with_reducible refine wp_region_any_here ?_ ?_); (· exact Eq.refl true); first | ((with_reducible refine wp_region_drawn 2 ?_ ?_ ?_ ?_); (· exact Eq.refl true); (· kernel_rfl); (· kernel_rfl)) | refine wp_region_grow (by kernel_rfl) (by kernel_rfl) ?_)); (try simp only [List.take_succ_cons, List.take_zero, List.drop_succ_cons, List.drop_zero]); (repeat (go_big_quiet_step ((first | (go_at_call 45; with_reducible exact grow_of (CP.out _)))))); (first | (refine wpQuiet_nil ?_; intro w' hb; replace hB := Below.trans hB (Below.mono hb (Below.size hB)); replace k0 := Blk.below k0 hb (Blk.lt k0); replace k9 := Blk.below k9 hb (Blk.lt k9); (try clear k0c k0f k0z); have k0c := fun i => Blk.cell k0 i; have k0f := fun i => Blk.free k0 i; have k0z := Blk.lt k0; (try clear k9c k9f k9z); have k9c := fun i => Blk.cell k9 i; have k9f := fun i => Blk.free k9 i; have k9z := Blk.lt k9) | skip)
    all_goals (try (go_wp2_with (first | ((with_reducible refine wpList_here ?_ ?_); (· exact Eq.refl true); first | ((with_reducible refine wpList_grow 2 ?_ ?_); (· exact Eq.refl true))) | ((with_reducible refine wp_region_any_here ?_ ?_); (· exact Eq.refl true); first | ((with_reducible refine wp_region_drawn 2 ?_ ?_ ?_ ?_); (· exact Eq.refl true); (· kernel_rfl); (· kernel_rfl)) | refine wp_region_grow (by kernel_rfl) (by kernel_rfl) ?_)); (try simp only [List.take_succ_cons, List.take_zero, List.drop_succ_cons, List.drop_zero]); (repeat (go_big_quiet_step ((first | (go_at_call 45; with_reducible exact grow_of (CP.out _)))))); (first | (refine wpQuiet_nil ?_; intro w' hb; replace hB := Below.trans hB (Below.mono hb (Below.size hB)); replace k0 := Blk.below k0 hb (Blk.lt k0); replace k9 := Blk.below k9 hb (Blk.lt k9); (try clear k0c k0f k0z); have k0c := fun i => Blk.cell k0 i; have k0f := fun i => Blk.free k0 i; have k0z := Blk.lt k0; (try clear k9c k9f k9z); have k9c := fun i => Blk.cell k9 i; have k9f := fun i => Blk.free k9 i; have k9z := Blk.lt k9) | skip)))
    all_goals (try (go_wp2_with (first | ((with_reducible refine wpList_here ?_ ?_); (· exact Eq.refl true); first | ((with_reducible refine wpList_grow 2 ?_ ?_); (· exact Eq.refl true))) | ((with_reducible refine wp_region_any_here ?_ ?_); (· exact Eq.refl true); first | ((with_reducible refine wp_region_drawn 2 ?_ ?_ ?_ ?_); (· exact Eq.refl true); (· kernel_rfl); (· kernel_rfl)) | refine wp_region_grow (by kernel_rfl) (by kernel_rfl) ?_)); (try simp only [List.take_succ_cons, List.take_zero, List.drop_succ_cons, List.drop_zero]); (repeat (go_big_quiet_step ((first | (go_at_call 45; with_reducible exact grow_of (CP.out _)))))); (first | (refine wpQuiet_nil ?_; intro w' hb; replace hB := Below.trans hB (Below.mono hb (Below.size hB)); replace k0 := Blk.below k0 hb (Blk.lt k0); replace k9 := Blk.below k9 hb (Blk.lt k9); (try clear k0c k0f k0z); have k0c := fun i => Blk.cell k0 i; have k0f := fun i => Blk.free k0 i; have k0z := Blk.lt k0; (try clear k9c k9f k9z); have k9c := fun i => Blk.cell k9 i; have k9f := fun i => Blk.free k9 i; have k9z := Blk.lt k9) | skip)))
    go_ret2
    exact ⟨rfl, hB⟩
  · have q1 : decide (0 < d) = false := decide_eq_false h1
    rw [if_neg h1]
    clear cB cN cP hT hx hy hf hd h1 CP
    generalize (geL 0 (0, false) T).1 = z1 at *
    generalize (geL 0 (0, false) T).2 = z2 at *
    go_enter Tryd.func11, Tryd.ntmps11
    go_wp2_with (first | ((with_reducible refine hold_list ?_ ?_); (· exact Eq.refl true)) | ((with_reducible refine hold_region ?_ ?_); (· exact Eq.refl true)) | (with_reducible refine hold_loop ?_))
    have k0 : Blk (w.alloc (.cells #[.int .u64 (x : Int), .int .u64 (y : Int)] 24)) (w.heap.size) 24 #[.int .u64 (x : Int), .int .u64 (y : Int)] := (blk_at (by simp))
    have hB : Below w.heap.size w (w.alloc (.cells #[.int .u64 (x : Int), .int .u64 (y : Int)] 24)) := (bel_at (Below.refl _ _) (.cells #[.int .u64 (x : Int), .int .u64 (y : Int)] 24))
    generalize (w.alloc (.cells #[.int .u64 (x : Int), .int .u64 (y : Int)] 24)) = w1 at *
    (try clear k0c k0f k0z); have k0c := fun i => Blk.cell k0 i; have k0f := fun i => Blk.free k0 i; have k0z := Blk.lt k0
    unfold Hold
    go_wp2_with (first | (first | ((with_reducible refine wpList_here ?_ ?_); (· exact Eq.refl true); first | ((with_reducible refine wpList_grow 4 ?_ ?_); (· exact Eq.refl true))) | ((with_reducible refine wp_region_any_here ?_ ?_); (· exact Eq.refl true); first | ((with_reducible refine wp_region_drawn 4 ?_ ?_ ?_ ?_); (· exact Eq.refl true); (· kernel_rfl); (· kernel_rfl)) | refine wp_region_grow (by kernel_rfl) (by kernel_rfl) ?_)); (try simp only [List.take_succ_cons, List.take_zero, List.drop_succ_cons, List.drop_zero]); (repeat (go_big_quiet_step ((first | (go_at_call 12; with_reducible exact grow_of (CB.out _)))))); (first | (refine wpQuiet_nil ?_; intro w' hb; replace hB := Below.trans hB (Below.mono hb (Below.size hB)); replace k0 := Blk.below k0 hb (Blk.lt k0); (try clear k0c k0f k0z); have k0c := fun i => Blk.cell k0 i; have k0f := fun i => Blk.free k0 i; have k0z := Blk.lt k0) | skip) | (with_reducible refine hold_slot 19 ?_))
    all_goals (try (go_wp2_with (with_reducible refine hold_slot 19 ?_)))
    have k9 : Blk (w'.alloc (.cells #[.int .u64 b1, .int .u64 b2] 24)) w'.heap.size 24 #[.int .u64 b1, .int .u64 b2] := Blk.new _ _ _
    replace k0 := Blk.alloc k0 (.cells #[.int .u64 b1, .int .u64 b2] 24)
    replace hB := bel_at hB (.cells #[.int .u64 b1, .int .u64 b2] 24)
    generalize w'.alloc (.cells #[.int .u64 b1, .int .u64 b2] 24) = w3 at *
    (try clear k0c k0f k0z); have k0c := fun i => Blk.cell k0 i; have k0f := fun i => Blk.free k0 i; have k0z := Blk.lt k0; (try clear k9c k9f k9z); have k9c := fun i => Blk.cell k9 i; have k9f := fun i => Blk.free k9 i; have k9z := Blk.lt k9
    unfold Hold
    go_wp2_with (first | ((with_reducible refine wpList_here ?_ ?_); (· exact Eq.refl true); first | ((with_reducible refine wpList_grow 2 ?_ ?_); (· exact Eq.refl true))) | ((with_reducible refine wp_region_any_here ?_ ?_); (· exact Eq.refl true); first | ((with_reducible refine wp_region_drawn 2 ?_ ?_ ?_ ?_); (· exact Eq.refl true); (· kernel_rfl); (· kernel_rfl)) | refine wp_region_grow (by kernel_rfl) (by kernel_rfl) ?_)); (try simp only [List.take_succ_cons, List.take_zero, List.drop_succ_cons, List.drop_zero]); (repeat (go_big_quiet_step ((first | (go_at_call 44; with_reducible exact grow_of (CN.out _ ((HT.out.below hB).below (Grow.below _)))))))); (first | (refine wpQuiet_nil ?_; intro w' hb; replace hB := Below.trans hB (Below.mono hb (Below.size hB)); replace k0 := Blk.below k0 hb (Blk.lt k0); replace k9 := Blk.below k9 hb (Blk.lt k9); (try clear k0c k0f k0z); have k0c := fun i => Blk.cell k0 i; have k0f := fun i => Blk.free k0 i; have k0z := Blk.lt k0; (try clear k9c k9f k9z); have k9c := fun i => Blk.cell k9 i; have k9f := fun i => Blk.free k9 i; have k9z := Blk.lt k9) | skip)
    all_goals (try (go_wp2_with (first | ((with_reducible refine wpList_here ?_ ?_); (· exact Eq.refl true); first | ((with_reducible refine wpList_grow 2 ?_ ?_); (· exact Eq.refl true))) | ((with_reducible refine wp_region_any_here ?_ ?_); (· exact Eq.refl true); first | ((with_reducible refine wp_region_drawn 2 ?_ ?_ ?_ ?_); (· exact Eq.refl true); (· kernel_rfl); (· kernel_rfl)) | refine wp_region_grow (by kernel_rfl) (by kernel_rfl) ?_)); (try simp only [List.take_succ_cons, List.take_zero, List.drop_succ_cons, List.drop_zero]); (repeat (go_big_quiet_step ((first | (go_at_call 44; with_reducible exact grow_of (CN.out _ ((HT.out.below hB).below (Grow.below _)))))))); (first | (refine wpQuiet_nil ?_; intro w' hb; replace hB := Below.trans hB (Below.mono hb (Below.size hB)); replace k0 := Blk.below k0 hb (Blk.lt k0); replace k9 := Blk.below k9 hb (Blk.lt k9); (try clear k0c k0f k0z); have k0c := fun i => Blk.cell k0 i; have k0f := fun i => Blk.free k0 i; have k0z := Blk.lt k0; (try clear k9c k9f k9z); have k9c := fun i => Blk.cell k9 i; have k9f := fun i => Blk.free k9 i; have k9z := Blk.lt k9) | skip)))
    all_goals (try (go_wp2_with (first | ((with_reducible refine wpList_here ?_ ?_); (· exact Eq.refl true); first | ((with_reducible refine wpList_grow 2 ?_ ?_); (· exact Eq.refl true))) | ((with_reducible refine wp_region_any_here ?_ ?_); (· exact Eq.refl true); first | ((with_reducible refine wp_region_drawn 2 ?_ ?_ ?_ ?_); (· exact Eq.refl true); (· kernel_rfl); (· kernel_rfl)) | refine wp_region_grow (by kernel_rfl) (by kernel_rfl) ?_)); (try simp only [List.take_succ_cons, List.take_zero, List.drop_succ_cons, List.drop_zero]); (repeat (go_big_quiet_step ((first | (go_at_call 44; with_reducible exact grow_of (CN.out _ ((HT.out.below hB).below (Grow.below _)))))))); (first | (refine wpQuiet_nil ?_; intro w' hb; replace hB := Below.trans hB (Below.mono hb (Below.size hB)); replace k0 := Blk.below k0 hb (Blk.lt k0); replace k9 := Blk.below k9 hb (Blk.lt k9); (try clear k0c k0f k0z); have k0c := fun i => Blk.cell k0 i; have k0f := fun i => Blk.free k0 i; have k0z := Blk.lt k0; (try clear k9c k9f k9z); have k9c := fun i => Blk.cell k9 i; have k9f := fun i => Blk.free k9 i; have k9z := Blk.lt k9) | skip)))
    go_ret2
    exact ⟨rfl, hB⟩
end Go.Proofs.YtlcnhpjmmjmkcaaDoor
