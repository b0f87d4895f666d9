
/-
  What a car sees: want.Beyond, face.See, (Sight).Call, Beyond, Of, Stop. Conditions: at most 1000 riders, floors within a million, directions -1, 0, 1.
-/
import Derived.Test.YtejcgagblpkmoaaDoorWant
import Derived.Test.YtejcgagblpkmoaaDoorSeq
set_option linter.unusedVariables false
set_option linter.unusedSimpArgs false
namespace Go.Proofs.YtejcgagblpkmoaaDoor
open Go.Joins Go.ChangeShapes Go.WideShapes Go.ChangeAt Go.RowKit Go.Deep

def beyX (x : Nat) (f d : Int) : Nat := if 0 < d then fromX x (f + 1) else if d < 0 then belX x f else 0
def beyY (y : Nat) (f d : Int) : Nat := if 0 < d then fromY y (f + 1) else if d < 0 then belY y f else 0
theorem wd_beyX {x : Nat} (f d : Int) (h : Wd x) : Wd (beyX x f d) := by
  unfold beyX; split
  · exact (wd_from (y := x) _ h h).1
  · split
    · exact wd_belX _ h
    · show 0 < 18446744073709551616; omega
theorem wd_beyY {x : Nat} (f d : Int) (h : Wd x) : Wd (beyY x f d) := by
  unfold beyY; split
  · exact (wd_from (x := x) _ h h).2
  · split
    · exact wd_belY _ h
    · show 0 < 18446744073709551616; omega
theorem mem_bey {x y : Nat} (hx : Wd x) (hy : Wd y) (f d k : Int) : memB (beyX x f d) (beyY y f d) k = (memB x y k && (decide (0 < d) && decide (f < k) || decide (d < 0) && decide (k < f))) := by
  unfold beyX beyY
  by_cases h1 : 0 < d
  · rw [if_pos h1, if_pos h1, mem_from hx hy, decide_eq_true h1, decide_eq_false (show ¬ d < 0 by omega)]
    congr 1
    by_cases h : f < k
    · rw [decide_eq_true h, decide_eq_true (by omega)]; rfl
    · rw [decide_eq_false h, decide_eq_false (by omega)]; rfl
  · rw [if_neg h1, if_neg h1]
    by_cases h2 : d < 0
    · rw [if_pos h2, if_pos h2, mem_bel, decide_eq_false h1, decide_eq_true h2]; simp
    · rw [if_neg h2, if_neg h2, mem_zero, decide_eq_false h1, decide_eq_false h2]; simp
set_option maxRecDepth 20000 in
set_option maxHeartbeats 1000000 in
theorem want_Beyond (x y : Nat) (f d : Int) (w : World) (hx : Wd x) (hy : Wd y) (hf : -1000000 ≤ f ∧ f ≤ 1000000) (hd : I64 d) :
    Calls Tryd.prog 49 #[sv x y, .int .i64 f, .int .i64 d] w fun e w' => e = .returned (sv (beyX x f d) (beyY y f d)) ∧ Below w.heap.size w w' := by
  have cF := fun w => bits_From x y (f + 1) w hx hy (by unfold I64; omega)
  have cB := fun w => bits_Below x y f w hx hy (by unfold I64; omega)
  unfold beyX beyY
  unfold sv at *
  unfold I64 at hd
  have CF := Lib.hid cF
  have CB := Lib.hid cB
  clear cF cB hx hy
  generalize (fromX x (f + 1)) = r1 at *
  generalize (fromY y (f + 1)) = r2 at *
  generalize (belX x f) = b1 at *
  generalize (belY y f) = b2 at *
  have e0 : IntKind.i64.wrap (f + 1) = f + 1 := IntWalk.i64_in _ (by omega)
  by_cases h1 : 0 < d
  · simp only [if_pos h1]
    have q1 : decide (0 < d) = true := decide_eq_true h1
    go_enter Tryd.func49, Tryd.ntmps49
    go_wp2_with (first | ((with_reducible refine hold_list ?_ ?_); (· exact Eq.refl true)) | ((with_reducible refine hold_region ?_ ?_); (· exact Eq.refl true)) | (with_reducible refine hold_loop ?_))
    have k0 : Blk ((w.alloc (.cells #[.int .u64 (x : Int), .int .u64 (y : Int)] 38)).alloc (.cells #[.int .u64 0, .int .u64 0] 38)) (w.heap.size) 38 #[.int .u64 (x : Int), .int .u64 (y : Int)] := (Blk.alloc (blk_at (by simp)) (.cells #[.int .u64 0, .int .u64 0] 38))
    have k1 : Blk ((w.alloc (.cells #[.int .u64 (x : Int), .int .u64 (y : Int)] 38)).alloc (.cells #[.int .u64 0, .int .u64 0] 38)) (w.heap.size + 1) 38 #[.int .u64 0, .int .u64 0] := (blk_at (by simp))
    have hB : Below w.heap.size w ((w.alloc (.cells #[.int .u64 (x : Int), .int .u64 (y : Int)] 38)).alloc (.cells #[.int .u64 0, .int .u64 0] 38)) := (bel_at (bel_at (Below.refl _ _) (.cells #[.int .u64 (x : Int), .int .u64 (y : Int)] 38)) (.cells #[.int .u64 0, .int .u64 0] 38))
    generalize ((w.alloc (.cells #[.int .u64 (x : Int), .int .u64 (y : Int)] 38)).alloc (.cells #[.int .u64 0, .int .u64 0] 38)) = w1 at *
    (try clear k0c k0f k0z); have k0c := fun i => Blk.cell k0 i; have k0f := fun i => Blk.free k0 i; have k0z := Blk.lt k0; (try clear k1c k1f k1z); have k1c := fun i => Blk.cell k1 i; have k1f := fun i => Blk.free k1 i; have k1z := Blk.lt k1
    unfold Hold
    go_wp2_with (first | ((with_reducible refine wpList_here ?_ ?_); (· exact Eq.refl true); first | ((with_reducible refine wpList_grow 4 ?_ ?_); (· exact Eq.refl true)) | ((with_reducible refine wpList_grow 3 ?_ ?_); (· exact Eq.refl true)) | ((with_reducible refine wpList_grow 2 ?_ ?_); (· exact Eq.refl true)) | ((with_reducible refine wpList_grow 1 ?_ ?_); (· exact Eq.refl true))) | ((with_reducible refine wp_region_any_here ?_ ?_); (· exact Eq.refl true); first | ((with_reducible refine wp_region_drawn 4 ?_ ?_ ?_ ?_); (· exact Eq.refl true); (· kernel_rfl); (· kernel_rfl)) | ((with_reducible refine wp_region_drawn 3 ?_ ?_ ?_ ?_); (· exact Eq.refl true); (· kernel_rfl); (· kernel_rfl)) | ((with_reducible refine wp_region_drawn 2 ?_ ?_ ?_ ?_); (· exact Eq.refl true); (· kernel_rfl); (· kernel_rfl)) | ((with_reducible refine wp_region_drawn 1 ?_ ?_ ?_ ?_); (· exact Eq.refl true); (· kernel_rfl); (· kernel_rfl)) | refine wp_region_grow (by kernel_rfl) (by kernel_rfl) ?_)); (try simp only [List.take_succ_cons, List.take_zero, List.drop_succ_cons, List.drop_zero]); (repeat (go_big_quiet_step ((first | (go_at_call 55; with_reducible exact grow_of (CF.out _)))))); (first | (refine wpQuiet_nil ?_; intro w' hb; replace hB := Below.trans hB (Below.mono hb (Below.size hB)); replace k0 := Blk.below k0 hb (Blk.lt k0); replace k1 := Blk.below k1 hb (Blk.lt k1); (try clear k0c k0f k0z); have k0c := fun i => Blk.cell k0 i; have k0f := fun i => Blk.free k0 i; have k0z := Blk.lt k0; (try clear k1c k1f k1z); have k1c := fun i => Blk.cell k1 i; have k1f := fun i => Blk.free k1 i; have k1z := Blk.lt k1) | skip)
    all_goals (try (go_wp2_with (first | ((with_reducible refine wpList_here ?_ ?_); (· exact Eq.refl true); first | ((with_reducible refine wpList_grow 4 ?_ ?_); (· exact Eq.refl true)) | ((with_reducible refine wpList_grow 3 ?_ ?_); (· exact Eq.refl true)) | ((with_reducible refine wpList_grow 2 ?_ ?_); (· exact Eq.refl true)) | ((with_reducible refine wpList_grow 1 ?_ ?_); (· exact Eq.refl true))) | ((with_reducible refine wp_region_any_here ?_ ?_); (· exact Eq.refl true); first | ((with_reducible refine wp_region_drawn 4 ?_ ?_ ?_ ?_); (· exact Eq.refl true); (· kernel_rfl); (· kernel_rfl)) | ((with_reducible refine wp_region_drawn 3 ?_ ?_ ?_ ?_); (· exact Eq.refl true); (· kernel_rfl); (· kernel_rfl)) | ((with_reducible refine wp_region_drawn 2 ?_ ?_ ?_ ?_); (· exact Eq.refl true); (· kernel_rfl); (· kernel_rfl)) | ((with_reducible refine wp_region_drawn 1 ?_ ?_ ?_ ?_); (· exact Eq.refl true); (· kernel_rfl); (· kernel_rfl)) | refine wp_region_grow (by kernel_rfl) (by kernel_rfl) ?_)); (try simp only [List.take_succ_cons, List.take_zero, List.drop_succ_cons, List.drop_zero]); (repeat (go_big_quiet_step ((first | (go_at_call 55; with_reducible exact grow_of (CF.out _)))))); (first | (refine wpQuiet_nil ?_; intro w' hb; replace hB := Below.trans hB (Below.mono hb (Below.size hB)); replace k0 := Blk.below k0 hb (Blk.lt k0); replace k1 := Blk.below k1 hb (Blk.lt k1); (try clear k0c k0f k0z); have k0c := fun i => Blk.cell k0 i; have k0f := fun i => Blk.free k0 i; have k0z := Blk.lt k0; (try clear k1c k1f k1z); have k1c := fun i => Blk.cell k1 i; have k1f := fun i => Blk.free k1 i; have k1z := Blk.lt k1) | skip)))
    refine bodyPost_ret (v := .agg #[.int .u64 (r1 : Int), .int .u64 (r2 : Int)]) (by simp [results, Tryd.results49, go_sem, k1c, k1f]) rfl ?_
    exact ⟨rfl, set2b hB⟩
  · have q1 : decide (0 < d) = false := decide_eq_false h1
    simp only [if_neg h1]
    by_cases h2 : d < 0
    · simp only [if_pos h2]
      have q2 : decide (d < 0) = true := decide_eq_true h2
      go_enter Tryd.func49, Tryd.ntmps49
      go_wp2_with (first | ((with_reducible refine hold_list ?_ ?_); (· exact Eq.refl true)) | ((with_reducible refine hold_region ?_ ?_); (· exact Eq.refl true)) | (with_reducible refine hold_loop ?_))
      have k0 : Blk ((w.alloc (.cells #[.int .u64 (x : Int), .int .u64 (y : Int)] 38)).alloc (.cells #[.int .u64 0, .int .u64 0] 38)) (w.heap.size) 38 #[.int .u64 (x : Int), .int .u64 (y : Int)] := (Blk.alloc (blk_at (by simp)) (.cells #[.int .u64 0, .int .u64 0] 38))
      have k1 : Blk ((w.alloc (.cells #[.int .u64 (x : Int), .int .u64 (y : Int)] 38)).alloc (.cells #[.int .u64 0, .int .u64 0] 38)) (w.heap.size + 1) 38 #[.int .u64 0, .int .u64 0] := (blk_at (by simp))
      have hB : Below w.heap.size w ((w.alloc (.cells #[.int .u64 (x : Int), .int .u64 (y : Int)] 38)).alloc (.cells #[.int .u64 0, .int .u64 0] 38)) := (bel_at (bel_at (Below.refl _ _) (.cells #[.int .u64 (x : Int), .int .u64 (y : Int)] 38)) (.cells #[.int .u64 0, .int .u64 0] 38))
      generalize ((w.alloc (.cells #[.int .u64 (x : Int), .int .u64 (y : Int)] 38)).alloc (.cells #[.int .u64 0, .int .u64 0] 38)) = w1 at *
      (try clear k0c k0f k0z); have k0c := fun i => Blk.cell k0 i; have k0f := fun i => Blk.free k0 i; have k0z := Blk.lt k0; (try clear k1c k1f k1z); have k1c := fun i => Blk.cell k1 i; have k1f := fun i => Blk.free k1 i; have k1z := Blk.lt k1
      unfold Hold
      go_wp2_with (first | ((with_reducible refine wpList_here ?_ ?_); (· exact Eq.refl true); first | ((with_reducible refine wpList_grow 4 ?_ ?_); (· exact Eq.refl true)) | ((with_reducible refine wpList_grow 3 ?_ ?_); (· exact Eq.refl true)) | ((with_reducible refine wpList_grow 2 ?_ ?_); (· exact Eq.refl true)) | ((with_reducible refine wpList_grow 1 ?_ ?_); (· exact Eq.refl true))) | ((with_reducible refine wp_region_any_here ?_ ?_); (· exact Eq.refl true); first | ((with_reducible refine wp_region_drawn 4 ?_ ?_ ?_ ?_); (· exact Eq.refl true); (· kernel_rfl); (· kernel_rfl)) | ((with_reducible refine wp_region_drawn 3 ?_ ?_ ?_ ?_); (· exact Eq.refl true); (· kernel_rfl); (· kernel_rfl)) | ((with_reducible refine wp_region_drawn 2 ?_ ?_ ?_ ?_); (· exact Eq.refl true); (· kernel_rfl); (· kernel_rfl)) | ((with_reducible refine wp_region_drawn 1 ?_ ?_ ?_ ?_); (· exact Eq.refl true); (· kernel_rfl); (· kernel_rfl)) | refine wp_region_grow (by kernel_rfl) (by kernel_rfl) ?_)); (try simp only [List.take_succ_cons, List.take_zero, List.drop_succ_cons, List.drop_zero]); (repeat (go_big_quiet_step ((first | (go_at_call 53; with_reducible exact grow_of (CB.out _)))))); (first | (refine wpQuiet_nil ?_; intro w' hb; replace hB := Below.trans hB (Below.mono hb (Below.size hB)); replace k0 := Blk.below k0 hb (Blk.lt k0); replace k1 := Blk.below k1 hb (Blk.lt k1); (try clear k0c k0f k0z); have k0c := fun i => Blk.cell k0 i; have k0f := fun i => Blk.free k0 i; have k0z := Blk.lt k0; (try clear k1c k1f k1z); have k1c := fun i => Blk.cell k1 i; have k1f := fun i => Blk.free k1 i; have k1z := Blk.lt k1) | skip)
      all_goals (try (go_wp2_with (first | ((with_reducible refine wpList_here ?_ ?_); (· exact Eq.refl true); first | ((with_reducible refine wpList_grow 4 ?_ ?_); (· exact Eq.refl true)) | ((with_reducible refine wpList_grow 3 ?_ ?_); (· exact Eq.refl true)) | ((with_reducible refine wpList_grow 2 ?_ ?_); (· exact Eq.refl true)) | ((with_reducible refine wpList_grow 1 ?_ ?_); (· exact Eq.refl true))) | ((with_reducible refine wp_region_any_here ?_ ?_); (· exact Eq.refl true); first | ((with_reducible refine wp_region_drawn 4 ?_ ?_ ?_ ?_); (· exact Eq.refl true); (· kernel_rfl); (· kernel_rfl)) | ((with_reducible refine wp_region_drawn 3 ?_ ?_ ?_ ?_); (· exact Eq.refl true); (· kernel_rfl); (· kernel_rfl)) | ((with_reducible refine wp_region_drawn 2 ?_ ?_ ?_ ?_); (· exact Eq.refl true); (· kernel_rfl); (· kernel_rfl)) | ((with_reducible refine wp_region_drawn 1 ?_ ?_ ?_ ?_); (· exact Eq.refl true); (· kernel_rfl); (· kernel_rfl)) | refine wp_region_grow (by kernel_rfl) (by kernel_rfl) ?_)); (try simp only [List.take_succ_cons, List.take_zero, List.drop_succ_cons, List.drop_zero]); (repeat (go_big_quiet_step ((first | (go_at_call 53; with_reducible exact grow_of (CB.out _)))))); (first | (refine wpQuiet_nil ?_; intro w' hb; replace hB := Below.trans hB (Below.mono hb (Below.size hB)); replace k0 := Blk.below k0 hb (Blk.lt k0); replace k1 := Blk.below k1 hb (Blk.lt k1); (try clear k0c k0f k0z); have k0c := fun i => Blk.cell k0 i; have k0f := fun i => Blk.free k0 i; have k0z := Blk.lt k0; (try clear k1c k1f k1z); have k1c := fun i => Blk.cell k1 i; have k1f := fun i => Blk.free k1 i; have k1z := Blk.lt k1) | skip)))
      refine bodyPost_ret (v := .agg #[.int .u64 (b1 : Int), .int .u64 (b2 : Int)]) (by simp [results, Tryd.results49, go_sem, k1c, k1f]) rfl ?_
      exact ⟨rfl, set2b hB⟩
    · simp only [if_neg h2]
      have q2 : decide (d < 0) = false := decide_eq_false h2
      go_enter Tryd.func49, Tryd.ntmps49
      go_wp2
      refine bodyPost_ret (v := .agg #[.int .u64 0, .int .u64 0]) (by simp [results, Tryd.results49, go_sem]) rfl ?_
      exact ⟨rfl, Joins.below_alloc2 _ _ _⟩
theorem set6 {w w' : World} {g : Nat} {u1 u2 u3 u4 u5 u6 : Value} (h : Below w.heap.size w w') : Below w.heap.size w ((((((w'.setCell ⟨w.heap.size + g, 0, none⟩ u1).setCell ⟨w.heap.size + g, 1, none⟩ u2).setCell ⟨w.heap.size + g, 2, none⟩ u3).setCell ⟨w.heap.size + g, 3, none⟩ u4).setCell ⟨w.heap.size + g, 4, none⟩ u5).setCell ⟨w.heap.size + g, 5, none⟩ u6) := by
  have k : w.heap.size ≤ w.heap.size + g := by omega
  exact (((((h.setCell k _).setCell k _).setCell k _).setCell k _).setCell k _).setCell k _
/-- What a car sees, in six words. -/
structure Sgt where
  wx : Nat
  wy : Nat
  ux : Nat
  uy : Nat
  dx : Nat
  dy : Nat
abbrev Sgt.val (s : Sgt) : Value := .agg #[.int .u64 s.wx, .int .u64 s.wy, .int .u64 s.ux, .int .u64 s.uy, .int .u64 s.dx, .int .u64 s.dy]
def Sgt.ok (s : Sgt) : Prop := (Wd s.wx ∧ Wd s.wy) ∧ (Wd s.ux ∧ Wd s.uy) ∧ Wd s.dx ∧ Wd s.dy
def seeOf (c : Car) (cap : Int) (ux uy dx dy : Nat) : Sgt := ⟨wantX c cap ux dx, wantY c cap uy dy, landX c cap ux, landX c cap uy, landX c cap dx, landX c cap dy⟩
theorem see_ok {c : Car} {cap : Int} {ux uy dx dy : Nat} (h1 : Wd ux) (h2 : Wd uy) (h3 : Wd dx) (h4 : Wd dy) : (seeOf c cap ux uy dx dy).ok :=
  ⟨⟨wd_wantX h1 h3, wd_wantY h2 h4⟩, ⟨wd_land h1, wd_land h2⟩, wd_land h3, wd_land h4⟩
end Go.Proofs.YtejcgagblpkmoaaDoor
