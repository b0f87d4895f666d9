
/-
  What a car sees: want.Beyond, face.See, (Sight).Call, Beyond, Of, Stop. Conditions: at most 1000 riders, floors within a million, directions -1, 0, 1.
-/
import Derived.Test.YtlcnhpjmmjmkcaaWant
import Derived.Test.YtlcnhpjmmjmkcaaRel2
set_option linter.unusedVariables false
set_option linter.unusedSimpArgs false
namespace Go.Proofs.Ytlcnhpjmmjmkcaa
open Go.Joins Go.ChangeShapes Go.WideShapes Go.ChangeAt Go.RowKit Go.Deep

def beyX (x : Nat) (f d : Int) : Nat := if 0 < d then fromX x (f + 1) else if d < 0 then belX x f else 0
def beyY (y : Nat) (f d : Int) : Nat := if 0 < d then fromY y (f + 1) else if d < 0 then belY y f else 0
theorem wd_beyX {x : Nat} (f d : Int) (h : Wd x) : Wd (beyX x f d) := by
  unfold beyX; split
  · exact (wd_from (y := x) _ h h).1
  · split
    · exact wd_belX _ h
    · show 0 < 18446744073709551616; omega
theorem wd_beyY {x : Nat} (f d : Int) (h : Wd x) : Wd (beyY x f d) := by
  unfold beyY; split
  · exact (wd_from (x := x) _ h h).2
  · split
    · exact wd_belY _ h
    · show 0 < 18446744073709551616; omega
theorem mem_bey {x y : Nat} (hx : Wd x) (hy : Wd y) (f d k : Int) : memB (beyX x f d) (beyY y f d) k = (memB x y k && (decide (0 < d) && decide (f < k) || decide (d < 0) && decide (k < f))) := by
  unfold beyX beyY
  by_cases h1 : 0 < d
  · rw [if_pos h1, if_pos h1, mem_from hx hy, decide_eq_true h1, decide_eq_false (show ¬ d < 0 by omega)]
    congr 1
    by_cases h : f < k
    · rw [decide_eq_true h, decide_eq_true (by omega)]; rfl
    · rw [decide_eq_false h, decide_eq_false (by omega)]; rfl
  · rw [if_neg h1, if_neg h1]
    by_cases h2 : d < 0
    · rw [if_pos h2, if_pos h2, mem_bel, decide_eq_false h1, decide_eq_true h2]; simp
    · rw [if_neg h2, if_neg h2, mem_zero, decide_eq_false h1, decide_eq_false h2]; simp
set_option maxRecDepth 20000 in
set_option maxHeartbeats 1000000 in
theorem want_Beyond (x y : Nat) (f d : Int) (w : World) (hx : Wd x) (hy : Wd y) (hf : -1000000 ≤ f ∧ f ≤ 1000000) (hd : I64 d) :
    Calls Try.prog 33 #[sv x y, .int .i64 f, .int .i64 d] w fun e w' => e = .returned (sv (beyX x f d) (beyY y f d)) ∧ Below w.heap.size w w' := by
  have cF := fun w => bits_From x y (f + 1) w hx hy (by unfold I64; omega)
  have cB := fun w => bits_Below x y f w hx hy (by unfold I64; omega)
  unfold beyX beyY
  unfold sv at *
  unfold I64 at hd
  have CF := Lib.hid cF
  have CB := Lib.hid cB
  clear cF cB hx hy
  generalize (fromX x (f + 1)) = r1 at *
  generalize (fromY y (f + 1)) = r2 at *
  generalize (belX x f) = b1 at *
  generalize (belY y f) = b2 at *
  have e0 : IntKind.i64.wrap (f + 1) = f + 1 := IntWalk.i64_in _ (by omega)
  by_cases h1 : 0 < d
  · simp only [if_pos h1]
    have q1 : decide (0 < d) = true := decide_eq_true h1
    go_enter Try.func33, Try.ntmps33
    go_wp2_with (first | ((with_reducible refine hold_list ?_ ?_); (· exact Eq.refl true)) | ((with_reducible refine hold_region ?_ ?_); (· exact Eq.refl true)) | (with_reducible refine hold_loop ?_))
    have k0 : Blk ((w.alloc (.cells #[.int .u64 (x : Int), .int .u64 (y : Int)] 28)).alloc (.cells #[.int .u64 0, .int .u64 0] 28)) (w.heap.size) 28 #[.int .u64 (x : Int), .int .u64 (y : Int)] := (Blk.alloc (blk_at (by simp)) (.cells #[.int .u64 0, .int .u64 0] 28))
    have k1 : Blk ((w.alloc (.cells #[.int .u64 (x : Int), .int .u64 (y : Int)] 28)).alloc (.cells #[.int .u64 0, .int .u64 0] 28)) (w.heap.size + 1) 28 #[.int .u64 0, .int .u64 0] := (blk_at (by simp))
    have hB : Below w.heap.size w ((w.alloc (.cells #[.int .u64 (x : Int), .int .u64 (y : Int)] 28)).alloc (.cells #[.int .u64 0, .int .u64 0] 28)) := (bel_at (bel_at (Below.refl _ _) (.cells #[.int .u64 (x : Int), .int .u64 (y : Int)] 28)) (.cells #[.int .u64 0, .int .u64 0] 28))
    generalize ((w.alloc (.cells #[.int .u64 (x : Int), .int .u64 (y : Int)] 28)).alloc (.cells #[.int .u64 0, .int .u64 0] 28)) = w1 at *
    (try clear k0c k0f k0z); have k0c := fun i => Blk.cell k0 i; have k0f := fun i => Blk.free k0 i; have k0z := Blk.lt k0; (try clear k1c k1f k1z); have k1c := fun i => Blk.cell k1 i; have k1f := fun i => Blk.free k1 i; have k1z := Blk.lt k1
    unfold Hold
    go_wp2_with (first | ((with_reducible refine wpList_here ?_ ?_); (· exact Eq.refl true); first | ((with_reducible refine wpList_grow 4 ?_ ?_); (· exact Eq.refl true)) | ((with_reducible refine wpList_grow 3 ?_ ?_); (· exact Eq.refl true)) | ((with_reducible refine wpList_grow 2 ?_ ?_); (· exact Eq.refl true)) | ((with_reducible refine wpList_grow 1 ?_ ?_); (· exact Eq.refl true))) | ((with_reducible refine wp_region_any_here ?_ ?_); (· exact Eq.refl true); first | ((with_reducible refine wp_region_drawn 4 ?_ ?_ ?_ ?_); (· exact Eq.refl true); (· kernel_rfl); (· kernel_rfl)) | ((with_reducible refine wp_region_drawn 3 ?_ ?_ ?_ ?_); (· exact Eq.refl true); (· kernel_rfl); (· kernel_rfl)) | ((with_reducible refine wp_region_drawn 2 ?_ ?_ ?_ ?_); (· exact Eq.refl true); (· kernel_rfl); (· kernel_rfl)) | ((with_reducible refine wp_region_drawn 1 ?_ ?_ ?_ ?_); (· exact Eq.refl true); (· kernel_rfl); (· kernel_rfl)) | refine wp_region_grow (by kernel_rfl) (by kernel_rfl) ?_)); (try simp only [List.take_succ_cons, List.take_zero, List.drop_succ_cons, List.drop_zero]); (repeat (go_big_quiet_step ((first | (go_at_call 48; with_reducible exact grow_of (CF.out _)))))); (first | (refine wpQuiet_nil ?_; intro w' hb; replace hB := Below.trans hB (Below.mono hb (Below.size hB)); replace k0 := Blk.below k0 hb (Blk.lt k0); replace k1 := Blk.below k1 hb (Blk.lt k1); (try clear k0c k0f k0z); have k0c := fun i => Blk.cell k0 i; have k0f := fun i => Blk.free k0 i; have k0z := Blk.lt k0; (try clear k1c k1f k1z); have k1c := fun i => Blk.cell k1 i; have k1f := fun i => Blk.free k1 i; have k1z := Blk.lt k1) | skip)
    all_goals (try (go_wp2_with (first | ((with_reducible refine wpList_here ?_ ?_); (· exact Eq.refl true); first | ((with_reducible refine wpList_grow 4 ?_ ?_); (· exact Eq.refl true)) | ((with_reducible refine wpList_grow 3 ?_ ?_); (· exact Eq.refl true)) | ((with_reducible refine wpList_grow 2 ?_ ?_); (· exact Eq.refl true)) | ((with_reducible refine wpList_grow 1 ?_ ?_); (· exact Eq.refl true))) | ((with_reducible refine wp_region_any_here ?_ ?_); (· exact Eq.refl true); first | ((with_reducible refine wp_region_drawn 4 ?_ ?_ ?_ ?_); (· exact Eq.refl true); (· kernel_rfl); (· kernel_rfl)) | ((with_reducible refine wp_region_drawn 3 ?_ ?_ ?_ ?_); (· exact Eq.refl true); (· kernel_rfl); (· kernel_rfl)) | ((with_reducible refine wp_region_drawn 2 ?_ ?_ ?_ ?_); (· exact Eq.refl true); (· kernel_rfl); (· kernel_rfl)) | ((with_reducible refine wp_region_drawn 1 ?_ ?_ ?_ ?_); (· exact Eq.refl true); (· kernel_rfl); (· kernel_rfl)) | refine wp_region_grow (by kernel_rfl) (by kernel_rfl) ?_)); (try simp only [List.take_succ_cons, List.take_zero, List.drop_succ_cons, List.drop_zero]); (repeat (go_big_quiet_step ((first | (go_at_call 48; with_reducible exact grow_of (CF.out _)))))); (first | (refine wpQuiet_nil ?_; intro w' hb; replace hB := Below.trans hB (Below.mono hb (Below.size hB)); replace k0 := Blk.below k0 hb (Blk.lt k0); replace k1 := Blk.below k1 hb (Blk.lt k1); (try clear k0c k0f k0z); have k0c := fun i => Blk.cell k0 i; have k0f := fun i => Blk.free k0 i; have k0z := Blk.lt k0; (try clear k1c k1f k1z); have k1c := fun i => Blk.cell k1 i; have k1f := fun i => Blk.free k1 i; have k1z := Blk.lt k1) | skip)))
    refine bodyPost_ret (v := .agg #[.int .u64 (r1 : Int), .int .u64 (r2 : Int)]) (by simp [results, Try.results33, go_sem, k1c, k1f]) rfl ?_
    exact ⟨rfl, set2b hB⟩
  · have q1 : decide (0 < d) = false := decide_eq_false h1
    simp only [if_neg h1]
    by_cases h2 : d < 0
    · simp only [if_pos h2]
      have q2 : decide (d < 0) = true := decide_eq_true h2
      go_enter Try.func33, Try.ntmps33
      go_wp2_with (first | ((with_reducible refine hold_list ?_ ?_); (· exact Eq.refl true)) | ((with_reducible refine hold_region ?_ ?_); (· exact Eq.refl true)) | (with_reducible refine hold_loop ?_))
      have k0 : Blk ((w.alloc (.cells #[.int .u64 (x : Int), .int .u64 (y : Int)] 28)).alloc (.cells #[.int .u64 0, .int .u64 0] 28)) (w.heap.size) 28 #[.int .u64 (x : Int), .int .u64 (y : Int)] := (Blk.alloc (blk_at (by simp)) (.cells #[.int .u64 0, .int .u64 0] 28))
      have k1 : Blk ((w.alloc (.cells #[.int .u64 (x : Int), .int .u64 (y : Int)] 28)).alloc (.cells #[.int .u64 0, .int .u64 0] 28)) (w.heap.size + 1) 28 #[.int .u64 0, .int .u64 0] := (blk_at (by simp))
      have hB : Below w.heap.size w ((w.alloc (.cells #[.int .u64 (x : Int), .int .u64 (y : Int)] 28)).alloc (.cells #[.int .u64 0, .int .u64 0] 28)) := (bel_at (bel_at (Below.refl _ _) (.cells #[.int .u64 (x : Int), .int .u64 (y : Int)] 28)) (.cells #[.int .u64 0, .int .u64 0] 28))
      generalize ((w.alloc (.cells #[.int .u64 (x : Int), .int .u64 (y : Int)] 28)).alloc (.cells #[.int .u64 0, .int .u64 0] 28)) = w1 at *
      (try clear k0c k0f k0z); have k0c := fun i => Blk.cell k0 i; have k0f := fun i => Blk.free k0 i; have k0z := Blk.lt k0; (try clear k1c k1f k1z); have k1c := fun i => Blk.cell k1 i; have k1f := fun i => Blk.free k1 i; have k1z := Blk.lt k1
      unfold Hold
      go_wp2_with (first | ((with_reducible refine wpList_here ?_ ?_); (· exact Eq.refl true); first | ((with_reducible refine wpList_grow 4 ?_ ?_); (· exact Eq.refl true)) | ((with_reducible refine wpList_grow 3 ?_ ?_); (· exact Eq.refl true)) | ((with_reducible refine wpList_grow 2 ?_ ?_); (· exact Eq.refl true)) | ((with_reducible refine wpList_grow 1 ?_ ?_); (· exact Eq.refl true))) | ((with_reducible refine wp_region_any_here ?_ ?_); (· exact Eq.refl true); first | ((with_reducible refine wp_region_drawn 4 ?_ ?_ ?_ ?_); (· exact Eq.refl true); (· kernel_rfl); (· kernel_rfl)) | ((with_reducible refine wp_region_drawn 3 ?_ ?_ ?_ ?_); (· exact Eq.refl true); (· kernel_rfl); (· kernel_rfl)) | ((with_reducible refine wp_region_drawn 2 ?_ ?_ ?_ ?_); (· exact Eq.refl true); (· kernel_rfl); (· kernel_rfl)) | ((with_reducible refine wp_region_drawn 1 ?_ ?_ ?_ ?_); (· exact Eq.refl true); (· kernel_rfl); (· kernel_rfl)) | refine wp_region_grow (by kernel_rfl) (by kernel_rfl) ?_)); (try simp only [List.take_succ_cons, List.take_zero, List.drop_succ_cons, List.drop_zero]); (repeat (go_big_quiet_step ((first | (go_at_call 49; with_reducible exact grow_of (CB.out _)))))); (first | (refine wpQuiet_nil ?_; intro w' hb; replace hB := Below.trans hB (Below.mono hb (Below.size hB)); replace k0 := Blk.below k0 hb (Blk.lt k0); replace k1 := Blk.below k1 hb (Blk.lt k1); (try clear k0c k0f k0z); have k0c := fun i => Blk.cell k0 i; have k0f := fun i => Blk.free k0 i; have k0z := Blk.lt k0; (try clear k1c k1f k1z); have k1c := fun i => Blk.cell k1 i; have k1f := fun i => Blk.free k1 i; have k1z := Blk.lt k1) | skip)
      all_goals (try (go_wp2_with (first | ((with_reducible refine wpList_here ?_ ?_); (· exact Eq.refl true); first | ((with_reducible refine wpList_grow 4 ?_ ?_); (· exact Eq.refl true)) | ((with_reducible refine wpList_grow 3 ?_ ?_); (· exact Eq.refl true)) | ((with_reducible refine wpList_grow 2 ?_ ?_); (· exact Eq.refl true)) | ((with_reducible refine wpList_grow 1 ?_ ?_); (· exact Eq.refl true))) | ((with_reducible refine wp_region_any_here ?_ ?_); (· exact Eq.refl true); first | ((with_reducible refine wp_region_drawn 4 ?_ ?_ ?_ ?_); (· exact Eq.refl true); (· kernel_rfl); (· kernel_rfl)) | ((with_reducible refine wp_region_drawn 3 ?_ ?_ ?_ ?_); (· exact Eq.refl true); (· kernel_rfl); (· kernel_rfl)) | ((with_reducible refine wp_region_drawn 2 ?_ ?_ ?_ ?_); (· exact Eq.refl true); (· kernel_rfl); (· kernel_rfl)) | ((with_reducible refine wp_region_drawn 1 ?_ ?_ ?_ ?_); (· exact Eq.refl true); (· kernel_rfl); (· kernel_rfl)) | refine wp_region_grow (by kernel_rfl) (by kernel_rfl) ?_)); (try simp only [List.take_succ_cons, List.take_zero, List.drop_succ_cons, List.drop_zero]); (repeat (go_big_quiet_step ((first | (go_at_call 49; with_reducible exact grow_of (CB.out _)))))); (first | (refine wpQuiet_nil ?_; intro w' hb; replace hB := Below.trans hB (Below.mono hb (Below.size hB)); replace k0 := Blk.below k0 hb (Blk.lt k0); replace k1 := Blk.below k1 hb (Blk.lt k1); (try clear k0c k0f k0z); have k0c := fun i => Blk.cell k0 i; have k0f := fun i => Blk.free k0 i; have k0z := Blk.lt k0; (try clear k1c k1f k1z); have k1c := fun i => Blk.cell k1 i; have k1f := fun i => Blk.free k1 i; have k1z := Blk.lt k1) | skip)))
      refine bodyPost_ret (v := .agg #[.int .u64 (b1 : Int), .int .u64 (b2 : Int)]) (by simp [results, Try.results33, go_sem, k1c, k1f]) rfl ?_
      exact ⟨rfl, set2b hB⟩
    · simp only [if_neg h2]
      have q2 : decide (d < 0) = false := decide_eq_false h2
      go_enter Try.func33, Try.ntmps33
      go_wp2
      refine bodyPost_ret (v := .agg #[.int .u64 0, .int .u64 0]) (by simp [results, Try.results33, go_sem]) rfl ?_
      exact ⟨rfl, Joins.below_alloc2 _ _ _⟩
theorem set6 {w w' : World} {g : Nat} {u1 u2 u3 u4 u5 u6 : Value} (h : Below w.heap.size w w') : Below w.heap.size w ((((((w'.setCell ⟨w.heap.size + g, 0, none⟩ u1).setCell ⟨w.heap.size + g, 1, none⟩ u2).setCell ⟨w.heap.size + g, 2, none⟩ u3).setCell ⟨w.heap.size + g, 3, none⟩ u4).setCell ⟨w.heap.size + g, 4, none⟩ u5).setCell ⟨w.heap.size + g, 5, none⟩ u6) := by
  have k : w.heap.size ≤ w.heap.size + g := by omega
  exact (((((h.setCell k _).setCell k _).setCell k _).setCell k _).setCell k _).setCell k _
/-- What a car sees, in six words. -/
structure Sgt where
  wx : Nat
  wy : Nat
  ux : Nat
  uy : Nat
  dx : Nat
  dy : Nat
abbrev Sgt.val (s : Sgt) : Value := .agg #[.int .u64 s.wx, .int .u64 s.wy, .int .u64 s.ux, .int .u64 s.uy, .int .u64 s.dx, .int .u64 s.dy]
def Sgt.ok (s : Sgt) : Prop := (Wd s.wx ∧ Wd s.wy) ∧ (Wd s.ux ∧ Wd s.uy) ∧ Wd s.dx ∧ Wd s.dy
def seeOf (c : Car) (cap : Int) (ux uy dx dy : Nat) : Sgt := ⟨wantX c cap ux dx, wantY c cap uy dy, landX c cap ux, landX c cap uy, landX c cap dx, landX c cap dy⟩
theorem see_ok {c : Car} {cap : Int} {ux uy dx dy : Nat} (h1 : Wd ux) (h2 : Wd uy) (h3 : Wd dx) (h4 : Wd dy) : (seeOf c cap ux uy dx dy).ok :=
  ⟨⟨wd_wantX h1 h3, wd_wantY h2 h4⟩, ⟨wd_land h1, wd_land h2⟩, wd_land h3, wd_land h4⟩
set_option maxRecDepth 20000 in
set_option maxHeartbeats 2000000 in
theorem face_See (c : Car) (A : Option Addr) (C : Nat) (cap : Int) (ux uy dx dy : Nat) (w : World) (hr : Rids w A c.riders) (hl : c.riders.length ≤ 1000) (hbd : ∀ i, I64 (dst c.riders i)) (hc : I64 cap)
    (h1 : Wd ux) (h2 : Wd uy) (h3 : Wd dx) (h4 : Wd dy) :
    Calls Try.prog 8 #[c.val A C, .int .i64 cap, sv ux uy, sv dx dy] w fun e w' => e = .returned (seeOf c cap ux uy dx dy).val ∧ Below w.heap.size w w' := by
  have cO := fun w hr => want_Of c A C cap ux uy dx dy w hr hl hbd hc h1 h2 h3 h4
  have cU := fun w => want_Lands c A C cap ux uy w hl hc
  have cD := fun w => want_Lands c A C cap dx dy w hl hc
  unfold seeOf
  unfold sv at *
  unfold Sgt.val
  simp only
  clear hbd hc h1 h2 h3 h4
  generalize wantX c cap ux dx = r1 at *
  generalize wantY c cap uy dy = r2 at *
  generalize landX c cap ux = l1 at *
  generalize landX c cap uy = l2 at *
  generalize landX c cap dx = l3 at *
  generalize landX c cap dy = l4 at *
  obtain ⟨p, d, m, l, wt, rs⟩ := c
  simp only at *
  have HR := Lib.hid hr
  have CO := Lib.hid cO
  have CU := Lib.hid cU
  have CD := Lib.hid cD
  clear hr cO cU cD
  go_enter Try.func8, Try.ntmps8
  go_wp2_with (first | ((with_reducible refine hold_list ?_ ?_); (· exact Eq.refl true)) | ((with_reducible refine hold_region ?_ ?_); (· exact Eq.refl true)) | (with_reducible refine hold_loop ?_))
  have k0 : Blk ((((w.alloc (.cells #[.int .i64 p, .int .i64 d, .int .i64 m, .int .i64 l, .bool wt, .slice A rs.length C] 25)).alloc (.cells #[.int .u64 (ux : Int), .int .u64 (uy : Int)] 28)).alloc (.cells #[.int .u64 (dx : Int), .int .u64 (dy : Int)] 28)).alloc (.cells #[.int .u64 0, .int .u64 0, .int .u64 0, .int .u64 0, .int .u64 0, .int .u64 0] 32)) (w.heap.size) 25 #[.int .i64 p, .int .i64 d, .int .i64 m, .int .i64 l, .bool wt, .slice A rs.length C] := (Blk.alloc (Blk.alloc (Blk.alloc (blk_at (by simp)) (.cells #[.int .u64 (ux : Int), .int .u64 (uy : Int)] 28)) (.cells #[.int .u64 (dx : Int), .int .u64 (dy : Int)] 28)) (.cells #[.int .u64 0, .int .u64 0, .int .u64 0, .int .u64 0, .int .u64 0, .int .u64 0] 32))
  have k1 : Blk ((((w.alloc (.cells #[.int .i64 p, .int .i64 d, .int .i64 m, .int .i64 l, .bool wt, .slice A rs.length C] 25)).alloc (.cells #[.int .u64 (ux : Int), .int .u64 (uy : Int)] 28)).alloc (.cells #[.int .u64 (dx : Int), .int .u64 (dy : Int)] 28)).alloc (.cells #[.int .u64 0, .int .u64 0, .int .u64 0, .int .u64 0, .int .u64 0, .int .u64 0] 32)) (w.heap.size + 1) 28 #[.int .u64 (ux : Int), .int .u64 (uy : Int)] := (Blk.alloc (Blk.alloc (blk_at (by simp)) (.cells #[.int .u64 (dx : Int), .int .u64 (dy : Int)] 28)) (.cells #[.int .u64 0, .int .u64 0, .int .u64 0, .int .u64 0, .int .u64 0, .int .u64 0] 32))
  have k2 : Blk ((((w.alloc (.cells #[.int .i64 p, .int .i64 d, .int .i64 m, .int .i64 l, .bool wt, .slice A rs.length C] 25)).alloc (.cells #[.int .u64 (ux : Int), .int .u64 (uy : Int)] 28)).alloc (.cells #[.int .u64 (dx : Int), .int .u64 (dy : Int)] 28)).alloc (.cells #[.int .u64 0, .int .u64 0, .int .u64 0, .int .u64 0, .int .u64 0, .int .u64 0] 32)) (w.heap.size + 2) 28 #[.int .u64 (dx : Int), .int .u64 (dy : Int)] := (Blk.alloc (blk_at (by simp)) (.cells #[.int .u64 0, .int .u64 0, .int .u64 0, .int .u64 0, .int .u64 0, .int .u64 0] 32))
  have k3 : Blk ((((w.alloc (.cells #[.int .i64 p, .int .i64 d, .int .i64 m, .int .i64 l, .bool wt, .slice A rs.length C] 25)).alloc (.cells #[.int .u64 (ux : Int), .int .u64 (uy : Int)] 28)).alloc (.cells #[.int .u64 (dx : Int), .int .u64 (dy : Int)] 28)).alloc (.cells #[.int .u64 0, .int .u64 0, .int .u64 0, .int .u64 0, .int .u64 0, .int .u64 0] 32)) (w.heap.size + 3) 32 #[.int .u64 0, .int .u64 0, .int .u64 0, .int .u64 0, .int .u64 0, .int .u64 0] := (blk_at (by simp))
  have hB : Below w.heap.size w ((((w.alloc (.cells #[.int .i64 p, .int .i64 d, .int .i64 m, .int .i64 l, .bool wt, .slice A rs.length C] 25)).alloc (.cells #[.int .u64 (ux : Int), .int .u64 (uy : Int)] 28)).alloc (.cells #[.int .u64 (dx : Int), .int .u64 (dy : Int)] 28)).alloc (.cells #[.int .u64 0, .int .u64 0, .int .u64 0, .int .u64 0, .int .u64 0, .int .u64 0] 32)) := (bel_at (bel_at (bel_at (bel_at (Below.refl _ _) (.cells #[.int .i64 p, .int .i64 d, .int .i64 m, .int .i64 l, .bool wt, .slice A rs.length C] 25)) (.cells #[.int .u64 (ux : Int), .int .u64 (uy : Int)] 28)) (.cells #[.int .u64 (dx : Int), .int .u64 (dy : Int)] 28)) (.cells #[.int .u64 0, .int .u64 0, .int .u64 0, .int .u64 0, .int .u64 0, .int .u64 0] 32))
  generalize ((((w.alloc (.cells #[.int .i64 p, .int .i64 d, .int .i64 m, .int .i64 l, .bool wt, .slice A rs.length C] 25)).alloc (.cells #[.int .u64 (ux : Int), .int .u64 (uy : Int)] 28)).alloc (.cells #[.int .u64 (dx : Int), .int .u64 (dy : Int)] 28)).alloc (.cells #[.int .u64 0, .int .u64 0, .int .u64 0, .int .u64 0, .int .u64 0, .int .u64 0] 32)) = w1 at *
  (try clear k0c k0f k0z); have k0c := fun i => Blk.cell k0 i; have k0f := fun i => Blk.free k0 i; have k0z := Blk.lt k0; (try clear k1c k1f k1z); have k1c := fun i => Blk.cell k1 i; have k1f := fun i => Blk.free k1 i; have k1z := Blk.lt k1; (try clear k2c k2f k2z); have k2c := fun i => Blk.cell k2 i; have k2f := fun i => Blk.free k2 i; have k2z := Blk.lt k2; (try clear k3c k3f k3z); have k3c := fun i => Blk.cell k3 i; have k3f := fun i => Blk.free k3 i; have k3z := Blk.lt k3
  unfold Hold
  go_wp2_with (first | ((with_reducible refine wpList_here ?_ ?_); (· exact Eq.refl true); first | ((with_reducible refine wpList_grow 14 ?_ ?_); (· exact Eq.refl true)) | ((with_reducible refine wpList_grow 13 ?_ ?_); (· exact Eq.refl true))) | ((with_reducible refine wp_region_any_here ?_ ?_); (· exact Eq.refl true); first | ((with_reducible refine wp_region_drawn 14 ?_ ?_ ?_ ?_); (· exact Eq.refl true); (· kernel_rfl); (· kernel_rfl)) | ((with_reducible refine wp_region_drawn 13 ?_ ?_ ?_ ?_); (· exact Eq.refl true); (· kernel_rfl); (· kernel_rfl)) | refine wp_region_grow (by kernel_rfl) (by kernel_rfl) ?_)); (try simp only [List.take_succ_cons, List.take_zero, List.drop_succ_cons, List.drop_zero]); (repeat (go_big_quiet_step ((first | (go_at_call 27; with_reducible exact grow_of (CO.out _ ((HR.out.below hB).below (Grow.below _)))) | (go_at_call 28; with_reducible exact grow_of (CU.out _)) | (go_at_call 28; with_reducible exact grow_of (CD.out _)))))); (first | (refine wpQuiet_nil ?_; intro w' hb; replace hB := Below.trans hB (Below.mono hb (Below.size hB)); replace k0 := Blk.below k0 hb (Blk.lt k0); replace k1 := Blk.below k1 hb (Blk.lt k1); replace k2 := Blk.below k2 hb (Blk.lt k2); replace k3 := Blk.below k3 hb (Blk.lt k3); (try clear k0c k0f k0z); have k0c := fun i => Blk.cell k0 i; have k0f := fun i => Blk.free k0 i; have k0z := Blk.lt k0; (try clear k1c k1f k1z); have k1c := fun i => Blk.cell k1 i; have k1f := fun i => Blk.free k1 i; have k1z := Blk.lt k1; (try clear k2c k2f k2z); have k2c := fun i => Blk.cell k2 i; have k2f := fun i => Blk.free k2 i; have k2z := Blk.lt k2; (try clear k3c k3f k3z); have k3c := fun i => Blk.cell k3 i; have k3f := fun i => Blk.free k3 i; have k3z := Blk.lt k3) | skip)
  all_goals (try (go_wp2_with (first | ((with_reducible refine wpList_here ?_ ?_); (· exact Eq.refl true); first | ((with_reducible refine wpList_grow 14 ?_ ?_); (· exact Eq.refl true)) | ((with_reducible refine wpList_grow 13 ?_ ?_); (· exact Eq.refl true))) | ((with_reducible refine wp_region_any_here ?_ ?_); (· exact Eq.refl true); first | ((with_reducible refine wp_region_drawn 14 ?_ ?_ ?_ ?_); (· exact Eq.refl true); (· kernel_rfl); (· kernel_rfl)) | ((with_reducible refine wp_region_drawn 13 ?_ ?_ ?_ ?_); (· exact Eq.refl true); (· kernel_rfl); (· kernel_rfl)) | refine wp_region_grow (by kernel_rfl) (by kernel_rfl) ?_)); (try simp only [List.take_succ_cons, List.take_zero, List.drop_succ_cons, List.drop_zero]); (repeat (go_big_quiet_step ((first | (go_at_call 27; with_reducible exact grow_of (CO.out _ ((HR.out.below hB).below (Grow.below _)))) | (go_at_call 28; with_reducible exact grow_of (CU.out _)) | (go_at_call 28; with_reducible exact grow_of (CD.out _)))))); (first | (refine wpQuiet_nil ?_; intro w' hb; replace hB := Below.trans hB (Below.mono hb (Below.size hB)); replace k0 := Blk.below k0 hb (Blk.lt k0); replace k1 := Blk.below k1 hb (Blk.lt k1); replace k2 := Blk.below k2 hb (Blk.lt k2); replace k3 := Blk.below k3 hb (Blk.lt k3); (try clear k0c k0f k0z); have k0c := fun i => Blk.cell k0 i; have k0f := fun i => Blk.free k0 i; have k0z := Blk.lt k0; (try clear k1c k1f k1z); have k1c := fun i => Blk.cell k1 i; have k1f := fun i => Blk.free k1 i; have k1z := Blk.lt k1; (try clear k2c k2f k2z); have k2c := fun i => Blk.cell k2 i; have k2f := fun i => Blk.free k2 i; have k2z := Blk.lt k2; (try clear k3c k3f k3z); have k3c := fun i => Blk.cell k3 i; have k3f := fun i => Blk.free k3 i; have k3z := Blk.lt k3) | skip)))
  refine bodyPost_ret (v := .agg #[.int .u64 (r1 : Int), .int .u64 (r2 : Int), .int .u64 (l1 : Int), .int .u64 (l2 : Int), .int .u64 (l3 : Int), .int .u64 (l4 : Int)]) (by simp [results, Try.results8, go_sem, k3c, k3f]) rfl ?_
  exact ⟨rfl, set6 (g := 3) hB⟩
end Go.Proofs.Ytlcnhpjmmjmkcaa
