
/-
  The statement BitsSets, walked. Condition: the library's table lies as laid.
-/
import Derived.Test.YtlcnhpjmmjmkcaaDoorRef03g
import Derived.Test.YtlcnhpjmmjmkcaaDoorAlive03
import Derived.Test.YtlcnhpjmmjmkcaaDoorArgSet
set_option linter.unusedVariables false
set_option linter.unusedSimpArgs false
namespace Go.Proofs.YtlcnhpjmmjmkcaaDoor
open Go.Joins Go.ChangeShapes Go.WideShapes Go.ChangeAt Go.RowKit Go.Deep

theorem mem_andB {x y x' y' : Nat} (n : Int) : memB (x &&& x') (y &&& y') n = (memB x y n && memB x' y' n) := by
  unfold memB
  split
  · rw [Nat.testBit_and]
  · split
    · rw [Nat.testBit_and]
    · rfl
theorem both_and {x y x' y' : Nat} (hx : Wd x) (hy : Wd y) : mkX (bothF 0 x y x' y') = x &&& x' ∧ mkY (bothF 0 x y x' y') = y &&& y' :=
  mk_bits (wd_and _ hx) (wd_and _ hy) fun n _ => by rw [mem_andB]; rfl
theorem both_or {x y x' y' : Nat} (hx : Wd x) (hy : Wd y) (hx' : Wd x') (hy' : Wd y') : mkX (bothF 1 x y x' y') = x ||| x' ∧ mkY (bothF 1 x y x' y') = y ||| y' :=
  mk_bits (wd_or hx hx') (wd_or hy hy') fun n _ => by rw [mem_or]; rfl
theorem both_sub {x y x' y' : Nat} (hx : Wd x) (hy : Wd y) (hx' : Wd x') (hy' : Wd y') : mkX (bothF 2 x y x' y') = subW x x' ∧ mkY (bothF 2 x y x' y') = subW y y' :=
  mk_bits (wd_and _ hx) (wd_and _ hy) fun n _ => by rw [mem_sub hx' hy']; rfl
theorem eq_sets (a b : Int) : ∀ w, (Op.equalIn 10000 24 (.agg #[.int .u64 a, .int .u64 b]) (.agg #[.int .u64 a, .int .u64 b])).run Tryd.prog w = .ok true w := fun w => by
  rw [run_set2]; simp
set_option maxRecDepth 20000 in
set_option maxHeartbeats 4000000 in
theorem law_BitsSets (x y x' y' : Nat) (w : World) (hx : Wd x) (hy : Wd y) (hx' : Wd x') (hy' : Wd y') (hT : Tab w) :
    Calls Tryd.prog 5 #[.agg #[.int .u64 (x : Int), .int .u64 (y : Int)], .agg #[.int .u64 (x' : Int), .int .u64 (y' : Int)]] w fun e w' => e = .returned (.bool true) ∧ Below w.heap.size w w' := by
  have c1 := fun w => bits_And x y x' y' w hx hy hx' hy'
  have c2 := fun w => bits_Or x y x' y' w hx hy hx' hy'
  have c3 := fun w => bits_Sub x y x' y' w hx hy hx' hy'
  have b1 := fun w => ref03_Both 0 x y x' y' w hx hy hx' hy' (.inl rfl)
  have b2 := fun w => ref03_Both 1 x y x' y' w hx hy hx' hy' (.inr (.inl rfl))
  have b3 := fun w => ref03_Both 2 x y x' y' w hx hy hx' hy' (.inr (.inr rfl))
  rw [(both_and hx hy).1, (both_and hx hy).2] at b1
  rw [(both_or hx hy hx' hy').1, (both_or hx hy hx' hy').2] at b2
  rw [(both_sub hx hy hx' hy').1, (both_sub hx hy hx' hy').2] at b3
  have cA := fun w hT => alive03 w hT
  unfold sv at *
  generalize ((x &&& x' : Nat) : Int) = r1 at *
  generalize ((y &&& y' : Nat) : Int) = r2 at *
  generalize ((x ||| x' : Nat) : Int) = r3 at *
  generalize ((y ||| y' : Nat) : Int) = r4 at *
  generalize ((subW x x' : Nat) : Int) = r5 at *
  generalize ((subW y y' : Nat) : Int) = r6 at *
  have g1 := eq_sets r1 r2
  have g2 := eq_sets r3 r4
  have g3 := eq_sets r5 r6
  have C1 := Lib.hid c1
  have C2 := Lib.hid c2
  have C3 := Lib.hid c3
  have B1 := Lib.hid b1
  have B2 := Lib.hid b2
  have B3 := Lib.hid b3
  have CA := Lib.hid cA
  have HT := Lib.hid hT
  clear c1 c2 c3 b1 b2 b3 cA hT hx hy hx' hy'
  go_enter Tryd.func5, Tryd.ntmps5
  go_wp2_with (first | ((with_reducible refine hold_list ?_ ?_); (· exact Eq.refl true)) | ((with_reducible refine hold_region ?_ ?_); (· exact Eq.refl true)) | (with_reducible refine hold_loop ?_))
  have k0 : Blk ((w.alloc (.cells #[.int .u64 (x : Int), .int .u64 (y : Int)] 24)).alloc (.cells #[.int .u64 (x' : Int), .int .u64 (y' : Int)] 24)) (w.heap.size) 24 #[.int .u64 (x : Int), .int .u64 (y : Int)] := (Blk.alloc (blk_at (by simp)) (.cells #[.int .u64 (x' : Int), .int .u64 (y' : Int)] 24))
  have k1 : Blk ((w.alloc (.cells #[.int .u64 (x : Int), .int .u64 (y : Int)] 24)).alloc (.cells #[.int .u64 (x' : Int), .int .u64 (y' : Int)] 24)) (w.heap.size + 1) 24 #[.int .u64 (x' : Int), .int .u64 (y' : Int)] := (blk_at (by simp))
  have hB : Below w.heap.size w ((w.alloc (.cells #[.int .u64 (x : Int), .int .u64 (y : Int)] 24)).alloc (.cells #[.int .u64 (x' : Int), .int .u64 (y' : Int)] 24)) := (bel_at (bel_at (Below.refl _ _) (.cells #[.int .u64 (x : Int), .int .u64 (y : Int)] 24)) (.cells #[.int .u64 (x' : Int), .int .u64 (y' : Int)] 24))
  generalize ((w.alloc (.cells #[.int .u64 (x : Int), .int .u64 (y : Int)] 24)).alloc (.cells #[.int .u64 (x' : Int), .int .u64 (y' : Int)] 24)) = w1 at *
  (try clear k0c k0f k0z); have k0c := fun i => Blk.cell k0 i; have k0f := fun i => Blk.free k0 i; have k0z := Blk.lt k0; (try clear k1c k1f k1z); have k1c := fun i => Blk.cell k1 i; have k1f := fun i => Blk.free k1 i; have k1z := Blk.lt k1
  unfold Hold
  go_wp2_with (first | ((with_reducible refine wpList_here ?_ ?_); (· exact Eq.refl true); first | ((with_reducible refine wpList_grow 99 ?_ ?_); (· exact Eq.refl true))) | ((with_reducible refine wp_region_any_here ?_ ?_); (· exact Eq.refl true); first | ((with_reducible refine wp_region_drawn 99 ?_ ?_ ?_ ?_); (· exact Eq.refl true); (· kernel_rfl); (· kernel_rfl)) | refine wp_region_grow (by kernel_rfl) (by kernel_rfl) ?_)); (try simp only [List.take_succ_cons, List.take_zero, List.drop_succ_cons, List.drop_zero]); (repeat (go_big_quiet_step ((first | (go_at_call 20; with_reducible exact grow_of (C1.out _)) | (go_at_call 22; with_reducible exact grow_of (C2.out _)) | (go_at_call 23; with_reducible exact grow_of (C3.out _)) | (go_at_call 21; with_reducible exact grow_of (B1.out _)) | (go_at_call 21; with_reducible exact grow_of (B2.out _)) | (go_at_call 21; with_reducible exact grow_of (B3.out _)) | (go_at_call 19; with_reducible exact grow_of (CA.out _ ((HT.out.below hB).below (Grow.below _)))))))); (first | (refine wpQuiet_nil ?_; intro w' hb; replace hB := Below.trans hB (Below.mono hb (Below.size hB)); replace k0 := Blk.below k0 hb (Blk.lt k0); replace k1 := Blk.below k1 hb (Blk.lt k1); (try clear k0c k0f k0z); have k0c := fun i => Blk.cell k0 i; have k0f := fun i => Blk.free k0 i; have k0z := Blk.lt k0; (try clear k1c k1f k1z); have k1c := fun i => Blk.cell k1 i; have k1f := fun i => Blk.free k1 i; have k1z := Blk.lt k1) | skip)
  all_goals (try (go_wp2_with (first | ((with_reducible refine wpList_here ?_ ?_); (· exact Eq.refl true); first | ((with_reducible refine wpList_grow 99 ?_ ?_); (· exact Eq.refl true))) | ((with_reducible refine wp_region_any_here ?_ ?_); (· exact Eq.refl true); first | ((with_reducible refine wp_region_drawn 99 ?_ ?_ ?_ ?_); (· exact Eq.refl true); (· kernel_rfl); (· kernel_rfl)) | refine wp_region_grow (by kernel_rfl) (by kernel_rfl) ?_)); (try simp only [List.take_succ_cons, List.take_zero, List.drop_succ_cons, List.drop_zero]); (repeat (go_big_quiet_step ((first | (go_at_call 20; with_reducible exact grow_of (C1.out _)) | (go_at_call 22; with_reducible exact grow_of (C2.out _)) | (go_at_call 23; with_reducible exact grow_of (C3.out _)) | (go_at_call 21; with_reducible exact grow_of (B1.out _)) | (go_at_call 21; with_reducible exact grow_of (B2.out _)) | (go_at_call 21; with_reducible exact grow_of (B3.out _)) | (go_at_call 19; with_reducible exact grow_of (CA.out _ ((HT.out.below hB).below (Grow.below _)))))))); (first | (refine wpQuiet_nil ?_; intro w' hb; replace hB := Below.trans hB (Below.mono hb (Below.size hB)); replace k0 := Blk.below k0 hb (Blk.lt k0); replace k1 := Blk.below k1 hb (Blk.lt k1); (try clear k0c k0f k0z); have k0c := fun i => Blk.cell k0 i; have k0f := fun i => Blk.free k0 i; have k0z := Blk.lt k0; (try clear k1c k1f k1z); have k1c := fun i => Blk.cell k1 i; have k1f := fun i => Blk.free k1 i; have k1z := Blk.lt k1) | skip)))
  all_goals (try (go_wp2_with (first | ((with_reducible refine wpList_here ?_ ?_); (· exact Eq.refl true); first | ((with_reducible refine wpList_grow 99 ?_ ?_); (· exact Eq.refl true))) | ((with_reducible refine wp_region_any_here ?_ ?_); (· exact Eq.refl true); first | ((with_reducible refine wp_region_drawn 99 ?_ ?_ ?_ ?_); (· exact Eq.refl true); (· kernel_rfl); (· kernel_rfl)) | refine wp_region_grow (by kernel_rfl) (by kernel_rfl) ?_)); (try simp only [List.take_succ_cons, List.take_zero, List.drop_succ_cons, List.drop_zero]); (repeat (go_big_quiet_step ((first | (go_at_call 20; with_reducible exact grow_of (C1.out _)) | (go_at_call 22; with_reducible exact grow_of (C2.out _)) | (go_at_call 23; with_reducible exact grow_of (C3.out _)) | (go_at_call 21; with_reducible exact grow_of (B1.out _)) | (go_at_call 21; with_reducible exact grow_of (B2.out _)) | (go_at_call 21; with_reducible exact grow_of (B3.out _)) | (go_at_call 19; with_reducible exact grow_of (CA.out _ ((HT.out.below hB).below (Grow.below _)))))))); (first | (refine wpQuiet_nil ?_; intro w' hb; replace hB := Below.trans hB (Below.mono hb (Below.size hB)); replace k0 := Blk.below k0 hb (Blk.lt k0); replace k1 := Blk.below k1 hb (Blk.lt k1); (try clear k0c k0f k0z); have k0c := fun i => Blk.cell k0 i; have k0f := fun i => Blk.free k0 i; have k0z := Blk.lt k0; (try clear k1c k1f k1z); have k1c := fun i => Blk.cell k1 i; have k1f := fun i => Blk.free k1 i; have k1z := Blk.lt k1) | skip)))
  go_ret
  exact ⟨rfl, hB⟩
set_option maxRecDepth 100000 in
theorem walkBitsSets {H : Type} (W : World) (base : Nat) (enc : TypeId × Value → H) {v0 : Value} {d0 : DataW H} {p0 : List MemPlace} {v1 : Value} {d1 : DataW H} {p1 : List MemPlace}
    (h0 : DataW.Trod enc Tryd.prog W 0 (fun _ => true) true 24 v0 d0 p0) (h1 : DataW.Trod enc Tryd.prog W 0 (fun _ => true) true 24 v1 d1 p1)
    (o0 : Value.okWide Tryd.prog W .any base 24 v0) (o1 : Value.okWide Tryd.prog W .any base 24 v1) (hT : Tab W) :
    Calls Tryd.prog 5 #[v0, v1] W fun e W' => e = .returned (.bool true) ∧ Below W.heap.size W W' := by
  obtain ⟨cs, rfl, m, hm⟩ := arg_agg (.inr ⟨_, _, Tryd.underlying24⟩) o0 h0
  obtain ⟨x, y, rfl, b1, b2⟩ := read_set hm
  obtain ⟨cs, rfl, m1, hm1⟩ := arg_agg (.inr ⟨_, _, Tryd.underlying24⟩) o1 h1
  obtain ⟨x', y', rfl, b3, b4⟩ := read_set hm1
  exact law_BitsSets x y x' y' W b1 b2 b3 b4 hT
end Go.Proofs.YtlcnhpjmmjmkcaaDoor
