
/-
  The statement BitsOrder, walked. Condition: the library's table lies as laid.
-/
import Derived.Test.YtlcnhpjmmjmkcaaDoorAllC
import Derived.Test.YtlcnhpjmmjmkcaaDoorAlive03
import Derived.Test.YtlcnhpjmmjmkcaaDoorArgSet
import Derived.Test.YtlcnhpjmmjmkcaaDoorEqI
set_option linter.unusedVariables false
set_option linter.unusedSimpArgs false
namespace Go.Proofs.YtlcnhpjmmjmkcaaDoor
open Go.Joins Go.ChangeShapes Go.WideShapes Go.ChangeAt Go.RowKit Go.Deep

theorem wd_full : Wd 18446744073709551615 := by show _ < 2 ^ 64; omega
set_option maxRecDepth 20000 in
set_option maxHeartbeats 1000000 in
theorem bits_Range (n m : Int) (w : World) (hn : I64 n) (hm : I64 m) : Calls Tryd.prog 42 #[.int .i64 n, .int .i64 m] w fun e w' => e = .returned (sv (fromX (belX 18446744073709551615 m) n) (fromY (belY 18446744073709551615 m) n)) ∧ Below w.heap.size w w' := by
  have cB := fun w => bits_Below 18446744073709551615 18446744073709551615 m w wd_full wd_full hm
  have cF := fun w => bits_From (belX 18446744073709551615 m) (belY 18446744073709551615 m) n w (wd_belX m wd_full) (wd_belY m wd_full) hn
  unfold sv at *
  generalize (fromX (belX 18446744073709551615 m) n : Int) = r1 at *
  generalize (fromY (belY 18446744073709551615 m) n : Int) = r2 at *
  generalize (belX 18446744073709551615 m : Int) = b1 at *
  generalize (belY 18446744073709551615 m : Int) = b2 at *
  have CB := Lib.hid cB
  have CF := Lib.hid cF
  clear cB cF hn hm
  go_enter Tryd.func42, Tryd.ntmps42
  go_wp2_with (first | ((with_reducible refine hold_list ?_ ?_); (· exact Eq.refl true)) | ((with_reducible refine hold_region ?_ ?_); (· exact Eq.refl true)) | (with_reducible refine hold_loop ?_))
  have k0 : Blk (w.alloc (.cells #[.int .u64 0, .int .u64 0] 24)) (w.heap.size) 24 #[.int .u64 0, .int .u64 0] := (blk_at (by simp))
  have hB : Below w.heap.size w (w.alloc (.cells #[.int .u64 0, .int .u64 0] 24)) := (bel_at (Below.refl _ _) (.cells #[.int .u64 0, .int .u64 0] 24))
  generalize (w.alloc (.cells #[.int .u64 0, .int .u64 0] 24)) = w1 at *
  (try clear k0c k0f k0z); have k0c := fun i => Blk.cell k0 i; have k0f := fun i => Blk.free k0 i; have k0z := Blk.lt k0
  unfold Hold
  go_wp2_with (first | ((with_reducible refine wpList_here ?_ ?_); (· exact Eq.refl true); first | ((with_reducible refine wpList_grow 5 ?_ ?_); (· exact Eq.refl true))) | ((with_reducible refine wp_region_any_here ?_ ?_); (· exact Eq.refl true); first | ((with_reducible refine wp_region_drawn 5 ?_ ?_ ?_ ?_); (· exact Eq.refl true); (· kernel_rfl); (· kernel_rfl)) | refine wp_region_grow (by kernel_rfl) (by kernel_rfl) ?_)); (try simp only [List.take_succ_cons, List.take_zero, List.drop_succ_cons, List.drop_zero]); (repeat (go_big_quiet_step ((first | (go_at_call 39; with_reducible exact grow_of (CB.out _)) | (go_at_call 41; with_reducible exact grow_of (CF.out _)))))); (first | (refine wpQuiet_nil ?_; intro w' hb; replace hB := Below.trans hB (Below.mono hb (Below.size hB)); replace k0 := Blk.below k0 hb (Blk.lt k0); (try clear k0c k0f k0z); have k0c := fun i => Blk.cell k0 i; have k0f := fun i => Blk.free k0 i; have k0z := Blk.lt k0) | skip)
  all_goals (try (go_wp2_with (first | ((with_reducible refine wpList_here ?_ ?_); (· exact Eq.refl true); first | ((with_reducible refine wpList_grow 5 ?_ ?_); (· exact Eq.refl true))) | ((with_reducible refine wp_region_any_here ?_ ?_); (· exact Eq.refl true); first | ((with_reducible refine wp_region_drawn 5 ?_ ?_ ?_ ?_); (· exact Eq.refl true); (· kernel_rfl); (· kernel_rfl)) | refine wp_region_grow (by kernel_rfl) (by kernel_rfl) ?_)); (try simp only [List.take_succ_cons, List.take_zero, List.drop_succ_cons, List.drop_zero]); (repeat (go_big_quiet_step ((first | (go_at_call 39; with_reducible exact grow_of (CB.out _)) | (go_at_call 41; with_reducible exact grow_of (CF.out _)))))); (first | (refine wpQuiet_nil ?_; intro w' hb; replace hB := Below.trans hB (Below.mono hb (Below.size hB)); replace k0 := Blk.below k0 hb (Blk.lt k0); (try clear k0c k0f k0z); have k0c := fun i => Blk.cell k0 i; have k0f := fun i => Blk.free k0 i; have k0z := Blk.lt k0) | skip)))
  all_goals (try (go_wp2_with (first | ((with_reducible refine wpList_here ?_ ?_); (· exact Eq.refl true); first | ((with_reducible refine wpList_grow 5 ?_ ?_); (· exact Eq.refl true))) | ((with_reducible refine wp_region_any_here ?_ ?_); (· exact Eq.refl true); first | ((with_reducible refine wp_region_drawn 5 ?_ ?_ ?_ ?_); (· exact Eq.refl true); (· kernel_rfl); (· kernel_rfl)) | refine wp_region_grow (by kernel_rfl) (by kernel_rfl) ?_)); (try simp only [List.take_succ_cons, List.take_zero, List.drop_succ_cons, List.drop_zero]); (repeat (go_big_quiet_step ((first | (go_at_call 39; with_reducible exact grow_of (CB.out _)) | (go_at_call 41; with_reducible exact grow_of (CF.out _)))))); (first | (refine wpQuiet_nil ?_; intro w' hb; replace hB := Below.trans hB (Below.mono hb (Below.size hB)); replace k0 := Blk.below k0 hb (Blk.lt k0); (try clear k0c k0f k0z); have k0c := fun i => Blk.cell k0 i; have k0f := fun i => Blk.free k0 i; have k0z := Blk.lt k0) | skip)))
  refine bodyPost_ret (v := .agg #[.int .u64 r1, .int .u64 r2]) (by simp [results, Tryd.results42, go_sem, k0c, k0f]) rfl ?_
  exact ⟨rfl, by (repeat' (first | with_reducible exact hB | with_reducible exact below_drewN hB _ | with_reducible refine Below.drew ?_ | with_reducible refine Below.setCell ?_ ?_ _)) <;> (first | (simp; done) | omega | (simp; omega))⟩
/-- What Prev finds, by the row. -/
theorem bits_Prev (x y : Nat) (n : Int) (w : World) (hx : Wd x) (hy : Wd y) (hn : I64 n) :
    Calls Tryd.prog 45 #[sv x y, .int .i64 n] w fun e w' => e = .returned (.tuple #[.int .i64 (leL n (items x y)).1, .bool (leL n (items x y)).2]) ∧ Below w.heap.size w w' := by
  rcases Int.lt_or_le n 0 with h | h
  · rw [prev_neg x y n h]
    exact bits_Prev_neg x y n w h
  · rw [prev_of x y n hx hy h]
    exact bits_Prev_pos x y n w hx hy ⟨h, hn.2⟩
theorem bits_NextL (x y : Nat) (n : Int) (w : World) (hx : Wd x) (hy : Wd y) (hn : I64 n) (hT : Tab w) :
    Calls Tryd.prog 44 #[sv x y, .int .i64 n] w fun e w' => e = .returned (.tuple #[.int .i64 (geL n (0, false) (items x y)).1, .bool (geL n (0, false) (items x y)).2]) ∧ Below w.heap.size w w' := by
  rw [next_of x y n hx hy]
  exact bits_Next x y n w hx hy hn hT
set_option maxRecDepth 20000 in
set_option maxHeartbeats 8000000 in
theorem law_BitsOrder (x y : Nat) (n m : Int) (w : World) (hx : Wd x) (hy : Wd y) (hn : I64 n) (hm : I64 m) (hT : Tab w) :
    Calls Tryd.prog 8 #[.agg #[.int .u64 (x : Int), .int .u64 (y : Int)], .int .i64 n, .int .i64 m] w fun e w' => e = .returned (.bool true) ∧ Below w.heap.size w w' := by
  have h128 : I64 128 := by unfold I64; omega
  have h0 : I64 0 := by unfold I64; omega
  have cB := fun w => bits_Below x y n w hx hy hn
  have cF := fun w => bits_From x y n w hx hy hn
  have cR := fun w => bits_Range n m w hn hm
  have cU := fun w => ref03_Full w
  have r1 := fun w => ref03_Range x y 0 n w hx hy h0 hn
  have r2 := fun w => ref03_Range x y n 128 w hx hy hn h128
  have r3 := fun w => ref03_Range 18446744073709551615 18446744073709551615 n m w wd_full wd_full hn hm
  rw [(rng_bel hx hy n).1, (rng_bel hx hy n).2] at r1
  rw [(rng_fr hx hy n).1, (rng_fr hx hy n).2] at r2
  rw [(rng_from wd_full wd_full n m).1, (rng_from wd_full wd_full n m).2] at r3
  have cI := fun w => ref03_Items x y w hx hy
  have cN := fun w hT => bits_NextL x y n w hx hy hn hT
  have cP := fun w => bits_Prev x y n w hx hy hn
  have cA := fun w hT => alive03 w hT
  have cL := fun w hT => law03_all x y w hx hy hT
  have hlen := itemL_len x y
  have hbd := at0_item x y
  clear hx hy hn hm h128 h0
  generalize items x y = L at *
  unfold sv at *
  generalize (fromX (belX 18446744073709551615 m) n : Int) = u1 at *
  generalize (fromY (belY 18446744073709551615 m) n : Int) = u2 at *
  generalize (fromX x n : Int) = f1 at *
  generalize (fromY y n : Int) = f2 at *
  generalize (belX x n : Int) = b1 at *
  generalize (belY y n : Int) = b2 at *
  have g1 := run_set2 u1 u2 u1 u2
  have g2 := run_set2 f1 f2 f1 f2
  have g3 := run_set2 b1 b2 b1 b2
  simp only [beq_self_eq_true, Bool.and_self] at g1 g2 g3
  obtain ⟨z1, hz1⟩ : ∃ z, (geL n (0, false) L).1 = z := ⟨_, rfl⟩
  obtain ⟨z2, hz2⟩ : ∃ z, (geL n (0, false) L).2 = z := ⟨_, rfl⟩
  obtain ⟨p1, hp1⟩ : ∃ z, (leL n L).1 = z := ⟨_, rfl⟩
  obtain ⟨p2, hp2⟩ : ∃ z, (leL n L).2 = z := ⟨_, rfl⟩
  rw [hz1, hz2] at cN
  rw [hp1, hp2] at cP
  have Z1 := Lib.hid hz1
  have Z2 := Lib.hid hz2
  have P1 := Lib.hid hp1
  have P2 := Lib.hid hp2
  clear hz1 hz2 hp1 hp2
  have CB := Lib.hid cB
  have CF := Lib.hid cF
  have CR := Lib.hid cR
  have CU := Lib.hid cU
  have R1 := Lib.hid r1
  have R2 := Lib.hid r2
  have R3 := Lib.hid r3
  have CI := Lib.hid cI
  have CN := Lib.hid cN
  have CP := Lib.hid cP
  have CA := Lib.hid cA
  have CL := Lib.hid cL
  have HT := Lib.hid hT
  have HL := Lib.hid hlen
  clear cB cF cR cU r1 r2 r3 cI cN cP cA cL hT hlen
  go_enter Tryd.func8, Tryd.ntmps8
  go_wp2_with (first | ((with_reducible refine hold_list ?_ ?_); (· exact Eq.refl true)) | ((with_reducible refine hold_region ?_ ?_); (· exact Eq.refl true)) | (with_reducible refine hold_loop ?_))
  have k0 : Blk (w.alloc (.cells #[.int .u64 (x : Int), .int .u64 (y : Int)] 24)) (w.heap.size) 24 #[.int .u64 (x : Int), .int .u64 (y : Int)] := (blk_at (by simp))
  have hB : Below w.heap.size w (w.alloc (.cells #[.int .u64 (x : Int), .int .u64 (y : Int)] 24)) := (bel_at (Below.refl _ _) (.cells #[.int .u64 (x : Int), .int .u64 (y : Int)] 24))
  generalize (w.alloc (.cells #[.int .u64 (x : Int), .int .u64 (y : Int)] 24)) = w1 at *
  (try clear k0c k0f k0z); have k0c := fun i => Blk.cell k0 i; have k0f := fun i => Blk.free k0 i; have k0z := Blk.lt k0
  unfold Hold
  go_wp2_with (first | (first | ((with_reducible refine wpList_here ?_ ?_); (· exact Eq.refl true); first | ((with_reducible refine wpList_grow 99 ?_ ?_); (· exact Eq.refl true))) | ((with_reducible refine wp_region_any_here ?_ ?_); (· exact Eq.refl true); first | ((with_reducible refine wp_region_drawn 99 ?_ ?_ ?_ ?_); (· exact Eq.refl true); (· kernel_rfl); (· kernel_rfl)) | refine wp_region_grow (by kernel_rfl) (by kernel_rfl) ?_)); (try simp only [List.take_succ_cons, List.take_zero, List.drop_succ_cons, List.drop_zero]); (repeat (go_big_quiet_step ((first | (go_at_call 39; with_reducible exact grow_of (CB.out _)) | (go_at_call 41; with_reducible exact grow_of (CF.out _)) | (go_at_call 42; with_reducible exact grow_of (CR.out _)) | (go_at_call 43; with_reducible exact grow_of (CU.out _)) | (go_at_call 40; with_reducible exact grow_of (R1.out _)) | (go_at_call 40; with_reducible exact grow_of (R2.out _)) | (go_at_call 40; with_reducible exact grow_of (R3.out _)))))); (first | (refine wpQuiet_nil ?_; intro w' hb; replace hB := Below.trans hB (Below.mono hb (Below.size hB)); replace k0 := Blk.below k0 hb (Blk.lt k0); (try clear k0c k0f k0z); have k0c := fun i => Blk.cell k0 i; have k0f := fun i => Blk.free k0 i; have k0z := Blk.lt k0) | skip) | (go_at_call 30; refine (CI.out _).mono ?_))
  rintro e w2 hret
  obtain ⟨A, C, rfl, hint, hb2⟩ := hret.ints
  replace hB := hB.trans (hb2.mono hB.size)
  replace k0 := k0.below hb2 k0.lt
  clear hb hret hb2 w1
  (try clear k0c k0f k0z); have k0c := fun i => Blk.cell k0 i; have k0f := fun i => Blk.free k0 i; have k0z := Blk.lt k0
  have HI := Lib.hid hint
  have K0 := Lib.hid k0
  have HB := Lib.hid hB
  have HBD := Lib.hid hbd
  have e0 : IntKind.i64.wrap ((L.length : Int) - 1) = (L.length : Int) - 1 := IntWalk.i64_in _ (by have := HL.out; omega)
  clear hint k0 hB k0c k0f k0z hbd
  go_wp2_with (with_reducible refine hold_loop ?_)
  unfold Hold
  clear e0
  go_loopw [8, 10, 12] (fun v b i wr => wr = w2 ∧ ∃ j : Nat, j ≤ L.length ∧ i = .int .i64 ((j : Int) - 1) ∧ v = .int .i64 (geL n (0, false) (L.drop j)).1 ∧ b = .bool (geL n (0, false) (L.drop j)).2) (fun _ _ i _ => (intOf i + 1).toNat)
  case atStart => exact ⟨rfl, L.length, Nat.le_refl _, rfl, by simp [geL], by simp [geL]⟩
  case round =>
    obtain ⟨rfl, j, hj, hi, rfl, rfl⟩ := hrel
    cases j with
    | zero =>
      obtain rfl := hi
      simp only [Int.natCast_zero, Int.zero_sub]
      rw [List.drop_zero, Z1.out, Z2.out]
      clear hj
      go_wp2_with (with_reducible refine hold_loop ?_)
      unfold Hold
      go_loopw [9, 11, 13] (fun v b i w3 => w3 = wr ∧ ∃ j : Nat, j ≤ L.length ∧ i = .int .i64 (j : Int) ∧ v = .int .i64 (leL n (L.take j)).1 ∧ b = .bool (leL n (L.take j)).2) (fun _ _ i _ => L.length - (intOf i).toNat)
      case atStart => exact ⟨rfl, 0, Nat.zero_le _, rfl, by simp [leL], by simp [leL]⟩
      case round =>
        obtain ⟨rfl, j, hj, rfl, rfl, rfl⟩ := hrel
        by_cases hlt : j < L.length
        · have hd := leL_take n L j hlt
          obtain ⟨b0, off, rfl, hbl, hce⟩ := HI.out (by omega)
          have hcx := hce j hlt
          have e0 : IntKind.i64.wrap ((j : Int) + 1) = (j : Int) + 1 := IntWalk.i64_in _ (by have := HL.out; omega)
          generalize at0 L j = z at *
          by_cases hc : z ≤ n
          · have q1 : decide (z ≤ n) = true := decide_eq_true hc
            rw [if_pos hc] at hd
            have HD := Lib.hid hd
            clear hd hce hc
            go_wp2
            go_roundw
            case rel => exact ⟨trivial, j + 1, by omega, by go_num, by rw [HD.out], by rw [HD.out]⟩
            case measure => simp [intOf]; omega
          · have q1 : decide (z ≤ n) = false := decide_eq_false hc
            rw [if_neg hc] at hd
            have HD := Lib.hid hd
            clear hd hce hc
            go_wp2
            go_roundw
            case rel => exact ⟨trivial, j + 1, by omega, by go_num, by rw [HD.out], by rw [HD.out]⟩
            case measure => simp [intOf]; omega
        · obtain rfl : j = L.length := by omega
          rw [List.take_length, P1.out, P2.out]
          have k0 := K0.out
          have hB : Below wr.heap.size wr wr := Below.refl _ _
          have HTR := Lib.hid (HT.out.below HB.out)
          have HL2 := Lib.hid (Nat.le_trans HL.out (show 128 ≤ 100000 by omega))
          clear HT hj hlt
          (try clear k0c k0f k0z); have k0c := fun i => Blk.cell k0 i; have k0f := fun i => Blk.free k0 i; have k0z := Blk.lt k0
          go_wp2_with (first | (first | ((with_reducible refine wpList_here ?_ ?_); (· exact Eq.refl true); first | ((with_reducible refine wpList_grow 3 ?_ ?_); (· exact Eq.refl true))) | ((with_reducible refine wp_region_any_here ?_ ?_); (· exact Eq.refl true); first | ((with_reducible refine wp_region_drawn 3 ?_ ?_ ?_ ?_); (· exact Eq.refl true); (· kernel_rfl); (· kernel_rfl)) | refine wp_region_grow (by kernel_rfl) (by kernel_rfl) ?_)); (try simp only [List.take_succ_cons, List.take_zero, List.drop_succ_cons, List.drop_zero]); (repeat (go_big_quiet_step ((first | (go_at_call 44; with_reducible exact grow_of (CN.out _ ((HTR.out.below hB).below (Grow.below _)))) | (go_at_call 45; with_reducible exact grow_of (CP.out _)))))); (first | (refine wpQuiet_nil ?_; intro w' hb; replace hB := Below.trans hB (Below.mono hb (Below.size hB)); replace k0 := Blk.below k0 hb (Blk.lt k0); (try clear k0c k0f k0z); have k0c := fun i => Blk.cell k0 i; have k0f := fun i => Blk.free k0 i; have k0z := Blk.lt k0) | skip) | (go_at_call 47; refine (CL.out _ (HTR.out.below hB)).mono ?_))
          all_goals (try (go_wp2_with (first | (first | ((with_reducible refine wpList_here ?_ ?_); (· exact Eq.refl true); first | ((with_reducible refine wpList_grow 3 ?_ ?_); (· exact Eq.refl true))) | ((with_reducible refine wp_region_any_here ?_ ?_); (· exact Eq.refl true); first | ((with_reducible refine wp_region_drawn 3 ?_ ?_ ?_ ?_); (· exact Eq.refl true); (· kernel_rfl); (· kernel_rfl)) | refine wp_region_grow (by kernel_rfl) (by kernel_rfl) ?_)); (try simp only [List.take_succ_cons, List.take_zero, List.drop_succ_cons, List.drop_zero]); (repeat (go_big_quiet_step ((first | (go_at_call 45; with_reducible exact grow_of (CP.out _)))))); (first | (refine wpQuiet_nil ?_; intro w' hb; replace hB := Below.trans hB (Below.mono hb (Below.size hB)); replace k0 := Blk.below k0 hb (Blk.lt k0); (try clear k0c k0f k0z); have k0c := fun i => Blk.cell k0 i; have k0f := fun i => Blk.free k0 i; have k0z := Blk.lt k0) | skip) | (go_at_call 47; refine (CL.out _ (HTR.out.below hB)).mono ?_))))
          rintro e w4 hret
          obtain ⟨A4, C4, rfl, hint4, hb4⟩ := hret.ints
          replace hB := hB.trans (hb4.mono hB.size)
          clear hb hret hb4 k0 k0c k0f k0z
          have HI4 := Lib.hid hint4
          clear hint4
          go_wp2_with (first | (go_at_call 46; refine (equal_same A4 A C4 C L _ HI4.out (HI.out.below hB) HL2.out).mono ?_; rintro e w5 ⟨rfl, q5, rfl⟩; replace hB := below_drewN hB q5) | (go_at_call 19; refine (CA.out _ (HTR.out.below hB)).mono ?_; rintro e w6 ⟨rfl, hb6⟩))
          go_ret
          exact ⟨rfl, HB.out.trans ((hB.trans (hb6.mono hB.size)).mono HB.out.size)⟩
    | succ j =>
      rw [show (((j + 1 : Nat) : Int) - 1) = (j : Int) by omega] at hi
      obtain rfl := hi
      have hd := geL_drop n L j (by omega)
      obtain ⟨b0, off, rfl, hbl, hce⟩ := HI.out (by omega)
      have hcx := hce j (by omega)
      have e0 : IntKind.i64.wrap ((j : Int) - 1) = (j : Int) - 1 := IntWalk.i64_in _ (by have := HL.out; omega)
      generalize at0 L j = z at *
      by_cases hc : n ≤ z
      · have q1 : decide (n ≤ z) = true := decide_eq_true hc
        rw [if_pos hc] at hd
        have HD := Lib.hid hd
        clear hd hce hc
        go_wp2
        go_roundw
        case rel => exact ⟨trivial, j, by omega, by go_num, by rw [HD.out], by rw [HD.out]⟩
        case measure => simp [intOf]; try omega
      · have q1 : decide (n ≤ z) = false := decide_eq_false hc
        rw [if_neg hc] at hd
        have HD := Lib.hid hd
        clear hd hce hc
        go_wp2
        go_roundw
        case rel => exact ⟨trivial, j, by omega, by go_num, by rw [HD.out], by rw [HD.out]⟩
        case measure => simp [intOf]; try omega
set_option maxRecDepth 100000 in
theorem walkBitsOrder {H : Type} (W : World) (base : Nat) (enc : TypeId × Value → H) {v0 : Value} {d0 : DataW H} {p0 : List MemPlace} {v1 : Value} {d1 : DataW H} {p1 : List MemPlace} {v2 : Value} {d2 : DataW H} {p2 : List MemPlace}
    (h0 : DataW.Trod enc Tryd.prog W 0 (fun _ => true) true 24 v0 d0 p0) (h1 : DataW.Trod enc Tryd.prog W 0 (fun _ => true) true 3 v1 d1 p1) (h2 : DataW.Trod enc Tryd.prog W 0 (fun _ => true) true 3 v2 d2 p2)
    (o0 : Value.okWide Tryd.prog W .any base 24 v0) (o1 : Value.okWide Tryd.prog W .any base 3 v1) (o2 : Value.okWide Tryd.prog W .any base 3 v2) (hT : Tab W) :
    Calls Tryd.prog 8 #[v0, v1, v2] W fun e W' => e = .returned (.bool true) ∧ Below W.heap.size W W' := by
  obtain ⟨cs, rfl, m, hm⟩ := arg_agg (.inr ⟨_, _, Tryd.underlying24⟩) o0 h0
  obtain ⟨x, y, rfl, b1, b2⟩ := read_set hm
  obtain ⟨n, rfl, hn⟩ := arg_int o1 h1
  obtain ⟨m, rfl, hm⟩ := arg_int o2 h2
  exact law_BitsOrder x y n m W b1 b2 hn hm hT
end Go.Proofs.YtlcnhpjmmjmkcaaDoor
