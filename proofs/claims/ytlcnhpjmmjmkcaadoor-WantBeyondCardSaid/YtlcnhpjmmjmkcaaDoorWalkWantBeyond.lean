
/-
  The statement WantBeyond, walked. Condition: the library's table lies as laid.
-/
import Derived.Test.YtlcnhpjmmjmkcaaDoorAlive30
import Derived.Test.YtlcnhpjmmjmkcaaDoorRef30d
import Derived.Test.YtlcnhpjmmjmkcaaDoorArgSet
import Derived.Test.YtlcnhpjmmjmkcaaDoorDoorL
import Derived.Test.YtlcnhpjmmjmkcaaDoorEqSet
set_option linter.unusedVariables false
set_option linter.unusedSimpArgs false
namespace Go.Proofs.YtlcnhpjmmjmkcaaDoor
open Go.Joins Go.ChangeShapes Go.WideShapes Go.ChangeAt Go.RowKit Go.Deep

theorem bey_set {x y : Nat} (hx : Wd x) (hy : Wd y) (f d : Int) : ofX (at0 (beyL x y f d)) (beyL x y f d).length = beyX x f d ∧ ofY (at0 (beyL x y f d)) (beyL x y f d).length = beyY y f d :=
  setL_of (wd_beyX f d hx) (wd_beyY f d hy) fun n h0 h1 => by
    rw [bey_row hx hy]
    have h : n ∈ items (beyX x f d) (beyY y f d) ↔ memB (beyX x f d) (beyY y f d) n = true := by
      rw [mem_items]
      exact ⟨fun h => h.2.2, fun h => ⟨h0, h1, h⟩⟩
    split
    · rw [List.mem_reverse]; exact h
    · exact h
theorem bey_len (x y : Nat) (f d : Int) : (beyL x y f d).length ≤ 128 := by
  unfold beyL
  have := List.length_filter_le (onP f d) (beyS x y d)
  have := beyS_len x y d
  have := items_len x y
  omega
theorem bey_bd (x y : Nat) (f d : Int) : ∀ i, I64 (at0 (beyL x y f d) i) := items_bd 0 0 _ fun k hk => by
  unfold beyL beyS at hk
  rw [List.mem_filter] at hk
  have h : k ∈ items x y := by
    have := hk.1
    split at this
    · exact List.mem_reverse.1 this
    · exact this
  rw [mem_items] at h
  exact ⟨h.1, h.2.1⟩
theorem hdL_first {L : List Int} (h : 0 < L.length) : hdL L = (at0 L 0, true) := by
  match L, h with
  | a :: t, _ => rfl
theorem hdL_last {L : List Int} {k : Nat} (h : L.length = k + 1) : hdL L.reverse = (at0 L k, true) := by
  rw [hdL_first (by rw [List.length_reverse]; omega)]
  unfold at0
  simp only [List.getD_eq_getElem?_getD]
  rw [List.getElem?_reverse (by omega), h]
  rfl
set_option maxRecDepth 20000 in
set_option maxHeartbeats 8000000 in
theorem law_WantBeyond (x y : Nat) (a b d : Int) (w : World) (hx : Wd x) (hy : Wd y) (ha : -1 ≤ a ∧ a ≤ 128) (hb : -1 ≤ b ∧ b ≤ 128) (hd : I64 d) (hT : Tab w) :
    Calls Tryd.prog 3 #[.agg #[.int .u64 (x : Int), .int .u64 (y : Int)], .agg #[.int .i64 a, .int .i64 b], .int .i64 d] w fun e w' => e = .returned (.bool true) ∧ Below w.heap.size w w' := by
  have cR := fun w => ref30_Beyond x y a d w hx hy (by unfold I64; omega) hd
  have cN := fun w hT => want_Nearest x y a d w hx hy (by omega) hd hT
  have cL := fun w hT => want_Last x y a d w hx hy (by omega) hd hT
  have cB := fun w => want_Beyond x y a d w hx hy (by omega) hd
  have cO := fun A C w hI => ref03_Of A C (beyL x y a d) w hI (by have := bey_len x y a d; omega) (bey_bd x y a d)
  rw [(bey_set hx hy a d).1, (bey_set hx hy a d).2] at cO
  have cW := fun w hT => want_Between x y a b w hx hy (by unfold I64; omega) (by unfold I64; omega) hT
  have cD := fun w => ref30_Between x y a b w hx hy (by unfold I64; omega) (by unfold I64; omega)
  have cA := fun w hT => alive30 w hT
  have hlen := bey_len x y a d
  have q1 : decide (a < -1) = false := decide_eq_false (by omega)
  have q2 : decide (128 < a) = false := decide_eq_false (by omega)
  have q3 : decide (b < -1) = false := decide_eq_false (by omega)
  have q4 : decide (128 < b) = false := decide_eq_false (by omega)
  clear hx hy ha hb hd
  unfold sv at *
  generalize beyL x y a d = L at *
  generalize ((cntB a b (items x y) : Nat) : Int) = cn at *
  generalize (beyX x a d : Int) = b1 at *
  generalize (beyY y a d : Int) = b2 at *
  have g1 := run_set2 b1 b2 b1 b2
  simp only [beq_self_eq_true, Bool.and_self] at g1
  have CR := Lib.hid cR
  have CB := Lib.hid cB
  have CO := Lib.hid cO
  have CW := Lib.hid cW
  have CD := Lib.hid cD
  have CA := Lib.hid cA
  have HT := Lib.hid hT
  clear cR cB cO cW cD cA hT
  have start : ∀ (n1 l1 : Int) (n2 : Bool), hdL L = (n1, n2) → hdL L.reverse = (l1, n2) → (L.length = 0 ∧ n1 = 0 ∧ l1 = 0 ∧ n2 = false ∨ ∃ k, L.length = k + 1 ∧ n1 = at0 L 0 ∧ l1 = at0 L k ∧ n2 = true) → Calls Tryd.prog 3 #[.agg #[.int .u64 (x : Int), .int .u64 (y : Int)], .agg #[.int .i64 a, .int .i64 b], .int .i64 d] w fun e w' => e = .returned (.bool true) ∧ Below w.heap.size w w' := by
    intro n1 l1 n2 hn hl hw
    rw [hn] at cN
    rw [hl] at cL
    have CN := Lib.hid cN
    have CL := Lib.hid cL
    have HL := Lib.hid hlen
    clear cN cL hn hl hlen
    go_enter Tryd.func3, Tryd.ntmps3
    go_wp2_with (first | ((with_reducible refine hold_list ?_ ?_); (· exact Eq.refl true)) | ((with_reducible refine hold_region ?_ ?_); (· exact Eq.refl true)) | (with_reducible refine hold_loop ?_))
    have k0 : Blk ((w.alloc (.cells #[.int .u64 (x : Int), .int .u64 (y : Int)] 24)).alloc (.cells #[.int .i64 a, .int .i64 b] 25)) (w.heap.size) 24 #[.int .u64 (x : Int), .int .u64 (y : Int)] := (Blk.alloc (blk_at (by simp)) (.cells #[.int .i64 a, .int .i64 b] 25))
    have k1 : Blk ((w.alloc (.cells #[.int .u64 (x : Int), .int .u64 (y : Int)] 24)).alloc (.cells #[.int .i64 a, .int .i64 b] 25)) (w.heap.size + 1) 25 #[.int .i64 a, .int .i64 b] := (blk_at (by simp))
    have hB : Below w.heap.size w ((w.alloc (.cells #[.int .u64 (x : Int), .int .u64 (y : Int)] 24)).alloc (.cells #[.int .i64 a, .int .i64 b] 25)) := (bel_at (bel_at (Below.refl _ _) (.cells #[.int .u64 (x : Int), .int .u64 (y : Int)] 24)) (.cells #[.int .i64 a, .int .i64 b] 25))
    generalize ((w.alloc (.cells #[.int .u64 (x : Int), .int .u64 (y : Int)] 24)).alloc (.cells #[.int .i64 a, .int .i64 b] 25)) = w1 at *
    (try clear k0c k0f k0z); have k0c := fun i => Blk.cell k0 i; have k0f := fun i => Blk.free k0 i; have k0z := Blk.lt k0; (try clear k1c k1f k1z); have k1c := fun i => Blk.cell k1 i; have k1f := fun i => Blk.free k1 i; have k1z := Blk.lt k1
    unfold Hold
    go_wp2_with (go_at_call 9; refine (CR.out _).mono ?_)
    rintro e w2 hret
    obtain ⟨A, C, rfl, hint, hb2⟩ := hret.ints
    replace k0 := k0.below hb2 k0.lt
    replace k1 := k1.below hb2 k1.lt
    have HB := Lib.hid (hB.trans (hb2.mono hB.size))
    clear hret hb2 hB
    have HI := Lib.hid hint
    have hB : Below w2.heap.size w2 w2 := Below.refl _ _
    have HT2 := Lib.hid (HT.out.below HB.out)
    clear hint
    (try clear k0c k0f k0z); have k0c := fun i => Blk.cell k0 i; have k0f := fun i => Blk.free k0 i; have k0z := Blk.lt k0; (try clear k1c k1f k1z); have k1c := fun i => Blk.cell k1 i; have k1f := fun i => Blk.free k1 i; have k1z := Blk.lt k1
    cases hw with
    | inl hw =>
      have h0 := hw.1
      have hn1 := hw.2.1
      have hl1 := hw.2.2.1
      have hn2 := hw.2.2.2
      have cO2 := CO.out
      rw [h0] at cO2 ⊢
      have CO2 := Lib.hid cO2
      clear hw CO cO2 h0 HL
      subst hn1 hl1 hn2
      go_wp2_with (first | ((with_reducible refine wpList_here ?_ ?_); (· exact Eq.refl true); first | ((with_reducible refine wpList_grow 5 ?_ ?_); (· exact Eq.refl true))) | ((with_reducible refine wp_region_any_here ?_ ?_); (· exact Eq.refl true); first | ((with_reducible refine wp_region_drawn 5 ?_ ?_ ?_ ?_); (· exact Eq.refl true); (· kernel_rfl); (· kernel_rfl)) | refine wp_region_grow (by kernel_rfl) (by kernel_rfl) ?_)); (try simp only [List.take_succ_cons, List.take_zero, List.drop_succ_cons, List.drop_zero]); (repeat (go_big_quiet_step ((first | (go_at_call 10; with_reducible exact grow_of (CN.out _ ((HT2.out.below hB).below (Grow.below _)))) | (go_at_call 11; with_reducible exact grow_of (CL.out _ ((HT2.out.below hB).below (Grow.below _)))) | (go_at_call 12; with_reducible exact grow_of (CB.out _)) | (go_at_call 13; with_reducible exact grow_of (CO2.out _ _ _ ((HI.out.below hB).below (Grow.below _)))) | (go_at_call 14; with_reducible exact grow_of (CW.out _ ((HT2.out.below hB).below (Grow.below _)))) | (go_at_call 15; with_reducible exact grow_of (CD.out _)) | (go_at_call 16; with_reducible exact grow_of (CA.out _ ((HT2.out.below hB).below (Grow.below _)))))))); (first | (refine wpQuiet_nil ?_; intro w' hb; replace hB := Below.trans hB (Below.mono hb (Below.size hB)); replace k0 := Blk.below k0 hb (Blk.lt k0); replace k1 := Blk.below k1 hb (Blk.lt k1); (try clear k0c k0f k0z); have k0c := fun i => Blk.cell k0 i; have k0f := fun i => Blk.free k0 i; have k0z := Blk.lt k0; (try clear k1c k1f k1z); have k1c := fun i => Blk.cell k1 i; have k1f := fun i => Blk.free k1 i; have k1z := Blk.lt k1) | skip)
      all_goals (try (go_wp2_with (first | ((with_reducible refine wpList_here ?_ ?_); (· exact Eq.refl true); first | ((with_reducible refine wpList_grow 5 ?_ ?_); (· exact Eq.refl true))) | ((with_reducible refine wp_region_any_here ?_ ?_); (· exact Eq.refl true); first | ((with_reducible refine wp_region_drawn 5 ?_ ?_ ?_ ?_); (· exact Eq.refl true); (· kernel_rfl); (· kernel_rfl)) | refine wp_region_grow (by kernel_rfl) (by kernel_rfl) ?_)); (try simp only [List.take_succ_cons, List.take_zero, List.drop_succ_cons, List.drop_zero]); (repeat (go_big_quiet_step ((first | (go_at_call 10; with_reducible exact grow_of (CN.out _ ((HT2.out.below hB).below (Grow.below _)))) | (go_at_call 11; with_reducible exact grow_of (CL.out _ ((HT2.out.below hB).below (Grow.below _)))) | (go_at_call 12; with_reducible exact grow_of (CB.out _)) | (go_at_call 13; with_reducible exact grow_of (CO2.out _ _ _ ((HI.out.below hB).below (Grow.below _)))) | (go_at_call 14; with_reducible exact grow_of (CW.out _ ((HT2.out.below hB).below (Grow.below _)))) | (go_at_call 15; with_reducible exact grow_of (CD.out _)) | (go_at_call 16; with_reducible exact grow_of (CA.out _ ((HT2.out.below hB).below (Grow.below _)))))))); (first | (refine wpQuiet_nil ?_; intro w' hb; replace hB := Below.trans hB (Below.mono hb (Below.size hB)); replace k0 := Blk.below k0 hb (Blk.lt k0); replace k1 := Blk.below k1 hb (Blk.lt k1); (try clear k0c k0f k0z); have k0c := fun i => Blk.cell k0 i; have k0f := fun i => Blk.free k0 i; have k0z := Blk.lt k0; (try clear k1c k1f k1z); have k1c := fun i => Blk.cell k1 i; have k1f := fun i => Blk.free k1 i; have k1z := Blk.lt k1) | skip)))
      all_goals (try (go_wp2_with (first | ((with_reducible refine wpList_here ?_ ?_); (· exact Eq.refl true); first | ((with_reducible refine wpList_grow 5 ?_ ?_); (· exact Eq.refl true))) | ((with_reducible refine wp_region_any_here ?_ ?_); (· exact Eq.refl true); first | ((with_reducible refine wp_region_drawn 5 ?_ ?_ ?_ ?_); (· exact Eq.refl true); (· kernel_rfl); (· kernel_rfl)) | refine wp_region_grow (by kernel_rfl) (by kernel_rfl) ?_)); (try simp only [List.take_succ_cons, List.take_zero, List.drop_succ_cons, List.drop_zero]); (repeat (go_big_quiet_step ((first | (go_at_call 10; with_reducible exact grow_of (CN.out _ ((HT2.out.below hB).below (Grow.below _)))) | (go_at_call 11; with_reducible exact grow_of (CL.out _ ((HT2.out.below hB).below (Grow.below _)))) | (go_at_call 12; with_reducible exact grow_of (CB.out _)) | (go_at_call 13; with_reducible exact grow_of (CO2.out _ _ _ ((HI.out.below hB).below (Grow.below _)))) | (go_at_call 14; with_reducible exact grow_of (CW.out _ ((HT2.out.below hB).below (Grow.below _)))) | (go_at_call 15; with_reducible exact grow_of (CD.out _)) | (go_at_call 16; with_reducible exact grow_of (CA.out _ ((HT2.out.below hB).below (Grow.below _)))))))); (first | (refine wpQuiet_nil ?_; intro w' hb; replace hB := Below.trans hB (Below.mono hb (Below.size hB)); replace k0 := Blk.below k0 hb (Blk.lt k0); replace k1 := Blk.below k1 hb (Blk.lt k1); (try clear k0c k0f k0z); have k0c := fun i => Blk.cell k0 i; have k0f := fun i => Blk.free k0 i; have k0z := Blk.lt k0; (try clear k1c k1f k1z); have k1c := fun i => Blk.cell k1 i; have k1f := fun i => Blk.free k1 i; have k1z := Blk.lt k1) | skip)))
      all_goals (try (go_wp2_with (first | ((with_reducible refine wpList_here ?_ ?_); (· exact Eq.refl true); first | ((with_reducible refine wpList_grow 5 ?_ ?_); (· exact Eq.refl true))) | ((with_reducible refine wp_region_any_here ?_ ?_); (· exact Eq.refl true); first | ((with_reducible refine wp_region_drawn 5 ?_ ?_ ?_ ?_); (· exact Eq.refl true); (· kernel_rfl); (· kernel_rfl)) | refine wp_region_grow (by kernel_rfl) (by kernel_rfl) ?_)); (try simp only [List.take_succ_cons, List.take_zero, List.drop_succ_cons, List.drop_zero]); (repeat (go_big_quiet_step ((first | (go_at_call 10; with_reducible exact grow_of (CN.out _ ((HT2.out.below hB).below (Grow.below _)))) | (go_at_call 11; with_reducible exact grow_of (CL.out _ ((HT2.out.below hB).below (Grow.below _)))) | (go_at_call 12; with_reducible exact grow_of (CB.out _)) | (go_at_call 13; with_reducible exact grow_of (CO2.out _ _ _ ((HI.out.below hB).below (Grow.below _)))) | (go_at_call 14; with_reducible exact grow_of (CW.out _ ((HT2.out.below hB).below (Grow.below _)))) | (go_at_call 15; with_reducible exact grow_of (CD.out _)) | (go_at_call 16; with_reducible exact grow_of (CA.out _ ((HT2.out.below hB).below (Grow.below _)))))))); (first | (refine wpQuiet_nil ?_; intro w' hb; replace hB := Below.trans hB (Below.mono hb (Below.size hB)); replace k0 := Blk.below k0 hb (Blk.lt k0); replace k1 := Blk.below k1 hb (Blk.lt k1); (try clear k0c k0f k0z); have k0c := fun i => Blk.cell k0 i; have k0f := fun i => Blk.free k0 i; have k0z := Blk.lt k0; (try clear k1c k1f k1z); have k1c := fun i => Blk.cell k1 i; have k1f := fun i => Blk.free k1 i; have k1z := Blk.lt k1) | skip)))
      go_ret
      exact ⟨rfl, HB.out.trans (hB.mono HB.out.size)⟩
    | inr hw =>
      cases hw with
      | intro k hw =>
      have h0 := hw.1
      have hn1 := hw.2.1
      have hl1 := hw.2.2.1
      have hn2 := hw.2.2.2
      have cO2 := CO.out
      rw [h0] at cO2 ⊢
      have CO2 := Lib.hid cO2
      obtain ⟨b0, off, rfl, hbl, hce⟩ := HI.out (by omega)
      have hc1 := hce 0 (by omega)
      have hc2 := hce k (by omega)
      rw [← hn1] at hc1
      rw [← hl1] at hc2
      have hk := HL.out
      have e0 : IntKind.i64.wrap ((k : Int)) = (k : Int) := IntWalk.i64_in _ (by omega)
      clear hw CO cO2 h0 HL hce hn1 hl1
      subst hn2
      have H1 := Lib.hid hc1
      have H2 := Lib.hid hc2
      have HL2 := Lib.hid hbl
      clear hc1 hc2 hbl hk
      have m1 : ∀ w', Below w2.heap.size w2 w' → w'.cell? ⟨b0, off, none⟩ = some (.int .i64 n1) := fun w' h => (h.cell (p := ⟨b0, off, none⟩) HL2.out).trans H1.out
      have m2 : ∀ w', Below w2.heap.size w2 w' → w'.cell? ⟨b0, off + k, none⟩ = some (.int .i64 l1) := fun w' h => (h.cell (p := ⟨b0, off + k, none⟩) HL2.out).trans H2.out
      go_wp2_with (first | ((with_reducible refine wpList_here ?_ ?_); (· exact Eq.refl true); first | ((with_reducible refine wpList_grow 5 ?_ ?_); (· exact Eq.refl true))) | ((with_reducible refine wp_region_any_here ?_ ?_); (· exact Eq.refl true); first | ((with_reducible refine wp_region_drawn 5 ?_ ?_ ?_ ?_); (· exact Eq.refl true); (· kernel_rfl); (· kernel_rfl)) | refine wp_region_grow (by kernel_rfl) (by kernel_rfl) ?_)); (try simp only [List.take_succ_cons, List.take_zero, List.drop_succ_cons, List.drop_zero]); (repeat (go_big_quiet_step ((first | (go_at_call 10; with_reducible exact grow_of (CN.out _ ((HT2.out.below hB).below (Grow.below _)))) | (go_at_call 11; with_reducible exact grow_of (CL.out _ ((HT2.out.below hB).below (Grow.below _)))) | (go_at_call 12; with_reducible exact grow_of (CB.out _)) | (go_at_call 13; with_reducible exact grow_of (CO2.out _ _ _ ((HI.out.below hB).below (Grow.below _)))) | (go_at_call 14; with_reducible exact grow_of (CW.out _ ((HT2.out.below hB).below (Grow.below _)))) | (go_at_call 15; with_reducible exact grow_of (CD.out _)) | (go_at_call 16; with_reducible exact grow_of (CA.out _ ((HT2.out.below hB).below (Grow.below _)))))))); (first | (refine wpQuiet_nil ?_; intro w' hb; replace hB := Below.trans hB (Below.mono hb (Below.size hB)); replace k0 := Blk.below k0 hb (Blk.lt k0); replace k1 := Blk.below k1 hb (Blk.lt k1); (try clear k0c k0f k0z); have k0c := fun i => Blk.cell k0 i; have k0f := fun i => Blk.free k0 i; have k0z := Blk.lt k0; (try clear k1c k1f k1z); have k1c := fun i => Blk.cell k1 i; have k1f := fun i => Blk.free k1 i; have k1z := Blk.lt k1) | skip)
      all_goals (try (go_wp2_with (first | ((with_reducible refine wpList_here ?_ ?_); (· exact Eq.refl true); first | ((with_reducible refine wpList_grow 5 ?_ ?_); (· exact Eq.refl true))) | ((with_reducible refine wp_region_any_here ?_ ?_); (· exact Eq.refl true); first | ((with_reducible refine wp_region_drawn 5 ?_ ?_ ?_ ?_); (· exact Eq.refl true); (· kernel_rfl); (· kernel_rfl)) | refine wp_region_grow (by kernel_rfl) (by kernel_rfl) ?_)); (try simp only [List.take_succ_cons, List.take_zero, List.drop_succ_cons, List.drop_zero]); (repeat (go_big_quiet_step ((first | (go_at_call 10; with_reducible exact grow_of (CN.out _ ((HT2.out.below hB).below (Grow.below _)))) | (go_at_call 11; with_reducible exact grow_of (CL.out _ ((HT2.out.below hB).below (Grow.below _)))) | (go_at_call 12; with_reducible exact grow_of (CB.out _)) | (go_at_call 13; with_reducible exact grow_of (CO2.out _ _ _ ((HI.out.below hB).below (Grow.below _)))) | (go_at_call 14; with_reducible exact grow_of (CW.out _ ((HT2.out.below hB).below (Grow.below _)))) | (go_at_call 15; with_reducible exact grow_of (CD.out _)) | (go_at_call 16; with_reducible exact grow_of (CA.out _ ((HT2.out.below hB).below (Grow.below _)))))))); (first | (refine wpQuiet_nil ?_; intro w' hb; replace hB := Below.trans hB (Below.mono hb (Below.size hB)); replace k0 := Blk.below k0 hb (Blk.lt k0); replace k1 := Blk.below k1 hb (Blk.lt k1); (try clear k0c k0f k0z); have k0c := fun i => Blk.cell k0 i; have k0f := fun i => Blk.free k0 i; have k0z := Blk.lt k0; (try clear k1c k1f k1z); have k1c := fun i => Blk.cell k1 i; have k1f := fun i => Blk.free k1 i; have k1z := Blk.lt k1) | skip)))
      all_goals (try (go_wp2_with (first | ((with_reducible refine wpList_here ?_ ?_); (· exact Eq.refl true); first | ((with_reducible refine wpList_grow 5 ?_ ?_); (· exact Eq.refl true))) | ((with_reducible refine wp_region_any_here ?_ ?_); (· exact Eq.refl true); first | ((with_reducible refine wp_region_drawn 5 ?_ ?_ ?_ ?_); (· exact Eq.refl true); (· kernel_rfl); (· kernel_rfl)) | refine wp_region_grow (by kernel_rfl) (by kernel_rfl) ?_)); (try simp only [List.take_succ_cons, List.take_zero, List.drop_succ_cons, List.drop_zero]); (repeat (go_big_quiet_step ((first | (go_at_call 10; with_reducible exact grow_of (CN.out _ ((HT2.out.below hB).below (Grow.below _)))) | (go_at_call 11; with_reducible exact grow_of (CL.out _ ((HT2.out.below hB).below (Grow.below _)))) | (go_at_call 12; with_reducible exact grow_of (CB.out _)) | (go_at_call 13; with_reducible exact grow_of (CO2.out _ _ _ ((HI.out.below hB).below (Grow.below _)))) | (go_at_call 14; with_reducible exact grow_of (CW.out _ ((HT2.out.below hB).below (Grow.below _)))) | (go_at_call 15; with_reducible exact grow_of (CD.out _)) | (go_at_call 16; with_reducible exact grow_of (CA.out _ ((HT2.out.below hB).below (Grow.below _)))))))); (first | (refine wpQuiet_nil ?_; intro w' hb; replace hB := Below.trans hB (Below.mono hb (Below.size hB)); replace k0 := Blk.below k0 hb (Blk.lt k0); replace k1 := Blk.below k1 hb (Blk.lt k1); (try clear k0c k0f k0z); have k0c := fun i => Blk.cell k0 i; have k0f := fun i => Blk.free k0 i; have k0z := Blk.lt k0; (try clear k1c k1f k1z); have k1c := fun i => Blk.cell k1 i; have k1f := fun i => Blk.free k1 i; have k1z := Blk.lt k1) | skip)))
      all_goals (try (go_wp2_with (first | ((with_reducible refine wpList_here ?_ ?_); (· exact Eq.refl true); first | ((with_reducible refine wpList_grow 5 ?_ ?_); (· exact Eq.refl true))) | ((with_reducible refine wp_region_any_here ?_ ?_); (· exact Eq.refl true); first | ((with_reducible refine wp_region_drawn 5 ?_ ?_ ?_ ?_); (· exact Eq.refl true); (· kernel_rfl); (· kernel_rfl)) | refine wp_region_grow (by kernel_rfl) (by kernel_rfl) ?_)); (try simp only [List.take_succ_cons, List.take_zero, List.drop_succ_cons, List.drop_zero]); (repeat (go_big_quiet_step ((first | (go_at_call 10; with_reducible exact grow_of (CN.out _ ((HT2.out.below hB).below (Grow.below _)))) | (go_at_call 11; with_reducible exact grow_of (CL.out _ ((HT2.out.below hB).below (Grow.below _)))) | (go_at_call 12; with_reducible exact grow_of (CB.out _)) | (go_at_call 13; with_reducible exact grow_of (CO2.out _ _ _ ((HI.out.below hB).below (Grow.below _)))) | (go_at_call 14; with_reducible exact grow_of (CW.out _ ((HT2.out.below hB).below (Grow.below _)))) | (go_at_call 15; with_reducible exact grow_of (CD.out _)) | (go_at_call 16; with_reducible exact grow_of (CA.out _ ((HT2.out.below hB).below (Grow.below _)))))))); (first | (refine wpQuiet_nil ?_; intro w' hb; replace hB := Below.trans hB (Below.mono hb (Below.size hB)); replace k0 := Blk.below k0 hb (Blk.lt k0); replace k1 := Blk.below k1 hb (Blk.lt k1); (try clear k0c k0f k0z); have k0c := fun i => Blk.cell k0 i; have k0f := fun i => Blk.free k0 i; have k0z := Blk.lt k0; (try clear k1c k1f k1z); have k1c := fun i => Blk.cell k1 i; have k1f := fun i => Blk.free k1 i; have k1z := Blk.lt k1) | skip)))
      go_ret
      exact ⟨rfl, HB.out.trans (hB.mono HB.out.size)⟩
  rcases Nat.eq_zero_or_pos L.length with h0 | h0
  · obtain rfl := List.length_eq_zero_iff.1 h0
    exact start 0 0 false rfl rfl (.inl ⟨rfl, rfl, rfl, rfl⟩)
  · obtain ⟨k, hk⟩ : ∃ k, L.length = k + 1 := ⟨L.length - 1, by omega⟩
    exact start _ _ true (hdL_first h0) (hdL_last hk) (.inr ⟨k, hk, rfl, rfl, rfl⟩)
set_option maxRecDepth 100000 in
theorem walkWantBeyond {H : Type} (W : World) (base : Nat) (enc : TypeId × Value → H) {v0 : Value} {d0 : DataW H} {p0 : List MemPlace} {v1 : Value} {d1 : DataW H} {p1 : List MemPlace} {v2 : Value} {d2 : DataW H} {p2 : List MemPlace}
    (h0 : DataW.Trod enc Tryd.prog W 0 (fun _ => true) true 24 v0 d0 p0) (h1 : DataW.Trod enc Tryd.prog W 0 (fun _ => true) true 25 v1 d1 p1) (h2 : DataW.Trod enc Tryd.prog W 0 (fun _ => true) true 3 v2 d2 p2)
    (o0 : Value.okWide Tryd.prog W .any base 24 v0) (o1 : Value.okWide Tryd.prog W .any base 25 v1) (o2 : Value.okWide Tryd.prog W .any base 3 v2) (hT : Tab W) :
    Calls Tryd.prog 3 #[v0, v1, v2] W fun e W' => e = .returned (.bool true) ∧ Below W.heap.size W W' := by
  obtain ⟨cs, rfl, m, hm⟩ := arg_agg (.inr ⟨_, _, Tryd.underlying24⟩) o0 h0
  obtain ⟨x, y, rfl, b1, b2⟩ := read_set hm
  obtain ⟨a, b, rfl, ha, hb⟩ := arg_arr2 Tryd.underlying25 Tryd.underlying3 (by kernel_rfl) (by kernel_rfl) o1 h1
  obtain ⟨d, rfl, hd⟩ := arg_int o2 h2
  by_cases hu : -1 ≤ a ∧ a ≤ 128 ∧ -1 ≤ b ∧ b ≤ 128
  · exact law_WantBeyond x y a b d W b1 b2 ⟨hu.1, hu.2.1⟩ hu.2.2 hd hT
  · have hways : a < -1 ∨ (¬ a < -1 ∧ 128 < a) ∨ (¬ a < -1 ∧ ¬ 128 < a ∧ b < -1) ∨ (¬ a < -1 ∧ ¬ 128 < a ∧ ¬ b < -1 ∧ 128 < b) := by omega
    clear hu ha hb hd h0 h1 h2 o0 o1 o2 hm b1 b2 hT
    rcases hways with h | ⟨g1, h⟩ | ⟨g1, g2, h⟩ | ⟨g1, g2, g3, h⟩
    · have q1 : decide (a < -1) = true := decide_eq_true h
      clear h
      go_enter Tryd.func3, Tryd.ntmps3
      go_wp2
      go_ret
      exact ⟨rfl, Joins.below_alloc2 _ _ _⟩
    · have q1 : decide (a < -1) = false := decide_eq_false g1
      have q2 : decide (128 < a) = true := decide_eq_true h
      clear g1 h
      go_enter Tryd.func3, Tryd.ntmps3
      go_wp2
      go_ret
      exact ⟨rfl, Joins.below_alloc2 _ _ _⟩
    · have q1 : decide (a < -1) = false := decide_eq_false g1
      have q2 : decide (128 < a) = false := decide_eq_false g2
      have q3 : decide (b < -1) = true := decide_eq_true h
      clear g1 g2 h
      go_enter Tryd.func3, Tryd.ntmps3
      go_wp2
      go_ret
      exact ⟨rfl, Joins.below_alloc2 _ _ _⟩
    · have q1 : decide (a < -1) = false := decide_eq_false g1
      have q2 : decide (128 < a) = false := decide_eq_false g2
      have q3 : decide (b < -1) = false := decide_eq_false g3
      have q4 : decide (128 < b) = true := decide_eq_true h
      clear g1 g2 g3 h
      go_enter Tryd.func3, Tryd.ntmps3
      go_wp2
      go_ret
      exact ⟨rfl, Joins.below_alloc2 _ _ _⟩
end Go.Proofs.YtlcnhpjmmjmkcaaDoor
