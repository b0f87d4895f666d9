
/-
  The document's sight: (S).Stop. Conditions: at most 1000 riders, floors within a million, directions -1, 0, 1.
-/
import Derived.Test.YtlcnhpjmmjmkcaaRef31b
set_option linter.unusedVariables false
set_option linter.unusedSimpArgs false
namespace Go.Proofs.Ytlcnhpjmmjmkcaa
open Go.Joins Go.ChangeShapes Go.WideShapes Go.ChangeAt Go.RowKit Go.Deep

set_option maxRecDepth 20000 in
set_option maxHeartbeats 4000000 in
theorem s_Stop (s : Sgt) (c : Car) (A : Option Addr) (C : Nat) (f : Int) (w : World) (hs : s.ok) (hr : Rids w A c.riders) (hl : c.riders.length ≤ 1000) (hbd : ∀ i, I64 (dst c.riders i)) (hf : -1000000 ≤ f ∧ f ≤ 1000000) (hd : -1 ≤ c.dir ∧ c.dir ≤ 1) :
    Calls Try.prog 24 #[s.val, c.val A C, .int .i64 f] w fun e w' => e = .returned (.bool (stopB s c f)) ∧ Below w.heap.size w w' := by
  have cC := fun d w hd => s_Call s f d w hs (by unfold I64; omega) hd
  have cB := fun w => s_Beyond s f c.dir w hs (by unfold I64; omega) (by unfold I64; omega)
  have cR := fun w hr => ref30_Rides c A C w hr hl hbd
  have hfound : memB (ridX c) (ridY c) f = true ↔ ∃ i, i < (items (ridX c) (ridY c)).length ∧ at0 (items (ridX c) (ridY c)) i = f := by
    have h1 : memB (ridX c) (ridY c) f = true ↔ f ∈ items (ridX c) (ridY c) := by
      rw [mem_items]
      constructor
      · intro h
        by_cases ho : f < 0 ∨ 128 ≤ f
        · rw [mem_out ho] at h; cases h
        · exact ⟨by omega, by omega, h⟩
      · exact fun h => h.2.2
    rw [h1, List.mem_iff_getElem?]
    constructor
    · rintro ⟨i, e⟩
      exact ⟨i, (List.getElem?_eq_some_iff.1 e).1, by simp [at0, List.getD, e]⟩
    · rintro ⟨i, hi, e⟩
      refine ⟨i, ?_⟩
      rw [List.getElem?_eq_getElem hi, ← e]
      simp [at0, List.getD, List.getElem?_eq_getElem hi]
  have hll := items_len (ridX c) (ridY c)
  have hbb := items_bd 0 0 (items (ridX c) (ridY c)) fun k hk => by rw [mem_items] at hk; exact ⟨hk.1, hk.2.1⟩
  unfold stopB
  generalize memB (ridX c) (ridY c) f = br at *
  generalize items (ridX c) (ridY c) = L at *
  have HR := Lib.hid hr
  have HF := Lib.hid hfound
  clear hr hfound
  have c1 := fun w => cC 1 w (by unfold I64; omega)
  have c2 := fun w => cC (-1) w (by unfold I64; omega)
  have c3 := fun w => cC c.dir w (by unfold I64; omega)
  have c4 := fun w => cC (-c.dir) w (by unfold I64; omega)
  clear cC hs hbd hl
  generalize callB s f 1 = b1 at *
  generalize callB s f (-1) = b2 at *
  generalize callB s f c.dir = b3 at *
  generalize callB s f (-c.dir) = b4 at *
  generalize beyB s f c.dir = b5 at *
  obtain ⟨wx, wy, ux, uy, dx, dy⟩ := s
  obtain ⟨p, d, m, l, wt, rs⟩ := c
  unfold Sgt.val at *
  simp only at *
  have e0 : IntKind.i64.wrap (-d) = -d := IntWalk.i64_in _ (by omega)
  have CR := Lib.hid cR
  have C1 := Lib.hid c1
  have C2 := Lib.hid c2
  have C3 := Lib.hid c3
  have C4 := Lib.hid c4
  have CB := Lib.hid cB
  have HBB := Lib.hid hbb
  clear cR c1 c2 c3 c4 cB hbb
  by_cases h0 : d = 0
  · rw [if_pos h0]
    subst h0
    clear hd e0 C3 C4 CB
    have h5 : b1 = true ∨ b1 = false := by cases b1 <;> simp
    rcases h5 with h | h
    all_goals
      subst h
      go_enter Try.func24, Try.ntmps24
      go_wp2_with (first | ((with_reducible refine hold_list ?_ ?_); (· exact Eq.refl true)) | ((with_reducible refine hold_region ?_ ?_); (· exact Eq.refl true)) | (with_reducible refine hold_loop ?_))
      have k0 : Blk ((w.alloc (.cells #[.int .u64 (wx : Int), .int .u64 (wy : Int), .int .u64 (ux : Int), .int .u64 (uy : Int), .int .u64 (dx : Int), .int .u64 (dy : Int)] 50)).alloc (.cells #[.int .i64 p, .int .i64 0, .int .i64 m, .int .i64 l, .bool wt, .slice A rs.length C] 25)) (w.heap.size) 50 #[.int .u64 (wx : Int), .int .u64 (wy : Int), .int .u64 (ux : Int), .int .u64 (uy : Int), .int .u64 (dx : Int), .int .u64 (dy : Int)] := (Blk.alloc (blk_at (by simp)) (.cells #[.int .i64 p, .int .i64 0, .int .i64 m, .int .i64 l, .bool wt, .slice A rs.length C] 25))
      have k1 : Blk ((w.alloc (.cells #[.int .u64 (wx : Int), .int .u64 (wy : Int), .int .u64 (ux : Int), .int .u64 (uy : Int), .int .u64 (dx : Int), .int .u64 (dy : Int)] 50)).alloc (.cells #[.int .i64 p, .int .i64 0, .int .i64 m, .int .i64 l, .bool wt, .slice A rs.length C] 25)) (w.heap.size + 1) 25 #[.int .i64 p, .int .i64 0, .int .i64 m, .int .i64 l, .bool wt, .slice A rs.length C] := (blk_at (by simp))
      have hB : Below w.heap.size w ((w.alloc (.cells #[.int .u64 (wx : Int), .int .u64 (wy : Int), .int .u64 (ux : Int), .int .u64 (uy : Int), .int .u64 (dx : Int), .int .u64 (dy : Int)] 50)).alloc (.cells #[.int .i64 p, .int .i64 0, .int .i64 m, .int .i64 l, .bool wt, .slice A rs.length C] 25)) := (bel_at (bel_at (Below.refl _ _) (.cells #[.int .u64 (wx : Int), .int .u64 (wy : Int), .int .u64 (ux : Int), .int .u64 (uy : Int), .int .u64 (dx : Int), .int .u64 (dy : Int)] 50)) (.cells #[.int .i64 p, .int .i64 0, .int .i64 m, .int .i64 l, .bool wt, .slice A rs.length C] 25))
      generalize ((w.alloc (.cells #[.int .u64 (wx : Int), .int .u64 (wy : Int), .int .u64 (ux : Int), .int .u64 (uy : Int), .int .u64 (dx : Int), .int .u64 (dy : Int)] 50)).alloc (.cells #[.int .i64 p, .int .i64 0, .int .i64 m, .int .i64 l, .bool wt, .slice A rs.length C] 25)) = w1 at *
      (try clear k0c k0f k0z); have k0c := fun i => Blk.cell k0 i; have k0f := fun i => Blk.free k0 i; have k0z := Blk.lt k0; (try clear k1c k1f k1z); have k1c := fun i => Blk.cell k1 i; have k1f := fun i => Blk.free k1 i; have k1z := Blk.lt k1
      unfold Hold
      go_wp2_with (go_at_call 42; refine (CR.out _ (HR.out.below hB)).mono ?_)
      rintro e w2 ⟨v, rfl, ho, hb⟩
      obtain ⟨A2, cp2, rfl, hi⟩ := owns_ints ho
      have HI := Lib.hid hi
      replace hB := hB.trans (hb.mono hB.size)
      replace k0 := k0.below hb k0.lt
      replace k1 := k1.below hb k1.lt
      (try clear k0c k0f k0z); have k0c := fun i => Blk.cell k0 i; have k0f := fun i => Blk.free k0 i; have k0z := Blk.lt k0; (try clear k1c k1f k1z); have k1c := fun i => Blk.cell k1 i; have k1f := fun i => Blk.free k1 i; have k1z := Blk.lt k1
      clear ho hi hb
      go_wp2_with (with_reducible refine hold_loop ?_)
      unfold Hold
      go_loop [8] (fun i => ∃ k : Nat, k ≤ L.length ∧ i = .int .i64 k ∧ Hid (∀ i, i < k → at0 L i ≠ f)) (fun i => L.length - (intOf i).toNat)
      case atStart => exact ⟨0, by omega, rfl, Lib.hid fun i hi => by omega⟩
      case round =>
        obtain ⟨k, hk, rfl, hno⟩ := hrel
        by_cases hlt : k < L.length
        · obtain ⟨b, off, rfl, hbl, hce⟩ := HI.out (by omega)
          have hc1 := hce k hlt
          by_cases he : at0 L k = f
          · have hf2 : br = true := HF.out.2 ⟨k, hlt, he⟩
            rw [he] at hc1
            have q9 : (f == f) = true := by simp
            have HF2 := Lib.hid hf2
            clear hce hno hf2
            go_wp2
            have hz := HF2.out
            subst hz
            go_ret
            exact ⟨rfl, hB⟩
          · have q9 : (at0 L k == f) = false := by simpa using he
            have q10 : decide (at0 L k = f) = false := decide_eq_false he
            have hno2 : Hid (∀ i, i < k + 1 → at0 L i ≠ f) := Lib.hid fun i hi => by
              by_cases e : i = k
              · rw [e]; exact he
              · exact hno.out i (by omega)
            clear hce hno
            generalize at0 L k = x at *
            go_wp2
            go_round
            case rel => exact ⟨k + 1, by omega, by go_num, hno2⟩
            case measure => simp [intOf]; try omega
        · obtain rfl : k = L.length := by omega
          have hbr : br = false := by
            cases hbr : br with
            | false => rfl
            | true => obtain ⟨i, hi, e⟩ := HF.out.1 hbr; exact absurd e (hno.out i hi)
          have HBR := Lib.hid hbr
          clear hbr hno HI HF
          obtain ⟨lz, hlz⟩ : ∃ z : Nat, z = L.length := ⟨_, rfl⟩
          go_wp2_with (first | (first | ((with_reducible refine wpList_here ?_ ?_); (· exact Eq.refl true); first | ((with_reducible refine wpList_grow 3 ?_ ?_); (· exact Eq.refl true)) | ((with_reducible refine wpList_grow 7 ?_ ?_); (· exact Eq.refl true))) | ((with_reducible refine wp_region_any_here ?_ ?_); (· exact Eq.refl true); first | ((with_reducible refine wp_region_drawn 3 ?_ ?_ ?_ ?_); (· exact Eq.refl true); (· kernel_rfl); (· kernel_rfl)) | ((with_reducible refine wp_region_drawn 7 ?_ ?_ ?_ ?_); (· exact Eq.refl true); (· kernel_rfl); (· kernel_rfl)) | refine wp_region_grow (by kernel_rfl) (by kernel_rfl) ?_)); (try simp only [List.take_succ_cons, List.take_zero, List.drop_succ_cons, List.drop_zero]); (repeat (go_big_quiet_step ((first | (go_at_call 43; with_reducible exact grow_of (C1.out _)) | (go_at_call 43; with_reducible exact grow_of (C2.out _)))))); (first | (refine wpQuiet_nil ?_; intro w' hb; replace hB := Below.trans hB (Below.mono hb (Below.size hB)); replace k0 := Blk.below k0 hb (Blk.lt k0); replace k1 := Blk.below k1 hb (Blk.lt k1); (try clear k0c k0f k0z); have k0c := fun i => Blk.cell k0 i; have k0f := fun i => Blk.free k0 i; have k0z := Blk.lt k0; (try clear k1c k1f k1z); have k1c := fun i => Blk.cell k1 i; have k1f := fun i => Blk.free k1 i; have k1z := Blk.lt k1) | skip))
          all_goals (try (go_wp2))
          have hz := HBR.out
          subst hz
          go_ret
          exact ⟨by simp, hB⟩
  · rw [if_neg h0]
    have q0 : (d == 0) = false := by simpa using h0
    have q1 : decide (d = 0) = false := decide_eq_false h0
    clear hd C1 C2
    have h5 : b3 = true ∨ (b3 = false ∧ b5 = true) ∨ (b3 = false ∧ b5 = false) := by cases b3 <;> cases b5 <;> simp
    rcases h5 with h | ⟨h, h'⟩ | ⟨h, h'⟩
    all_goals
      subst_vars
      go_enter Try.func24, Try.ntmps24
      go_wp2_with (first | ((with_reducible refine hold_list ?_ ?_); (· exact Eq.refl true)) | ((with_reducible refine hold_region ?_ ?_); (· exact Eq.refl true)) | (with_reducible refine hold_loop ?_))
      have k0 : Blk ((w.alloc (.cells #[.int .u64 (wx : Int), .int .u64 (wy : Int), .int .u64 (ux : Int), .int .u64 (uy : Int), .int .u64 (dx : Int), .int .u64 (dy : Int)] 50)).alloc (.cells #[.int .i64 p, .int .i64 d, .int .i64 m, .int .i64 l, .bool wt, .slice A rs.length C] 25)) (w.heap.size) 50 #[.int .u64 (wx : Int), .int .u64 (wy : Int), .int .u64 (ux : Int), .int .u64 (uy : Int), .int .u64 (dx : Int), .int .u64 (dy : Int)] := (Blk.alloc (blk_at (by simp)) (.cells #[.int .i64 p, .int .i64 d, .int .i64 m, .int .i64 l, .bool wt, .slice A rs.length C] 25))
      have k1 : Blk ((w.alloc (.cells #[.int .u64 (wx : Int), .int .u64 (wy : Int), .int .u64 (ux : Int), .int .u64 (uy : Int), .int .u64 (dx : Int), .int .u64 (dy : Int)] 50)).alloc (.cells #[.int .i64 p, .int .i64 d, .int .i64 m, .int .i64 l, .bool wt, .slice A rs.length C] 25)) (w.heap.size + 1) 25 #[.int .i64 p, .int .i64 d, .int .i64 m, .int .i64 l, .bool wt, .slice A rs.length C] := (blk_at (by simp))
      have hB : Below w.heap.size w ((w.alloc (.cells #[.int .u64 (wx : Int), .int .u64 (wy : Int), .int .u64 (ux : Int), .int .u64 (uy : Int), .int .u64 (dx : Int), .int .u64 (dy : Int)] 50)).alloc (.cells #[.int .i64 p, .int .i64 d, .int .i64 m, .int .i64 l, .bool wt, .slice A rs.length C] 25)) := (bel_at (bel_at (Below.refl _ _) (.cells #[.int .u64 (wx : Int), .int .u64 (wy : Int), .int .u64 (ux : Int), .int .u64 (uy : Int), .int .u64 (dx : Int), .int .u64 (dy : Int)] 50)) (.cells #[.int .i64 p, .int .i64 d, .int .i64 m, .int .i64 l, .bool wt, .slice A rs.length C] 25))
      generalize ((w.alloc (.cells #[.int .u64 (wx : Int), .int .u64 (wy : Int), .int .u64 (ux : Int), .int .u64 (uy : Int), .int .u64 (dx : Int), .int .u64 (dy : Int)] 50)).alloc (.cells #[.int .i64 p, .int .i64 d, .int .i64 m, .int .i64 l, .bool wt, .slice A rs.length C] 25)) = w1 at *
      (try clear k0c k0f k0z); have k0c := fun i => Blk.cell k0 i; have k0f := fun i => Blk.free k0 i; have k0z := Blk.lt k0; (try clear k1c k1f k1z); have k1c := fun i => Blk.cell k1 i; have k1f := fun i => Blk.free k1 i; have k1z := Blk.lt k1
      unfold Hold
      go_wp2_with (go_at_call 42; refine (CR.out _ (HR.out.below hB)).mono ?_)
      rintro e w2 ⟨v, rfl, ho, hb⟩
      obtain ⟨A2, cp2, rfl, hi⟩ := owns_ints ho
      have HI := Lib.hid hi
      replace hB := hB.trans (hb.mono hB.size)
      replace k0 := k0.below hb k0.lt
      replace k1 := k1.below hb k1.lt
      (try clear k0c k0f k0z); have k0c := fun i => Blk.cell k0 i; have k0f := fun i => Blk.free k0 i; have k0z := Blk.lt k0; (try clear k1c k1f k1z); have k1c := fun i => Blk.cell k1 i; have k1f := fun i => Blk.free k1 i; have k1z := Blk.lt k1
      clear ho hi hb
      go_wp2_with (with_reducible refine hold_loop ?_)
      unfold Hold
      go_loop [8] (fun i => ∃ k : Nat, k ≤ L.length ∧ i = .int .i64 k ∧ Hid (∀ i, i < k → at0 L i ≠ f)) (fun i => L.length - (intOf i).toNat)
      case atStart => exact ⟨0, by omega, rfl, Lib.hid fun i hi => by omega⟩
      case round =>
        obtain ⟨k, hk, rfl, hno⟩ := hrel
        by_cases hlt : k < L.length
        · obtain ⟨b, off, rfl, hbl, hce⟩ := HI.out (by omega)
          have hc1 := hce k hlt
          by_cases he : at0 L k = f
          · have hf2 : br = true := HF.out.2 ⟨k, hlt, he⟩
            rw [he] at hc1
            have q9 : (f == f) = true := by simp
            have HF2 := Lib.hid hf2
            clear hce hno hf2
            go_wp2
            have hz := HF2.out
            subst hz
            go_ret
            exact ⟨rfl, hB⟩
          · have q9 : (at0 L k == f) = false := by simpa using he
            have q10 : decide (at0 L k = f) = false := decide_eq_false he
            have hno2 : Hid (∀ i, i < k + 1 → at0 L i ≠ f) := Lib.hid fun i hi => by
              by_cases e : i = k
              · rw [e]; exact he
              · exact hno.out i (by omega)
            clear hce hno
            generalize at0 L k = x at *
            go_wp2
            go_round
            case rel => exact ⟨k + 1, by omega, by go_num, hno2⟩
            case measure => simp [intOf]; try omega
        · obtain rfl : k = L.length := by omega
          have hbr : br = false := by
            cases hbr : br with
            | false => rfl
            | true => obtain ⟨i, hi, e⟩ := HF.out.1 hbr; exact absurd e (hno.out i hi)
          have HBR := Lib.hid hbr
          clear hbr hno HI HF
          obtain ⟨lz, hlz⟩ : ∃ z : Nat, z = L.length := ⟨_, rfl⟩
          go_wp2_with (first | (first | ((with_reducible refine wpList_here ?_ ?_); (· exact Eq.refl true); first | ((with_reducible refine wpList_grow 5 ?_ ?_); (· exact Eq.refl true)) | ((with_reducible refine wpList_grow 19 ?_ ?_); (· exact Eq.refl true))) | ((with_reducible refine wp_region_any_here ?_ ?_); (· exact Eq.refl true); first | ((with_reducible refine wp_region_drawn 5 ?_ ?_ ?_ ?_); (· exact Eq.refl true); (· kernel_rfl); (· kernel_rfl)) | ((with_reducible refine wp_region_drawn 19 ?_ ?_ ?_ ?_); (· exact Eq.refl true); (· kernel_rfl); (· kernel_rfl)) | refine wp_region_grow (by kernel_rfl) (by kernel_rfl) ?_)); (try simp only [List.take_succ_cons, List.take_zero, List.drop_succ_cons, List.drop_zero]); (repeat (go_big_quiet_step ((first | (go_at_call 43; with_reducible exact grow_of (C3.out _)) | (go_at_call 43; with_reducible exact grow_of (C4.out _)) | (go_at_call 44; with_reducible exact grow_of (CB.out _)))))); (first | (refine wpQuiet_nil ?_; intro w' hb; replace hB := Below.trans hB (Below.mono hb (Below.size hB)); replace k0 := Blk.below k0 hb (Blk.lt k0); replace k1 := Blk.below k1 hb (Blk.lt k1); (try clear k0c k0f k0z); have k0c := fun i => Blk.cell k0 i; have k0f := fun i => Blk.free k0 i; have k0z := Blk.lt k0; (try clear k1c k1f k1z); have k1c := fun i => Blk.cell k1 i; have k1f := fun i => Blk.free k1 i; have k1z := Blk.lt k1) | skip))
          all_goals (try (go_wp2))
          have hz := HBR.out
          subst hz
          go_ret
          exact ⟨by simp, hB⟩
end Go.Proofs.Ytlcnhpjmmjmkcaa
