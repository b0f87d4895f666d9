
/-
  Sets and calls as data; hoistwaylaw34.Within: what it makes sure of. Conditions: the number of floors fits.
-/
import Derived.Test.YtejcgagblpkmoaaDoorWithin34
import Derived.Test.YtejcgagblpkmoaaDoorArgSet
import Derived.Test.YtejcgagblpkmoaaDoorWithind
import Derived.Test.YtejcgagblpkmoaaDoorEtaO
set_option linter.unusedVariables false
set_option linter.unusedSimpArgs false
namespace Go.Proofs.YtejcgagblpkmoaaDoor
open Go.Joins Go.ChangeShapes Go.WideShapes Go.ChangeAt Go.RowKit Go.Deep

structure St where
  x : Nat
  y : Nat
def RSt : Reader St := fun _ cs s => cs = [.int .u64 (s.x : Int), .int .u64 (s.y : Int)] ∧ Wd s.x ∧ Wd s.y
theorem RSt.stays : RSt.Stays := fun _ _ _ _ h _ => h
section
variable {H : Type} {enc : TypeId × Value → H} {w : World} {base : Nat} {spare : Nat → Bool} {held : Bool}
theorem read_St {n : Nat} {cs : List Value} {x : DataW H × List MemPlace} (h : DataW.trod enc Tryd.prog w base spare held n 38 cs = some x) : ∃ s, RSt w cs s := by
  obtain ⟨a, b, rfl, ha, hb⟩ := read_set h
  exact ⟨⟨a, b⟩, rfl, ha, hb⟩
theorem read_Call34 {n : Nat} {cs : List Value} {x : DataW H × List MemPlace} (h : DataW.trod enc Tryd.prog w base spare held n 32 cs = some x) : ∃ (sets : List St) (A : Option Addr) (C : Nat) (f d : Int), cs = [.slice A sets.length C, .int .i64 f, .int .i64 d] ∧ RSlice 2 RSt w [.slice A sets.length C] sets ∧ I64 f ∧ I64 d := by
  obtain ⟨hl, m, hf⟩ := read_fields Tryd.underlying32 (by kernel_rfl) (by kernel_rfl) h
  obtain ⟨c0, y0, e0, t0⟩ := hf 0 _ rfl
  obtain ⟨c1, y1, e1, t1⟩ := hf 1 _ rfl
  obtain ⟨c2, y2, e2, t2⟩ := hf 2 _ rfl
  obtain ⟨a0, A0, C0, q0, r0⟩ := read_slice (size := 2) Tryd.underlying30 (by kernel_rfl) (by decide) (fun _ _ _ h => read_St h) t0
  injection q0 with q0; subst q0
  obtain ⟨a1, q1, w1⟩ := read_int (w := w) Tryd.underlying3 t1
  injection q1 with q1; subst q1
  obtain ⟨a2, q2, w2⟩ := read_int (w := w) Tryd.underlying3 t2
  injection q2 with q2; subst q2
  refine ⟨a0, A0, C0, a1, a2, ?_, ⟨A0, C0, rfl, r0⟩, bounds_i64 w1, bounds_i64 w2⟩
  match cs, hl with
  | [u0, u1, u2], _ =>
    simp at e0 e1 e2
    subst e0 e1 e2
    rfl
end
def setsIn (fl : Int) (sets : List St) : Prop := sets.length ≤ 20 ∧ ∀ (i : Nat) (t : St), sets[i]? = some t → inF fl t.x t.y
theorem same_set (fl : Int) (t : St) (r : Bool) (h : sameB fl t.x t.y = r) (w : World) : (Op.equalIn 10000 38 (.agg #[.int .u64 ((mkX (rngF t.x t.y 0 fl) : Nat) : Int), .int .u64 ((mkY (rngF t.x t.y 0 fl) : Nat) : Int)]) (.agg #[.int .u64 (t.x : Int), .int .u64 (t.y : Int)])).run Tryd.prog w = .ok r w :=
  (run_set2 ((mkX (rngF t.x t.y 0 fl) : Nat) : Int) ((mkY (rngF t.x t.y 0 fl) : Nat) : Int) t.x t.y w).trans (by rw [← h]; rfl)
set_option maxRecDepth 20000 in
set_option maxHeartbeats 4000000 in
theorem within34_any (s : Scen) (A : Option Addr) (C : Nat) (sets : List St) (A2 : Option Addr) (C2 : Nat) (w : World) (hf : I64 s.floors) (hc : RSlice 2 RSt w [.slice A2 sets.length C2] sets) :
    Calls Tryd.prog 7 #[s.val A C, .slice A2 sets.length C2] w fun e w' => ∃ r, e = .returned (.bool r) ∧ (r = true → setsIn s.floors sets) ∧ Below w.heap.size w w' := by
  have cR := fun (t : St) w (h : Wd t.x ∧ Wd t.y) => ref03_Range t.x t.y 0 s.floors w h.1 h.2 (by unfold I64; omega) hf
  have hsm := same_set s.floors
  have hin := fun (t : St) => @same_in s.floors t.x t.y
  obtain ⟨f0, f1, f2, f3, f4, f5, f6, f7, sg, f8, f9, f10, f11⟩ := s
  simp only at *
  unfold sv at *
  have CR := Lib.hid cR
  have HS := Lib.hid hsm
  have HI := Lib.hid hin
  clear cR hf hsm hin
  by_cases h16 : 20 < sets.length
  · have q : decide ((20 : Int) < (sets.length : Int)) = true := decide_eq_true (by omega)
    clear h16
    go_enter Tryd.func7, Tryd.ntmps7
    go_wp2
    go_ret
    exact ⟨false, rfl, (fun h => nomatch h), Joins.below_alloc1 _ _⟩
  · have q : decide ((20 : Int) < (sets.length : Int)) = false := decide_eq_false (by omega)
    go_enter Tryd.func7, Tryd.ntmps7
    go_wp2_with (with_reducible refine hold_loop ?_)
    have k0 : Blk (w.alloc (.cells #[.int .i64 f0, .int .i64 f1, .int .i64 f2, .int .i64 f3, .int .i64 f4, .int .i64 f5, .int .i64 f6, .int .i64 f7, .slice A sg.length C, .int .i64 f8, .int .i64 f9, .int .i64 f10, .int .i64 f11] 25)) (w.heap.size) 25 #[.int .i64 f0, .int .i64 f1, .int .i64 f2, .int .i64 f3, .int .i64 f4, .int .i64 f5, .int .i64 f6, .int .i64 f7, .slice A sg.length C, .int .i64 f8, .int .i64 f9, .int .i64 f10, .int .i64 f11] := (blk_at (by simp))
    have hB : Below w.heap.size w (w.alloc (.cells #[.int .i64 f0, .int .i64 f1, .int .i64 f2, .int .i64 f3, .int .i64 f4, .int .i64 f5, .int .i64 f6, .int .i64 f7, .slice A sg.length C, .int .i64 f8, .int .i64 f9, .int .i64 f10, .int .i64 f11] 25)) := (bel_at (Below.refl _ _) (.cells #[.int .i64 f0, .int .i64 f1, .int .i64 f2, .int .i64 f3, .int .i64 f4, .int .i64 f5, .int .i64 f6, .int .i64 f7, .slice A sg.length C, .int .i64 f8, .int .i64 f9, .int .i64 f10, .int .i64 f11] 25))
    generalize (w.alloc (.cells #[.int .i64 f0, .int .i64 f1, .int .i64 f2, .int .i64 f3, .int .i64 f4, .int .i64 f5, .int .i64 f6, .int .i64 f7, .slice A sg.length C, .int .i64 f8, .int .i64 f9, .int .i64 f10, .int .i64 f11] 25)) = w1 at *
    (try clear k0c k0f k0z); have k0c := fun i => Blk.cell k0 i; have k0f := fun i => Blk.free k0 i; have k0z := Blk.lt k0
    unfold Hold
    have hc1 := RSlice.stays RSt.stays _ _ _ _ hc hB
    have K0 := Lib.hid k0
    have HB := Lib.hid hB
    clear hc hB k0 k0c k0f k0z
    go_loopw [5] (fun i wr => ∃ j : Nat, j ≤ sets.length ∧ i = .int .i64 j ∧ (∀ (i : Nat) (t : St), i < j → sets[i]? = some t → inF f0 t.x t.y) ∧ Below w1.heap.size w1 wr) (fun i _ => sets.length - (intOf i).toNat)
    case atStart => exact ⟨0, by omega, rfl, fun i c h => by omega, Below.refl _ _⟩
    case round =>
      obtain ⟨j, hj, rfl, hin, hbq⟩ := hrel
      have HN := Lib.hid hin
      have k0 := K0.out.below hbq K0.out.lt
      have hB := hbq
      (try clear k0c k0f k0z); have k0c := fun i => Blk.cell k0 i; have k0f := fun i => Blk.free k0 i; have k0z := Blk.lt k0
      clear hin
      by_cases hjl : j < sets.length
      · obtain ⟨b, off, rfl, hbl, hce⟩ := slice_at hc1 (by omega)
        obtain ⟨t, htj⟩ : ∃ t, sets[j]? = some t := ⟨_, List.getElem?_eq_getElem hjl⟩
        obtain ⟨es, ⟨rfl, hwx, hwy⟩, _, hcc⟩ := hce j t htj
        have z0 := (hbq.cell (p := ⟨b, off + j * 2 + 0, none⟩) hbl).trans (hcc 0 _ rfl)
        have z1 := (hbq.cell (p := ⟨b, off + j * 2 + 1, none⟩) hbl).trans (hcc 1 _ rfl)
        simp only [Nat.add_zero] at z0
        have hblr : b < wr.heap.size := Nat.lt_of_lt_of_le hbl hbq.size
        have cR := fun w => CR.out t w ⟨hwx, hwy⟩
        have CR1 := Lib.hid cR
        obtain ⟨r, hr⟩ : ∃ r, sameB f0 t.x t.y = r := ⟨_, rfl⟩
        have hsm := HS.out t r hr
        have hti := HI.out t
        rw [hr] at hti
        have HTI := Lib.hid hti
        have HTJ := Lib.hid htj
        have HBQ := Lib.hid hbq
        clear hti htj hbq hce hcc hwx hwy cR hr
        generalize ((mkX (rngF t.x t.y 0 f0) : Nat) : Int) = m0 at *
        generalize ((mkY (rngF t.x t.y 0 f0) : Nat) : Int) = m1 at *
        cases r with
        | true =>
          have hnext : ∀ (i : Nat) (t : St), i < j + 1 → sets[i]? = some t → inF f0 t.x t.y := fun i t' hi ht' => by
            by_cases e : i < j
            · exact HN.out i t' e ht'
            · obtain rfl : i = j := by omega
              rw [HTJ.out] at ht'
              injection ht' with h
              rw [← h]
              exact HTI.out rfl
          have HNX := Lib.hid hnext
          clear hnext HTI
          go_wp2_with (first | ((with_reducible refine wpList_here ?_ ?_); (· exact Eq.refl true); first | ((with_reducible refine wpList_grow 99 ?_ ?_); (· exact Eq.refl true))) | ((with_reducible refine wp_region_any_here ?_ ?_); (· exact Eq.refl true); first | ((with_reducible refine wp_region_drawn 99 ?_ ?_ ?_ ?_); (· exact Eq.refl true); (· kernel_rfl); (· kernel_rfl)) | refine wp_region_grow (by kernel_rfl) (by kernel_rfl) ?_)); (try simp only [List.take_succ_cons, List.take_zero, List.drop_succ_cons, List.drop_zero]); (repeat (go_big_quiet_step ((first | (go_at_call 22; with_reducible exact grow_of (CR1.out _)))))); (first | (refine wpQuiet_nil ?_; intro w' hb; replace hB := Below.trans hB (Below.mono hb (Below.size hB)); replace k0 := Blk.below k0 hb (Blk.lt k0); (try clear k0c k0f k0z); have k0c := fun i => Blk.cell k0 i; have k0f := fun i => Blk.free k0 i; have k0z := Blk.lt k0) | skip)
          all_goals (try (go_wp2_with (first | ((with_reducible refine wpList_here ?_ ?_); (· exact Eq.refl true); first | ((with_reducible refine wpList_grow 99 ?_ ?_); (· exact Eq.refl true))) | ((with_reducible refine wp_region_any_here ?_ ?_); (· exact Eq.refl true); first | ((with_reducible refine wp_region_drawn 99 ?_ ?_ ?_ ?_); (· exact Eq.refl true); (· kernel_rfl); (· kernel_rfl)) | refine wp_region_grow (by kernel_rfl) (by kernel_rfl) ?_)); (try simp only [List.take_succ_cons, List.take_zero, List.drop_succ_cons, List.drop_zero]); (repeat (go_big_quiet_step ((first | (go_at_call 22; with_reducible exact grow_of (CR1.out _)))))); (first | (refine wpQuiet_nil ?_; intro w' hb; replace hB := Below.trans hB (Below.mono hb (Below.size hB)); replace k0 := Blk.below k0 hb (Blk.lt k0); (try clear k0c k0f k0z); have k0c := fun i => Blk.cell k0 i; have k0f := fun i => Blk.free k0 i; have k0z := Blk.lt k0) | skip)))
          go_roundw
          case rel => exact ⟨j + 1, by omega, by go_num, HNX.out, hB⟩
          case measure => simp [intOf]; omega
        | false =>
          go_wp2_with (first | ((with_reducible refine wpList_here ?_ ?_); (· exact Eq.refl true); first | ((with_reducible refine wpList_grow 99 ?_ ?_); (· exact Eq.refl true))) | ((with_reducible refine wp_region_any_here ?_ ?_); (· exact Eq.refl true); first | ((with_reducible refine wp_region_drawn 99 ?_ ?_ ?_ ?_); (· exact Eq.refl true); (· kernel_rfl); (· kernel_rfl)) | refine wp_region_grow (by kernel_rfl) (by kernel_rfl) ?_)); (try simp only [List.take_succ_cons, List.take_zero, List.drop_succ_cons, List.drop_zero]); (repeat (go_big_quiet_step ((first | (go_at_call 22; with_reducible exact grow_of (CR1.out _)))))); (first | (refine wpQuiet_nil ?_; intro w' hb; replace hB := Below.trans hB (Below.mono hb (Below.size hB)); replace k0 := Blk.below k0 hb (Blk.lt k0); (try clear k0c k0f k0z); have k0c := fun i => Blk.cell k0 i; have k0f := fun i => Blk.free k0 i; have k0z := Blk.lt k0) | skip)
          all_goals (try (go_wp2_with (first | ((with_reducible refine wpList_here ?_ ?_); (· exact Eq.refl true); first | ((with_reducible refine wpList_grow 99 ?_ ?_); (· exact Eq.refl true))) | ((with_reducible refine wp_region_any_here ?_ ?_); (· exact Eq.refl true); first | ((with_reducible refine wp_region_drawn 99 ?_ ?_ ?_ ?_); (· exact Eq.refl true); (· kernel_rfl); (· kernel_rfl)) | refine wp_region_grow (by kernel_rfl) (by kernel_rfl) ?_)); (try simp only [List.take_succ_cons, List.take_zero, List.drop_succ_cons, List.drop_zero]); (repeat (go_big_quiet_step ((first | (go_at_call 22; with_reducible exact grow_of (CR1.out _)))))); (first | (refine wpQuiet_nil ?_; intro w' hb; replace hB := Below.trans hB (Below.mono hb (Below.size hB)); replace k0 := Blk.below k0 hb (Blk.lt k0); (try clear k0c k0f k0z); have k0c := fun i => Blk.cell k0 i; have k0f := fun i => Blk.free k0 i; have k0z := Blk.lt k0) | skip)))
          go_ret
          exact ⟨false, rfl, (fun h => nomatch h), HB.out.trans (hB.mono HB.out.size)⟩
      · have hall : setsIn f0 sets := ⟨by omega, fun i c hi => HN.out i c (by have := (List.getElem?_eq_some_iff.1 hi).1; omega) hi⟩
        have HA := Lib.hid hall
        clear hall hc1 hbq
        go_wp2
        go_ret
        exact ⟨true, rfl, fun _ => HA.out, HB.out.trans (hB.mono HB.out.size)⟩
end Go.Proofs.YtejcgagblpkmoaaDoor
