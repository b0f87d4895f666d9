
/-
  The document's sets: hoistwayref03.Range. Conditions: the numbers fit.
-/
import Derived.Test.YtejcgagblpkmoaaDoorRef03e
set_option linter.unusedVariables false
set_option linter.unusedSimpArgs false
namespace Go.Proofs.YtejcgagblpkmoaaDoor
open Go.Joins Go.ChangeShapes Go.WideShapes Go.ChangeAt Go.RowKit Go.Deep

def rngF (x y : Nat) (a b : Int) (i : Nat) : Bool := bitsF x y i && decide (a ≤ (i : Int)) && decide ((i : Int) < b)
def rngK (x y : Nat) (a b : Int) (k i : Nat) : Bool := if i < k then rngF x y a b i else bitsF x y i
theorem rngK_succ (x y : Nat) (a b : Int) (k : Nat) : rowA (fun j => if j = k then rngF x y a b k else rngK x y a b k j) = rowA (rngK x y a b (k + 1)) := by
  apply row_ext
  intro i _
  unfold rngK
  by_cases h : i = k
  · subst h; simp
  · rw [if_neg h]
    by_cases h2 : i < k
    · rw [if_pos h2, if_pos (by omega)]
    · rw [if_neg h2, if_neg (by omega)]
theorem rngK_all (x y : Nat) (a b : Int) : rowA (rngK x y a b 128) = rowA (rngF x y a b) := row_ext fun i hi => by unfold rngK; rw [if_pos hi]
set_option maxRecDepth 20000 in
set_option maxHeartbeats 8000000 in
theorem ref03_Range (x y : Nat) (a b : Int) (w : World) (hx : Wd x) (hy : Wd y) (ha : I64 a) (hb : I64 b) :
    Calls Tryd.prog 22 #[sv x y, .int .i64 a, .int .i64 b] w fun e w' => e = .returned (sv (mkX (rngF x y a b)) (mkY (rngF x y a b))) ∧ Below w.heap.size w w' := by
  have cR := fun w => ref03_Row x y w hx hy
  have cM := fun w => ref03_Make (rngF x y a b) w
  unfold I64 at ha hb
  unfold sv at *
  generalize ((mkX (rngF x y a b) : Nat) : Int) = r1 at *
  generalize ((mkY (rngF x y a b) : Nat) : Int) = r2 at *
  have CR := Lib.hid cR
  have CM := Lib.hid cM
  have z := row_zero
  clear cR cM hx hy
  go_enter Tryd.func22, Tryd.ntmps22
  go_wp2_with (first | ((with_reducible refine hold_list ?_ ?_); (· exact Eq.refl true)) | ((with_reducible refine hold_region ?_ ?_); (· exact Eq.refl true)) | (with_reducible refine hold_loop ?_))
  have k0 : Blk ((w.alloc (.cells #[.int .u64 (x : Int), .int .u64 (y : Int)] 38)).alloc (.cells #[.int .u64 0, .int .u64 0] 38)) (w.heap.size) 38 #[.int .u64 (x : Int), .int .u64 (y : Int)] := (Blk.alloc (blk_at (by simp)) (.cells #[.int .u64 0, .int .u64 0] 38))
  have k1 : Blk ((w.alloc (.cells #[.int .u64 (x : Int), .int .u64 (y : Int)] 38)).alloc (.cells #[.int .u64 0, .int .u64 0] 38)) (w.heap.size + 1) 38 #[.int .u64 0, .int .u64 0] := (blk_at (by simp))
  have hB : Below w.heap.size w ((w.alloc (.cells #[.int .u64 (x : Int), .int .u64 (y : Int)] 38)).alloc (.cells #[.int .u64 0, .int .u64 0] 38)) := (bel_at (bel_at (Below.refl _ _) (.cells #[.int .u64 (x : Int), .int .u64 (y : Int)] 38)) (.cells #[.int .u64 0, .int .u64 0] 38))
  generalize ((w.alloc (.cells #[.int .u64 (x : Int), .int .u64 (y : Int)] 38)).alloc (.cells #[.int .u64 0, .int .u64 0] 38)) = w1 at *
  (try clear k0c k0f k0z); have k0c := fun i => Blk.cell k0 i; have k0f := fun i => Blk.free k0 i; have k0z := Blk.lt k0; (try clear k1c k1f k1z); have k1c := fun i => Blk.cell k1 i; have k1f := fun i => Blk.free k1 i; have k1z := Blk.lt k1
  unfold Hold
  have hag := row_agg
  have hsz := row_sizeof
  have hS := fun w => run_row_new (fun _ => false) (bitsF x y) w
  go_wp2_with (first | (first | ((with_reducible refine wpList_here ?_ ?_); (· exact Eq.refl true); first | ((with_reducible refine wpList_grow 2 ?_ ?_); (· exact Eq.refl true))) | ((with_reducible refine wp_region_any_here ?_ ?_); (· exact Eq.refl true); first | ((with_reducible refine wp_region_drawn 2 ?_ ?_ ?_ ?_); (· exact Eq.refl true); (· kernel_rfl); (· kernel_rfl)) | refine wp_region_grow (by kernel_rfl) (by kernel_rfl) ?_)); (try simp only [List.take_succ_cons, List.take_zero, List.drop_succ_cons, List.drop_zero]); (repeat (go_big_quiet_step ((first | (go_at_call 23; with_reducible exact grow_of (CR.out _)))))); (first | (refine wpQuiet_nil ?_; intro w' hb; replace hB := Below.trans hB (Below.mono hb (Below.size hB)); replace k0 := Blk.below k0 hb (Blk.lt k0); replace k1 := Blk.below k1 hb (Blk.lt k1); (try clear k0c k0f k0z); have k0c := fun i => Blk.cell k0 i; have k0f := fun i => Blk.free k0 i; have k0z := Blk.lt k0; (try clear k1c k1f k1z); have k1c := fun i => Blk.cell k1 i; have k1f := fun i => Blk.free k1 i; have k1z := Blk.lt k1) | skip) | (with_reducible refine hold_loop ?_))
  all_goals (try (go_wp2_with (first | (with_reducible refine hold_loop ?_))))
  clear hag hsz hS
  have hbn : w.heap.size + 1 < w'.heap.size := k1z
  have k2 : Blk (w'.alloc (.cells (rowA (bitsF x y)) 57)) w'.heap.size 57 (rowA (bitsF x y)) := Blk.new _ _ _
  replace k1 := Blk.alloc k1 (.cells (rowA (bitsF x y)) 57)
  replace hB := bel_at hB (.cells (rowA (bitsF x y)) 57)
  generalize w'.alloc (.cells (rowA (bitsF x y)) 57) = w3 at *
  (try clear k1c k1f k1z); have k1c := fun i => Blk.cell k1 i; have k1f := fun i => Blk.free k1 i; have k1z := Blk.lt k1; (try clear k2c k2f k2z); have k2c := fun i => Blk.cell k2 i; have k2f := fun i => Blk.free k2 i; have k2z := Blk.lt k2
  generalize w'.heap.size = b1 at *
  unfold Hold
  have hk0 : rowA (bitsF x y) = rowA (rngK x y a b 0) := row_ext fun i _ => by unfold rngK; rw [if_neg (by omega)]
  rw [hk0] at k2
  clear hk0 k0 k0c k0f k0z k1c k1f k1z k2c k2f k2z
  go_loopw [8] (fun i wr => ∃ k : Nat, k ≤ 128 ∧ i = .int .i64 k ∧ Blk wr (w.heap.size + 1) 38 #[.int .u64 0, .int .u64 0] ∧ Blk wr b1 57 (rowA (rngK x y a b k)) ∧ Below w.heap.size w wr) (fun i _ => 128 - (intOf i).toNat)
  case atStart => exact ⟨0, by omega, rfl, k1, k2, hB⟩
  case round =>
    obtain ⟨k, hk, rfl, c1, c2, hq⟩ := hrel
    by_cases hlt : k < 128
    · have kn : wr.cell? ⟨b1, k, none⟩ = some (.bool (bitsF x y k)) := by
        rw [c2.cell, row_get _ hlt]
        unfold rngK
        rw [if_neg (by omega)]
      have kf := fun i => Blk.free c2 i
      have hs : (rowA (rngK x y a b k)).setIfInBounds k (.bool (rngF x y a b k)) = rowA (rngK x y a b (k + 1)) := by rw [row_set, rngK_succ]
      have C1 := Lib.hid c1
      have C2 := Lib.hid c2
      have HQ := Lib.hid hq
      clear c1 c2 hq
      have key : ∀ r, rngF x y a b k = r → (rowA (rngK x y a b k)).setIfInBounds k (.bool r) = rowA (rngK x y a b (k + 1)) := fun r hr => by rw [← hr]; exact hs
      have KEY := Lib.hid key
      have hrdef : rngF x y a b k = (bitsF x y k && decide (a ≤ (k : Int)) && decide ((k : Int) < b)) := rfl
      have HRD := Lib.hid hrdef
      clear hs key hrdef
      have h4 : bitsF x y k = false ∨ (bitsF x y k = true ∧ ¬ a ≤ (k : Int)) ∨ (bitsF x y k = true ∧ a ≤ (k : Int) ∧ ¬ (k : Int) < b) ∨ (bitsF x y k = true ∧ a ≤ (k : Int) ∧ (k : Int) < b) := by
        cases bitsF x y k <;> simp <;> omega
      rcases h4 with h | ⟨h, h1⟩ | ⟨h, h1, h2⟩ | ⟨h, h1, h2⟩
      · rw [h] at kn
        have hr : rngF x y a b k = false := by rw [HRD.out, h]; rfl
        have KS := Lib.hid (KEY.out _ hr)
        clear h hr
        go_wp2
        go_roundw
        case rel => exact ⟨k + 1, by omega, by go_num, C1.out.far (p := ⟨b1, k, none⟩) (by show _ ≠ b1; omega) _, by rw [← KS.out]; exact C2.out.set_ k _, HQ.out.setCell (p := ⟨b1, k, none⟩) (by show _ ≤ b1; omega) _⟩
        case measure => simp [intOf]; try omega
      · rw [h] at kn
        have q1 : decide (a ≤ (k : Int)) = false := decide_eq_false h1
        have hr : rngF x y a b k = false := by rw [HRD.out, h, q1]; rfl
        have KS := Lib.hid (KEY.out _ hr)
        clear h hr h1
        go_wp2
        go_roundw
        case rel => exact ⟨k + 1, by omega, by go_num, C1.out.far (p := ⟨b1, k, none⟩) (by show _ ≠ b1; omega) _, by rw [← KS.out]; exact C2.out.set_ k _, HQ.out.setCell (p := ⟨b1, k, none⟩) (by show _ ≤ b1; omega) _⟩
        case measure => simp [intOf]; try omega
      · rw [h] at kn
        have q1 : decide (a ≤ (k : Int)) = true := decide_eq_true h1
        have q2 : decide ((k : Int) < b) = false := decide_eq_false h2
        have hr : rngF x y a b k = false := by rw [HRD.out, h, q1, q2]; rfl
        have KS := Lib.hid (KEY.out _ hr)
        clear h hr h1 h2
        go_wp2
        go_roundw
        case rel => exact ⟨k + 1, by omega, by go_num, C1.out.far (p := ⟨b1, k, none⟩) (by show _ ≠ b1; omega) _, by rw [← KS.out]; exact C2.out.set_ k _, HQ.out.setCell (p := ⟨b1, k, none⟩) (by show _ ≤ b1; omega) _⟩
        case measure => simp [intOf]; try omega
      · rw [h] at kn
        have q1 : decide (a ≤ (k : Int)) = true := decide_eq_true h1
        have q2 : decide ((k : Int) < b) = true := decide_eq_true h2
        have hr : rngF x y a b k = true := by rw [HRD.out, h, q1, q2]; rfl
        have KS := Lib.hid (KEY.out _ hr)
        clear h hr h1 h2
        go_wp2
        go_roundw
        case rel => exact ⟨k + 1, by omega, by go_num, C1.out.far (p := ⟨b1, k, none⟩) (by show _ ≠ b1; omega) _, by rw [← KS.out]; exact C2.out.set_ k _, HQ.out.setCell (p := ⟨b1, k, none⟩) (by show _ ≤ b1; omega) _⟩
        case measure => simp [intOf]; try omega
    · obtain rfl : k = 128 := by omega
      rw [rngK_all] at c2
      go_wp2_with (first | ((with_reducible refine row_load_step ?_ c2 ?_); (· rfl); simp only [Act.put, List.setIfInBounds_toArray, List.set_cons_succ, List.set_cons_zero]) | (go_at_call 24; refine (CM.out _).mono ?_))
      rintro e w4 ⟨rfl, hb4⟩
      have hB4 := hq.trans (hb4.mono hq.size)
      have k9 := c1.below hb4 c1.lt
      (try clear k9c k9f k9z); have k9c := fun i => Blk.cell k9 i; have k9f := fun i => Blk.free k9 i; have k9z := Blk.lt k9
      clear c1 c2
      go_wp2
      refine bodyPost_ret (v := .agg #[.int .u64 r1, .int .u64 r2]) (by simp [results, Tryd.results22, go_sem, k9c, k9f]) rfl ?_
      exact ⟨rfl, set2b (g := 1) hB4⟩
end Go.Proofs.YtejcgagblpkmoaaDoor
