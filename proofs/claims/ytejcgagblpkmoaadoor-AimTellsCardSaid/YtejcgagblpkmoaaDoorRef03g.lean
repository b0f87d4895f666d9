
/-
  The document's sets: hoistwayref03.Both, Full. Condition: the kind is 0, 1 or 2.
-/
import Derived.Test.YtejcgagblpkmoaaDoorRef03e
import Derived.Test.YtejcgagblpkmoaaDoorRel3
set_option linter.unusedVariables false
set_option linter.unusedSimpArgs false
namespace Go.Proofs.YtejcgagblpkmoaaDoor
open Go.Joins Go.ChangeShapes Go.WideShapes Go.ChangeAt Go.RowKit Go.Deep

def bothB (kind : Int) (a b : Bool) : Bool := if kind = 0 then a && b else if kind = 1 then a || b else a && !b
def bothF (kind : Int) (x y x' y' i : Nat) : Bool := bothB kind (bitsF x y i) (bitsF x' y' i)
def bothK (kind : Int) (x y x' y' k i : Nat) : Bool := if i < k then bothF kind x y x' y' i else false
theorem bothK_succ (kind : Int) (x y x' y' k : Nat) : rowA (fun j => if j = k then bothF kind x y x' y' k else bothK kind x y x' y' k j) = rowA (bothK kind x y x' y' (k + 1)) := by
  apply row_ext
  intro i _
  unfold bothK
  by_cases h : i = k
  · subst h; simp
  · rw [if_neg h]
    by_cases h2 : i < k
    · rw [if_pos h2, if_pos (by omega)]
    · rw [if_neg h2, if_neg (by omega)]
theorem bothK_all (kind : Int) (x y x' y' : Nat) : rowA (bothK kind x y x' y' 128) = rowA (bothF kind x y x' y') := row_ext fun i hi => by unfold bothK; rw [if_pos hi]
/-- The facts of the first region's values. -/
def relBoth (n0 : Nat) (s1 s2 : Value) (f g z : Nat → Bool) (i : Nat) (h : Nat → Value) (w : World) : Prop := match i with
  | 0 => h 11 = s1
  | 1 => h 12 = .agg (rowA f)
  | 2 => h 13 = s2
  | 3 => h 14 = .agg (rowA g)
  | 4 => ∃ b, h 7 = .pointer (some ⟨b, 0, none⟩) ∧ n0 ≤ b ∧ Blk w b 57 (rowA z)
  | 5 => ∃ b, h 8 = .pointer (some ⟨b, 0, none⟩) ∧ n0 ≤ b ∧ Blk w b 57 (rowA z)
  | _ => True
set_option maxRecDepth 20000 in
set_option maxHeartbeats 8000000 in
theorem ref03_Both (kind : Int) (x y x' y' : Nat) (w : World) (hx : Wd x) (hy : Wd y) (hx' : Wd x') (hy' : Wd y') (hkind : kind = 0 ∨ kind = 1 ∨ kind = 2) :
    Calls Tryd.prog 8 #[sv x y, sv x' y', .int .i64 kind] w fun e w' => e = .returned (sv (mkX (bothF kind x y x' y')) (mkY (bothF kind x y x' y'))) ∧ Below w.heap.size w w' := by
  have cR := fun w => ref03_Row x y w hx hy
  have cR2 := fun w => ref03_Row x' y' w hx' hy'
  have cM := fun w => ref03_Make (bothF kind x y x' y') w
  unfold sv at *
  generalize ((mkX (bothF kind x y x' y') : Nat) : Int) = r1 at *
  generalize ((mkY (bothF kind x y x' y') : Nat) : Int) = r2 at *
  have CR := Lib.hid cR
  have CR2 := Lib.hid cR2
  have CM := Lib.hid cM
  have z := row_zero
  clear cR cR2 cM hx hy hx' hy'
  rcases hkind with rfl | rfl | rfl
  · go_enter Tryd.func8, Tryd.ntmps8
    go_wp2_with (first | ((with_reducible refine hold_list ?_ ?_); (· exact Eq.refl true)) | ((with_reducible refine hold_region ?_ ?_); (· exact Eq.refl true)) | (with_reducible refine hold_loop ?_))
    have k0 : Blk (((w.alloc (.cells #[.int .u64 (x : Int), .int .u64 (y : Int)] 38)).alloc (.cells #[.int .u64 (x' : Int), .int .u64 (y' : Int)] 38)).alloc (.cells #[.int .u64 0, .int .u64 0] 38)) (w.heap.size) 38 #[.int .u64 (x : Int), .int .u64 (y : Int)] := (Blk.alloc (Blk.alloc (blk_at (by simp)) (.cells #[.int .u64 (x' : Int), .int .u64 (y' : Int)] 38)) (.cells #[.int .u64 0, .int .u64 0] 38))
    have k1 : Blk (((w.alloc (.cells #[.int .u64 (x : Int), .int .u64 (y : Int)] 38)).alloc (.cells #[.int .u64 (x' : Int), .int .u64 (y' : Int)] 38)).alloc (.cells #[.int .u64 0, .int .u64 0] 38)) (w.heap.size + 1) 38 #[.int .u64 (x' : Int), .int .u64 (y' : Int)] := (Blk.alloc (blk_at (by simp)) (.cells #[.int .u64 0, .int .u64 0] 38))
    have k2 : Blk (((w.alloc (.cells #[.int .u64 (x : Int), .int .u64 (y : Int)] 38)).alloc (.cells #[.int .u64 (x' : Int), .int .u64 (y' : Int)] 38)).alloc (.cells #[.int .u64 0, .int .u64 0] 38)) (w.heap.size + 2) 38 #[.int .u64 0, .int .u64 0] := (blk_at (by simp))
    have hB : Below w.heap.size w (((w.alloc (.cells #[.int .u64 (x : Int), .int .u64 (y : Int)] 38)).alloc (.cells #[.int .u64 (x' : Int), .int .u64 (y' : Int)] 38)).alloc (.cells #[.int .u64 0, .int .u64 0] 38)) := (bel_at (bel_at (bel_at (Below.refl _ _) (.cells #[.int .u64 (x : Int), .int .u64 (y : Int)] 38)) (.cells #[.int .u64 (x' : Int), .int .u64 (y' : Int)] 38)) (.cells #[.int .u64 0, .int .u64 0] 38))
    generalize (((w.alloc (.cells #[.int .u64 (x : Int), .int .u64 (y : Int)] 38)).alloc (.cells #[.int .u64 (x' : Int), .int .u64 (y' : Int)] 38)).alloc (.cells #[.int .u64 0, .int .u64 0] 38)) = w1 at *
    (try clear k0c k0f k0z); have k0c := fun i => Blk.cell k0 i; have k0f := fun i => Blk.free k0 i; have k0z := Blk.lt k0; (try clear k1c k1f k1z); have k1c := fun i => Blk.cell k1 i; have k1f := fun i => Blk.free k1 i; have k1z := Blk.lt k1; (try clear k2c k2f k2z); have k2c := fun i => Blk.cell k2 i; have k2f := fun i => Blk.free k2 i; have k2z := Blk.lt k2
    unfold Hold
    refine wp_region_rel3 6 [11, 12, 13, 14, 7, 8] (relBoth w1.heap.size (.agg #[.int .u64 (x : Int), .int .u64 (y : Int)]) (.agg #[.int .u64 (x' : Int), .int .u64 (y' : Int)]) (bitsF x y) (bitsF x' y') (fun _ => false)) (fun i => i == 4 || i == 5) (by kernel_rfl) (by kernel_rfl) (by kernel_rfl) ?_ ?_ ?_ ?_
    · intro i f v1 v2 h hb
      unfold relBoth at *
      split <;> simp only at h <;> first | exact h | (obtain ⟨b, e, hn, h⟩ := h; exact ⟨b, e, hn, h.below hb h.lt⟩)
    · intro i f f' v o ho he hes hR
      match i with
      | 0 => simp at ho; subst ho; simp [Region.binds, relBoth] at *; simp_all
      | 1 => simp at ho; subst ho; simp [Region.binds, relBoth] at *; simp_all
      | 2 => simp at ho; subst ho; simp [Region.binds, relBoth] at *; simp_all
      | 3 => simp at ho; subst ho; simp [Region.binds, relBoth] at *; simp_all
      | 4 => simp at ho; subst ho; simp [Region.binds, relBoth] at *; simp_all
      | 5 => simp at ho; subst ho; simp [Region.binds, relBoth] at *; simp_all
      | _ + 6 => trivial
    · refine ⟨?_, ?_, ?_, ?_, ?_, ?_, trivial⟩
      all_goals
        intro f w2 hb hl2
        simp [leans2, Region.binds, relBoth] at hl2
        have j0 := k0.below hb k0.lt
        have j1 := k1.below hb k1.lt
        have j0c := fun i => Blk.cell j0 i
        have j1c := fun i => Blk.cell j1 i
      · simp [gop, Region.wanted, grows, frm, execOp, go_sem, j0c, growsUpon, relBoth, upd, born]
        exact Below.refl _ _
      · simp [gop, Region.wanted, grows, frm, execOp, go_sem, hl2, growsUpon, relBoth, upd, born]
        exact ⟨Below.refl _ _, CR.out _⟩
      · simp [gop, Region.wanted, grows, frm, execOp, go_sem, j1c, growsUpon, relBoth, upd, born]
        exact Below.refl _ _
      · simp [gop, Region.wanted, grows, frm, execOp, go_sem, hl2, growsUpon, relBoth, upd, born]
        exact ⟨Below.refl _ _, CR2.out _⟩
      · simp [gop, Region.wanted, grows, frm, execOp, go_sem, z, growsUpon, relBoth, upd, born]
        exact ⟨below_alloc1 _ _, ⟨hb.size, Blk.new _ _ _⟩, Nat.le_refl _, by simp [blkN]⟩
      · simp [gop, Region.wanted, grows, frm, execOp, go_sem, z, growsUpon, relBoth, upd, born]
        exact ⟨below_alloc1 _ _, ⟨hb.size, Blk.new _ _ _⟩, Nat.le_refl _, by simp [blkN]⟩
    · intro f w2 hb hl2 hne
      have hne2 := hne 4 5 (by omega) (by omega) rfl rfl (by omega)
      simp [allRel2, relBoth] at hl2
      obtain ⟨⟨⟨⟨⟨e1, e2⟩, e3⟩, e4⟩, b3, e5, n3, k3⟩, b4, e6, n4, k4⟩ := hl2
      simp [e5, e6, blkN] at hne2
      replace hB := hB.trans (hb.mono hB.size)
      replace k2 := k2.below hb k2.lt
      have g3 : w.heap.size + 2 < b3 := by omega
      have g4 : w.heap.size + 2 < b4 := by omega
      have hS1 := row_store (g := bitsF x y) k3
      have k4' := blk_rowfar (c' := rowA (bitsF x y)) k4 hne2
      have hS2 := row_store (g := bitsF x' y') k4'
      have hag := row_agg
      have hsz := row_sizeof
      have k3' := blk_rowfar (c' := rowA (bitsF x' y')) (blk_row (c' := rowA (bitsF x y)) k3) (Ne.symm hne2)
      have k4'' := blk_row (c' := rowA (bitsF x' y')) k4'
      have k2' := blk_rowfar (b := b4) (c' := rowA (bitsF x' y')) (blk_rowfar (b := b3) (c' := rowA (bitsF x y)) k2 (by omega)) (by omega)
      have hB' := below_row (c' := rowA (bitsF x' y')) (below_row (c' := rowA (bitsF x y)) hB (show w.heap.size ≤ b3 by omega)) (show w.heap.size ≤ b4 by omega)
      clear k0 k1 k2 k0c k0f k0z k1c k1f k1z k2c k2f k2z hb hne hne2 k3 k4 k4' hB
      have K3 := Lib.hid k3'
      have K4 := Lib.hid k4''
      have K2 := Lib.hid k2'
      have HB := Lib.hid hB'
      clear k3' k4'' k2' hB'
      simp [frm, e1, e2, e3, e4, e5, e6]
      go_wp2_with (with_reducible refine hold_loop ?_)
      have k2 := K2.out
      have k3 := K3.out
      have k4 := K4.out
      have hB := HB.out
      clear K2 K3 K4 HB hS1 hS2 hag hsz e1 e2 e3 e4 e5 e6
      have hz3 : ((w2.setRow b3 (rowA (bitsF x y))).setRow b4 (rowA (bitsF x' y'))).heap.size = w2.heap.size := by simp
      generalize (w2.setRow b3 (rowA (bitsF x y))).setRow b4 (rowA (bitsF x' y')) = w3 at *
      have z3 := k3.lt
      have z4 := k4.lt
      have z2 := k2.lt
      have k5 : Blk (w3.alloc (.cells (rowA fun _ => false) 57)) w3.heap.size 57 (rowA fun _ => false) := Blk.new _ _ _
      replace k2 := Blk.alloc k2 (.cells (rowA fun _ => false) 57)
      replace k3 := Blk.alloc k3 (.cells (rowA fun _ => false) 57)
      replace k4 := Blk.alloc k4 (.cells (rowA fun _ => false) 57)
      replace hB := bel_at hB (.cells (rowA fun _ => false) 57)
      generalize w3.alloc (.cells (rowA fun _ => false) 57) = w5 at *
      (try clear k2c k2f k2z); have k2c := fun i => Blk.cell k2 i; have k2f := fun i => Blk.free k2 i; have k2z := Blk.lt k2; (try clear k3c k3f k3z); have k3c := fun i => Blk.cell k3 i; have k3f := fun i => Blk.free k3 i; have k3z := Blk.lt k3; (try clear k4c k4f k4z); have k4c := fun i => Blk.cell k4 i; have k4f := fun i => Blk.free k4 i; have k4z := Blk.lt k4; (try clear k5c k5f k5z); have k5c := fun i => Blk.cell k5 i; have k5f := fun i => Blk.free k5 i; have k5z := Blk.lt k5
      unfold Hold
      rw [hz3] at k5 z2 z3 z4
      clear hz3 k5c k5f k5z
      generalize w2.heap.size = b5 at *
      have hk0 : rowA (fun _ => false) = rowA (bothK 0 x y x' y' 0) := row_ext fun i _ => by unfold bothK; rw [if_neg (by omega)]
      rw [hk0] at k5
      clear hk0 k2c k2f k2z k3c k3f k3z k4c k4f k4z
      go_loopw [10] (fun i wr => ∃ k : Nat, k ≤ 128 ∧ i = .int .i64 k ∧ Blk wr (w.heap.size + 2) 38 #[.int .u64 0, .int .u64 0] ∧ Blk wr b3 57 (rowA (bitsF x y)) ∧ Blk wr b4 57 (rowA (bitsF x' y')) ∧ Blk wr b5 57 (rowA (bothK 0 x y x' y' k)) ∧ Below w.heap.size w wr) (fun i _ => 128 - (intOf i).toNat)
      case atStart => exact ⟨0, by omega, rfl, k2, k3, k4, k5, hB⟩
      case round =>
        clear k2 k3 k4 k5 hB
        obtain ⟨k, hk, rfl, c2, c3, c4, c5, hq⟩ := hrel
        by_cases hlt : k < 128
        · have k3n : wr.cell? ⟨b3, k, none⟩ = some (.bool (bitsF x y k)) := by rw [c3.cell, row_get _ hlt]
          have k4n : wr.cell? ⟨b4, k, none⟩ = some (.bool (bitsF x' y' k)) := by rw [c4.cell, row_get _ hlt]
          have kf := fun i => Blk.free c5 i
          have k5n : wr.cell? ⟨b5, k, none⟩ = some (.bool false) := by
            rw [c5.cell, row_get _ hlt]
            unfold bothK
            rw [if_neg (by omega)]
          have key : ∀ r, bothB 0 (bitsF x y k) (bitsF x' y' k) = r → (rowA (bothK 0 x y x' y' k)).setIfInBounds k (.bool r) = rowA (bothK 0 x y x' y' (k + 1)) := fun r hr => by rw [row_set, ← bothK_succ, ← hr]; rfl
          have C2 := Lib.hid c2
          have C3 := Lib.hid c3
          have C4 := Lib.hid c4
          have C5 := Lib.hid c5
          have HQ := Lib.hid hq
          clear c2 c3 c4 c5 hq
          generalize bitsF x y k = p at *
          generalize bitsF x' y' k = q at *
          cases p with
          | false =>
            have KS := Lib.hid (key false (by cases q <;> rfl))
            clear key
            go_wp2
            go_roundw
            case rel => exact ⟨k + 1, by omega, by go_num, C2.out.far (p := ⟨b5, k, none⟩) (by show _ ≠ b5; omega) _, C3.out.far (p := ⟨b5, k, none⟩) (by show _ ≠ b5; omega) _, C4.out.far (p := ⟨b5, k, none⟩) (by show _ ≠ b5; omega) _, by rw [← KS.out]; exact C5.out.set_ k _, HQ.out.setCell (p := ⟨b5, k, none⟩) (by show _ ≤ b5; omega) _⟩
            case measure => simp [intOf]; try omega
          | true =>
            have KS := Lib.hid (key q (by cases q <;> rfl))
            clear key
            go_wp2
            go_roundw
            case rel => exact ⟨k + 1, by omega, by go_num, C2.out.far (p := ⟨b5, k, none⟩) (by show _ ≠ b5; omega) _, C3.out.far (p := ⟨b5, k, none⟩) (by show _ ≠ b5; omega) _, C4.out.far (p := ⟨b5, k, none⟩) (by show _ ≠ b5; omega) _, by rw [← KS.out]; exact C5.out.set_ k _, HQ.out.setCell (p := ⟨b5, k, none⟩) (by show _ ≤ b5; omega) _⟩
            case measure => simp [intOf]; try omega
        · obtain rfl : k = 128 := by omega
          rw [bothK_all] at c5
          go_wp2_with (first | ((with_reducible refine row_load_step ?_ c5 ?_); (· rfl); simp only [Act.put, List.setIfInBounds_toArray, List.set_cons_succ, List.set_cons_zero]) | (go_at_call 24; refine (CM.out _).mono ?_))
          rintro e w4 ⟨rfl, hb4⟩
          have hB4 := hq.trans (hb4.mono hq.size)
          have k9 := c2.below hb4 c2.lt
          (try clear k9c k9f k9z); have k9c := fun i => Blk.cell k9 i; have k9f := fun i => Blk.free k9 i; have k9z := Blk.lt k9
          clear c2 c3 c4 c5
          go_wp2
          refine bodyPost_ret (v := .agg #[.int .u64 r1, .int .u64 r2]) (by simp [results, Tryd.results8, go_sem, k9c, k9f]) rfl ?_
          exact ⟨rfl, set2b (g := 2) hB4⟩
  · go_enter Tryd.func8, Tryd.ntmps8
    go_wp2_with (first | ((with_reducible refine hold_list ?_ ?_); (· exact Eq.refl true)) | ((with_reducible refine hold_region ?_ ?_); (· exact Eq.refl true)) | (with_reducible refine hold_loop ?_))
    have k0 : Blk (((w.alloc (.cells #[.int .u64 (x : Int), .int .u64 (y : Int)] 38)).alloc (.cells #[.int .u64 (x' : Int), .int .u64 (y' : Int)] 38)).alloc (.cells #[.int .u64 0, .int .u64 0] 38)) (w.heap.size) 38 #[.int .u64 (x : Int), .int .u64 (y : Int)] := (Blk.alloc (Blk.alloc (blk_at (by simp)) (.cells #[.int .u64 (x' : Int), .int .u64 (y' : Int)] 38)) (.cells #[.int .u64 0, .int .u64 0] 38))
    have k1 : Blk (((w.alloc (.cells #[.int .u64 (x : Int), .int .u64 (y : Int)] 38)).alloc (.cells #[.int .u64 (x' : Int), .int .u64 (y' : Int)] 38)).alloc (.cells #[.int .u64 0, .int .u64 0] 38)) (w.heap.size + 1) 38 #[.int .u64 (x' : Int), .int .u64 (y' : Int)] := (Blk.alloc (blk_at (by simp)) (.cells #[.int .u64 0, .int .u64 0] 38))
    have k2 : Blk (((w.alloc (.cells #[.int .u64 (x : Int), .int .u64 (y : Int)] 38)).alloc (.cells #[.int .u64 (x' : Int), .int .u64 (y' : Int)] 38)).alloc (.cells #[.int .u64 0, .int .u64 0] 38)) (w.heap.size + 2) 38 #[.int .u64 0, .int .u64 0] := (blk_at (by simp))
    have hB : Below w.heap.size w (((w.alloc (.cells #[.int .u64 (x : Int), .int .u64 (y : Int)] 38)).alloc (.cells #[.int .u64 (x' : Int), .int .u64 (y' : Int)] 38)).alloc (.cells #[.int .u64 0, .int .u64 0] 38)) := (bel_at (bel_at (bel_at (Below.refl _ _) (.cells #[.int .u64 (x : Int), .int .u64 (y : Int)] 38)) (.cells #[.int .u64 (x' : Int), .int .u64 (y' : Int)] 38)) (.cells #[.int .u64 0, .int .u64 0] 38))
    generalize (((w.alloc (.cells #[.int .u64 (x : Int), .int .u64 (y : Int)] 38)).alloc (.cells #[.int .u64 (x' : Int), .int .u64 (y' : Int)] 38)).alloc (.cells #[.int .u64 0, .int .u64 0] 38)) = w1 at *
    (try clear k0c k0f k0z); have k0c := fun i => Blk.cell k0 i; have k0f := fun i => Blk.free k0 i; have k0z := Blk.lt k0; (try clear k1c k1f k1z); have k1c := fun i => Blk.cell k1 i; have k1f := fun i => Blk.free k1 i; have k1z := Blk.lt k1; (try clear k2c k2f k2z); have k2c := fun i => Blk.cell k2 i; have k2f := fun i => Blk.free k2 i; have k2z := Blk.lt k2
    unfold Hold
    refine wp_region_rel3 6 [11, 12, 13, 14, 7, 8] (relBoth w1.heap.size (.agg #[.int .u64 (x : Int), .int .u64 (y : Int)]) (.agg #[.int .u64 (x' : Int), .int .u64 (y' : Int)]) (bitsF x y) (bitsF x' y') (fun _ => false)) (fun i => i == 4 || i == 5) (by kernel_rfl) (by kernel_rfl) (by kernel_rfl) ?_ ?_ ?_ ?_
    · intro i f v1 v2 h hb
      unfold relBoth at *
      split <;> simp only at h <;> first | exact h | (obtain ⟨b, e, hn, h⟩ := h; exact ⟨b, e, hn, h.below hb h.lt⟩)
    · intro i f f' v o ho he hes hR
      match i with
      | 0 => simp at ho; subst ho; simp [Region.binds, relBoth] at *; simp_all
      | 1 => simp at ho; subst ho; simp [Region.binds, relBoth] at *; simp_all
      | 2 => simp at ho; subst ho; simp [Region.binds, relBoth] at *; simp_all
      | 3 => simp at ho; subst ho; simp [Region.binds, relBoth] at *; simp_all
      | 4 => simp at ho; subst ho; simp [Region.binds, relBoth] at *; simp_all
      | 5 => simp at ho; subst ho; simp [Region.binds, relBoth] at *; simp_all
      | _ + 6 => trivial
    · refine ⟨?_, ?_, ?_, ?_, ?_, ?_, trivial⟩
      all_goals
        intro f w2 hb hl2
        simp [leans2, Region.binds, relBoth] at hl2
        have j0 := k0.below hb k0.lt
        have j1 := k1.below hb k1.lt
        have j0c := fun i => Blk.cell j0 i
        have j1c := fun i => Blk.cell j1 i
      · simp [gop, Region.wanted, grows, frm, execOp, go_sem, j0c, growsUpon, relBoth, upd, born]
        exact Below.refl _ _
      · simp [gop, Region.wanted, grows, frm, execOp, go_sem, hl2, growsUpon, relBoth, upd, born]
        exact ⟨Below.refl _ _, CR.out _⟩
      · simp [gop, Region.wanted, grows, frm, execOp, go_sem, j1c, growsUpon, relBoth, upd, born]
        exact Below.refl _ _
      · simp [gop, Region.wanted, grows, frm, execOp, go_sem, hl2, growsUpon, relBoth, upd, born]
        exact ⟨Below.refl _ _, CR2.out _⟩
      · simp [gop, Region.wanted, grows, frm, execOp, go_sem, z, growsUpon, relBoth, upd, born]
        exact ⟨below_alloc1 _ _, ⟨hb.size, Blk.new _ _ _⟩, Nat.le_refl _, by simp [blkN]⟩
      · simp [gop, Region.wanted, grows, frm, execOp, go_sem, z, growsUpon, relBoth, upd, born]
        exact ⟨below_alloc1 _ _, ⟨hb.size, Blk.new _ _ _⟩, Nat.le_refl _, by simp [blkN]⟩
    · intro f w2 hb hl2 hne
      have hne2 := hne 4 5 (by omega) (by omega) rfl rfl (by omega)
      simp [allRel2, relBoth] at hl2
      obtain ⟨⟨⟨⟨⟨e1, e2⟩, e3⟩, e4⟩, b3, e5, n3, k3⟩, b4, e6, n4, k4⟩ := hl2
      simp [e5, e6, blkN] at hne2
      replace hB := hB.trans (hb.mono hB.size)
      replace k2 := k2.below hb k2.lt
      have g3 : w.heap.size + 2 < b3 := by omega
      have g4 : w.heap.size + 2 < b4 := by omega
      have hS1 := row_store (g := bitsF x y) k3
      have k4' := blk_rowfar (c' := rowA (bitsF x y)) k4 hne2
      have hS2 := row_store (g := bitsF x' y') k4'
      have hag := row_agg
      have hsz := row_sizeof
      have k3' := blk_rowfar (c' := rowA (bitsF x' y')) (blk_row (c' := rowA (bitsF x y)) k3) (Ne.symm hne2)
      have k4'' := blk_row (c' := rowA (bitsF x' y')) k4'
      have k2' := blk_rowfar (b := b4) (c' := rowA (bitsF x' y')) (blk_rowfar (b := b3) (c' := rowA (bitsF x y)) k2 (by omega)) (by omega)
      have hB' := below_row (c' := rowA (bitsF x' y')) (below_row (c' := rowA (bitsF x y)) hB (show w.heap.size ≤ b3 by omega)) (show w.heap.size ≤ b4 by omega)
      clear k0 k1 k2 k0c k0f k0z k1c k1f k1z k2c k2f k2z hb hne hne2 k3 k4 k4' hB
      have K3 := Lib.hid k3'
      have K4 := Lib.hid k4''
      have K2 := Lib.hid k2'
      have HB := Lib.hid hB'
      clear k3' k4'' k2' hB'
      simp [frm, e1, e2, e3, e4, e5, e6]
      go_wp2_with (with_reducible refine hold_loop ?_)
      have k2 := K2.out
      have k3 := K3.out
      have k4 := K4.out
      have hB := HB.out
      clear K2 K3 K4 HB hS1 hS2 hag hsz e1 e2 e3 e4 e5 e6
      have hz3 : ((w2.setRow b3 (rowA (bitsF x y))).setRow b4 (rowA (bitsF x' y'))).heap.size = w2.heap.size := by simp
      generalize (w2.setRow b3 (rowA (bitsF x y))).setRow b4 (rowA (bitsF x' y')) = w3 at *
      have z3 := k3.lt
      have z4 := k4.lt
      have z2 := k2.lt
      have k5 : Blk (w3.alloc (.cells (rowA fun _ => false) 57)) w3.heap.size 57 (rowA fun _ => false) := Blk.new _ _ _
      replace k2 := Blk.alloc k2 (.cells (rowA fun _ => false) 57)
      replace k3 := Blk.alloc k3 (.cells (rowA fun _ => false) 57)
      replace k4 := Blk.alloc k4 (.cells (rowA fun _ => false) 57)
      replace hB := bel_at hB (.cells (rowA fun _ => false) 57)
      generalize w3.alloc (.cells (rowA fun _ => false) 57) = w5 at *
      (try clear k2c k2f k2z); have k2c := fun i => Blk.cell k2 i; have k2f := fun i => Blk.free k2 i; have k2z := Blk.lt k2; (try clear k3c k3f k3z); have k3c := fun i => Blk.cell k3 i; have k3f := fun i => Blk.free k3 i; have k3z := Blk.lt k3; (try clear k4c k4f k4z); have k4c := fun i => Blk.cell k4 i; have k4f := fun i => Blk.free k4 i; have k4z := Blk.lt k4; (try clear k5c k5f k5z); have k5c := fun i => Blk.cell k5 i; have k5f := fun i => Blk.free k5 i; have k5z := Blk.lt k5
      unfold Hold
      rw [hz3] at k5 z2 z3 z4
      clear hz3 k5c k5f k5z
      generalize w2.heap.size = b5 at *
      have hk0 : rowA (fun _ => false) = rowA (bothK 1 x y x' y' 0) := row_ext fun i _ => by unfold bothK; rw [if_neg (by omega)]
      rw [hk0] at k5
      clear hk0 k2c k2f k2z k3c k3f k3z k4c k4f k4z
      go_loopw [10] (fun i wr => ∃ k : Nat, k ≤ 128 ∧ i = .int .i64 k ∧ Blk wr (w.heap.size + 2) 38 #[.int .u64 0, .int .u64 0] ∧ Blk wr b3 57 (rowA (bitsF x y)) ∧ Blk wr b4 57 (rowA (bitsF x' y')) ∧ Blk wr b5 57 (rowA (bothK 1 x y x' y' k)) ∧ Below w.heap.size w wr) (fun i _ => 128 - (intOf i).toNat)
      case atStart => exact ⟨0, by omega, rfl, k2, k3, k4, k5, hB⟩
      case round =>
        clear k2 k3 k4 k5 hB
        obtain ⟨k, hk, rfl, c2, c3, c4, c5, hq⟩ := hrel
        by_cases hlt : k < 128
        · have k3n : wr.cell? ⟨b3, k, none⟩ = some (.bool (bitsF x y k)) := by rw [c3.cell, row_get _ hlt]
          have k4n : wr.cell? ⟨b4, k, none⟩ = some (.bool (bitsF x' y' k)) := by rw [c4.cell, row_get _ hlt]
          have kf := fun i => Blk.free c5 i
          have k5n : wr.cell? ⟨b5, k, none⟩ = some (.bool false) := by
            rw [c5.cell, row_get _ hlt]
            unfold bothK
            rw [if_neg (by omega)]
          have key : ∀ r, bothB 1 (bitsF x y k) (bitsF x' y' k) = r → (rowA (bothK 1 x y x' y' k)).setIfInBounds k (.bool r) = rowA (bothK 1 x y x' y' (k + 1)) := fun r hr => by rw [row_set, ← bothK_succ, ← hr]; rfl
          have C2 := Lib.hid c2
          have C3 := Lib.hid c3
          have C4 := Lib.hid c4
          have C5 := Lib.hid c5
          have HQ := Lib.hid hq
          clear c2 c3 c4 c5 hq
          generalize bitsF x y k = p at *
          generalize bitsF x' y' k = q at *
          cases p with
          | false =>
            have KS := Lib.hid (key q (by cases q <;> rfl))
            clear key
            go_wp2
            go_roundw
            case rel => exact ⟨k + 1, by omega, by go_num, C2.out.far (p := ⟨b5, k, none⟩) (by show _ ≠ b5; omega) _, C3.out.far (p := ⟨b5, k, none⟩) (by show _ ≠ b5; omega) _, C4.out.far (p := ⟨b5, k, none⟩) (by show _ ≠ b5; omega) _, by rw [← KS.out]; exact C5.out.set_ k _, HQ.out.setCell (p := ⟨b5, k, none⟩) (by show _ ≤ b5; omega) _⟩
            case measure => simp [intOf]; try omega
          | true =>
            have KS := Lib.hid (key true (by cases q <;> rfl))
            clear key
            go_wp2
            go_roundw
            case rel => exact ⟨k + 1, by omega, by go_num, C2.out.far (p := ⟨b5, k, none⟩) (by show _ ≠ b5; omega) _, C3.out.far (p := ⟨b5, k, none⟩) (by show _ ≠ b5; omega) _, C4.out.far (p := ⟨b5, k, none⟩) (by show _ ≠ b5; omega) _, by rw [← KS.out]; exact C5.out.set_ k _, HQ.out.setCell (p := ⟨b5, k, none⟩) (by show _ ≤ b5; omega) _⟩
            case measure => simp [intOf]; try omega
        · obtain rfl : k = 128 := by omega
          rw [bothK_all] at c5
          go_wp2_with (first | ((with_reducible refine row_load_step ?_ c5 ?_); (· rfl); simp only [Act.put, List.setIfInBounds_toArray, List.set_cons_succ, List.set_cons_zero]) | (go_at_call 24; refine (CM.out _).mono ?_))
          rintro e w4 ⟨rfl, hb4⟩
          have hB4 := hq.trans (hb4.mono hq.size)
          have k9 := c2.below hb4 c2.lt
          (try clear k9c k9f k9z); have k9c := fun i => Blk.cell k9 i; have k9f := fun i => Blk.free k9 i; have k9z := Blk.lt k9
          clear c2 c3 c4 c5
          go_wp2
          refine bodyPost_ret (v := .agg #[.int .u64 r1, .int .u64 r2]) (by simp [results, Tryd.results8, go_sem, k9c, k9f]) rfl ?_
          exact ⟨rfl, set2b (g := 2) hB4⟩
  · go_enter Tryd.func8, Tryd.ntmps8
    go_wp2_with (first | ((with_reducible refine hold_list ?_ ?_); (· exact Eq.refl true)) | ((with_reducible refine hold_region ?_ ?_); (· exact Eq.refl true)) | (with_reducible refine hold_loop ?_))
    have k0 : Blk (((w.alloc (.cells #[.int .u64 (x : Int), .int .u64 (y : Int)] 38)).alloc (.cells #[.int .u64 (x' : Int), .int .u64 (y' : Int)] 38)).alloc (.cells #[.int .u64 0, .int .u64 0] 38)) (w.heap.size) 38 #[.int .u64 (x : Int), .int .u64 (y : Int)] := (Blk.alloc (Blk.alloc (blk_at (by simp)) (.cells #[.int .u64 (x' : Int), .int .u64 (y' : Int)] 38)) (.cells #[.int .u64 0, .int .u64 0] 38))
    have k1 : Blk (((w.alloc (.cells #[.int .u64 (x : Int), .int .u64 (y : Int)] 38)).alloc (.cells #[.int .u64 (x' : Int), .int .u64 (y' : Int)] 38)).alloc (.cells #[.int .u64 0, .int .u64 0] 38)) (w.heap.size + 1) 38 #[.int .u64 (x' : Int), .int .u64 (y' : Int)] := (Blk.alloc (blk_at (by simp)) (.cells #[.int .u64 0, .int .u64 0] 38))
    have k2 : Blk (((w.alloc (.cells #[.int .u64 (x : Int), .int .u64 (y : Int)] 38)).alloc (.cells #[.int .u64 (x' : Int), .int .u64 (y' : Int)] 38)).alloc (.cells #[.int .u64 0, .int .u64 0] 38)) (w.heap.size + 2) 38 #[.int .u64 0, .int .u64 0] := (blk_at (by simp))
    have hB : Below w.heap.size w (((w.alloc (.cells #[.int .u64 (x : Int), .int .u64 (y : Int)] 38)).alloc (.cells #[.int .u64 (x' : Int), .int .u64 (y' : Int)] 38)).alloc (.cells #[.int .u64 0, .int .u64 0] 38)) := (bel_at (bel_at (bel_at (Below.refl _ _) (.cells #[.int .u64 (x : Int), .int .u64 (y : Int)] 38)) (.cells #[.int .u64 (x' : Int), .int .u64 (y' : Int)] 38)) (.cells #[.int .u64 0, .int .u64 0] 38))
    generalize (((w.alloc (.cells #[.int .u64 (x : Int), .int .u64 (y : Int)] 38)).alloc (.cells #[.int .u64 (x' : Int), .int .u64 (y' : Int)] 38)).alloc (.cells #[.int .u64 0, .int .u64 0] 38)) = w1 at *
    (try clear k0c k0f k0z); have k0c := fun i => Blk.cell k0 i; have k0f := fun i => Blk.free k0 i; have k0z := Blk.lt k0; (try clear k1c k1f k1z); have k1c := fun i => Blk.cell k1 i; have k1f := fun i => Blk.free k1 i; have k1z := Blk.lt k1; (try clear k2c k2f k2z); have k2c := fun i => Blk.cell k2 i; have k2f := fun i => Blk.free k2 i; have k2z := Blk.lt k2
    unfold Hold
    refine wp_region_rel3 6 [11, 12, 13, 14, 7, 8] (relBoth w1.heap.size (.agg #[.int .u64 (x : Int), .int .u64 (y : Int)]) (.agg #[.int .u64 (x' : Int), .int .u64 (y' : Int)]) (bitsF x y) (bitsF x' y') (fun _ => false)) (fun i => i == 4 || i == 5) (by kernel_rfl) (by kernel_rfl) (by kernel_rfl) ?_ ?_ ?_ ?_
    · intro i f v1 v2 h hb
      unfold relBoth at *
      split <;> simp only at h <;> first | exact h | (obtain ⟨b, e, hn, h⟩ := h; exact ⟨b, e, hn, h.below hb h.lt⟩)
    · intro i f f' v o ho he hes hR
      match i with
      | 0 => simp at ho; subst ho; simp [Region.binds, relBoth] at *; simp_all
      | 1 => simp at ho; subst ho; simp [Region.binds, relBoth] at *; simp_all
      | 2 => simp at ho; subst ho; simp [Region.binds, relBoth] at *; simp_all
      | 3 => simp at ho; subst ho; simp [Region.binds, relBoth] at *; simp_all
      | 4 => simp at ho; subst ho; simp [Region.binds, relBoth] at *; simp_all
      | 5 => simp at ho; subst ho; simp [Region.binds, relBoth] at *; simp_all
      | _ + 6 => trivial
    · refine ⟨?_, ?_, ?_, ?_, ?_, ?_, trivial⟩
      all_goals
        intro f w2 hb hl2
        simp [leans2, Region.binds, relBoth] at hl2
        have j0 := k0.below hb k0.lt
        have j1 := k1.below hb k1.lt
        have j0c := fun i => Blk.cell j0 i
        have j1c := fun i => Blk.cell j1 i
      · simp [gop, Region.wanted, grows, frm, execOp, go_sem, j0c, growsUpon, relBoth, upd, born]
        exact Below.refl _ _
      · simp [gop, Region.wanted, grows, frm, execOp, go_sem, hl2, growsUpon, relBoth, upd, born]
        exact ⟨Below.refl _ _, CR.out _⟩
      · simp [gop, Region.wanted, grows, frm, execOp, go_sem, j1c, growsUpon, relBoth, upd, born]
        exact Below.refl _ _
      · simp [gop, Region.wanted, grows, frm, execOp, go_sem, hl2, growsUpon, relBoth, upd, born]
        exact ⟨Below.refl _ _, CR2.out _⟩
      · simp [gop, Region.wanted, grows, frm, execOp, go_sem, z, growsUpon, relBoth, upd, born]
        exact ⟨below_alloc1 _ _, ⟨hb.size, Blk.new _ _ _⟩, Nat.le_refl _, by simp [blkN]⟩
      · simp [gop, Region.wanted, grows, frm, execOp, go_sem, z, growsUpon, relBoth, upd, born]
        exact ⟨below_alloc1 _ _, ⟨hb.size, Blk.new _ _ _⟩, Nat.le_refl _, by simp [blkN]⟩
    · intro f w2 hb hl2 hne
      have hne2 := hne 4 5 (by omega) (by omega) rfl rfl (by omega)
      simp [allRel2, relBoth] at hl2
      obtain ⟨⟨⟨⟨⟨e1, e2⟩, e3⟩, e4⟩, b3, e5, n3, k3⟩, b4, e6, n4, k4⟩ := hl2
      simp [e5, e6, blkN] at hne2
      replace hB := hB.trans (hb.mono hB.size)
      replace k2 := k2.below hb k2.lt
      have g3 : w.heap.size + 2 < b3 := by omega
      have g4 : w.heap.size + 2 < b4 := by omega
      have hS1 := row_store (g := bitsF x y) k3
      have k4' := blk_rowfar (c' := rowA (bitsF x y)) k4 hne2
      have hS2 := row_store (g := bitsF x' y') k4'
      have hag := row_agg
      have hsz := row_sizeof
      have k3' := blk_rowfar (c' := rowA (bitsF x' y')) (blk_row (c' := rowA (bitsF x y)) k3) (Ne.symm hne2)
      have k4'' := blk_row (c' := rowA (bitsF x' y')) k4'
      have k2' := blk_rowfar (b := b4) (c' := rowA (bitsF x' y')) (blk_rowfar (b := b3) (c' := rowA (bitsF x y)) k2 (by omega)) (by omega)
      have hB' := below_row (c' := rowA (bitsF x' y')) (below_row (c' := rowA (bitsF x y)) hB (show w.heap.size ≤ b3 by omega)) (show w.heap.size ≤ b4 by omega)
      clear k0 k1 k2 k0c k0f k0z k1c k1f k1z k2c k2f k2z hb hne hne2 k3 k4 k4' hB
      have K3 := Lib.hid k3'
      have K4 := Lib.hid k4''
      have K2 := Lib.hid k2'
      have HB := Lib.hid hB'
      clear k3' k4'' k2' hB'
      simp [frm, e1, e2, e3, e4, e5, e6]
      go_wp2_with (with_reducible refine hold_loop ?_)
      have k2 := K2.out
      have k3 := K3.out
      have k4 := K4.out
      have hB := HB.out
      clear K2 K3 K4 HB hS1 hS2 hag hsz e1 e2 e3 e4 e5 e6
      have hz3 : ((w2.setRow b3 (rowA (bitsF x y))).setRow b4 (rowA (bitsF x' y'))).heap.size = w2.heap.size := by simp
      generalize (w2.setRow b3 (rowA (bitsF x y))).setRow b4 (rowA (bitsF x' y')) = w3 at *
      have z3 := k3.lt
      have z4 := k4.lt
      have z2 := k2.lt
      have k5 : Blk (w3.alloc (.cells (rowA fun _ => false) 57)) w3.heap.size 57 (rowA fun _ => false) := Blk.new _ _ _
      replace k2 := Blk.alloc k2 (.cells (rowA fun _ => false) 57)
      replace k3 := Blk.alloc k3 (.cells (rowA fun _ => false) 57)
      replace k4 := Blk.alloc k4 (.cells (rowA fun _ => false) 57)
      replace hB := bel_at hB (.cells (rowA fun _ => false) 57)
      generalize w3.alloc (.cells (rowA fun _ => false) 57) = w5 at *
      (try clear k2c k2f k2z); have k2c := fun i => Blk.cell k2 i; have k2f := fun i => Blk.free k2 i; have k2z := Blk.lt k2; (try clear k3c k3f k3z); have k3c := fun i => Blk.cell k3 i; have k3f := fun i => Blk.free k3 i; have k3z := Blk.lt k3; (try clear k4c k4f k4z); have k4c := fun i => Blk.cell k4 i; have k4f := fun i => Blk.free k4 i; have k4z := Blk.lt k4; (try clear k5c k5f k5z); have k5c := fun i => Blk.cell k5 i; have k5f := fun i => Blk.free k5 i; have k5z := Blk.lt k5
      unfold Hold
      rw [hz3] at k5 z2 z3 z4
      clear hz3 k5c k5f k5z
      generalize w2.heap.size = b5 at *
      have hk0 : rowA (fun _ => false) = rowA (bothK 2 x y x' y' 0) := row_ext fun i _ => by unfold bothK; rw [if_neg (by omega)]
      rw [hk0] at k5
      clear hk0 k2c k2f k2z k3c k3f k3z k4c k4f k4z
      go_loopw [10] (fun i wr => ∃ k : Nat, k ≤ 128 ∧ i = .int .i64 k ∧ Blk wr (w.heap.size + 2) 38 #[.int .u64 0, .int .u64 0] ∧ Blk wr b3 57 (rowA (bitsF x y)) ∧ Blk wr b4 57 (rowA (bitsF x' y')) ∧ Blk wr b5 57 (rowA (bothK 2 x y x' y' k)) ∧ Below w.heap.size w wr) (fun i _ => 128 - (intOf i).toNat)
      case atStart => exact ⟨0, by omega, rfl, k2, k3, k4, k5, hB⟩
      case round =>
        clear k2 k3 k4 k5 hB
        obtain ⟨k, hk, rfl, c2, c3, c4, c5, hq⟩ := hrel
        by_cases hlt : k < 128
        · have k3n : wr.cell? ⟨b3, k, none⟩ = some (.bool (bitsF x y k)) := by rw [c3.cell, row_get _ hlt]
          have k4n : wr.cell? ⟨b4, k, none⟩ = some (.bool (bitsF x' y' k)) := by rw [c4.cell, row_get _ hlt]
          have kf := fun i => Blk.free c5 i
          have k5n : wr.cell? ⟨b5, k, none⟩ = some (.bool false) := by
            rw [c5.cell, row_get _ hlt]
            unfold bothK
            rw [if_neg (by omega)]
          have key : ∀ r, bothB 2 (bitsF x y k) (bitsF x' y' k) = r → (rowA (bothK 2 x y x' y' k)).setIfInBounds k (.bool r) = rowA (bothK 2 x y x' y' (k + 1)) := fun r hr => by rw [row_set, ← bothK_succ, ← hr]; rfl
          have C2 := Lib.hid c2
          have C3 := Lib.hid c3
          have C4 := Lib.hid c4
          have C5 := Lib.hid c5
          have HQ := Lib.hid hq
          clear c2 c3 c4 c5 hq
          generalize bitsF x y k = p at *
          generalize bitsF x' y' k = q at *
          cases p with
          | false =>
            have KS := Lib.hid (key false (by cases q <;> rfl))
            clear key
            go_wp2
            go_roundw
            case rel => exact ⟨k + 1, by omega, by go_num, C2.out.far (p := ⟨b5, k, none⟩) (by show _ ≠ b5; omega) _, C3.out.far (p := ⟨b5, k, none⟩) (by show _ ≠ b5; omega) _, C4.out.far (p := ⟨b5, k, none⟩) (by show _ ≠ b5; omega) _, by rw [← KS.out]; exact C5.out.set_ k _, HQ.out.setCell (p := ⟨b5, k, none⟩) (by show _ ≤ b5; omega) _⟩
            case measure => simp [intOf]; try omega
          | true =>
            have KS := Lib.hid (key (!q) (by cases q <;> rfl))
            clear key
            go_wp2
            go_roundw
            case rel => exact ⟨k + 1, by omega, by go_num, C2.out.far (p := ⟨b5, k, none⟩) (by show _ ≠ b5; omega) _, C3.out.far (p := ⟨b5, k, none⟩) (by show _ ≠ b5; omega) _, C4.out.far (p := ⟨b5, k, none⟩) (by show _ ≠ b5; omega) _, by rw [← KS.out]; exact C5.out.set_ k _, HQ.out.setCell (p := ⟨b5, k, none⟩) (by show _ ≤ b5; omega) _⟩
            case measure => simp [intOf]; try omega
        · obtain rfl : k = 128 := by omega
          rw [bothK_all] at c5
          go_wp2_with (first | ((with_reducible refine row_load_step ?_ c5 ?_); (· rfl); simp only [Act.put, List.setIfInBounds_toArray, List.set_cons_succ, List.set_cons_zero]) | (go_at_call 24; refine (CM.out _).mono ?_))
          rintro e w4 ⟨rfl, hb4⟩
          have hB4 := hq.trans (hb4.mono hq.size)
          have k9 := c2.below hb4 c2.lt
          (try clear k9c k9f k9z); have k9c := fun i => Blk.cell k9 i; have k9f := fun i => Blk.free k9 i; have k9z := Blk.lt k9
          clear c2 c3 c4 c5
          go_wp2
          refine bodyPost_ret (v := .agg #[.int .u64 r1, .int .u64 r2]) (by simp [results, Tryd.results8, go_sem, k9c, k9f]) rfl ?_
          exact ⟨rfl, set2b (g := 2) hB4⟩
end Go.Proofs.YtejcgagblpkmoaaDoor
