
/-
  want.Between and the document's: how many floors of a set lie between two. Condition of the first: the library's table lies as laid.
-/
import Derived.Test.YtlcnhpjmmjmkcaaDoorAllC
set_option linter.unusedVariables false
set_option linter.unusedSimpArgs false
namespace Go.Proofs.YtlcnhpjmmjmkcaaDoor
open Go.Joins Go.ChangeShapes Go.WideShapes Go.ChangeAt Go.RowKit Go.Deep Go.Shelf
attribute [local go_sem] Oper.semAt_some

/-- Does a number lie between two? -/
def btw (a b v : Int) : Bool := decide (min a b < v) && decide (v < max a b)
def cntB (a b : Int) (l : List Int) : Nat := (l.filter (btw a b)).length
theorem cntB_snoc (a b v : Int) (l : List Int) : cntB a b (l ++ [v]) = cntB a b l + (if btw a b v then 1 else 0) := by
  unfold cntB
  rw [List.filter_append, List.length_append]
  cases h : btw a b v <;> simp [h]
theorem cntB_le (a b : Int) (l : List Int) : cntB a b l ≤ l.length := List.length_filter_le _ _
theorem btw_or (a b v : Int) : (decide (a < v) && decide (v < b) || (decide (b < v) && decide (v < a))) = btw a b v := by
  unfold btw
  rw [Bool.eq_iff_iff]
  simp only [Bool.or_eq_true, Bool.and_eq_true, decide_eq_true_eq]
  omega
theorem blkb_own (B : Nat) (t : TypeId) (cs : Array Value) : Own (fun (_ : List Int) W => Blk W B t cs) := fun s W W' row h hg hr => (grownBy_keeps_cells hg hr h rfl).trans h
theorem blkc_own (B : Nat) (t : TypeId) (cs : List Int → Array Value) : Own (fun (s : List Int) W => Blk W B t (cs s)) := fun s W W' row h hg hr => (grownBy_keeps_cells hg hr h rfl).trans h
set_option maxRecDepth 100000 in
set_option maxHeartbeats 4000000 in
theorem want_Between (x y : Nat) (a b : Int) (w : World) (hx : Wd x) (hy : Wd y) (ha : I64 a) (hb : I64 b) (hT : Tab w) :
    Calls Tryd.prog 14 #[sv x y, .int .i64 a, .int .i64 b] w fun e w' => e = .returned (.int .i64 (cntB a b (items x y) : Nat)) ∧ Below w.heap.size w w' := by
  have cS := fun Bn w' => all_stops Bn w.heap.size x y w' hx hy
  have cA := fun w => bits_All x y w
  have hL := itemL_len x y
  have hsn := cntB_snoc a b
  have hle := cntB_le a b
  have hz : cntB a b [] = 0 := rfl
  have hbw : ∀ v, btw a b v = (decide (min a b < v) && decide (v < max a b)) := fun v => rfl
  generalize cntB a b = G at *
  generalize btw a b = Q at *
  generalize items x y = L at *
  unfold sv at *
  have CS := Lib.hid cS
  have CA := Lib.hid cA
  have HT := Lib.hid hT
  have HSN := Lib.hid hsn
  have HLE := Lib.hid hle
  have HZ := Lib.hid hz
  have HBW := Lib.hid hbw
  clear cS cA hx hy hT hsn hle hz hbw
  refine (callsIn_wide (n := 3)).1 ?_
  refine callsIn_of_wp_marks Tryd.func14 rfl trivial ?_ rfl
  simp only [Tryd.ntmps14, List.size_toArray, List.length_cons, List.length_nil, Nat.reduceAdd, Nat.reduceSub, Array.replicate_succ, Array.replicate_zero, List.push_toArray, List.append_toArray, List.nil_append, List.cons_append]
  gi_wp2_with (refine ⟨trivial, ?_⟩; gi_at_call 49; refine (CA.out _).mono ?_; rintro e w' ⟨rfl, rfl⟩)
  have k0 : Blk (((((w.alloc (.cells #[.int .u64 (x : Int), .int .u64 (y : Int)] 24)).alloc (.cells #[.int .i64 a] 3)).alloc (.cells #[.int .i64 b] 3)).alloc (.cells #[.int .i64 0] 3)).alloc (.cells #[.int .u64 (x : Int), .int .u64 (y : Int)] 24)) (w.heap.size) 24 #[.int .u64 (x : Int), .int .u64 (y : Int)] := (Blk.alloc (Blk.alloc (Blk.alloc (Blk.alloc (blk_at (by simp)) (.cells #[.int .i64 a] 3)) (.cells #[.int .i64 b] 3)) (.cells #[.int .i64 0] 3)) (.cells #[.int .u64 (x : Int), .int .u64 (y : Int)] 24))
  have k1 : Blk (((((w.alloc (.cells #[.int .u64 (x : Int), .int .u64 (y : Int)] 24)).alloc (.cells #[.int .i64 a] 3)).alloc (.cells #[.int .i64 b] 3)).alloc (.cells #[.int .i64 0] 3)).alloc (.cells #[.int .u64 (x : Int), .int .u64 (y : Int)] 24)) (w.heap.size + 1) 3 #[.int .i64 a] := (Blk.alloc (Blk.alloc (Blk.alloc (blk_at (by simp)) (.cells #[.int .i64 b] 3)) (.cells #[.int .i64 0] 3)) (.cells #[.int .u64 (x : Int), .int .u64 (y : Int)] 24))
  have k2 : Blk (((((w.alloc (.cells #[.int .u64 (x : Int), .int .u64 (y : Int)] 24)).alloc (.cells #[.int .i64 a] 3)).alloc (.cells #[.int .i64 b] 3)).alloc (.cells #[.int .i64 0] 3)).alloc (.cells #[.int .u64 (x : Int), .int .u64 (y : Int)] 24)) (w.heap.size + 2) 3 #[.int .i64 b] := (Blk.alloc (Blk.alloc (blk_at (by simp)) (.cells #[.int .i64 0] 3)) (.cells #[.int .u64 (x : Int), .int .u64 (y : Int)] 24))
  have k3 : Blk (((((w.alloc (.cells #[.int .u64 (x : Int), .int .u64 (y : Int)] 24)).alloc (.cells #[.int .i64 a] 3)).alloc (.cells #[.int .i64 b] 3)).alloc (.cells #[.int .i64 0] 3)).alloc (.cells #[.int .u64 (x : Int), .int .u64 (y : Int)] 24)) (w.heap.size + 3) 3 #[.int .i64 0] := (Blk.alloc (blk_at (by simp)) (.cells #[.int .u64 (x : Int), .int .u64 (y : Int)] 24))
  have k4 : Blk (((((w.alloc (.cells #[.int .u64 (x : Int), .int .u64 (y : Int)] 24)).alloc (.cells #[.int .i64 a] 3)).alloc (.cells #[.int .i64 b] 3)).alloc (.cells #[.int .i64 0] 3)).alloc (.cells #[.int .u64 (x : Int), .int .u64 (y : Int)] 24)) (w.heap.size + 4) 24 #[.int .u64 (x : Int), .int .u64 (y : Int)] := (blk_at (by simp))
  have hB : Below w.heap.size w (((((w.alloc (.cells #[.int .u64 (x : Int), .int .u64 (y : Int)] 24)).alloc (.cells #[.int .i64 a] 3)).alloc (.cells #[.int .i64 b] 3)).alloc (.cells #[.int .i64 0] 3)).alloc (.cells #[.int .u64 (x : Int), .int .u64 (y : Int)] 24)) := (bel_at (bel_at (bel_at (bel_at (bel_at (Below.refl _ _) (.cells #[.int .u64 (x : Int), .int .u64 (y : Int)] 24)) (.cells #[.int .i64 a] 3)) (.cells #[.int .i64 b] 3)) (.cells #[.int .i64 0] 3)) (.cells #[.int .u64 (x : Int), .int .u64 (y : Int)] 24))
  generalize (((((w.alloc (.cells #[.int .u64 (x : Int), .int .u64 (y : Int)] 24)).alloc (.cells #[.int .i64 a] 3)).alloc (.cells #[.int .i64 b] 3)).alloc (.cells #[.int .i64 0] 3)).alloc (.cells #[.int .u64 (x : Int), .int .u64 (y : Int)] 24)) = w1 at *
  (try clear k0c k0f k0z); have k0c := fun i => Blk.cell k0 i; have k0f := fun i => Blk.free k0 i; have k0z := Blk.lt k0; (try clear k1c k1f k1z); have k1c := fun i => Blk.cell k1 i; have k1f := fun i => Blk.free k1 i; have k1z := Blk.lt k1; (try clear k2c k2f k2z); have k2c := fun i => Blk.cell k2 i; have k2f := fun i => Blk.free k2 i; have k2z := Blk.lt k2; (try clear k3c k3f k3z); have k3c := fun i => Blk.cell k3 i; have k3f := fun i => Blk.free k3 i; have k3z := Blk.lt k3; (try clear k4c k4f k4z); have k4c := fun i => Blk.cell k4 i; have k4f := fun i => Blk.free k4 i; have k4z := Blk.lt k4
  have hst := CS.out (w.heap.size + 1 + 1 + 1 + 1) w1 hB.size k4 (fun W' h => HT.out.below (hB.trans h))
  refine wpIn_rangeFunc_ownG rfl (by omega) (gf := 54) (lb := #[.pointer (some ⟨w.heap.size + 1 + 1 + 1 + 1, 0, none⟩)]) rfl trivial (enters_of Tryd.func54 (by kernel_rfl) rfl)
    hst KpA.trans (kpA_b (by omega) (by omega)) (Below.refl _ _) (fun _ => rfl)
    (fun pre W => ((((Blk W (w.heap.size + 1) 3 #[.int .i64 a] ∧ Blk W (w.heap.size + 1 + 1) 3 #[.int .i64 b]) ∧ Blk W (w.heap.size + 1 + 1 + 1) 3 #[.int .i64 (G pre : Nat)]) ∧ Blk W (w.heap.size + 1 + 1 + 1 + 1) 24 #[.int .u64 (x : Int), .int .u64 (y : Int)]) ∧ Below w.heap.size w W))
    (fun _ _ _ => False)
    (OwnFrom.and (OwnFrom.and (OwnFrom.and (OwnFrom.and (Own.from (blk_own _ _ _) _) (Own.from (blk_own _ _ _) _)) (Own.from (blkc_own _ _ _) _)) (Own.from (blk_own _ _ _) _)) (ownFrom_below (Nat.le_refl _) (by omega)))
    (fun _ _ _ _ _ hs _ _ => hs)
    ⟨⟨⟨⟨k1, k2⟩, by rw [HZ.out]; exact k3⟩, k4⟩, hB⟩
    (fun v => { tmps := #[.agg #[.int .u64 (x : Int), .int .u64 (y : Int)], .int .i64 a, .int .i64 b, .pointer (some ⟨w.heap.size, 0, none⟩), .pointer (some ⟨w.heap.size + 1, 0, none⟩), .pointer (some ⟨w.heap.size + 1 + 1, 0, none⟩), .int .i64 0, .pointer (some ⟨w.heap.size + 1 + 1 + 1, 0, none⟩), .int .i64 v, .agg #[.int .u64 (x : Int), .int .u64 (y : Int)], .func (.func 54) #[] #[.pointer (some ⟨w.heap.size + 1 + 1 + 1 + 1, 0, none⟩)], .int .i64 v, undef, undef, undef, undef, undef, undef, undef, undef, undef, undef, undef, undef, undef, undef, undef], defers := [] }) ?assign ?body ?done ?stop
  case assign =>
    intro l v W K hK
    gi_wp2
    exact hK
  case body =>
    clear k0 k1 k2 k3 k4 k0c k1c k2c k3c k4c k0f k1f k2f k3f k4f
    rintro l pre v W ⟨⟨⟨⟨h1, h2⟩, h3⟩, h4⟩, hq⟩ hlt
    have c1 := h1.cell
    have c2 := h2.cell
    have c3 := h3.cell
    have f3 := h3.free
    have hsn := HSN.out v pre
    have hbw := HBW.out v
    have hpl := HLE.out pre
    have e0 : IntKind.i64.wrap ((G pre : Int) + 1) = (G pre : Int) + 1 := IntWalk.i64_in _ (by omega)
    by_cases q1 : min a b < v
    · have q2 : decide (min a b < v) = true := decide_eq_true q1
      by_cases q3 : v < max a b
      · have q4 : decide (v < max a b) = true := decide_eq_true q3
        rw [q2, q4] at hbw
        rw [hbw] at hsn
        have HS := Lib.hid hsn
        clear hsn hbw q1 q3
        gi_wp2
        exact ⟨(KeepsOthers.setCell _ _ _).from _, ⟨(Below.refl _ _).setCell (p := ⟨w.heap.size + 1 + 1 + 1, 0, none⟩) (by show _ ≤ w.heap.size + 1 + 1 + 1; omega) _, Below.heap_setCell _ _ _ _ (by show w.heap.size + 1 + 1 + 1 + 1 ≠ w.heap.size + 1 + 1 + 1; omega)⟩, ⟨⟨⟨h1.far (p := ⟨w.heap.size + 1 + 1 + 1, 0, none⟩) (by show w.heap.size + 1 ≠ w.heap.size + 1 + 1 + 1; omega) _, h2.far (p := ⟨w.heap.size + 1 + 1 + 1, 0, none⟩) (by show w.heap.size + 1 + 1 ≠ w.heap.size + 1 + 1 + 1; omega) _⟩, by rw [HS.out]; exact h3.set_ 0 _⟩, h4.far (p := ⟨w.heap.size + 1 + 1 + 1, 0, none⟩) (by show w.heap.size + 1 + 1 + 1 + 1 ≠ w.heap.size + 1 + 1 + 1; omega) _⟩, hq.setCell (p := ⟨w.heap.size + 1 + 1 + 1, 0, none⟩) (by show _ ≤ w.heap.size + 1 + 1 + 1; omega) _⟩
      · have q4 : decide (v < max a b) = false := decide_eq_false q3
        rw [q2, q4] at hbw
        rw [hbw] at hsn
        have HS := Lib.hid hsn
        clear hsn hbw q1 q3
        gi_wp2
        exact ⟨KeepsFrom.refl _ _, ⟨Below.refl _ _, rfl⟩, ⟨⟨⟨h1, h2⟩, by rw [HS.out]; exact h3⟩, h4⟩, hq⟩
    · have q2 : decide (min a b < v) = false := decide_eq_false q1
      rw [q2, Bool.false_and] at hbw
      rw [hbw] at hsn
      have HS := Lib.hid hsn
      clear hsn hbw q1
      gi_wp2
      exact ⟨KeepsFrom.refl _ _, ⟨Below.refl _ _, rfl⟩, ⟨⟨⟨h1, h2⟩, by rw [HS.out]; exact h3⟩, h4⟩, hq⟩
  case done =>
    clear k0 k1 k2 k3 k4 k0c k1c k2c k3c k4c k0f k1f k2f k3f k4f
    rintro D ys W hD rfl ⟨⟨⟨⟨h1, h2⟩, h3⟩, h4⟩, hq⟩ hK
    have hc := h3.cell
    gi_wp2
    refine ⟨by simp, .inl ⟨_, _, rfl, run_takeDeferred hK, ?_⟩⟩
    exact ⟨_, results_tmp rfl _ _ _, rfl, hq.trans (belowK_b (w := w) (Nat.le_refl _) W D _ _ (by omega) hK rfl rfl)⟩
  case stop =>
    rintro D c pre W _ _ h _
    exact h.elim
end Go.Proofs.YtlcnhpjmmjmkcaaDoor
