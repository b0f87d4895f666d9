
/-
  hoistwaylaw03.all: the row of a set's numbers, by going through. Condition: the library's table lies as laid.
-/
import Derived.Test.YtlcnhpjmmjmkcaaDoorAll
set_option linter.unusedVariables false
set_option linter.unusedSimpArgs false
namespace Go.Proofs.YtlcnhpjmmjmkcaaDoor
open Go.Joins Go.ChangeShapes Go.WideShapes Go.ChangeAt Go.RowKit Go.Deep Go.Shelf
attribute [local go_sem] Oper.semAt_some

theorem info_intA : (Tryd.prog.info? 3).map (fun i => (i.zero, i.size, i.bytes)) = some (some (.int .i64 0), 1, 8) := by kernel_rfl
theorem run_noSeq (g : Nat) (lb : Array Value) (w : World) : (binOp .eql 64 (.func (.func g) #[] lb) .nilFunc).run Tryd.prog w = .ok (.bool false) w := by
  have h : (Op.equalIn (9999 + 1) 64 (.func (.func g) #[] lb) .nilFunc).run Tryd.prog w = .ok false w := by
    rw [Op.equalIn]
    simp only [Sem.run_bind, run_underlying Tryd.underlying64, Result.andThen_ok]
    rfl
  show (do pure (Value.bool (← Op.equalIn (9999 + 1) 64 (.func (.func g) #[] lb) .nilFunc)) : Sem Value).run Tryd.prog w = _
  rw [Sem.run_bind, h]
  rfl
/-- A row of its own is no block of another type; so an append leaves that block. -/
theorem blk_not_row {W : World} {B : Nat} {t e : TypeId} {cs : Array Value} (h : Blk W B t cs) (hte : t ≠ e) {base size k : Nat} {v : Value} {xs : List Value} (hr : W.ownsRow base e size v k xs) : some B ≠ v.ownBlock := by
  rcases hr.2 with ⟨rfl, _⟩ | ⟨g, cap, cur, rfl, _, hgb, _⟩
  · simp [Value.ownBlock]
  · intro e'
    obtain rfl : B = g := by simpa [Value.ownBlock] using e'
    have := (show W.heap[B]? = _ from h).symm.trans hgb
    simp at this
    exact hte this.2
theorem blk_own (Bn : Nat) (t : TypeId) (cs : Array Value) : Own (fun (_ : List Int) W => Blk W Bn t cs) := fun s W W' row h hg hr => (grownBy_keeps_cells hg hr h rfl).trans h
theorem blk_appended {W w1 : World} {n B Bn : Nat} {t e : TypeId} {size : Nat} {v v' : Value} {k : Nat} {xs : List Value} {cs : Array Value} {tmp : Obj}
    (h : Blk W Bn t cs) (hte : t ≠ e) (hrow : W.ownsRow n e size v k xs) (hgrow : (W.alloc tmp).grownBy w1 v.ownBlock) (hne : Bn ≠ B) :
    (w1.setCell ⟨B, 0, none⟩ v').heap[Bn]? = W.heap[Bn]? :=
  (Below.heap_setCell _ _ _ _ hne).trans ((hgrow.block Bn (by have := h.lt; simp; omega) (blk_not_row h hte hrow)).trans (Below.heap_alloc _ _ _ h.lt))
set_option maxRecDepth 100000 in
set_option maxHeartbeats 4000000 in
theorem law03_all (x y : Nat) (w : World) (hx : Wd x) (hy : Wd y) (hT : Tab w) :
    Calls Tryd.prog 47 #[sv x y] w (RetOwn (items x y) w) := by
  obtain ⟨i0, hi, hz0, hz1, hz2⟩ := info_parts info_intA
  have cS := fun Bn w' => all_stops Bn w.heap.size x y w' hx hy
  have cA := fun w => bits_All x y w
  have hL := itemL_len x y
  generalize items x y = L at *
  unfold sv at *
  have CS := Lib.hid cS
  have CA := Lib.hid cA
  have HT := Lib.hid hT
  have hns := run_noSeq
  clear cS cA hx hy hT
  refine (callsIn_wide (n := 3)).1 ?_
  refine callsIn_of_wp_marks Tryd.func47 rfl trivial ?_ rfl
  simp only [Tryd.ntmps47, List.size_toArray, List.length_cons, List.length_nil, Nat.reduceAdd, Nat.reduceSub, Array.replicate_succ, Array.replicate_zero, List.push_toArray, List.append_toArray, List.nil_append, List.cons_append]
  gi_wp2_with (refine ⟨trivial, ?_⟩; gi_at_call 49; refine (CA.out _).mono ?_; rintro e w' ⟨rfl, rfl⟩)
  have bO := (Boxed.new (w.alloc (.cells #[.int .u64 (x : Int), .int .u64 (y : Int)] 24)) 26 (.slice none 0 0)).alloc (.cells #[.int .u64 (x : Int), .int .u64 (y : Int)] 24)
  have bN := Blk.new ((w.alloc (.cells #[.int .u64 (x : Int), .int .u64 (y : Int)] 24)).alloc (.cells #[.slice none 0 0] 26)) 24 #[.int .u64 (x : Int), .int .u64 (y : Int)]
  have hB0 : Below w.heap.size w (((w.alloc (.cells #[.int .u64 (x : Int), .int .u64 (y : Int)] 24)).alloc (.cells #[.slice none 0 0] 26)).alloc (.cells #[.int .u64 (x : Int), .int .u64 (y : Int)] 24)) := (((Below.refl _ w).alloc (Nat.le_refl _) _).alloc (by simp) _).alloc (by simp; omega) _
  rw [World.size_alloc] at bO
  rw [World.size_alloc, World.size_alloc] at bN
  obtain ⟨W0, hW0⟩ : ∃ W0, (((w.alloc (.cells #[.int .u64 (x : Int), .int .u64 (y : Int)] 24)).alloc (.cells #[.slice none 0 0] 26)).alloc (.cells #[.int .u64 (x : Int), .int .u64 (y : Int)] 24)) = W0 := ⟨_, rfl⟩
  have hsz : W0.heap.size = w.heap.size + 1 + 1 + 1 := by rw [← hW0]; simp
  rw [hW0] at bO bN hB0 ⊢
  clear hW0
  have hst := CS.out (w.heap.size + 1 + 1) W0 (by omega) bN (fun W' h => HT.out.below (hB0.trans h))
  refine wpIn_rangeFunc_ownG rfl (by omega) (gf := 54) (lb := #[.pointer (some ⟨w.heap.size + 1 + 1, 0, none⟩)]) rfl trivial (enters_of Tryd.func54 (by kernel_rfl) rfl)
    hst KpA.trans (kpA_b (by omega) (by omega)) (Below.refl _ _) (fun _ => rfl)
    (fun pre W => ((∃ v, Boxed W (w.heap.size + 1) 26 v ∧ W.ownsRow w.heap.size 3 1 v pre.length (intV pre) ∧ True) ∧ Blk W (w.heap.size + 1 + 1) 24 #[.int .u64 (x : Int), .int .u64 (y : Int)]) ∧ Below w.heap.size w W)
    (fun _ _ _ => False)
    (OwnFrom.and (OwnFrom.and (Own.from (holdsRow_own w.heap.size (w.heap.size + 1) 26 3 1 (fun pre => pre.length) (fun pre => intV pre) (fun _ _ => True)) _) (Own.from (blk_own _ _ _) _)) (ownFrom_below (Nat.le_refl _) (by omega)))
    (fun _ _ _ _ _ hs _ _ => hs)
    ⟨⟨⟨_, bO, World.ownsRow_nil _ _ _ _, trivial⟩, bN⟩, hB0⟩
    (fun v => { tmps := #[.agg #[.int .u64 (x : Int), .int .u64 (y : Int)], .pointer (some ⟨w.heap.size, 0, none⟩), .slice none 0 0, .pointer (some ⟨w.heap.size + 1, 0, none⟩), .func (.func 54) #[] #[.pointer (some ⟨w.heap.size + 1 + 1, 0, none⟩)], .int .i64 v, .agg #[.int .u64 (x : Int), .int .u64 (y : Int)], .func (.func 54) #[] #[.pointer (some ⟨w.heap.size + 1 + 1, 0, none⟩)], .func (.func 54) #[] #[.pointer (some ⟨w.heap.size + 1 + 1, 0, none⟩)], .bool false, .func (.func 54) #[] #[.pointer (some ⟨w.heap.size + 1 + 1, 0, none⟩)], .int .i64 v, undef, undef, undef, undef, undef], defers := [] }) ?assign ?body ?done ?stop
  case assign =>
    intro l x W K hK
    gi_wp2
    exact hK
  case body =>
    rintro l pre a W ⟨⟨⟨v, hv, hrow, -⟩, hN⟩, hB⟩ hlt
    have hmx : pre.length + 1 ≤ maxLen := by unfold maxLen; omega
    have hm8 : (pre.length + 1) * 8 ≤ 140737488355328 := by omega
    have hc := hv.cell
    gi_wp2_with (gi_at_builtin; refine wpListIn_append_own _ rfl _ _ 26 rfl w.heap.size 3 i0 (.int .i64 0) 1 8 Tryd.underlying26 hi hz0 hz1 hz2 rfl (by decide) _ _ _ rfl (hrow.alloc _) ⟨W.heap.size, 0, none⟩ 1 1 [.int .i64 a] rfl rfl (cell_one_new _ _ _) (by simp [Value.oneCell']) (by omega) (by omega) (by have := hB.size; simp; omega) ?_; intro v' w1 hown' hgrow _; obtain ⟨g', cap', rfl⟩ := ownsRow_succ hown'; obtain ⟨hv1, hv2, hr2, hk2, hb2⟩ := hv.appended (by decide) hrow hB.size (Nat.le_succ _) hown' hgrow; have hkn := fun v' => blk_appended (B := w.heap.size + 1) (v' := v') hN (by decide) hrow hgrow (by omega); have hc1 := hv1.cell; have hf1 := hv1.frozen)
    exact ⟨hk2.from _, ⟨hb2, hkn _⟩, ⟨⟨_, hv2, by simpa [intV] using hr2, trivial⟩, (hkn _).trans hN⟩, hB.trans hb2⟩
  case done =>
    rintro D ys W hD rfl ⟨⟨⟨v, hv, hrow, -⟩, hN⟩, hB⟩ hK
    have hc := hv.cell
    gi_wp2
    refine ⟨by simp, .inl ⟨_, _, rfl, run_takeDeferred hK, ?_⟩⟩
    exact ⟨_, results_tmp rfl _ _ _, v, rfl, ownsRow_putObj hrow _ hK rfl, hB.trans (belowK_b (w := w) (Nat.le_refl _) W D _ _ (by omega) hK rfl rfl)⟩
  case stop =>
    rintro D c pre W _ _ h _
    exact h.elim
end Go.Proofs.YtlcnhpjmmjmkcaaDoor
