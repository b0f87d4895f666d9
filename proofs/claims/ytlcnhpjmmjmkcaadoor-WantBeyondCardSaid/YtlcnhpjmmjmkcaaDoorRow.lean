
/-
  Rows of 128 booleans by value: loads and stores of the whole row, single cells. No conditions.
-/
import Derived.Test.YtlcnhpjmmjmkcaaDoorSetW2
import Derived.Test.YtlcnhpjmmjmkcaaDoorSeq
import Derived.Deep.WholeRow
set_option linter.unusedVariables false
set_option linter.unusedSimpArgs false
namespace Go.Proofs.YtlcnhpjmmjmkcaaDoor
open Go.Joins Go.ChangeShapes Go.WideShapes Go.ChangeAt Go.RowKit Go.Deep

def rowA (f : Nat → Bool) : Array Value := ((List.range 128).map fun i => Value.bool (f i)).toArray
theorem row_size (f : Nat → Bool) : (rowA f).size = 128 := by simp [rowA]
theorem row_get (f : Nat → Bool) {i : Nat} (h : i < 128) : (rowA f)[i]? = some (.bool (f i)) := by
  unfold rowA
  simp [h]
theorem row_ext {f g : Nat → Bool} (h : ∀ i, i < 128 → f i = g i) : rowA f = rowA g := by
  unfold rowA
  congr 1
  apply List.map_congr_left
  intro i hi
  rw [h i (List.mem_range.1 hi)]
theorem row_set (f : Nat → Bool) (i : Nat) (b : Bool) : (rowA f).setIfInBounds i (.bool b) = rowA (fun j => if j = i then b else f j) := by
  unfold rowA
  simp only [List.setIfInBounds_toArray]
  congr 1
  apply List.ext_getElem?
  intro j
  rw [List.getElem?_set]
  simp only [List.length_map, List.length_range, List.getElem?_map]
  by_cases h : i = j
  · subst h
    by_cases hl : i < 128
    · simp [hl]
    · simp [hl]
  · rw [if_neg h]
    by_cases hl : j < 128
    · have h' : ¬ j = i := fun e => h e.symm
      simp [hl, h']
    · simp [hl]
theorem row_one (f : Nat → Bool) : (rowA f).all (·.oneCell') = true := by
  rw [Array.all_eq_true_iff_forall_mem]
  intro v hv
  simp [rowA] at hv
  obtain ⟨i, _, rfl⟩ := hv
  rfl
theorem row_info : (Tryd.prog.info? 61).map (fun i => (i.zero, i.size)) = some (some (.agg (rowA fun _ => false)), 128) := by kernel_rfl
theorem row_zero : ∀ w, (zeroValue 61).run Tryd.prog w = .ok (.agg (rowA fun _ => false)) w := (zero_of_info row_info).1
theorem row_infosize : (Tryd.prog.info? 61).map (·.size) = some 128 := (zero_of_info row_info).2
theorem row_agg : ∀ w, (isAgg 61).run Tryd.prog w = .ok true w := fun w => by
  unfold isAgg
  rw [Sem.run_bind, run_underlying Tryd.underlying61 w]
  rfl
theorem row_sizeof : ∀ w, (sizeOf 61).run Tryd.prog w = .ok 128 w := fun w => by
  have h := row_infosize
  cases hq : Tryd.prog.info? 61 with
  | none => simp [hq] at h
  | some i =>
    rw [hq] at h
    simp at h
    simp [sizeOf, typeInfo, hq, h]
theorem row_load {w : World} {b : Nat} {t : TypeId} {f : Nat → Bool} (h : Blk w b t (rowA f)) : (loadCellsFrom ⟨b, 0, none⟩ 0 128 #[]).run Tryd.prog w = .ok (rowA f) w := by
  have := run_loadCells_list (P := Tryd.prog) w ⟨b, 0, none⟩ (rowA f).toList (fun j v hv => by
    have hadd : (⟨b, 0, none⟩ : Addr).add j = ⟨b, j, none⟩ := by unfold Addr.add; split <;> simp_all
    rw [hadd, h.cell]
    simpa using hv)
  simpa [loadCells, row_size] using this
theorem row_store {w : World} {b : Nat} {t : TypeId} {f g : Nat → Bool} (h : Blk w b t (rowA f)) : (storeCells ⟨b, 0, none⟩ (rowA g).toList 0).run Tryd.prog w = .ok () (w.setRow b (rowA g)) := by
  have := run_storeCells_from (P := Tryd.prog) b t (rowA g).toList 0 (rowA f) w h (by simp [row_size]) (fun v hv => (Array.all_eq_true_iff_forall_mem.1 (row_one g)) v (by simpa using hv))
  simpa using this
theorem blk_row {w : World} {b : Nat} {t : TypeId} {c c' : Array Value} (h : Blk w b t c) : Blk (w.setRow b c') b t c' := setRow_heap w b c c' t _ h
theorem blk_rowfar {w : World} {b k : Nat} {t : TypeId} {c c' : Array Value} (h : Blk w k t c) (hk : k ≠ b) : Blk (w.setRow b c') k t c := (setRow_other w b k c' hk).trans h
theorem below_row {B : Nat} {a w : World} {b : Nat} {c' : Array Value} (h : Below B a w) (hb : B ≤ b) : Below B a (w.setRow b c') :=
  h.trans ⟨rfl, rfl, rfl, by simp, fun k hk => (setRow_other w b k c' (by omega))⟩
theorem row_load_step {ops : Array Oper} {rest : List Oper} {a : Act} {w : World} {Q : Exit → Act → World → Prop} {d k : Nat} {ty : TypeId} {pos : String} {af : Array Edge} {g : Nat} {t : TypeId} {f : Nat → Bool} (hx : a.eval (.tmp k) = .pointer (some ⟨g, 0, none⟩)) (hb : Blk w g t (rowA f))
    (h : wpList Tryd.prog ops Q rest (a.put (some d) (.agg (rowA f))) w) : wpList Tryd.prog ops Q ({ dst := some d, op := .load 61 (.tmp k), type := ty, pos := pos, after := af, guard := none } :: rest) a w :=
  wpList_load_row rfl _ _ rfl g hx t (rowA f) (0, 0) _ hb Tryd.underlying61 rfl (by rw [row_size]; exact row_infosize) h
theorem row_store_step {ops : Array Oper} {rest : List Oper} {a : Act} {w : World} {Q : Exit → Act → World → Prop} {k j : Nat} {ty : TypeId} {pos : String} {af : Array Edge} {g : Nat} {t : TypeId} {f f' : Nat → Bool} (hx : a.eval (.tmp k) = .pointer (some ⟨g, 0, none⟩)) (hy : a.eval (.tmp j) = .agg (rowA f')) (hb : Blk w g t (rowA f))
    (h : wpList Tryd.prog ops Q rest a (w.setRow g (rowA f'))) : wpList Tryd.prog ops Q ({ dst := none, op := .store 61 (.tmp k) (.tmp j), type := ty, pos := pos, after := af, guard := none } :: rest) a w :=
  wpList_store_row rfl _ _ _ rfl g (rowA f') hx hy t (rowA f) hb (by rw [row_size]; exact row_infosize) (by rw [row_size, row_size]) (row_one _) h
theorem row_store_new {ops : Array Oper} {rest : List Oper} {a : Act} {w : World} {Q : Exit → Act → World → Prop} {k j : Nat} {ty : TypeId} {pos : String} {af : Array Edge} {t : TypeId} {f f' : Nat → Bool} (hx : a.eval (.tmp k) = .pointer (some ⟨w.heap.size, 0, none⟩)) (hy : a.eval (.tmp j) = .agg (rowA f'))
    (h : wpList Tryd.prog ops Q rest a (w.alloc (.cells (rowA f') t))) : wpList Tryd.prog ops Q ({ dst := none, op := .store 61 (.tmp k) (.tmp j), type := ty, pos := pos, after := af, guard := none } :: rest) a (w.alloc (.cells (rowA f) t)) := by
  refine row_store_step hx hy (Blk.new w t (rowA f)) ?_
  rw [World.setRow_alloc_new]
  exact h
theorem run_row_new (f f' : Nat → Bool) (w : World) : (storeCells ⟨w.heap.size, 0, none⟩ (rowA f').toList 0).run Tryd.prog (w.alloc (.cells (rowA f) 61)) = .ok () (w.alloc (.cells (rowA f') 61)) := by
  rw [row_store (Blk.new w _ (rowA f)), World.setRow_alloc_new]
theorem row_result {fn : Func} {p : Tmp} (h : fn.results = #[.cell p 61]) {a : Act} {w : World} {g : Nat} {t : TypeId} {f : Nat → Bool} (hx : a.tmps.getD p undef = .pointer (some ⟨g, 0, none⟩)) (hb : Blk w g t (rowA f)) : (results fn a.tmps).run Tryd.prog w = .ok (.agg (rowA f)) w :=
  results_cell_row h a.tmps w g t (rowA f) (0, 0) _ hx hb Tryd.underlying61 rfl (by rw [row_size]; exact row_infosize)
end Go.Proofs.YtlcnhpjmmjmkcaaDoor
