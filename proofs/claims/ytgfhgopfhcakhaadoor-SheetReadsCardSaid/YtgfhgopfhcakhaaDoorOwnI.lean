
/-
  A slice of ints that a call makes by append; slices.Equal of slices that read as one list. No conditions.
-/
import Derived.Test.YtgfhgopfhcakhaaDoorInts
import Derived.Deep.AppendLies
import Derived.OwnWalk
set_option linter.unusedVariables false
set_option linter.unusedSimpArgs false
namespace Go.Proofs.YtgfhgopfhcakhaaDoor
open Go.Joins Go.ChangeShapes Go.WideShapes Go.ChangeAt Go.RowKit Go.Deep

theorem info_int : (Tryd.prog.info? 3).map (fun i => (i.zero, i.size, i.bytes)) = some (some (.int .i64 0), 1, 8) := by kernel_rfl
/-- What a call owns stays its own while nothing that was there turns. -/
theorem ownsRow_below {w w' : World} {base size n : Nat} {e : TypeId} {v : Value} {xs : List Value} (h : w.ownsRow base e size v n xs) (hb : Below w.heap.size w w') : w'.ownsRow base e size v n xs := by
  refine ⟨h.1, ?_⟩
  rcases h.2 with hn | ⟨g, cap, cur, rfl, hg, hgg, rest⟩
  · exact .inl hn
  · exact .inr ⟨g, cap, cur, rfl, hg, (hb.block g (Array.getElem?_eq_some_iff.1 hgg).1).trans hgg, rest⟩
theorem cell_one (w : World) (x : Value) (t : TypeId) : ∀ j u, [x][j]? = some u → (w.alloc (.cells #[x] t)).cell? ((⟨w.heap.size, 0, none⟩ : Addr).add j) = some u := by
  intro j u hu
  match j, hu with
  | 0, hu =>
    simp at hu
    subst hu
    exact (Blk.new w t #[x]).cell 0
theorem cell_at {W : World} {n : Nat} (h : W.heap.size = n) (x : Value) (t : TypeId) : ∀ j u, [x][j]? = some u → (W.alloc (.cells #[x] t)).cell? ((⟨n, 0, none⟩ : Addr).add j) = some u := by
  subst h
  exact cell_one _ _ _
theorem one_cell {k : IntKind} (x : Int) : ∀ u ∈ [Value.int k x], u.oneCell' = true := by
  intro u hu
  simp at hu
  subst hu
  rfl
theorem held_mk {B : World} {w' : World} (h : Below B.heap.size B w') : Below B.heap.size B w' ∧ ∀ b o, b < B.heap.size → w'.cell? ⟨b, o, none⟩ = B.cell? ⟨b, o, none⟩ :=
  ⟨h, fun b o hlt => h.cell (p := ⟨b, o, none⟩) hlt⟩
/-- Numbers as values. -/
def intV (ys : List Int) : List Value := ys.map (Value.int .i64)
theorem intV_snoc (ys : List Int) (y : Int) : intV (ys ++ [y]) = intV ys ++ [.int .i64 y] := by simp [intV]
/-- What is owned, as a slice that reads as the list. -/
theorem owns_ints {w : World} {base : Nat} {e : TypeId} {v : Value} {ys : List Int} (h : w.ownsRow base e 1 v ys.length (intV ys)) : ∃ A C, v = .slice A ys.length C ∧ Ints w A ys := by
  rcases h.2 with ⟨rfl, hz⟩ | ⟨g, cap, cur, rfl, hbg, hg, hnc, hcm, hcs, htake⟩
  · exact ⟨none, 0, by rw [hz], fun hp => by omega⟩
  · refine ⟨_, _, rfl, fun hp => ⟨g, 0, rfl, (Array.getElem?_eq_some_iff.1 hg).1, fun i hi => ?_⟩⟩
    have := h.cellAt i (by omega)
    rw [Nat.zero_add, this]
    simp [intV, at0, List.getD, List.getElem?_eq_getElem hi]
theorem owns_ints_n {w : World} {base n : Nat} {e : TypeId} {v : Value} {ys : List Int} (h : w.ownsRow base e 1 v n (intV ys)) (hn : n = ys.length) : ∃ A C, v = .slice A ys.length C ∧ Ints w A ys := by
  subst hn
  exact owns_ints h
/-- The first k, each turned to a number. -/
def preM {α : Type} (f : α → Int) (ds : List α) (k : Nat) : List Int := (ds.take k).map f
theorem preM_zero {α : Type} (f : α → Int) (ds : List α) : preM f ds 0 = [] := by simp [preM]
theorem preM_succ {α : Type} (f : α → Int) {ds : List α} {k : Nat} {t : α} (h : ds[k]? = some t) : intV (preM f ds (k + 1)) = intV (preM f ds k) ++ [.int .i64 (f t)] := by
  rw [← intV_snoc]; simp [preM, List.take_add_one, h]
theorem preM_all {α : Type} (f : α → Int) (ds : List α) : preM f ds ds.length = ds.map f := by simp [preM]
/-- A call that hands out numbers in new memory, or none. -/
def RetInts (ys : List Int) (w : World) (e : Ending) (w' : World) : Prop := ∃ A C, e = .returned (.slice A ys.length C) ∧ Ints w' A ys ∧ Below w.heap.size w w'
end Go.Proofs.YtgfhgopfhcakhaaDoor
