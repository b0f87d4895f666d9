/-
  A slice of ints that a call makes by append. No conditions.
-/
import Derived.Test.YtfpmdldngnopjaaNear
set_option linter.unusedVariables false
set_option linter.unusedSimpArgs false
namespace Go.Proofs.Ytfpmdldngnopjaa
open Go.Joins Go.ChangeShapes Go.WideShapes Go.ChangeAt Go.RowKit Go.Deep

theorem info_int : (Try.prog.info? 3).map (fun i => (i.zero, i.size, i.bytes)) = some (some (.int .i64 0), 1, 8) := by kernel_rfl
/-- What a call owns stays its own while nothing that was there turns. -/
theorem ownsRow_below {w w' : World} {base size n : Nat} {e : TypeId} {v : Value} {xs : List Value} (h : w.ownsRow base e size v n xs) (hb : Below w.heap.size w w') : w'.ownsRow base e size v n xs := by
  refine ⟨h.1, ?_⟩
  rcases h.2 with hn | ⟨g, cap, cur, rfl, hg, hgg, rest⟩
  · exact .inl hn
  · exact .inr ⟨g, cap, cur, rfl, hg, (hb.block g (Array.getElem?_eq_some_iff.1 hgg).1).trans hgg, rest⟩

/-- The first j of a list, as values. -/
def taken (xs : List Int) (j : Nat) : List Value := (xs.take j).map (Value.int .i64)
theorem taken_zero (xs : List Int) : taken xs 0 = [] := by simp [taken]
theorem taken_succ {xs : List Int} {j : Nat} (h : j < xs.length) : taken xs (j + 1) = taken xs j ++ [.int .i64 (at0 xs j)] := by
  unfold taken
  rw [List.take_succ_eq_append_getElem h, List.map_append]
  simp [at0, List.getD, List.getElem?_eq_getElem h]
theorem taken_get {xs : List Int} {j i : Nat} (h : i < j) (hj : j ≤ xs.length) : (taken xs j)[i]? = some (.int .i64 (at0 xs i)) := by
  have hi : i < xs.length := by omega
  simp [taken, at0, List.getD, List.getElem?_eq_getElem hi, List.getElem?_take, h]
theorem cell_one (w : World) (x : Value) (t : TypeId) : ∀ j u, [x][j]? = some u → (w.alloc (.cells #[x] t)).cell? ((⟨w.heap.size, 0, none⟩ : Addr).add j) = some u := by
  intro j u hu
  match j, hu with
  | 0, hu =>
    simp at hu
    subst hu
    exact (Blk.new w t #[x]).cell 0
theorem one_cell {k : IntKind} (x : Int) : ∀ u ∈ [Value.int k x], u.oneCell' = true := by
  intro u hu
  simp at hu
  subst hu
  rfl
theorem held_mk {B : World} {w' : World} (h : Below B.heap.size B w') : Below B.heap.size B w' ∧ ∀ b o, b < B.heap.size → w'.cell? ⟨b, o, none⟩ = B.cell? ⟨b, o, none⟩ :=
  ⟨h, fun b o hlt => h.cell (p := ⟨b, o, none⟩) hlt⟩
/-- What is owned, as a slice that reads as the list. -/
theorem owns_ints {w : World} {base : Nat} {e : TypeId} {v : Value} {xs : List Int} {n : Nat} (h : w.ownsRow base e 1 v n (taken xs n)) (hn : n = xs.length) : ∃ A C, v = .slice A xs.length C ∧ Ints w A xs := by
  subst hn
  rcases ownsRow_forms h with ⟨rfl, hz⟩ | ⟨g, cap, rfl⟩
  · exact ⟨none, 0, by rw [hz], fun hp => by omega⟩
  · refine ⟨_, _, rfl, fun hp => ⟨g, 0, rfl, (h.lt g rfl).2, fun i hi => ?_⟩⟩
    have := h.cells (g := g) rfl i _ (taken_get hi (Nat.le_refl _))
    rwa [show (⟨g, 0, none⟩ : Addr).add i = ⟨g, 0 + i, none⟩ from by unfold Addr.add; split <;> simp_all] at this
end Go.Proofs.Ytfpmdldngnopjaa
