/-
  A slice of ints that reads as a list. No conditions. A slice of ints that a call makes by append; slices.Equal of slices that read as one list. No conditions. Appending a row of numbers that a call handed out to one's own. Condition: both together at most 1000000.
-/
import Derived.Test.YtlcnhpjmmjmkcaaRel2
import Derived.Deep.AppendLies
import Derived.OwnWalk
import Derived.Laws.AppendOwnNone
set_option linter.unusedVariables false
set_option linter.unusedSimpArgs false
namespace Go.Proofs.Ytlcnhpjmmjmkcaa
open Go.Joins Go.ChangeShapes Go.WideShapes Go.ChangeAt Go.RowKit Go.Deep

def at0 (xs : List Int) (i : Nat) : Int := xs.getD i 0
/-- A slice of ints that reads as xs: what a walk asks of it. -/
def Ints (w : World) (A : Option Addr) (xs : List Int) : Prop :=
  0 < xs.length → ∃ b off, A = some ⟨b, off, none⟩ ∧ b < w.heap.size ∧ ∀ i, i < xs.length → w.cell? ⟨b, off + i, none⟩ = some (.int .i64 (at0 xs i))
theorem Ints.below {w w' : World} {A : Option Addr} {xs : List Int} (h : Ints w A xs) (hb : Below w.heap.size w w') : Ints w' A xs := fun hp => by
  obtain ⟨b, off, hA, hlt, hc⟩ := h hp
  exact ⟨b, off, hA, Nat.lt_of_lt_of_le hlt hb.size, fun i hi => (hb.cell (p := ⟨b, off + i, none⟩) hlt).trans (hc i hi)⟩
theorem ints_of {w : World} {A : Option Addr} {C : Nat} {xs : List Int} (h : RSlice 1 (RInt .i64) w [.slice A xs.length C] xs) : Ints w A xs := fun hp => by
  obtain ⟨A', C', hAC, _, _, hc⟩ := h
  injection hAC with hAC
  injection hAC with e1 e2 e3
  subst e1
  obtain ⟨b, off, hA, hlt, hx⟩ := hc hp
  refine ⟨b, off, hA, hlt, fun i hi => ?_⟩
  obtain ⟨es, ⟨rfl, _⟩, _, hce⟩ := hx i _ (List.getElem?_eq_getElem hi)
  have := hce 0 _ rfl
  simp only [Nat.mul_one, Nat.add_zero] at this
  rw [this]
  simp [at0, List.getD, List.getElem?_eq_getElem hi]
theorem ints_bd {w : World} {cs : List Value} {xs : List Int} (h : RSlice 1 (RInt .i64) w cs xs) : ∀ i, -9223372036854775808 ≤ at0 xs i ∧ at0 xs i ≤ 9223372036854775807 := by
  obtain ⟨A', C', hAC, _, _, hc⟩ := h
  intro i
  by_cases hi : i < xs.length
  · obtain ⟨b, off, hA, hlt, hx⟩ := hc (by omega)
    obtain ⟨es, ⟨rfl, hw⟩, _, _⟩ := hx i _ (List.getElem?_eq_getElem hi)
    have := bounds_i64 hw
    simpa [at0, List.getD, List.getElem?_eq_getElem hi] using this
  · simp [at0, List.getD, List.getElem?_eq_none (Nat.le_of_not_lt hi)]

/-- The first k, together. -/
def sumL (xs : List Int) : Nat → Int
  | 0 => 0
  | k + 1 => sumL xs k + at0 xs k
end Go.Proofs.Ytlcnhpjmmjmkcaa
set_option linter.unusedVariables false
set_option linter.unusedSimpArgs false
namespace Go.Proofs.Ytlcnhpjmmjmkcaa
open Go.Joins Go.ChangeShapes Go.WideShapes Go.ChangeAt Go.RowKit Go.Deep

theorem info_int : (Try.prog.info? 3).map (fun i => (i.zero, i.size, i.bytes)) = some (some (.int .i64 0), 1, 8) := by kernel_rfl
/-- What a call owns stays its own while nothing that was there turns. -/
theorem ownsRow_below {w w' : World} {base size n : Nat} {e : TypeId} {v : Value} {xs : List Value} (h : w.ownsRow base e size v n xs) (hb : Below w.heap.size w w') : w'.ownsRow base e size v n xs := by
  refine ⟨h.1, ?_⟩
  rcases h.2 with hn | ⟨g, cap, cur, rfl, hg, hgg, rest⟩
  · exact .inl hn
  · exact .inr ⟨g, cap, cur, rfl, hg, (hb.block g (Array.getElem?_eq_some_iff.1 hgg).1).trans hgg, rest⟩
theorem cell_one (w : World) (x : Value) (t : TypeId) : ∀ j u, [x][j]? = some u → (w.alloc (.cells #[x] t)).cell? ((⟨w.heap.size, 0, none⟩ : Addr).add j) = some u := by
  intro j u hu
  match j, hu with
  | 0, hu =>
    simp at hu
    subst hu
    exact (Blk.new w t #[x]).cell 0
theorem one_cell {k : IntKind} (x : Int) : ∀ u ∈ [Value.int k x], u.oneCell' = true := by
  intro u hu
  simp at hu
  subst hu
  rfl
theorem held_mk {B : World} {w' : World} (h : Below B.heap.size B w') : Below B.heap.size B w' ∧ ∀ b o, b < B.heap.size → w'.cell? ⟨b, o, none⟩ = B.cell? ⟨b, o, none⟩ :=
  ⟨h, fun b o hlt => h.cell (p := ⟨b, o, none⟩) hlt⟩
/-- Numbers as values. -/
def intV (ys : List Int) : List Value := ys.map (Value.int .i64)
theorem intV_snoc (ys : List Int) (y : Int) : intV (ys ++ [y]) = intV ys ++ [.int .i64 y] := by simp [intV]
/-- What is owned, as a slice that reads as the list. -/
theorem owns_ints {w : World} {base : Nat} {e : TypeId} {v : Value} {ys : List Int} (h : w.ownsRow base e 1 v ys.length (intV ys)) : ∃ A C, v = .slice A ys.length C ∧ Ints w A ys := by
  rcases h.2 with ⟨rfl, hz⟩ | ⟨g, cap, cur, rfl, hbg, hg, hnc, hcm, hcs, htake⟩
  · exact ⟨none, 0, by rw [hz], fun hp => by omega⟩
  · refine ⟨_, _, rfl, fun hp => ⟨g, 0, rfl, (Array.getElem?_eq_some_iff.1 hg).1, fun i hi => ?_⟩⟩
    have := h.cellAt i (by omega)
    rw [Nat.zero_add, this]
    simp [intV, at0, List.getD, List.getElem?_eq_getElem hi]
theorem owns_ints_n {w : World} {base n : Nat} {e : TypeId} {v : Value} {ys : List Int} (h : w.ownsRow base e 1 v n (intV ys)) (hn : n = ys.length) : ∃ A C, v = .slice A ys.length C ∧ Ints w A ys := by
  subst hn
  exact owns_ints h
/-- The first k, each turned to a number. -/
def preM {α : Type} (f : α → Int) (ds : List α) (k : Nat) : List Int := (ds.take k).map f
theorem preM_zero {α : Type} (f : α → Int) (ds : List α) : preM f ds 0 = [] := by simp [preM]
theorem preM_succ {α : Type} (f : α → Int) {ds : List α} {k : Nat} {t : α} (h : ds[k]? = some t) : intV (preM f ds (k + 1)) = intV (preM f ds k) ++ [.int .i64 (f t)] := by
  rw [← intV_snoc]; simp [preM, List.take_add_one, h]
theorem preM_all {α : Type} (f : α → Int) (ds : List α) : preM f ds ds.length = ds.map f := by simp [preM]
/-- A call that hands out numbers in new memory, or none. -/
def RetInts (ys : List Int) (w : World) (e : Ending) (w' : World) : Prop := ∃ A C, e = .returned (.slice A ys.length C) ∧ Ints w' A ys ∧ Below w.heap.size w w'
end Go.Proofs.Ytlcnhpjmmjmkcaa
set_option linter.unusedVariables false
set_option linter.unusedSimpArgs false
namespace Go.Proofs.Ytlcnhpjmmjmkcaa
open Go.Joins Go.ChangeShapes Go.WideShapes Go.ChangeAt Go.RowKit Go.Deep

theorem app_row {ops : Array Oper} {rest : List Oper} {a : Act} {w : World} {Q : Exit → Act → World → Prop} {d s x : Nat} {ty : TypeId} {pos : String} {af : Array Edge} (B B2 : Nat) (v v2 : Value) (n : Nat) (xs : List Value) (ys : List Int)
    (hs : a.eval (.tmp s) = v) (hx : a.eval (.tmp x) = v2) (h1 : w.ownsRow B 3 1 v n xs) (h2 : w.ownsRow B2 3 1 v2 ys.length (intV ys)) (hn : n + ys.length ≤ 1000000) (hB : B ≤ w.heap.size)
    (h : ∀ v' w', w'.ownsRow B 3 1 v' (n + ys.length) (xs ++ intV ys) → Below B w w' → wpList Try.prog ops Q rest (a.put (some d) v') w') :
    wpList Try.prog ops Q ({ dst := some d, op := .call { callee := .builtin .append, args := #[.tmp s, .tmp x], argTypes := #[72, 72] }, type := ty, pos := pos, after := af, guard := none } :: rest) a w := by
  obtain ⟨i0, hi, hz0, hz1, hz2⟩ := info_parts info_int
  rcases h2.2 with ⟨rfl, hz⟩ | ⟨g, cap, cur, rfl, hbg, hg, hnc, hcm, hcs, htake⟩
  · refine wpList_append_own_none rfl _ _ 72 rfl B 3 i0 1 Try.underlying72 hi v n xs hs h1 hx (h v w ?_ (Below.refl _ _))
    rw [hz]
    have : intV ys = [] := by
      have : ys = [] := List.eq_nil_of_length_eq_zero hz
      rw [this]; rfl
    rw [this, List.append_nil]
    exact h1
  · refine wpList_append_own _ rfl _ _ 72 rfl B 3 i0 (.int .i64 0) 1 8 Try.underlying72 hi hz0 hz1 hz2 rfl (by decide) v n xs hs h1 ⟨g, 0, none⟩ ys.length cap (intV ys) hx (by simp [intV]) (fun j u hu => ?_) (fun u hu => ?_) (by unfold maxLen; omega) (by omega) hB ?_
    · have hj : j < ys.length := by
        have := (List.getElem?_eq_some_iff.1 hu).1
        simpa [intV] using this
      have hadd : (⟨g, 0, none⟩ : Addr).add j = ⟨g, j, none⟩ := by unfold Addr.add; split <;> simp_all
      rw [hadd, h2.cellAt j (by omega), hu]
    · simp [intV] at hu
      obtain ⟨y, _, rfl⟩ := hu
      rfl
    · intro v' w' ho hgrow _
      exact h v' w' ho ((Below.refl _ _).grown hgrow hB (fun k hk => (h1.lt k hk).1))
end Go.Proofs.Ytlcnhpjmmjmkcaa
