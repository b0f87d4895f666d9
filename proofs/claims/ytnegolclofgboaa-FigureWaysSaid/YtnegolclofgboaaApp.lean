
/-
  Appending a row of numbers that a call handed out to one's own. Condition: both together at most 1000000.
-/
import Derived.Test.YtnegolclofgboaaOwnI
import Derived.Laws.AppendOwnNone
set_option linter.unusedVariables false
set_option linter.unusedSimpArgs false
namespace Go.Proofs.Ytnegolclofgboaa
open Go.Joins Go.ChangeShapes Go.WideShapes Go.ChangeAt Go.RowKit Go.Deep

theorem app_row {ops : Array Oper} {rest : List Oper} {a : Act} {w : World} {Q : Exit → Act → World → Prop} {d s x : Nat} {ty : TypeId} {pos : String} {af : Array Edge} (B B2 : Nat) (v v2 : Value) (n : Nat) (xs : List Value) (ys : List Int)
    (hs : a.eval (.tmp s) = v) (hx : a.eval (.tmp x) = v2) (h1 : w.ownsRow B 3 1 v n xs) (h2 : w.ownsRow B2 3 1 v2 ys.length (intV ys)) (hn : n + ys.length ≤ 1000000) (hB : B ≤ w.heap.size)
    (h : ∀ v' w', w'.ownsRow B 3 1 v' (n + ys.length) (xs ++ intV ys) → Below B w w' → wpList Try.prog ops Q rest (a.put (some d) v') w') :
    wpList Try.prog ops Q ({ dst := some d, op := .call { callee := .builtin .append, args := #[.tmp s, .tmp x], argTypes := #[41, 41] }, type := ty, pos := pos, after := af, guard := none } :: rest) a w := by
  obtain ⟨i0, hi, hz0, hz1, hz2⟩ := info_parts info_int
  rcases h2.2 with ⟨rfl, hz⟩ | ⟨g, cap, cur, rfl, hbg, hg, hnc, hcm, hcs, htake⟩
  · refine wpList_append_own_none rfl _ _ 41 rfl B 3 i0 1 Try.underlying41 hi v n xs hs h1 hx (h v w ?_ (Below.refl _ _))
    rw [hz]
    have : intV ys = [] := by
      have : ys = [] := List.eq_nil_of_length_eq_zero hz
      rw [this]; rfl
    rw [this, List.append_nil]
    exact h1
  · refine wpList_append_own _ rfl _ _ 41 rfl B 3 i0 (.int .i64 0) 1 8 Try.underlying41 hi hz0 hz1 hz2 rfl (by decide) v n xs hs h1 ⟨g, 0, none⟩ ys.length cap (intV ys) hx (by simp [intV]) (fun j u hu => ?_) (fun u hu => ?_) (by unfold maxLen; omega) (by omega) hB ?_
    · have hj : j < ys.length := by
        have := (List.getElem?_eq_some_iff.1 hu).1
        simpa [intV] using this
      have hadd : (⟨g, 0, none⟩ : Addr).add j = ⟨g, j, none⟩ := by unfold Addr.add; split <;> simp_all
      rw [hadd, h2.cellAt j (by omega), hu]
    · simp [intV] at hu
      obtain ⟨y, _, rfl⟩ := hu
      rfl
    · intro v' w' ho hgrow _
      exact h v' w' ho ((Below.refl _ _).grown hgrow hB (fun k hk => (h1.lt k hk).1))
end Go.Proofs.Ytnegolclofgboaa
