
/-
  The same rule where a fact may speak of the values on which the operation leans (guards whose outcome is not known ahead).
-/
import Derived.Test.YtlcnhpjmmjmkcaaDoorRel
set_option linter.unusedVariables false
set_option linter.unusedSimpArgs false
namespace Go.Proofs.YtlcnhpjmmjmkcaaDoor
open Go Go.Joins Go.RowKit
section
variable {P : Program}
theorem gop_yes {ops : Array Oper} {o : Oper} {a : Act} {w : World} {R : Value → World → Prop} (h : Region.wanted o (yielded ops a.tmps) = true) (hg : grows P o a w R) : gop P ops o a w R := by unfold gop; rw [if_pos h]; exact hg
theorem gop_no {ops : Array Oper} {o : Oper} {a : Act} {w : World} {R : Value → World → Prop} (h : Region.wanted o (yielded ops a.tmps) = false) (hg : R undef w) : gop P ops o a w R := by unfold gop; rw [if_neg (by rw [h]; exact Bool.false_ne_true)]; exact hg
/-- One slot more. -/
def upd (f : Nat → Value) (d : Nat) (v : Value) (k : Nat) : Value := if k = d then v else f k
/-- What stands of the operations on which one leans2. -/
def leans2 (md : Region.Mode) (D : List Nat) (R : Nat → (Nat → Value) → World → Prop) (f : Nat → Value) (w : World) : List Edge → Prop
  | [] => True
  | e :: es => (if Region.binds md e = true then R e.on f w else True) ∧ leans2 md D R f w es
theorem leans2_of {md : Region.Mode} {D : List Nat} {R : Nat → (Nat → Value) → World → Prop} {f : Nat → Value} {w : World} (l : List Edge) (h : ∀ e ∈ l, Region.binds md e = true → R e.on f w) : leans2 md D R f w l := by
  induction l with
  | nil => trivial
  | cons e es ih =>
    refine ⟨?_, ih fun x hx => h x (by simp [hx])⟩
    split
    · rename_i hb; exact h e (by simp) hb
    · trivial
/-- Each operation, on its own. -/
def eachRel2 (P : Program) (ops : Array Oper) (md : Region.Mode) (W : World) (a : Act) (D : List Nat) (R : Nat → (Nat → Value) → World → Prop) : Nat → List Oper → Prop
  | _, [] => True
  | i, o :: os => (∀ f w, Below W.heap.size W w → leans2 md D R f w o.after.toList → gop P ops o (frm a D f) w (fun v w2 => R i (upd f (D.getD i 0) v) w2)) ∧ eachRel2 P ops md W a D R (i + 1) os
theorem eachRel2_at {ops : Array Oper} {md : Region.Mode} {W : World} {a : Act} {D : List Nat} {R : Nat → (Nat → Value) → World → Prop} (l : List Oper) : ∀ (k : Nat), eachRel2 P ops md W a D R k l → ∀ i o, l[i]? = some o → ∀ f w, Below W.heap.size W w → leans2 md D R f w o.after.toList → gop P ops o (frm a D f) w (fun v w2 => R (k + i) (upd f (D.getD (k + i) 0) v) w2) := by
  induction l with
  | nil => intro k _ i o h; simp at h
  | cons x l ih =>
    intro k h i o hi
    cases i with
    | zero => simp at hi; subst hi; exact h.1
    | succ i =>
      simp at hi
      have := ih (k + 1) h.2 i o hi
      rwa [show k + 1 + i = k + (i + 1) by omega] at this
/-- At the end: what holds of each value. -/
def allRel2 (D : List Nat) (R : Nat → (Nat → Value) → World → Prop) (f : Nat → Value) (w : World) : Nat → Prop
  | 0 => True
  | k + 1 => allRel2 D R f w k ∧ R k f w
end
section
variable {P : Program}
theorem wp_region_rel2 {id : Nat} {Q : Exit → Act → World → Prop} {a : Act} {w : World} {l : List Oper} (n : Nat) (D : List Nat) (R : Nat → (Nat → Value) → World → Prop) (hm : P.follows .mixedOrders = true) (hB : relB .any l.toArray n D = true)
    (hD : D.all (· < a.tmps.size) = true) (stays : ∀ i f w1 w2, R i f w1 → Below w1.heap.size w1 w2 → R i f w2)
    (loc : ∀ i f f' w o, l[i]? = some o → f (D.getD i 0) = f' (D.getD i 0) → (∀ e ∈ o.after, Region.binds .any e = true → f (D.getD e.on 0) = f' (D.getD e.on 0)) → R i f w → R i f' w)
    (each : eachRel2 P l.toArray .any w a D R 0 (l.take n))
    (tail : ∀ f w', Below w.heap.size w w' → allRel2 D R f w' n → wpList P l.toArray Q (l.drop n) (frm a D f) w') : (Code.region id l.toArray true).wp P Q a w := by
  unfold relB at hB
  simp only [Bool.and_eq_true, decide_eq_true_eq] at hB
  obtain ⟨⟨⟨⟨⟨⟨hs, hc⟩, hn⟩, hseq⟩, hops⟩, hnd⟩, hlen⟩ := hB
  replace hnd := nodup_of hnd
  have hd : ∀ d ∈ D, d < a.tmps.size := by
    intro d hdd
    have := List.all_eq_true.1 hD d hdd
    simpa using this
  have hn' : n < l.length := by simpa using hn
  have facts : ∀ i, i < n → ∃ o d, l.toArray[i]? = some o ∧ o.dst = some d ∧ D[i]? = some d ∧ ∀ e ∈ o.after, Region.binds .any e = true → e.on < i := by
    intro i hi
    have h := List.all_eq_true.1 hops i (List.mem_range.2 hi)
    cases ho : l.toArray[i]? with
    | none => rw [ho] at h; simp at h
    | some o =>
      rw [ho] at h
      simp only [Bool.and_eq_true] at h
      obtain ⟨hdst, haf⟩ := h
      cases hdd : o.dst with
      | none => rw [hdd] at hdst; simp at hdst
      | some d =>
        rw [hdd] at hdst
        refine ⟨o, d, rfl, hdd, by simpa using hdst, fun e he hb => ?_⟩
        have := Array.all_eq_true'.1 haf e he
        rw [hb] at this
        simpa using this
  have key : ∀ m done (a' : Act) (w' : World), undone done n = m → HeadInv .any l.toArray n done → Agree a D a' → Below w.heap.size w w' → (∀ i, i < n → done.getD i false = true → R i (fun k => a'.tmps.getD k undef) w') →
      wpAny P .any l.toArray Q (m + (l.toArray.size - n)) done a' w' := by
    intro m
    induction m with
    | zero =>
      intro done a' w' hu inv ag hb hR
      have hall := undone_zero hu
      have e : done = doneN l.toArray.size n := by
        apply Array.ext_getElem?
        intro k
        unfold doneN
        by_cases hk : k < l.toArray.size
        · have hk2 : k < done.size := by rw [inv.size]; exact hk
          rw [Array.getElem?_eq_getElem hk2, Array.getElem?_eq_getElem (by simpa using hk)]
          congr 1
          simp only [List.getElem_toArray, List.getElem_map, List.getElem_range]
          by_cases hkn : k < n
          · have := hall k hkn
            simp [Array.getD_eq_getD_getElem?, Array.getElem?_eq_getElem hk2] at this
            simp [this, hkn]
          · have := inv.tail k (by omega) hk
            simp [Array.getD_eq_getD_getElem?, Array.getElem?_eq_getElem hk2] at this
            simp [this, hkn]
        · rw [Array.getElem?_eq_none (by rw [inv.size]; omega), Array.getElem?_eq_none (by simpa using hk)]
      have hf := tail (fun k => a'.tmps.getD k undef) w' hb (by
        have : ∀ k, k ≤ n → allRel2 D R (fun k => a'.tmps.getD k undef) w' k := by
          intro k
          induction k with
          | zero => intro _; trivial
          | succ k ih => intro hk; exact ⟨ih (by omega), hR k (by omega) (hall k (by omega))⟩
        exact this n (Nat.le_refl _))
      rw [← ag.eq hd] at hf
      have hdl : (l.drop n).length = l.toArray.size - n := by simp
      have := wpAny_of_seq (md := .any) (Q' := Q) (l.drop n) n done a' w' (fun j => by simp [List.getElem?_drop]) (by rw [hdl, e]; exact hseq) hf
      rwa [hdl, ← Nat.zero_add (l.toArray.size - n)] at this
    | succ m ih =>
      intro done a' w' hu inv ag hb hR
      obtain ⟨i0, hi0, hu0, hlo⟩ := undone_some hu
      have hi0s : i0 < done.size := by rw [inv.size]; simp; omega
      rw [show m + 1 + (l.toArray.size - n) = (m + (l.toArray.size - n)) + 1 by omega]
      have hu0' := getD_in hi0s hu0
      refine ⟨fun h0 => ?_, fun i hi => ?_⟩
      · exfalso
        obtain ⟨o, d, ho, _, _, hback⟩ := facts i0 hi0
        have : i0 ∈ Region.ready .any l.toArray done := mem_ready.2 ⟨hu0', o, ho, fun e he hbn => hlo _ (hback e he hbn)⟩
        rw [h0] at this
        cases this
      · have hin : i < n := Nat.lt_of_not_le fun hle => tail_waits hs hc hn inv _ i0 rfl hi0 hu0' i hle hi
        obtain ⟨hun, oi, hoi, hdeps⟩ := mem_ready.1 hi
        obtain ⟨o, d, ho, hdst, hDi, hback⟩ := facts i hin
        obtain rfl : oi = o := Option.some.inj (hoi.symm.trans ho)
        have his : i < done.size := by rw [inv.size]; simp; omega
        have hunf : done.getD i false = false := getD_both hun
        have hdm : d ∈ D := List.mem_of_getElem? hDi
        have hgd : D.getD i 0 = d := by simp [List.getD, hDi]
        have hl : leans2 .any D R (fun k => a'.tmps.getD k undef) w' oi.after.toList := leans2_of _ fun e he hbn => by
          have h1 := hback e (by simpa using he) hbn
          exact hR e.on (by omega) (hdeps e (by simpa using he) hbn)
        have hgr := eachRel2_at (l.take n) 0 each i oi (by rw [List.getElem?_take_of_lt hin]; simpa using hoi) (fun k => a'.tmps.getD k undef) w' hb hl
        rw [← ag.eq hd, Nat.zero_add] at hgr
        have hds : d < a'.tmps.size := by rw [ag.size]; exact hd d hdm
        have ndup : ∀ j, j < n → ¬ j = i → ¬ D.getD j 0 = d := by
          intro j hj hji e
          obtain ⟨_, dj, _, _, hDj, _⟩ := facts j hj
          have hgj : D.getD j 0 = dj := by simp [List.getD, hDj]
          have h1 : i < D.length := by omega
          have h2 : j < D.length := by omega
          rw [hgj] at e
          subst e
          rw [List.getElem?_eq_getElem h1] at hDi
          rw [List.getElem?_eq_getElem h2] at hDj
          have h3 : D[i] = D[j] := by
            rw [Option.some.inj hDi, Option.some.inj hDj]
          exact hji ((List.getElem_inj hnd).1 h3).symm
        have fin : ∀ v w'', Below w'.heap.size w' w'' → R i (upd (fun k => a'.tmps.getD k undef) (D.getD i 0) v) w'' → wpAny P .any l.toArray Q (m + (l.toArray.size - n)) (done.setIfInBounds i true) (a'.put oi.dst v) w'' := by
          intro v w'' hb2 hr
          rw [hdst]
          have hf : (fun k => (a'.put (some d) v).tmps.getD k undef) = upd (fun k => a'.tmps.getD k undef) (D.getD i 0) v := by
            funext k
            rw [hgd]
            unfold upd
            by_cases hk : k = d
            · rw [if_pos hk, hk]
              simp [Act.put, Array.getD_eq_getD_getElem?, Array.getElem?_setIfInBounds, hds]
            · rw [if_neg hk]
              have hk' : ¬ d = k := fun e => hk e.symm
              simp [Act.put, Array.getD_eq_getD_getElem?, Array.getElem?_setIfInBounds, hk']
          refine ih _ _ _ (by have := undone_set hin his hunf; omega) (inv.set hi hin) (ag.put hdm v) (hb.trans (hb2.mono hb.size)) fun j hj hdj => ?_
          rw [hf]
          by_cases hji : j = i
          · subst hji
            exact hr
          · rw [getD_set _ _ _ his, if_neg hji] at hdj
            obtain ⟨oj, dj, hoj, _, hDj, _⟩ := facts j hj
            have hne := ndup j hj hji
            refine loc j _ _ w'' oj (by simpa using hoj) ?_ (fun e he hbn => ?_) (stays _ _ _ _ (hR j hj hdj) hb2)
            · unfold upd
              rw [hgd, if_neg hne]
            · have hde := inv.closed j oj hoj hdj e he hbn
              have hen : e.on < n := by
                apply Nat.lt_of_not_le
                intro hle
                by_cases hsz : e.on < l.toArray.size
                · have h1 := getD_both (inv.tail e.on hle hsz)
                  rw [hde] at h1
                  cases h1
                · rw [Array.getD_eq_getD_getElem?, Array.getElem?_eq_none (by rw [inv.size]; omega)] at hde
                  cases hde
              have hei : ¬ e.on = i := by
                intro e2
                rw [e2, hunf] at hde
                cases hde
              unfold upd
              rw [hgd, if_neg (ndup e.on hen hei)]
        show wpOp P l.toArray Q i _ a' w'
        unfold wpOp
        simp only [hoi]
        unfold gop at hgr
        split
        · rename_i hwan
          rw [if_pos hwan] at hgr
          exact .inl (wp_of_grows hgr fin)
        · rename_i hwan
          rw [if_neg hwan] at hgr
          exact fin _ _ (Below.refl _ _) hgr
  refine wp_region_any hm ?_
  have inv0 : HeadInv .any l.toArray n (Array.replicate l.toArray.size false) :=
    ⟨by simp, fun j oj _ hl => by (rw [getD_replicate_false] at hl; cases hl), fun t _ ht => getD_in (by simpa using ht) (getD_replicate_false _ _)⟩
  have hu : undone (Array.replicate l.toArray.size false) n = n := by
    have : ∀ k, undone (Array.replicate l.toArray.size false) k = k := by
      intro k
      induction k with
      | zero => rfl
      | succ k ih => unfold undone; rw [ih, getD_replicate_false]; simp
    exact this n
  have := key n (Array.replicate l.toArray.size false) a { w with drawn := w.drawn + 1 } hu inv0 ⟨rfl, rfl, fun _ _ => rfl⟩ ((Below.refl _ _).drew) (fun i _ h => by rw [getD_replicate_false] at h; cases h)
  rwa [show n + (l.toArray.size - n) = l.toArray.size by omega] at this
end
end Go.Proofs.YtlcnhpjmmjmkcaaDoor
