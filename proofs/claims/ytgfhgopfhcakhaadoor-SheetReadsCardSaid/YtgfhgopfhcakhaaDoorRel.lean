
/-
  A region that draws its order, whose operations make memory: of each operation a fact on its value that stays while memory grows, whatever order is drawn; behind the first n, in one forced order, a tail.
-/
import Derived.Test.YtgfhgopfhcakhaaDoorSeq
set_option linter.unusedVariables false
set_option linter.unusedSimpArgs false
namespace Go.Proofs.YtgfhgopfhcakhaaDoor
open Go Go.Joins Go.RowKit
section
variable {P : Program}

/-- What an operation hands back, and that memory grows alone. -/
def growsUpon (P : Program) (w : World) (R : Value → World → Prop) : Result Next → Prop
  | .ok (.value u) w' => Below w.heap.size w w' ∧ R u w'
  | .ok (.enter f args) w' => Below w.heap.size w w' ∧ Calls P f args w' (fun e w'' => ∃ v, e = .returned v ∧ Below w.heap.size w w'' ∧ R v w'')
  | _ => False
def grows (P : Program) (o : Oper) (a : Act) (w : World) (R : Value → World → Prop) : Prop := growsUpon P w R ((execOp a.eval o).run P w)

/-- The same, and nothing where its guard bars it. -/
def gop (P : Program) (ops : Array Oper) (o : Oper) (a : Act) (w : World) (R : Value → World → Prop) : Prop := if Region.wanted o (yielded ops a.tmps) = true then grows P o a w R else R undef w
theorem wp_of_grows {o : Oper} {a : Act} {w : World} {R : Value → World → Prop} {K : Act → World → Prop} {Q : Exit → Act → World → Prop} (h : grows P o a w R) (hK : ∀ v w', Below w.heap.size w w' → R v w' → K (a.put o.dst v) w') : o.wp P a w K Q := by
  unfold grows at h
  unfold Oper.wp
  generalize (execOp a.eval o).run P w = r at *
  cases r with
  | ok n w' =>
    cases n <;> simp only [growsUpon] at h <;> simp only [Oper.upon]
    case value u => exact hK _ _ h.1 h.2
    case enter f args =>
      exact h.2.mono fun e w'' ⟨v, he, hb, hr⟩ => by subst he; exact hK _ _ hb hr
  | halt x w' => simp only [growsUpon] at h

/-- The frame with the operations' slots filled. -/
def frm (a : Act) : List Nat → (Nat → Value) → Act
  | [], _ => a
  | d :: D, f => frm { a with tmps := a.tmps.setIfInBounds d (f d) } D f
theorem frm_size (D : List Nat) : ∀ (a : Act) (f : Nat → Value), (frm a D f).tmps.size = a.tmps.size := by
  induction D with
  | nil => intro a f; rfl
  | cons d D ih => intro a f; unfold frm; rw [ih]; simp
theorem frm_defers (D : List Nat) : ∀ (a : Act) (f : Nat → Value), (frm a D f).defers = a.defers := by
  induction D with
  | nil => intro a f; rfl
  | cons d D ih => intro a f; unfold frm; rw [ih]
theorem frm_get (D : List Nat) : ∀ (a : Act) (f : Nat → Value) (k : Nat), (∀ d ∈ D, d < a.tmps.size) → (frm a D f).tmps[k]? = if k ∈ D then some (f k) else a.tmps[k]? := by
  induction D with
  | nil => intro a f k _; simp [frm]
  | cons d D ih =>
    intro a f k hd
    unfold frm
    rw [ih _ f k (fun x hx => by simp; exact hd x (by simp [hx]))]
    by_cases h1 : k ∈ D
    · simp [h1]
    · by_cases h2 : k = d
      · subst h2
        simp [h1, Array.getElem?_setIfInBounds, hd k (by simp)]
      · have : ¬ d = k := fun e => h2 e.symm
        simp [h1, h2, Array.getElem?_setIfInBounds, this]
/-- A frame that is the old one but for these slots. -/
structure Agree (a : Act) (D : List Nat) (a' : Act) : Prop where
  size : a'.tmps.size = a.tmps.size
  defers : a'.defers = a.defers
  get : ∀ k, k ∉ D → a'.tmps[k]? = a.tmps[k]?
theorem Agree.eq {a a' : Act} {D : List Nat} (h : Agree a D a') (hd : ∀ d ∈ D, d < a.tmps.size) : a' = frm a D (fun k => a'.tmps.getD k undef) := by
  obtain ⟨t', f'⟩ := a'
  have e1 : t' = (frm a D (fun k => t'.getD k undef)).tmps := by
    apply Array.ext_getElem?
    intro k
    rw [frm_get D a _ k hd]
    by_cases hk : k ∈ D
    · rw [if_pos hk]
      have : k < t'.size := by have := hd k hk; have := h.size; simp at this; omega
      simp [Array.getD_eq_getD_getElem?, Array.getElem?_eq_getElem this]
    · rw [if_neg hk]
      exact h.get k hk
  have e2 : f' = (frm a D (fun k => t'.getD k undef)).defers := by rw [frm_defers]; exact h.defers
  generalize hz : frm a D (fun k => t'.getD k undef) = z at *
  obtain ⟨zt, zf⟩ := z
  simp only at e1 e2
  rw [e1, e2]
theorem Agree.put {a a' : Act} {D : List Nat} (h : Agree a D a') {d : Nat} (hd : d ∈ D) (v : Value) : Agree a D (a'.put (some d) v) := by
  refine ⟨by simp [Act.put, h.size], by simp [Act.put, h.defers], fun k hk => ?_⟩
  have : ¬ d = k := fun e => hk (e ▸ hd)
  simp [Act.put, Array.getElem?_setIfInBounds, this, h.get k hk]

/-- How many of the first n are still to come. -/
def undone (done : Array Bool) : Nat → Nat
  | 0 => 0
  | k + 1 => undone done k + (if done.getD k false = true then 0 else 1)
theorem undone_zero {done : Array Bool} {n : Nat} (h : undone done n = 0) : ∀ i, i < n → done.getD i false = true := by
  induction n with
  | zero => intro i hi; omega
  | succ n ih =>
    intro i hi
    unfold undone at h
    split at h
    · rename_i hn
      by_cases hin : i = n
      · rw [hin]; exact hn
      · exact ih (by omega) i (by omega)
    · omega
theorem undone_some {done : Array Bool} {n m : Nat} (h : undone done n = m + 1) : ∃ i, i < n ∧ done.getD i false = false ∧ ∀ j, j < i → done.getD j false = true := by
  have key : ∀ n, (∀ j, j < n → done.getD j false = true) ∨ ∃ i, i < n ∧ done.getD i false = false ∧ ∀ j, j < i → done.getD j false = true := by
    intro n
    induction n with
    | zero => exact .inl fun j hj => by omega
    | succ n ih =>
      rcases ih with ih | ⟨i, h1, h2, h3⟩
      · by_cases hn : done.getD n false = true
        · refine .inl fun j hj => ?_
          by_cases e : j = n
          · rw [e]; exact hn
          · exact ih j (by omega)
        · exact .inr ⟨n, by omega, by simpa using hn, ih⟩
      · exact .inr ⟨i, by omega, h2, h3⟩
  rcases key n with hk | hk
  · exfalso
    have : ∀ k, k ≤ n → undone done k = 0 := by
      intro k
      induction k with
      | zero => intro _; rfl
      | succ k ih => intro hkn; unfold undone; rw [ih (by omega), if_pos (hk k (by omega))]
    rw [this n (Nat.le_refl _)] at h
    omega
  · exact hk
theorem getD_set (done : Array Bool) (i j : Nat) (hi : i < done.size) : (done.setIfInBounds i true).getD j false = if j = i then true else done.getD j false := by
  simp only [Array.getD_eq_getD_getElem?, Array.getElem?_setIfInBounds]
  by_cases h : i = j
  · subst h; simp [hi]
  · have h' : ¬ j = i := fun e => h e.symm
    simp [h, h']
theorem undone_set {done : Array Bool} {n i : Nat} (hi : i < n) (his : i < done.size) (hu : done.getD i false = false) : undone (done.setIfInBounds i true) n + 1 = undone done n := by
  have far : ∀ k, k ≤ i → undone (done.setIfInBounds i true) k = undone done k := by
    intro k
    induction k with
    | zero => intro _; rfl
    | succ k ih =>
      intro hk
      unfold undone
      have hne : ¬ k = i := by omega
      rw [ih (by omega), getD_set _ _ _ his, if_neg hne]
  induction n with
  | zero => omega
  | succ n ih =>
    unfold undone
    rw [getD_set _ _ _ his]
    by_cases hin : i = n
    · subst hin
      rw [far i (Nat.le_refl _), if_pos rfl, hu]
      simp
    · have := ih (by omega)
      have hne : ¬ n = i := by omega
      rw [if_neg hne]
      omega
/-- The first n done. -/
def doneN (s n : Nat) : Array Bool := ((List.range s).map fun i => decide (i < n)).toArray
def nodupB : List Nat → Bool
  | [] => true
  | d :: D => !(D.any (· == d)) && nodupB D
theorem nodup_of {D : List Nat} (h : nodupB D = true) : D.Nodup := by
  induction D with
  | nil => exact List.nodup_nil
  | cons d D ih =>
    simp only [nodupB, Bool.and_eq_true, Bool.not_eq_true'] at h
    refine List.nodup_cons.2 ⟨fun hm => ?_, ih h.2⟩
    have : D.any (· == d) = true := List.any_eq_true.2 ⟨d, hm, by simp⟩
    rw [this] at h
    cases h.1
/-- What is asked of the region's text. -/
def relB (md : Region.Mode) (ops : Array Oper) (n : Nat) (D : List Nat) : Bool :=
  Region.sinkB md ops n && Region.chainB md ops n && decide (n < ops.size) && Region.seqB md ops (ops.size - n) n (doneN ops.size n) &&
  (List.range n).all (fun i => match ops[i]? with
    | some o => (match o.dst with
      | some d => decide (D[i]? = some d)
      | none => false) && o.after.all (fun e => !Region.binds md e || decide (e.on < i))
    | none => false) && nodupB D && decide (D.length = n)
/-- What stands of the operations on which one leans. -/
def leans (md : Region.Mode) (D : List Nat) (R : Nat → Value → World → Prop) (f : Nat → Value) (w : World) : List Edge → Prop
  | [] => True
  | e :: es => (if Region.binds md e = true then R e.on (f (D.getD e.on 0)) w else True) ∧ leans md D R f w es
theorem leans_of {md : Region.Mode} {D : List Nat} {R : Nat → Value → World → Prop} {f : Nat → Value} {w : World} (l : List Edge) (h : ∀ e ∈ l, Region.binds md e = true → R e.on (f (D.getD e.on 0)) w) : leans md D R f w l := by
  induction l with
  | nil => trivial
  | cons e es ih =>
    refine ⟨?_, ih fun x hx => h x (by simp [hx])⟩
    split
    · rename_i hb; exact h e (by simp) hb
    · trivial
/-- Each operation, on its own. -/
def eachRel (P : Program) (ops : Array Oper) (md : Region.Mode) (W : World) (a : Act) (D : List Nat) (R : Nat → Value → World → Prop) : Nat → List Oper → Prop
  | _, [] => True
  | i, o :: os => (∀ f w, Below W.heap.size W w → leans md D R f w o.after.toList → gop P ops o (frm a D f) w (R i)) ∧ eachRel P ops md W a D R (i + 1) os
theorem eachRel_at {ops : Array Oper} {md : Region.Mode} {W : World} {a : Act} {D : List Nat} {R : Nat → Value → World → Prop} (l : List Oper) : ∀ (k : Nat), eachRel P ops md W a D R k l → ∀ i o, l[i]? = some o → ∀ f w, Below W.heap.size W w → leans md D R f w o.after.toList → gop P ops o (frm a D f) w (R (k + i)) := by
  induction l with
  | nil => intro k _ i o h; simp at h
  | cons x l ih =>
    intro k h i o hi
    cases i with
    | zero => simp at hi; subst hi; exact h.1
    | succ i =>
      simp at hi
      have := ih (k + 1) h.2 i o hi
      rwa [show k + 1 + i = k + (i + 1) by omega] at this
/-- At the end: what holds of each value. -/
def allRel (D : List Nat) (R : Nat → Value → World → Prop) (f : Nat → Value) (w : World) : Nat → Prop
  | 0 => True
  | k + 1 => allRel D R f w k ∧ R k (f (D.getD k 0)) w
end
section
variable {P : Program}
theorem wp_region_rel {id : Nat} {Q : Exit → Act → World → Prop} {a : Act} {w : World} {l : List Oper} (n : Nat) (D : List Nat) (R : Nat → Value → World → Prop) (hm : P.follows .mixedOrders = true) (hB : relB .any l.toArray n D = true)
    (hD : D.all (· < a.tmps.size) = true) (stays : ∀ i v w1 w2, R i v w1 → Below w1.heap.size w1 w2 → R i v w2)
    (each : eachRel P l.toArray .any w a D R 0 (l.take n))
    (tail : ∀ f w', Below w.heap.size w w' → allRel D R f w' n → wpList P l.toArray Q (l.drop n) (frm a D f) w') : (Code.region id l.toArray true).wp P Q a w := by
  unfold relB at hB
  simp only [Bool.and_eq_true, decide_eq_true_eq] at hB
  obtain ⟨⟨⟨⟨⟨⟨hs, hc⟩, hn⟩, hseq⟩, hops⟩, hnd⟩, hlen⟩ := hB
  replace hnd := nodup_of hnd
  have hd : ∀ d ∈ D, d < a.tmps.size := by
    intro d hdd
    have := List.all_eq_true.1 hD d hdd
    simpa using this
  have hn' : n < l.length := by simpa using hn
  have facts : ∀ i, i < n → ∃ o d, l.toArray[i]? = some o ∧ o.dst = some d ∧ D[i]? = some d ∧ ∀ e ∈ o.after, Region.binds .any e = true → e.on < i := by
    intro i hi
    have h := List.all_eq_true.1 hops i (List.mem_range.2 hi)
    cases ho : l.toArray[i]? with
    | none => rw [ho] at h; simp at h
    | some o =>
      rw [ho] at h
      simp only [Bool.and_eq_true] at h
      obtain ⟨hdst, haf⟩ := h
      cases hdd : o.dst with
      | none => rw [hdd] at hdst; simp at hdst
      | some d =>
        rw [hdd] at hdst
        refine ⟨o, d, rfl, hdd, by simpa using hdst, fun e he hb => ?_⟩
        have := Array.all_eq_true'.1 haf e he
        rw [hb] at this
        simpa using this
  have key : ∀ m done (a' : Act) (w' : World), undone done n = m → HeadInv .any l.toArray n done → Agree a D a' → Below w.heap.size w w' → (∀ i, i < n → done.getD i false = true → R i (a'.tmps.getD (D.getD i 0) undef) w') →
      wpAny P .any l.toArray Q (m + (l.toArray.size - n)) done a' w' := by
    intro m
    induction m with
    | zero =>
      intro done a' w' hu inv ag hb hR
      have hall := undone_zero hu
      have e : done = doneN l.toArray.size n := by
        apply Array.ext_getElem?
        intro k
        unfold doneN
        by_cases hk : k < l.toArray.size
        · have hk2 : k < done.size := by rw [inv.size]; exact hk
          rw [Array.getElem?_eq_getElem hk2, Array.getElem?_eq_getElem (by simpa using hk)]
          congr 1
          simp only [List.getElem_toArray, List.getElem_map, List.getElem_range]
          by_cases hkn : k < n
          · have := hall k hkn
            simp [Array.getD_eq_getD_getElem?, Array.getElem?_eq_getElem hk2] at this
            simp [this, hkn]
          · have := inv.tail k (by omega) hk
            simp [Array.getD_eq_getD_getElem?, Array.getElem?_eq_getElem hk2] at this
            simp [this, hkn]
        · rw [Array.getElem?_eq_none (by rw [inv.size]; omega), Array.getElem?_eq_none (by simpa using hk)]
      have hf := tail (fun k => a'.tmps.getD k undef) w' hb (by
        have : ∀ k, k ≤ n → allRel D R (fun k => a'.tmps.getD k undef) w' k := by
          intro k
          induction k with
          | zero => intro _; trivial
          | succ k ih => intro hk; exact ⟨ih (by omega), hR k (by omega) (hall k (by omega))⟩
        exact this n (Nat.le_refl _))
      rw [← ag.eq hd] at hf
      have hdl : (l.drop n).length = l.toArray.size - n := by simp
      have := wpAny_of_seq (md := .any) (Q' := Q) (l.drop n) n done a' w' (fun j => by simp [List.getElem?_drop]) (by rw [hdl, e]; exact hseq) hf
      rwa [hdl, ← Nat.zero_add (l.toArray.size - n)] at this
    | succ m ih =>
      intro done a' w' hu inv ag hb hR
      obtain ⟨i0, hi0, hu0, hlo⟩ := undone_some hu
      have hi0s : i0 < done.size := by rw [inv.size]; simp; omega
      rw [show m + 1 + (l.toArray.size - n) = (m + (l.toArray.size - n)) + 1 by omega]
      have hu0' := getD_in hi0s hu0
      refine ⟨fun h0 => ?_, fun i hi => ?_⟩
      · exfalso
        obtain ⟨o, d, ho, _, _, hback⟩ := facts i0 hi0
        have : i0 ∈ Region.ready .any l.toArray done := mem_ready.2 ⟨hu0', o, ho, fun e he hbn => hlo _ (hback e he hbn)⟩
        rw [h0] at this
        cases this
      · have hin : i < n := Nat.lt_of_not_le fun hle => tail_waits hs hc hn inv _ i0 rfl hi0 hu0' i hle hi
        obtain ⟨hun, oi, hoi, hdeps⟩ := mem_ready.1 hi
        obtain ⟨o, d, ho, hdst, hDi, hback⟩ := facts i hin
        obtain rfl : oi = o := Option.some.inj (hoi.symm.trans ho)
        have his : i < done.size := by rw [inv.size]; simp; omega
        have hunf : done.getD i false = false := getD_both hun
        have hdm : d ∈ D := List.mem_of_getElem? hDi
        have hgd : D.getD i 0 = d := by simp [List.getD, hDi]
        have hl : leans .any D R (fun k => a'.tmps.getD k undef) w' oi.after.toList := leans_of _ fun e he hbn => by
          have h1 := hback e (by simpa using he) hbn
          exact hR e.on (by omega) (hdeps e (by simpa using he) hbn)
        have hgr := eachRel_at (l.take n) 0 each i oi (by rw [List.getElem?_take_of_lt hin]; simpa using hoi) (fun k => a'.tmps.getD k undef) w' hb hl
        rw [← ag.eq hd, Nat.zero_add] at hgr
        have fin : ∀ v w'', Below w'.heap.size w' w'' → R i v w'' → wpAny P .any l.toArray Q (m + (l.toArray.size - n)) (done.setIfInBounds i true) (a'.put oi.dst v) w'' := by
          intro v w'' hb2 hr
          rw [hdst]
          refine ih _ _ _ (by have := undone_set hin his hunf; omega) (inv.set hi hin) (ag.put hdm v) (hb.trans (hb2.mono hb.size)) fun j hj hdj => ?_
          have hds : d < a'.tmps.size := by rw [ag.size]; exact hd d hdm
          by_cases hji : j = i
          · subst hji
            rw [hgd]
            simpa [Act.put, Array.getD_eq_getD_getElem?, Array.getElem?_setIfInBounds, hds] using hr
          · rw [getD_set _ _ _ his, if_neg hji] at hdj
            obtain ⟨_, dj, _, _, hDj, _⟩ := facts j hj
            have hgj : D.getD j 0 = dj := by simp [List.getD, hDj]
            have hne : ¬ d = dj := by
              intro e
              subst e
              have h1 : i < D.length := by omega
              have h2 : j < D.length := by omega
              rw [List.getElem?_eq_getElem h1] at hDi
              rw [List.getElem?_eq_getElem h2] at hDj
              have h3 : D[i] = D[j] := by
                rw [Option.some.inj hDi, Option.some.inj hDj]
              exact hji ((List.getElem_inj hnd).1 h3).symm
            have := stays _ _ _ _ (hR j hj hdj) hb2
            rw [hgj] at this ⊢
            simpa [Act.put, Array.getD_eq_getD_getElem?, Array.getElem?_setIfInBounds, hne] using this
        show wpOp P l.toArray Q i _ a' w'
        unfold wpOp
        simp only [hoi]
        unfold gop at hgr
        split
        · rename_i hwan
          rw [if_pos hwan] at hgr
          exact .inl (wp_of_grows hgr fin)
        · rename_i hwan
          rw [if_neg hwan] at hgr
          exact fin _ _ (Below.refl _ _) hgr
  refine wp_region_any hm ?_
  have inv0 : HeadInv .any l.toArray n (Array.replicate l.toArray.size false) :=
    ⟨by simp, fun j oj _ hl => by (rw [getD_replicate_false] at hl; cases hl), fun t _ ht => getD_in (by simpa using ht) (getD_replicate_false _ _)⟩
  have hu : undone (Array.replicate l.toArray.size false) n = n := by
    have : ∀ k, undone (Array.replicate l.toArray.size false) k = k := by
      intro k
      induction k with
      | zero => rfl
      | succ k ih => unfold undone; rw [ih, getD_replicate_false]; simp
    exact this n
  have := key n (Array.replicate l.toArray.size false) a { w with drawn := w.drawn + 1 } hu inv0 ⟨rfl, rfl, fun _ _ => rfl⟩ ((Below.refl _ _).drew) (fun i _ h => by rw [getD_replicate_false] at h; cases h)
  rwa [show n + (l.toArray.size - n) = l.toArray.size by omega] at this
end
end Go.Proofs.YtgfhgopfhcakhaaDoor
