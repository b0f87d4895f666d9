
/-
  A map of the call's own from numbers to trips: made, written, asked. Conditions: the numbers fit.
-/
import Derived.Test.YtemakmnoncmpbaaDataT
import Derived.Test.YtemakmnoncmpbaaDiff
import Derived.Maps.OwnSet
import Derived.Maps.OwnOps
set_option linter.unusedVariables false
set_option linter.unusedSimpArgs false
namespace Go.Proofs.Ytemakmnoncmpbaa
open Go Go.Maps Go.Joins Go.ChangeShapes Go.WideShapes Go.ChangeAt Go.RowKit Go.Deep

def tripData (t : Trip) : DataW Unit := .agg [.lit (.int .i64 t.id), .lit (.int .i64 t.arrive), .lit (.int .i64 t.from_), .lit (.int .i64 t.dest), .lit (.int .i64 t.car), .lit (.int .i64 t.board), .lit (.int .i64 t.alight)]
/-- How a trip reads as a map's element. -/
def tripElem : Value → Option (DataW Unit × List MemPlace)
  | .agg cs => match cs.toList with
    | [.int .i64 a, .int .i64 b, .int .i64 c, .int .i64 d, .int .i64 e, .int .i64 f, .int .i64 g] => some (tripData ⟨a, b, c, d, e, f, g⟩, [])
    | _ => none
  | _ => none
theorem tripElem_mk (t : Trip) : tripElem t.val = some (tripData t, []) := rfl
theorem tripData_inj {t u : Trip} (h : tripData t = tripData u) : t = u := by
  obtain ⟨a0, a1, a2, a3, a4, a5, a6⟩ := t
  obtain ⟨b0, b1, b2, b3, b4, b5, b6⟩ := u
  simpa [tripData] using h
theorem tripElem_inv {v : Value} {t : Trip} {ps : List MemPlace} (h : tripElem v = some (tripData t, ps)) : v = t.val := by
  unfold tripElem at h
  split at h
  · rename_i cs
    split at h
    · rename_i a b c d e f g hl
      simp only [Option.some.injEq, Prod.mk.injEq] at h
      have := tripData_inj h.1
      subst this
      show Value.agg cs = _
      obtain ⟨l⟩ := cs
      simp only at hl
      rw [hl]
    · cases h
  · cases h
abbrev I64n (k : Int) : Prop := -9223372036854775808 ≤ k ∧ k ≤ 9223372036854775807
/-- Block b is a map of the call's own, of at most n entries, that tells f. -/
def MapIs (w : World) (b n : Nat) (f : Int → Option Trip) : Prop :=
  ∃ D : DataW Unit, w.ownsMap Try.prog 3 tripElem b n D ∧ ∀ k, I64n k → Maps.has D (.int .i64 k) = (f k).isSome ∧ ∀ t, f k = some t → ∀ z, D.atKey (.int .i64 k) z = tripData t
theorem MapIs.lt {w : World} {b n : Nat} {f : Int → Option Trip} (h : MapIs w b n f) : b < w.heap.size := by obtain ⟨D, h, _⟩ := h; exact h.lt
theorem mapIs_made (w : World) : MapIs (w.alloc (.map #[] 0)) w.heap.size 0 (fun _ => none) :=
  ⟨_, World.ownsMap_made w _ _ _, fun k _ => ⟨rfl, fun t h => by cases h⟩⟩
theorem MapIs.kept {w w' : World} {b n : Nat} {f : Int → Option Trip} {row : Option Nat} (h : MapIs w b n f) (hg : w.grownBy w' row) (hne : some b ≠ row) : MapIs w' b n f := by
  obtain ⟨D, h1, h2⟩ := h
  exact ⟨D, h1.kept hg hne, h2⟩
theorem MapIs.alloc {w : World} {b n : Nat} {f : Int → Option Trip} (h : MapIs w b n f) (o : Obj) : MapIs (w.alloc o) b n f := by
  obtain ⟨D, h1, h2⟩ := h
  exact ⟨D, h1.alloc o, h2⟩
theorem MapIs.drewN {w : World} {b n : Nat} {f : Int → Option Trip} (h : MapIs w b n f) (m : Nat) : MapIs (w.drewN m) b n f := h
theorem MapIs.setCell {w : World} {b n : Nat} {f : Int → Option Trip} (h : MapIs w b n f) {a : Addr} (ha : b ≠ a.block) (u : Value) : MapIs (w.setCell a u) b n f := by
  obtain ⟨D, h1, h2⟩ := h
  exact ⟨D, h1.setCell ha u, h2⟩
theorem keyedI : Keyed Try.prog 3 := int_keyed Try.underlying3
theorem keyI {k : Int} (h : I64n k) : keyOf Try.prog 3 (.int .i64 k) = some (.int .i64 k) := keyOf_int_mk Try.underlying3 (by simp [Lit.wf, IntKind.min, IntKind.max, IntKind.signed, IntKind.bits]; omega)
theorem zeroTrip (w : World) : (zeroValue 28).run Try.prog w = .ok (Trip.val ⟨0, 0, 0, 0, 0, 0, 0⟩) w := by kernel_rfl
/-- What the map tells of a number. -/
def lookV (o : Option Trip) : Trip := o.getD ⟨0, 0, 0, 0, 0, 0, 0⟩
theorem MapIs.look {w : World} {b n : Nat} {f : Int → Option Trip} (h : MapIs w b n f) {k : Int} (hk : I64n k) :
    (Instr.lookup 41 (.map (some b)) (.int .i64 k) true).run Try.prog w = .ok (.tuple #[(lookV (f k)).val, .bool (f k).isSome]) w := by
  obtain ⟨D, h1, h2⟩ := h
  obtain ⟨e1, e2⟩ := h2 k hk
  obtain ⟨v, ps, hrun, hv⟩ := h1.look_ok keyedI Try.underlying41 (zeroTrip w) (tripElem_mk _) (keyI hk)
  rw [e1] at hrun
  rw [hrun]
  cases hf : f k with
  | none =>
    rw [hf] at e1
    rw [Maps.atKey_of_not_has e1] at hv
    rw [tripElem_inv hv]
    rfl
  | some t =>
    rw [e2 t hf] at hv
    rw [tripElem_inv hv]
    rfl
/-- .. with one entry more. -/
def putF (f : Int → Option Trip) (k : Int) (t : Trip) : Int → Option Trip := fun j => if j = k then some t else f j
theorem wpList_put_trip {w : World} {ops : Array Oper} {rest : List Oper} {o : Oper} {a : Act} {Q : Exit → Act → World → Prop}
    (hg : o.guard = none) (m x v : Operand) (hop : o.op = Op.mapUpdate 41 m x v) (b n : Nat) (f : Int → Option Trip)
    (hm : a.eval m = .map (some b)) (hown : MapIs w b n f) (hn : n < maxLen) (k : Int) (t : Trip) (hx : a.eval x = .int .i64 k) (hv : a.eval v = t.val) (hk : I64n k)
    (hK : ∀ w', MapIs w' b (n + 1) (putF f k t) → w.grownBy w' (some b) → wpList Try.prog ops Q rest (a.put o.dst undef) w') :
    wpList Try.prog ops Q (o :: rest) a w := by
  obtain ⟨D, h1, h2⟩ := hown
  refine wpList_mapUpdate_own w hg m x v 41 hop 3 28 keyedI Try.underlying41 tripElem b n D hm h1 hn _ _ _ hx hv (keyI hk) (tripData t) [] (tripElem_mk t) ?_
  intro w' h1' hgr
  refine hK w' ⟨_, h1', fun j hj => ?_⟩ hgr
  have hD : Maps.IsMap D := h1.isMap
  have hkl := keyedI.key (keyI hk)
  unfold putF
  by_cases e : j = k
  · subst e
    rw [if_pos rfl, Maps.has_put_same hD hkl]
    refine ⟨rfl, fun u hu z => ?_⟩
    injection hu with hu
    subst hu
    exact Maps.atKey_put_same hD hkl _ _
  · have hne : (Lit.int .i64 j) ≠ (Lit.int .i64 k) := fun h => e (by injection h)
    rw [if_neg e, Maps.has_put_other hne]
    refine ⟨(h2 j hj).1, fun u hu z => ?_⟩
    rw [Maps.atKey_put_other hne]
    exact (h2 j hj).2 u hu z
theorem below_grown {b : Nat} {W w w' : World} (h : Below W.heap.size W w) (hg : w.grownBy w' (some b)) (hb : W.heap.size ≤ b) : Below W.heap.size W w' :=
  h.trans ⟨hg.os, hg.tape, hg.output, hg.size, fun i hi => hg.block i (Nat.lt_of_lt_of_le hi h.size) (fun e => by injection e with e; omega)⟩
theorem MapIs.below {w w' : World} {B b n : Nat} {f : Int → Option Trip} (h : MapIs w b n f) (hb : Below B w w') (hlt : b < B) : MapIs w' b n f := by
  obtain ⟨D, ⟨es, clock, hblk, rest⟩, h2⟩ := h
  exact ⟨D, ⟨es, clock, (hb.block b hlt).trans hblk, rest⟩, h2⟩
theorem wpList_look_trip {w : World} {ops : Array Oper} {rest : List Oper} {o : Oper} {a : Act} {Q : Exit → Act → World → Prop}
    (hg : o.guard = none) (m x : Operand) (hop : o.op = Op.lookup 41 m x true) (b n : Nat) (f : Int → Option Trip)
    (hm : a.eval m = .map (some b)) (hown : MapIs w b n f) (k : Int) (hx : a.eval x = .int .i64 k) (hk : I64n k) (u : Trip) (q : Bool) (hu : lookV (f k) = u) (hq : (f k).isSome = q)
    (hK : wpList Try.prog ops Q rest (a.put o.dst (.tuple #[u.val, .bool q])) w) :
    wpList Try.prog ops Q (o :: rest) a w := by
  refine wpList_plain hg fun K' hK' => ?_
  have hrun := hown.look hk
  rw [hu, hq] at hrun
  unfold Oper.wp
  simp [execOp, hop, hm, hx, hrun, Result.andThen]
  exact hK' _ _ hK
/-- What a map tells that was filled with the first k trips. -/
def mapF (xs : List Trip) : Nat → Int → Option Trip
  | 0 => fun _ => none
  | k + 1 => putF (mapF xs k) (tripAtD xs k).id (tripAtD xs k)
/-- Is it another trip than the map tells? -/
def isChg (f : Int → Option Trip) (t : Trip) : Bool := (f t.id).isSome && !tripEq (lookV (f t.id)) t
/-- The numbers of those of the first k that are. -/
def chgN (f : Int → Option Trip) (ys : List Trip) : Nat → List Int
  | 0 => []
  | k + 1 => if isChg f (tripAtD ys k) = true then chgN f ys k ++ [(tripAtD ys k).id] else chgN f ys k
theorem chgN_len (f : Int → Option Trip) (ys : List Trip) (k : Nat) : (chgN f ys k).length ≤ k := by
  induction k with
  | zero => simp [chgN]
  | succ k ih => simp only [chgN]; split <;> (try simp) <;> omega
/-- The last of the first k trips of a number; -1: there is none. -/
def lastN (xs : List Trip) (id : Int) : Nat → Int
  | 0 => -1
  | k + 1 => if (tripAtD xs k).id = id then (k : Int) else lastN xs id k
theorem lastN_bd (xs : List Trip) (id : Int) (k : Nat) : -1 ≤ lastN xs id k ∧ lastN xs id k < k ∨ lastN xs id k = -1 := by
  induction k with
  | zero => simp [lastN]
  | succ k ih => simp only [lastN]; split <;> omega
theorem mapF_last (xs : List Trip) (id : Int) (k : Nat) : mapF xs k id = if 0 ≤ lastN xs id k then some (tripAtD xs (lastN xs id k).toNat) else none := by
  induction k with
  | zero => simp [mapF, lastN]
  | succ k ih =>
    by_cases e : (tripAtD xs k).id = id
    · have h1 : lastN xs id (k + 1) = k := by simp only [lastN]; rw [if_pos e]
      have h2 : mapF xs (k + 1) id = some (tripAtD xs k) := by simp only [mapF, putF]; rw [if_pos e.symm]
      rw [h1, h2, if_pos (by omega)]
      simp
    · have h1 : lastN xs id (k + 1) = lastN xs id k := by simp only [lastN]; rw [if_neg e]
      have h2 : mapF xs (k + 1) id = mapF xs k id := by simp only [mapF, putF]; rw [if_neg (fun h => e h.symm)]
      rw [h1, h2]
      exact ih
end Go.Proofs.Ytemakmnoncmpbaa
