
/-
  Readers: what the cells of a value read as, type by type, stable while old memory stays. No conditions.
-/
import Derived.WalkKit
import Derived.ProofKit
import Derived.OpenShut
import Derived.ShutString
import Derived.ChangeOld
import Derived.Below
import Derived.Deep.Slices
import Derived.Deep.Fields
import Derived.Lib.Hide
import Derived.Lib.SmallJoins
set_option linter.unusedVariables false
set_option linter.unusedSimpArgs false
namespace Go.Proofs.YtgfhgopfhcakhaaDoor
open Go.ChangeShapes Go.WideShapes Go.ChangeAt Go.RowKit Go.Deep

theorem ret_int {k : IntKind} {a b : Int} (h : a = b) : Ending.returned (.int k a) = .returned (.int k b) := by rw [h]
theorem val_int {k : IntKind} {a b : Int} (h : a = b) : Value.int k a = .int k b := by rw [h]
theorem ret_bool {a b : Bool} (h : a = b) : Ending.returned (.bool a) = .returned (.bool b) := by rw [h]

theorem alloc_size (w : World) (o : Obj) : (w.alloc o).heap.size = w.heap.size + 1 := by simp
/-- Block g of the world is just this row of cells, none of them frozen. -/
def Blk (w : World) (g : Nat) (t : TypeId) (cs : Array Value) : Prop := w.heap[g]? = some (.cells cs t (0, 0))
section
variable {w w' : World} {g : Nat} {t : TypeId} {cs : Array Value}
theorem Blk.lt (h : Blk w g t cs) : g < w.heap.size := by
  rcases Nat.lt_or_ge g w.heap.size with hl | hl
  · exact hl
  · unfold Blk at h
    rw [Array.getElem?_eq_none hl] at h
    cases h
theorem Blk.cell (h : Blk w g t cs) (i : Nat) : w.cell? ⟨g, i, none⟩ = cs[i]? := Joins.cell_of_block h i
theorem Blk.free (h : Blk w g t cs) (i : Nat) : w.frozen? ⟨g, i, none⟩ = false := Joins.unfrozen_of_block h i
theorem Blk.new (w : World) (t : TypeId) (cs : Array Value) : Blk (w.alloc (.cells cs t)) w.heap.size t cs := heap_alloc_new w _
theorem Blk.alloc (h : Blk w g t cs) (o : Obj) : Blk (w.alloc o) g t cs := (Below.heap_alloc w o g h.lt).trans h
theorem Blk.drewN (h : Blk w g t cs) (n : Nat) : Blk (w.drewN n) g t cs := h
theorem Blk.drew (h : Blk w g t cs) : Blk w.drew g t cs := h
theorem Blk.below {B : Nat} (h : Blk w g t cs) (hb : Below B w w') (hg : g < B) : Blk w' g t cs := (hb.block g hg).trans h
theorem Blk.far (h : Blk w g t cs) {p : Addr} (hp : g ≠ p.block) (u : Value) : Blk (w.setCell p u) g t cs := (Below.heap_setCell w p u g hp).trans h
theorem Blk.set_ (h : Blk w g t cs) (i : Nat) (u : Value) : Blk (w.setCell ⟨g, i, none⟩ u) g t (cs.setIfInBounds i u) := Joins.block_setCell h u
end
/-- What a call leaves: below the old size all cells and marks read as they did. -/
theorem bcell {W W1 : World} (hb : Below W.heap.size W W1) : (∀ b o, b < W.heap.size → W1.cell? ⟨b, o, none⟩ = W.cell? ⟨b, o, none⟩) ∧ (∀ b o, b < W.heap.size → W1.frozen? ⟨b, o, none⟩ = W.frozen? ⟨b, o, none⟩) :=
  ⟨fun b o h => hb.cell (p := ⟨b, o, none⟩) h, fun b o h => hb.frozen (p := ⟨b, o, none⟩) h⟩
theorem below_drewN {B : Nat} {a w : World} (h : Below B a w) (n : Nat) : Below B a (w.drewN n) := ⟨h.os, h.tape, h.output, h.size, h.block⟩
/-- A cell that is there reads the same behind a call that leaves old memory. -/
theorem keepc {w w' : World} (hb : Below w.heap.size w w') {a : Addr} {v : Value} (h : w.cell? a = some v) : w'.cell? a = some v := (hb.cell (World.block_lt_of_cell? w a h)).trans h
/-- A struct or an array that a function keeps in a cell row of its own. -/
theorem box (w : World) (t : TypeId) (cs : Array Value) : Below w.heap.size w (w.alloc (.cells cs t)) ∧ (∀ i, (w.alloc (.cells cs t)).cell? ⟨w.heap.size, i, none⟩ = cs[i]?) ∧ (w.alloc (.cells cs t)).heap.size = w.heap.size + 1 :=
  ⟨Joins.below_alloc1 _ _, fun i => (Blk.new w t cs).cell i, alloc_size _ _⟩
theorem box2 (w : World) (t1 : TypeId) (c1 : Array Value) (t2 : TypeId) (c2 : Array Value) : Below w.heap.size w ((w.alloc (.cells c1 t1)).alloc (.cells c2 t2)) ∧ (∀ i, ((w.alloc (.cells c1 t1)).alloc (.cells c2 t2)).cell? ⟨w.heap.size, i, none⟩ = c1[i]?) ∧
    (∀ i, ((w.alloc (.cells c1 t1)).alloc (.cells c2 t2)).cell? ⟨w.heap.size + 1, i, none⟩ = c2[i]?) ∧ w.heap.size + 1 < ((w.alloc (.cells c1 t1)).alloc (.cells c2 t2)).heap.size := by
  refine ⟨Joins.below_alloc2 _ _ _, fun i => ((Blk.new w t1 c1).alloc (.cells c2 t2)).cell i, fun i => ?_, by simp⟩
  have := (Blk.new (w.alloc (.cells c1 t1)) t2 c2).cell i
  rwa [alloc_size] at this
/-- What is held through a region: all that stood at its start. -/
theorem hold0 (W : World) : Below W.heap.size W W.drew ∧ ∀ b o, b < W.heap.size → W.drew.cell? ⟨b, o, none⟩ = W.cell? ⟨b, o, none⟩ := ⟨(Below.refl _ _).drew, fun _ _ _ => rfl⟩
theorem hold1 {W w w' : World} (h : Below W.heap.size W w ∧ ∀ b o, b < W.heap.size → w.cell? ⟨b, o, none⟩ = W.cell? ⟨b, o, none⟩) (hb : Below w.heap.size w w') :
    Below W.heap.size W w' ∧ ∀ b o, b < W.heap.size → w'.cell? ⟨b, o, none⟩ = W.cell? ⟨b, o, none⟩ :=
  have hh := h.1.trans (hb.mono h.1.size)
  ⟨hh, fun b o hlt => hh.cell (p := ⟨b, o, none⟩) hlt⟩
theorem hold2 {W w : World} (h : Below W.heap.size W w ∧ ∀ b o, b < W.heap.size → w.cell? ⟨b, o, none⟩ = W.cell? ⟨b, o, none⟩) (n : Nat) :
    Below W.heap.size W (w.drewN n) ∧ ∀ b o, b < W.heap.size → (w.drewN n).cell? ⟨b, o, none⟩ = W.cell? ⟨b, o, none⟩ := ⟨below_drewN h.1 n, h.2⟩
theorem getD_map {α β : Type} (l : List α) (f : α → β) (d : α) (k : Nat) (h : k < l.length) : (l.map f).toArray[k]? = some (f (l.getD k d)) := by
  simp [List.getD, List.getElem?_eq_getElem h]

abbrev Reader (α : Type) := World → List Value → α → Prop

/-- A reading stays while nothing that was there turns. -/
def Reader.Stays {α : Type} (R : Reader α) : Prop := ∀ (w w' : World) (cs : List Value) (a : α), R w cs a → Below w.heap.size w w' → R w' cs a

def RInt (k : IntKind) : Reader Int := fun _ cs n => cs = [.int k n] ∧ (Lit.int k n).wf = true
def RBool : Reader Bool := fun _ cs b => cs = [.bool b]
def RStr : Reader ByteArray := fun _ cs s => cs = [.string s] ∧ s.size ≤ maxLen

theorem RInt.stays (k : IntKind) : (RInt k).Stays := fun _ _ _ _ h _ => h
theorem RBool.stays : RBool.Stays := fun _ _ _ _ h _ => h
theorem RStr.stays : RStr.Stays := fun _ _ _ _ h _ => h

/-- A slice whose elements read as the list xs; an element has 'size' cells. -/
def RSlice {α : Type} (size : Nat) (R : Reader α) : Reader (List α) := fun w cs xs =>
  ∃ (A : Option Addr) (cap : Nat), cs = [.slice A xs.length cap] ∧ xs.length ≤ cap ∧ cap ≤ maxLen ∧
    (0 < xs.length → ∃ b off, A = some ⟨b, off, none⟩ ∧ b < w.heap.size ∧
      ∀ i a, xs[i]? = some a → ∃ es, R w es a ∧ es.length = size ∧ ∀ j u, es[j]? = some u → w.cell? ⟨b, off + i * size + j, none⟩ = some u)

theorem RSlice.stays {α : Type} {size : Nat} {R : Reader α} (hR : R.Stays) : (RSlice size R).Stays := by
  rintro w w' cs xs ⟨A, cap, hcs, hl, hm, h⟩ hb
  refine ⟨A, cap, hcs, hl, hm, fun hp => ?_⟩
  obtain ⟨b, off, hA, hlt, hx⟩ := h hp
  refine ⟨b, off, hA, Nat.lt_of_lt_of_le hlt hb.size, fun i a hi => ?_⟩
  obtain ⟨es, h1, h2, h3⟩ := hx i a hi
  exact ⟨es, hR _ _ _ _ h1 hb, h2, fun j u hj => (hb.cell (p := ⟨b, off + i * size + j, none⟩) hlt).trans (h3 j u hj)⟩

section
variable {α : Type} {H : Type} {enc : TypeId × Value → H} {P : Program} {w : World} {base : Nat} {spare : Nat → Bool} {held : Bool}

theorem read_int {t : TypeId} {k : IntKind} (ht : P.underlying t = some (.int k)) {n : Nat} {cs : List Value} {x : DataW H × List MemPlace} (h : DataW.trod enc P w base spare held n t cs = some x) : ∃ a, RInt k w cs a := by
  obtain ⟨a, rfl, _, hw⟩ := DataW.trod_int ht h
  exact ⟨a, rfl, hw⟩
theorem read_bool {t : TypeId} (ht : P.underlying t = some .bool) {n : Nat} {cs : List Value} {x : DataW H × List MemPlace} (h : DataW.trod enc P w base spare held n t cs = some x) : ∃ a, RBool w cs a := by
  obtain ⟨a, rfl, _⟩ := DataW.trod_bool ht h
  exact ⟨a, rfl⟩
theorem read_str {t : TypeId} (ht : P.underlying t = some .string) {n : Nat} {cs : List Value} {x : DataW H × List MemPlace} (h : DataW.trod enc P w base spare held n t cs = some x) : ∃ a, RStr w cs a := by
  obtain ⟨a, rfl, _, hw⟩ := DataW.trod_string ht h
  exact ⟨a, rfl, hw⟩

/-- A struct of one-cell fields, field by field. -/
theorem read_fields {t : TypeId} {fs : Array Field} (ht : P.underlying t = some (.struct fs)) (hone : oneCellFields P fs = true) (hC : P.cellsOf t = fs.size)
    {n : Nat} {cs : List Value} {x : DataW H × List MemPlace} (h : DataW.trod enc P w base spare held n t cs = some x) :
    cs.length = fs.size ∧ ∃ m, ∀ (j : Nat) (f : Field), fs[j]? = some f → ∃ (v : Value) (y : DataW H × List MemPlace), cs[j]? = some v ∧ DataW.trod enc P w base spare held m f.type [v] = some y := by
  obtain ⟨ys, m, _, _, hlen, hyl, hf⟩ := DataW.trod_struct ht h
  rw [hC] at hlen
  refine ⟨hlen, m, fun j f hj => ?_⟩
  obtain ⟨ho, hk⟩ := hone_of hone j f hj
  have hjl : j < fs.size := (Array.getElem?_eq_some_iff.1 hj).1
  have h1 := hf j f hj
  rw [ho, hk, List.drop_eq_getElem_cons (by omega)] at h1
  rw [show (cs[j]'(by omega) :: cs.drop (j + 1)).take 1 = [cs[j]'(by omega)] from rfl, List.getElem?_eq_getElem (by omega)] at h1
  exact ⟨_, _, List.getElem?_eq_getElem (by omega), h1⟩

theorem choose_list {n : Nat} {p : Nat → α → Prop} (h : ∀ i, i < n → ∃ x, p i x) : ∃ l : List α, l.length = n ∧ ∀ i a, l[i]? = some a → p i a := by
  induction n with
  | zero => exact ⟨[], rfl, fun i a hi => by simp at hi⟩
  | succ n ih =>
    obtain ⟨l, hl, hp⟩ := ih (fun i hi => h i (by omega))
    obtain ⟨x, hx⟩ := h n (by omega)
    refine ⟨l ++ [x], by simp [hl], fun i a hi => ?_⟩
    by_cases hin : i < l.length
    · rw [List.getElem?_append_left hin] at hi
      exact hp i a hi
    · rw [List.getElem?_append_right (by omega)] at hi
      have h0 : i - l.length = 0 := by
        rcases Nat.eq_zero_or_pos (i - l.length) with h0 | h0
        · exact h0
        · rw [List.getElem?_eq_none (by simp; omega)] at hi
          cases hi
      rw [h0] at hi
      simp at hi
      subst hi
      have : i = n := by omega
      subst this
      exact hx

theorem read_slice {t e : TypeId} {size : Nat} {R : Reader α} (ht : P.underlying t = some (.slice e)) (hc : P.cellsOf e = size) (hsz : 0 < size)
    (hR : ∀ (n : Nat) (cs : List Value) (x : DataW H × List MemPlace), DataW.trod enc P w base spare held n e cs = some x → ∃ a, R w cs a)
    {n : Nat} {cs : List Value} {x : DataW H × List MemPlace} (h : DataW.trod enc P w base spare held n t cs = some x) : ∃ a, RSlice size R w cs a := by
  rcases open_slice ht h with ⟨rfl, _⟩ | ⟨a, len, cap, m, n', D, Pl, rfl, hb, hl, hm, hmm, hx, hi⟩
  · exact ⟨[], none, 0, rfl, Nat.le_refl _, Nat.zero_le _, fun h => by simp at h⟩
  · subst hc
    obtain ⟨xs, hxl, hxs⟩ := choose_list (n := len) (p := fun i a' => ∃ es, R w es a' ∧ es.length = P.cellsOf e ∧ ∀ j u, es[j]? = some u → w.cell? (a.add (i * P.cellsOf e + j)) = some u) (by
      intro i hil
      obtain ⟨cs', hcs, htr⟩ := hi i (by rw [hmm]; split <;> omega)
      obtain ⟨a', ha'⟩ := hR _ _ _ htr
      obtain ⟨_, hcl, hat⟩ := World.cells?_some hcs
      refine ⟨a', cs', ha', hcl, fun j u hj => ?_⟩
      have hjl : j < P.cellsOf e := by
        have := (List.getElem?_eq_some_iff.1 hj).1
        omega
      rw [← Go.Deep.add_add, hat j hjl, hj])
    refine ⟨xs, some a, cap, by rw [hxl], by omega, hm, fun hpos => ?_⟩
    obtain ⟨es, _, hel, hce⟩ := hxs 0 (xs[0]'hpos) (List.getElem?_eq_getElem hpos)
    have h0 := hce 0 _ (List.getElem?_eq_getElem (by omega))
    have hadd : a.add (0 * P.cellsOf e + 0) = a := by simp [Addr.add]
    rw [hadd] at h0
    obtain ⟨b, off, spot⟩ := a
    obtain rfl : spot = none := World.cell?_spot h0
    refine ⟨b, off, rfl, World.block_lt_of_cell? w _ h0, fun i a' hia => ?_⟩
    obtain ⟨es', h1, h2, h3⟩ := hxs i a' hia
    refine ⟨es', h1, h2, fun j u hj => ?_⟩
    have := h3 j u hj
    rwa [show (⟨b, off, none⟩ : Addr).add (i * P.cellsOf e + j) = ⟨b, off + i * P.cellsOf e + j, none⟩ from by rw [Nat.add_assoc]; unfold Addr.add; split <;> simp_all] at this
end
end Go.Proofs.YtgfhgopfhcakhaaDoor
