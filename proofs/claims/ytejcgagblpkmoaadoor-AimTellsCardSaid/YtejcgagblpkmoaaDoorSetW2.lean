/-
  Readers: what the cells of a value read as, type by type, stable while old memory stays. No conditions. The seat's closed facts: the program's set-up word, and that its table of types is laid out. Bits of numbers with 64 bits: not, and the signs of xor and and. No conditions. Sets of numbers from 0 to 127 as two words: what the code's bit operations are in numbers. No conditions beyond the kinds. A region that draws its order: operations that only read and callees that leave old memory, and behind them, in one forced order, a tail (a store of the result). One walk in the order of the text. The arguments of the laws, opened: integers. No conditions. Arguments by value, and slices, opened. No conditions. A slice of ints that reads as a list. No conditions. Sets: bits.Has, With, Or, Sub, Below, From. Condition: the numbers fit their kinds. Sets: bits.From, bits.Of. Condition: the numbers fit their kinds.
-/
import Derived.WalkKit
import Derived.ProofKit
import Derived.OpenShut
import Derived.ShutString
import Derived.ChangeOld
import Derived.Below
import Derived.Deep.Slices
import Derived.Deep.Fields
import Derived.Lib.Hide
import Derived.Lib.SmallJoins
import Derived.Test.YtejcgagblpkmoaaDoorRows
import Derived.WalkLawsBesides
import Derived.BigQuiet
import Derived.Deep.QuietTactic
import Derived.Deep.RegionHeld3
import Derived.Deep.DeepCutAuto
import Derived.Laws.BitsAllLaws
import Derived.StillTail
set_option linter.unusedVariables false
set_option linter.unusedSimpArgs false
namespace Go.Proofs.YtejcgagblpkmoaaDoor
open Go.ChangeShapes Go.WideShapes Go.ChangeAt Go.RowKit Go.Deep

theorem ret_int {k : IntKind} {a b : Int} (h : a = b) : Ending.returned (.int k a) = .returned (.int k b) := by rw [h]
theorem val_int {k : IntKind} {a b : Int} (h : a = b) : Value.int k a = .int k b := by rw [h]
theorem ret_bool {a b : Bool} (h : a = b) : Ending.returned (.bool a) = .returned (.bool b) := by rw [h]

theorem alloc_size (w : World) (o : Obj) : (w.alloc o).heap.size = w.heap.size + 1 := by simp
/-- Block g of the world is just this row of cells, none of them frozen. -/
def Blk (w : World) (g : Nat) (t : TypeId) (cs : Array Value) : Prop := w.heap[g]? = some (.cells cs t (0, 0))
section
variable {w w' : World} {g : Nat} {t : TypeId} {cs : Array Value}
theorem Blk.lt (h : Blk w g t cs) : g < w.heap.size := by
  rcases Nat.lt_or_ge g w.heap.size with hl | hl
  · exact hl
  · unfold Blk at h
    rw [Array.getElem?_eq_none hl] at h
    cases h
theorem Blk.cell (h : Blk w g t cs) (i : Nat) : w.cell? ⟨g, i, none⟩ = cs[i]? := Joins.cell_of_block h i
theorem Blk.free (h : Blk w g t cs) (i : Nat) : w.frozen? ⟨g, i, none⟩ = false := Joins.unfrozen_of_block h i
theorem Blk.new (w : World) (t : TypeId) (cs : Array Value) : Blk (w.alloc (.cells cs t)) w.heap.size t cs := heap_alloc_new w _
theorem Blk.alloc (h : Blk w g t cs) (o : Obj) : Blk (w.alloc o) g t cs := (Below.heap_alloc w o g h.lt).trans h
theorem Blk.drewN (h : Blk w g t cs) (n : Nat) : Blk (w.drewN n) g t cs := h
theorem Blk.drew (h : Blk w g t cs) : Blk w.drew g t cs := h
theorem Blk.below {B : Nat} (h : Blk w g t cs) (hb : Below B w w') (hg : g < B) : Blk w' g t cs := (hb.block g hg).trans h
theorem Blk.far (h : Blk w g t cs) {p : Addr} (hp : g ≠ p.block) (u : Value) : Blk (w.setCell p u) g t cs := (Below.heap_setCell w p u g hp).trans h
theorem Blk.set_ (h : Blk w g t cs) (i : Nat) (u : Value) : Blk (w.setCell ⟨g, i, none⟩ u) g t (cs.setIfInBounds i u) := Joins.block_setCell h u
end
/-- What a call leaves: below the old size all cells and marks read as they did. -/
theorem bcell {W W1 : World} (hb : Below W.heap.size W W1) : (∀ b o, b < W.heap.size → W1.cell? ⟨b, o, none⟩ = W.cell? ⟨b, o, none⟩) ∧ (∀ b o, b < W.heap.size → W1.frozen? ⟨b, o, none⟩ = W.frozen? ⟨b, o, none⟩) :=
  ⟨fun b o h => hb.cell (p := ⟨b, o, none⟩) h, fun b o h => hb.frozen (p := ⟨b, o, none⟩) h⟩
theorem below_drewN {B : Nat} {a w : World} (h : Below B a w) (n : Nat) : Below B a (w.drewN n) := ⟨h.os, h.tape, h.output, h.size, h.block⟩
/-- A cell that is there reads the same behind a call that leaves old memory. -/
theorem keepc {w w' : World} (hb : Below w.heap.size w w') {a : Addr} {v : Value} (h : w.cell? a = some v) : w'.cell? a = some v := (hb.cell (World.block_lt_of_cell? w a h)).trans h
/-- A struct or an array that a function keeps in a cell row of its own. -/
theorem box (w : World) (t : TypeId) (cs : Array Value) : Below w.heap.size w (w.alloc (.cells cs t)) ∧ (∀ i, (w.alloc (.cells cs t)).cell? ⟨w.heap.size, i, none⟩ = cs[i]?) ∧ (w.alloc (.cells cs t)).heap.size = w.heap.size + 1 :=
  ⟨Joins.below_alloc1 _ _, fun i => (Blk.new w t cs).cell i, alloc_size _ _⟩
theorem box2 (w : World) (t1 : TypeId) (c1 : Array Value) (t2 : TypeId) (c2 : Array Value) : Below w.heap.size w ((w.alloc (.cells c1 t1)).alloc (.cells c2 t2)) ∧ (∀ i, ((w.alloc (.cells c1 t1)).alloc (.cells c2 t2)).cell? ⟨w.heap.size, i, none⟩ = c1[i]?) ∧
    (∀ i, ((w.alloc (.cells c1 t1)).alloc (.cells c2 t2)).cell? ⟨w.heap.size + 1, i, none⟩ = c2[i]?) ∧ w.heap.size + 1 < ((w.alloc (.cells c1 t1)).alloc (.cells c2 t2)).heap.size := by
  refine ⟨Joins.below_alloc2 _ _ _, fun i => ((Blk.new w t1 c1).alloc (.cells c2 t2)).cell i, fun i => ?_, by simp⟩
  have := (Blk.new (w.alloc (.cells c1 t1)) t2 c2).cell i
  rwa [alloc_size] at this
/-- What is held through a region: all that stood at its start. -/
theorem hold0 (W : World) : Below W.heap.size W W.drew ∧ ∀ b o, b < W.heap.size → W.drew.cell? ⟨b, o, none⟩ = W.cell? ⟨b, o, none⟩ := ⟨(Below.refl _ _).drew, fun _ _ _ => rfl⟩
theorem hold1 {W w w' : World} (h : Below W.heap.size W w ∧ ∀ b o, b < W.heap.size → w.cell? ⟨b, o, none⟩ = W.cell? ⟨b, o, none⟩) (hb : Below w.heap.size w w') :
    Below W.heap.size W w' ∧ ∀ b o, b < W.heap.size → w'.cell? ⟨b, o, none⟩ = W.cell? ⟨b, o, none⟩ :=
  have hh := h.1.trans (hb.mono h.1.size)
  ⟨hh, fun b o hlt => hh.cell (p := ⟨b, o, none⟩) hlt⟩
theorem hold2 {W w : World} (h : Below W.heap.size W w ∧ ∀ b o, b < W.heap.size → w.cell? ⟨b, o, none⟩ = W.cell? ⟨b, o, none⟩) (n : Nat) :
    Below W.heap.size W (w.drewN n) ∧ ∀ b o, b < W.heap.size → (w.drewN n).cell? ⟨b, o, none⟩ = W.cell? ⟨b, o, none⟩ := ⟨below_drewN h.1 n, h.2⟩
theorem getD_map {α β : Type} (l : List α) (f : α → β) (d : α) (k : Nat) (h : k < l.length) : (l.map f).toArray[k]? = some (f (l.getD k d)) := by
  simp [List.getD, List.getElem?_eq_getElem h]

abbrev Reader (α : Type) := World → List Value → α → Prop

/-- A reading stays while nothing that was there turns. -/
def Reader.Stays {α : Type} (R : Reader α) : Prop := ∀ (w w' : World) (cs : List Value) (a : α), R w cs a → Below w.heap.size w w' → R w' cs a

def RInt (k : IntKind) : Reader Int := fun _ cs n => cs = [.int k n] ∧ (Lit.int k n).wf = true
def RBool : Reader Bool := fun _ cs b => cs = [.bool b]
def RStr : Reader ByteArray := fun _ cs s => cs = [.string s] ∧ s.size ≤ maxLen

theorem RInt.stays (k : IntKind) : (RInt k).Stays := fun _ _ _ _ h _ => h
theorem RBool.stays : RBool.Stays := fun _ _ _ _ h _ => h
theorem RStr.stays : RStr.Stays := fun _ _ _ _ h _ => h

/-- A slice whose elements read as the list xs; an element has 'size' cells. -/
def RSlice {α : Type} (size : Nat) (R : Reader α) : Reader (List α) := fun w cs xs =>
  ∃ (A : Option Addr) (cap : Nat), cs = [.slice A xs.length cap] ∧ xs.length ≤ cap ∧ cap ≤ maxLen ∧
    (0 < xs.length → ∃ b off, A = some ⟨b, off, none⟩ ∧ b < w.heap.size ∧
      ∀ i a, xs[i]? = some a → ∃ es, R w es a ∧ es.length = size ∧ ∀ j u, es[j]? = some u → w.cell? ⟨b, off + i * size + j, none⟩ = some u)

theorem RSlice.stays {α : Type} {size : Nat} {R : Reader α} (hR : R.Stays) : (RSlice size R).Stays := by
  rintro w w' cs xs ⟨A, cap, hcs, hl, hm, h⟩ hb
  refine ⟨A, cap, hcs, hl, hm, fun hp => ?_⟩
  obtain ⟨b, off, hA, hlt, hx⟩ := h hp
  refine ⟨b, off, hA, Nat.lt_of_lt_of_le hlt hb.size, fun i a hi => ?_⟩
  obtain ⟨es, h1, h2, h3⟩ := hx i a hi
  exact ⟨es, hR _ _ _ _ h1 hb, h2, fun j u hj => (hb.cell (p := ⟨b, off + i * size + j, none⟩) hlt).trans (h3 j u hj)⟩

section
variable {α : Type} {H : Type} {enc : TypeId × Value → H} {P : Program} {w : World} {base : Nat} {spare : Nat → Bool} {held : Bool}

theorem read_int {t : TypeId} {k : IntKind} (ht : P.underlying t = some (.int k)) {n : Nat} {cs : List Value} {x : DataW H × List MemPlace} (h : DataW.trod enc P w base spare held n t cs = some x) : ∃ a, RInt k w cs a := by
  obtain ⟨a, rfl, _, hw⟩ := DataW.trod_int ht h
  exact ⟨a, rfl, hw⟩
theorem read_bool {t : TypeId} (ht : P.underlying t = some .bool) {n : Nat} {cs : List Value} {x : DataW H × List MemPlace} (h : DataW.trod enc P w base spare held n t cs = some x) : ∃ a, RBool w cs a := by
  obtain ⟨a, rfl, _⟩ := DataW.trod_bool ht h
  exact ⟨a, rfl⟩
theorem read_str {t : TypeId} (ht : P.underlying t = some .string) {n : Nat} {cs : List Value} {x : DataW H × List MemPlace} (h : DataW.trod enc P w base spare held n t cs = some x) : ∃ a, RStr w cs a := by
  obtain ⟨a, rfl, _, hw⟩ := DataW.trod_string ht h
  exact ⟨a, rfl, hw⟩

/-- A struct of one-cell fields, field by field. -/
theorem read_fields {t : TypeId} {fs : Array Field} (ht : P.underlying t = some (.struct fs)) (hone : oneCellFields P fs = true) (hC : P.cellsOf t = fs.size)
    {n : Nat} {cs : List Value} {x : DataW H × List MemPlace} (h : DataW.trod enc P w base spare held n t cs = some x) :
    cs.length = fs.size ∧ ∃ m, ∀ (j : Nat) (f : Field), fs[j]? = some f → ∃ (v : Value) (y : DataW H × List MemPlace), cs[j]? = some v ∧ DataW.trod enc P w base spare held m f.type [v] = some y := by
  obtain ⟨ys, m, _, _, hlen, hyl, hf⟩ := DataW.trod_struct ht h
  rw [hC] at hlen
  refine ⟨hlen, m, fun j f hj => ?_⟩
  obtain ⟨ho, hk⟩ := hone_of hone j f hj
  have hjl : j < fs.size := (Array.getElem?_eq_some_iff.1 hj).1
  have h1 := hf j f hj
  rw [ho, hk, List.drop_eq_getElem_cons (by omega)] at h1
  rw [show (cs[j]'(by omega) :: cs.drop (j + 1)).take 1 = [cs[j]'(by omega)] from rfl, List.getElem?_eq_getElem (by omega)] at h1
  exact ⟨_, _, List.getElem?_eq_getElem (by omega), h1⟩

theorem choose_list {n : Nat} {p : Nat → α → Prop} (h : ∀ i, i < n → ∃ x, p i x) : ∃ l : List α, l.length = n ∧ ∀ i a, l[i]? = some a → p i a := by
  induction n with
  | zero => exact ⟨[], rfl, fun i a hi => by simp at hi⟩
  | succ n ih =>
    obtain ⟨l, hl, hp⟩ := ih (fun i hi => h i (by omega))
    obtain ⟨x, hx⟩ := h n (by omega)
    refine ⟨l ++ [x], by simp [hl], fun i a hi => ?_⟩
    by_cases hin : i < l.length
    · rw [List.getElem?_append_left hin] at hi
      exact hp i a hi
    · rw [List.getElem?_append_right (by omega)] at hi
      have h0 : i - l.length = 0 := by
        rcases Nat.eq_zero_or_pos (i - l.length) with h0 | h0
        · exact h0
        · rw [List.getElem?_eq_none (by simp; omega)] at hi
          cases hi
      rw [h0] at hi
      simp at hi
      subst hi
      have : i = n := by omega
      subst this
      exact hx

theorem read_slice {t e : TypeId} {size : Nat} {R : Reader α} (ht : P.underlying t = some (.slice e)) (hc : P.cellsOf e = size) (hsz : 0 < size)
    (hR : ∀ (n : Nat) (cs : List Value) (x : DataW H × List MemPlace), DataW.trod enc P w base spare held n e cs = some x → ∃ a, R w cs a)
    {n : Nat} {cs : List Value} {x : DataW H × List MemPlace} (h : DataW.trod enc P w base spare held n t cs = some x) : ∃ a, RSlice size R w cs a := by
  rcases open_slice ht h with ⟨rfl, _⟩ | ⟨a, len, cap, m, n', D, Pl, rfl, hb, hl, hm, hmm, hx, hi⟩
  · exact ⟨[], none, 0, rfl, Nat.le_refl _, Nat.zero_le _, fun h => by simp at h⟩
  · subst hc
    obtain ⟨xs, hxl, hxs⟩ := choose_list (n := len) (p := fun i a' => ∃ es, R w es a' ∧ es.length = P.cellsOf e ∧ ∀ j u, es[j]? = some u → w.cell? (a.add (i * P.cellsOf e + j)) = some u) (by
      intro i hil
      obtain ⟨cs', hcs, htr⟩ := hi i (by rw [hmm]; split <;> omega)
      obtain ⟨a', ha'⟩ := hR _ _ _ htr
      obtain ⟨_, hcl, hat⟩ := World.cells?_some hcs
      refine ⟨a', cs', ha', hcl, fun j u hj => ?_⟩
      have hjl : j < P.cellsOf e := by
        have := (List.getElem?_eq_some_iff.1 hj).1
        omega
      rw [← Go.Deep.add_add, hat j hjl, hj])
    refine ⟨xs, some a, cap, by rw [hxl], by omega, hm, fun hpos => ?_⟩
    obtain ⟨es, _, hel, hce⟩ := hxs 0 (xs[0]'hpos) (List.getElem?_eq_getElem hpos)
    have h0 := hce 0 _ (List.getElem?_eq_getElem (by omega))
    have hadd : a.add (0 * P.cellsOf e + 0) = a := by simp [Addr.add]
    rw [hadd] at h0
    obtain ⟨b, off, spot⟩ := a
    obtain rfl : spot = none := World.cell?_spot h0
    refine ⟨b, off, rfl, World.block_lt_of_cell? w _ h0, fun i a' hia => ?_⟩
    obtain ⟨es', h1, h2, h3⟩ := hxs i a' hia
    refine ⟨es', h1, h2, fun j u hj => ?_⟩
    have := h3 j u hj
    rwa [show (⟨b, off, none⟩ : Addr).add (i * P.cellsOf e + j) = ⟨b, off + i * P.cellsOf e + j, none⟩ from by rw [Nat.add_assoc]; unfold Addr.add; split <;> simp_all] at this
end
end Go.Proofs.YtejcgagblpkmoaaDoor
set_option linter.unusedVariables false
set_option linter.unusedSimpArgs false
namespace Go.Proofs.YtejcgagblpkmoaaDoor
open Go.RowKit
theorem Base.own : ownKnob Tryd.prog.godebug = none := by kernel_rfl
theorem Base.laidOut : laidOutB Tryd.prog = true := by kernel_rfl

/-- A callee that leaves the world alone, inside a region that only reads. -/
theorem q_left {P : Program} {f : FuncId} {args : Array Value} {w : World} {n : Nat} {v : Value}
    (h : Calls P f args (w.drewN n) fun e w' => e = .returned v ∧ w.drewN n = w') : Calls P f args (w.drewN n) fun e w'' => e = .returned v ∧ ∃ m, w'' = w.drewN m :=
  h.mono fun _ _ ⟨he, hm⟩ => ⟨he, n, hm.symm⟩
/-- .. one that draws alone. -/
theorem q_drew {P : Program} {f : FuncId} {args : Array Value} {w : World} {n : Nat} {v : Value}
    (h : Calls P f args (w.drewN n) fun e w' => e = .returned v ∧ ∃ m, w' = (w.drewN n).drewN m) : Calls P f args (w.drewN n) fun e w'' => e = .returned v ∧ ∃ m, w'' = w.drewN m :=
  h.mono fun _ _ ⟨he, m, hm⟩ => ⟨he, n + m, by rw [hm, World.drewN_drewN]⟩
theorem q_left2 {P : Program} {f : FuncId} {args : Array Value} {w : World} {a n : Nat} {v : Value}
    (h : Calls P f args (w.drewN (a + n)) fun e w' => e = .returned v ∧ w.drewN (a + n) = w') : Calls P f args (w.drewN (a + n)) fun e w'' => e = .returned v ∧ ∃ m, w'' = w.drewN (a + m) :=
  h.mono fun _ _ ⟨he, hm⟩ => ⟨he, n, hm.symm⟩
theorem q_drew2 {P : Program} {f : FuncId} {args : Array Value} {w : World} {a n : Nat} {v : Value}
    (h : Calls P f args (w.drewN (a + n)) fun e w' => e = .returned v ∧ ∃ m, w' = (w.drewN (a + n)).drewN m) : Calls P f args (w.drewN (a + n)) fun e w'' => e = .returned v ∧ ∃ m, w'' = w.drewN (a + m) :=
  h.mono fun _ _ ⟨he, m, hm⟩ => ⟨he, n + m, by rw [hm, World.drewN_drewN, Nat.add_assoc]⟩

/-- A world that has grown out of W: all that stood in W stands. -/
def Grow (W : World) : Type := { w' : World // Below W.heap.size W w' }
instance growNonempty (W : World) : Nonempty (Grow W) := ⟨⟨W, Below.refl _ _⟩⟩
def Grow.world {W : World} (g : Grow W) : World := g.1
theorem Grow.cell {W : World} (g : Grow W) {b o : Nat} (h : b < W.heap.size) : g.world.cell? ⟨b, o, none⟩ = W.cell? ⟨b, o, none⟩ := g.2.cell (p := ⟨b, o, none⟩) h
theorem Grow.frozen {W : World} (g : Grow W) {b o : Nat} (h : b < W.heap.size) : g.world.frozen? ⟨b, o, none⟩ = W.frozen? ⟨b, o, none⟩ := g.2.frozen (p := ⟨b, o, none⟩) h
theorem Grow.below {W : World} (g : Grow W) : Below W.heap.size W g.world := g.2
attribute [go_sem] Grow.cell Grow.frozen
section
variable {P : Program} {f : FuncId} {args : Array Value} {W : World} {g : Grow W} {v : Value}
/-- A callee that leaves old memory, inside a region that holds it. -/
theorem grow_of (h : Calls P f args g.world fun e w' => e = .returned v ∧ Below g.world.heap.size g.world w') : Calls P f args g.world fun e w'' => e = .returned v ∧ ∃ g' : Grow W, w'' = g'.world :=
  h.mono fun _ w' ⟨he, hb⟩ => ⟨he, ⟨w', g.2.trans (hb.mono g.2.size)⟩, rfl⟩
theorem grow_same (h : Calls P f args g.world fun e w' => e = .returned v ∧ g.world = w') : Calls P f args g.world fun e w'' => e = .returned v ∧ ∃ g' : Grow W, w'' = g'.world :=
  h.mono fun _ w' ⟨he, hb⟩ => ⟨he, g, hb.symm⟩
theorem grow_draw (h : Calls P f args g.world fun e w' => e = .returned v ∧ ∃ n, w' = g.world.drewN n) : Calls P f args g.world fun e w'' => e = .returned v ∧ ∃ g' : Grow W, w'' = g'.world :=
  h.mono fun _ w' ⟨he, n, hb⟩ => ⟨he, ⟨w', g.2.trans (hb ▸ Joins.below_draws _ _ _)⟩, rfl⟩
end
/-- A region that draws its order, whose operations only read and whose callees leave old memory: one walk in the order of the text. -/
theorem wp_region_grow {P : Program} {id : Nat} {Q : Exit → Act → World → Prop} {a : Act} {w : World} {l : List Oper} (hm : P.follows .mixedOrders = true) (hB : Region.lexB .any l.toArray = true)
    (h : wpQuiet P l.toArray (fun w' => ∃ g : Grow w, w' = g.world) (fun a' => ∀ w', Below w.heap.size w w' → Q .normal a' w') l a) : (Code.region id l.toArray true).wp P Q a w := by
  have e : (fun a' => ∀ w', Below w.heap.size w w' → Q .normal a' w') = (fun a' => ∀ w', (∃ g : Grow w, w' = g.world) → Q .normal a' w') := by
    funext a'
    refine propext ⟨fun h w' ⟨g, hg⟩ => h w' (hg ▸ g.2), fun h w' hb => h w' ⟨⟨w', hb⟩, rfl⟩⟩
  rw [e] at h
  exact wp_region_quiet (C := fun w' => ∃ g : Grow w, w' = g.world) hm hB ⟨⟨w.drew, (Below.refl _ _).drew⟩, rfl⟩ (by simpa using h)
theorem below_of_alloc {B w : World} (h : Below B.heap.size B w) (o : Obj) : Below B.heap.size B (w.alloc o) := h.alloc h.size o
/-- Behind a call that was made with one more block. -/
theorem below_box {B w' w2 : World} {o : Obj} (hb : Below B.heap.size B w') (hb2 : Below (w'.alloc o).heap.size (w'.alloc o) w2) : Below B.heap.size B w2 :=
  (hb.alloc hb.size o).trans (hb2.mono (by have := hb.size; simp; omega))
end Go.Proofs.YtejcgagblpkmoaaDoor
set_option linter.unusedVariables false
set_option linter.unusedSimpArgs false
namespace Go.Proofs.YtejcgagblpkmoaaDoor
open Go.RowKit

/-- A number fits 64 bits with a sign. -/
def I64 (a : Int) : Prop := -9223372036854775808 ≤ a ∧ a ≤ 9223372036854775807
/-- A number without its sign. -/
def absI (a : Int) : Int := if a < 0 then -a else a
theorem absI_bd {a : Int} (h : I64 a) : 0 ≤ absI a ∧ absI a ≤ 9223372036854775808 := by unfold absI; unfold I64 at h; split <;> omega

theorem toNat_ofInt (a : Int) : ((BitVec.ofInt 64 a).toNat : Int) = a % 18446744073709551616 := by
  rw [BitVec.toNat_ofInt]
  have := Int.emod_nonneg a (show (18446744073709551616 : Int) ≠ 0 by decide)
  show (((a % 18446744073709551616).toNat : Nat) : Int) = _
  omega
theorem xor_not (x : BitVec 64) : ((BitVec.allOnes 64 ^^^ x).toNat : Int) = 18446744073709551615 - (x.toNat : Int) := by
  have e : BitVec.allOnes 64 ^^^ x = ~~~x := BitVec.allOnes_xor
  have hx := x.isLt
  rw [e, BitVec.toNat_not]
  omega
theorem not_i64 (a : Int) (h : I64 a) : bits .xor .i64 (-1) a = -1 - a := by
  unfold I64 at h
  show IntKind.i64.wrap ((BitVec.ofInt 64 (-1) ^^^ BitVec.ofInt 64 a).toNat : Int) = _
  have e : BitVec.ofInt 64 (-1) = BitVec.allOnes 64 := by decide
  rw [e, xor_not, toNat_ofInt, IntKind.wrap_i64]
  omega
theorem not_u64 (a : Int) (h : 0 ≤ a) (h' : a ≤ 18446744073709551615) : bits .xor .u64 IntKind.u64.max a = 18446744073709551615 - a := by
  show IntKind.u64.wrap ((BitVec.ofInt 64 IntKind.u64.max ^^^ BitVec.ofInt 64 a).toNat : Int) = _
  have e : BitVec.ofInt 64 IntKind.u64.max = BitVec.allOnes 64 := by decide
  rw [e, xor_not, toNat_ofInt]
  rw [IntWalk.u64_in _ (by omega)]
  omega
theorem ret_two {k l : IntKind} {a b c d : Int} (h : a = b) (h' : c = d) : Ending.returned (.tuple #[.int k a, .int l c]) = .returned (.tuple #[.int k b, .int l d]) := by rw [h, h']
theorem ret_ib {k : IntKind} {a b : Int} {c d : Bool} (h : a = b) (h' : c = d) : Ending.returned (.tuple #[.int k a, .bool c]) = .returned (.tuple #[.int k b, .bool d]) := by rw [h, h']
end Go.Proofs.YtejcgagblpkmoaaDoor
set_option linter.unusedVariables false
set_option linter.unusedSimpArgs false
namespace Go.Proofs.YtejcgagblpkmoaaDoor
open Go.RowKit

abbrev Wd (x : Nat) : Prop := x < 18446744073709551616
def sv (x y : Nat) : Value := .agg #[.int .u64 (x : Int), .int .u64 (y : Int)]
/-- Is a number in a set? -/
def memB (x y : Nat) (n : Int) : Bool := if 0 ≤ n ∧ n < 64 then x.testBit n.toNat else if 64 ≤ n ∧ n < 128 then y.testBit (n - 64).toNat else false
theorem i64_and63 (n : Int) (h : 0 ≤ n) (h2 : n < 9223372036854775808) : bits .and .i64 n 63 = n % 64 := by
  show IntKind.i64.wrap ((BitVec.ofInt 64 n &&& BitVec.ofInt 64 63).toNat : Int) = _
  obtain ⟨m, rfl⟩ := Int.eq_ofNat_of_zero_le h
  have e1 : (BitVec.ofInt 64 (m : Int)).toNat = m := by
    have := toNat_ofInt (m : Int)
    omega
  have e2 : (BitVec.ofInt 64 63).toNat = 63 := rfl
  rw [BitVec.toNat_and, e1, e2, show (63 : Nat) = 2 ^ 6 - 1 from rfl, Nat.and_two_pow_sub_one_eq_mod, IntKind.wrap_i64]
  omega
theorem shr_word (x m : Nat) (hx : Wd x) (hm : m < 64) : Op.shift .shr .u64 (x : Int) .i64 (m : Int) = pure (.int .u64 ((x / 2 ^ m : Nat) : Int)) := by
  refine (Go.shift_shr .u64 .i64 (x : Int) (m : Int) (by omega) (by show (m : Int) ≤ 64; omega)).trans ?_
  rw [Int.toNat_natCast]
  congr 2
theorem shl_one (m : Nat) (hm : m < 64) : Op.shift .shl .u64 1 .i64 (m : Int) = pure (.int .u64 ((2 ^ m : Nat) : Int)) := by
  refine (Go.shift_shl .u64 .i64 1 (m : Int) (by omega) (by show (m : Int) ≤ 64; omega)).trans ?_
  congr 2
  rw [Int.toNat_natCast, Int.one_mul]
  have h : (2 : Nat) ^ m ≤ 2 ^ 63 := Nat.pow_le_pow_right (by omega) (by omega)
  have e : ((2 ^ m : Nat) : Int) = 2 ^ m := by push_cast; rfl
  rw [← e]
  generalize 2 ^ m = z at *
  exact IntWalk.u64_in _ (by omega)
theorem two_pow_wd {m : Nat} (hm : m < 64) : Wd (2 ^ m) := by
  have h : (2 : Nat) ^ m ≤ 2 ^ 63 := Nat.pow_le_pow_right (by omega) (by omega)
  show 2 ^ m < 18446744073709551616
  omega
theorem and_one (t : Nat) (ht : Wd t) : bits .and .u64 (t : Int) 1 = ((t % 2 : Nat) : Int) := by
  have := u64_and_nat t 1 ht (by decide)
  rw [Nat.and_one_is_mod] at this
  exact this
theorem bit_eq (x m : Nat) : (((x / 2 ^ m % 2 : Nat) : Int) == 1) = x.testBit m := by
  rw [Nat.testBit_eq_decide_div_mod_eq]
  generalize x / 2 ^ m % 2 = z
  by_cases h : z = 1
  · rw [h]; rfl
  · rw [decide_eq_false h]; exact beq_eq_false_iff_ne.2 (by omega)
theorem or_word (x z : Nat) (hx : Wd x) (hz : Wd z) : bits .or .u64 (x : Int) (z : Int) = ((x ||| z : Nat) : Int) := u64_or_nat x z hx hz
theorem and_word (x z : Nat) (hx : Wd x) (hz : Wd z) : bits .and .u64 (x : Int) (z : Int) = ((x &&& z : Nat) : Int) := u64_and_nat x z hx hz
theorem not_word (x z : Nat) (hx : Wd x) (hz : Wd z) : bits .andNot .u64 (x : Int) (z : Int) = ((x &&& (18446744073709551615 - z) : Nat) : Int) := u64_andNot_nat x z hx hz
theorem wd_or {x z : Nat} (hx : Wd x) (hz : Wd z) : Wd (x ||| z) := Nat.or_lt_two_pow (n := 64) hx hz
theorem wd_and {x : Nat} (z : Nat) (hx : Wd x) : Wd (x &&& z) := Nat.lt_of_le_of_lt Nat.and_le_left hx
theorem mask_mod (x m : Nat) : x &&& (2 ^ m - 1) = x % 2 ^ m := Nat.and_two_pow_sub_one_eq_mod x m
theorem bit_high {x m : Nat} (hx : Wd x) (hm : 64 ≤ m) : x.testBit m = false := Nat.testBit_lt_two_pow (Nat.lt_of_lt_of_le hx (Nat.pow_le_pow_right (n := 2) (i := 64) (by omega) hm))
/-- The bits of what is taken out. -/
theorem bit_sub {x z m : Nat} (hz : Wd z) (hm : m < 64) : (x &&& (18446744073709551615 - z)).testBit m = (x.testBit m && !z.testBit m) := by
  rw [Nat.testBit_and, show 18446744073709551615 - z = 2 ^ 64 - (z + 1) by omega, Nat.testBit_two_pow_sub_succ hz]
  simp [hm]
/-- Two words are the same when their bits are. -/
theorem word_ext {x z : Nat} (hx : Wd x) (hz : Wd z) (h : ∀ m, m < 64 → x.testBit m = z.testBit m) : x = z := by
  apply Nat.eq_of_testBit_eq
  intro m
  rcases Nat.lt_or_ge m 64 with hm | hm
  · exact h m hm
  · rw [bit_high hx hm, bit_high hz hm]
theorem mem_low {x y m : Nat} (hm : m < 64) : memB x y (m : Int) = x.testBit m := by
  unfold memB; rw [if_pos (by omega), Int.toNat_natCast]
theorem mem_high {x y m : Nat} (hm : m < 64) : memB x y ((m : Int) + 64) = y.testBit m := by
  unfold memB; rw [if_neg (by omega), if_pos (by omega)]
  congr 1; omega
theorem mem_out {x y : Nat} {n : Int} (h : n < 0 ∨ 128 ≤ n) : memB x y n = false := by
  unfold memB; rw [if_neg (by omega), if_neg (by omega)]
theorem set_ext {x y x' y' : Nat} (h1 : Wd x) (h2 : Wd y) (h3 : Wd x') (h4 : Wd y') (h : ∀ n : Int, 0 ≤ n → n < 128 → memB x y n = memB x' y' n) : x = x' ∧ y = y' := by
  constructor
  · refine word_ext h1 h3 fun m hm => ?_
    have := h m (by omega) (by omega)
    rwa [mem_low hm, mem_low hm] at this
  · refine word_ext h2 h4 fun m hm => ?_
    have := h ((m : Int) + 64) (by omega) (by omega)
    rwa [mem_high hm, mem_high hm] at this
theorem mem_or {x y x' y' : Nat} (n : Int) : memB (x ||| x') (y ||| y') n = (memB x y n || memB x' y' n) := by
  unfold memB
  split
  · rw [Nat.testBit_or]
  · split
    · rw [Nat.testBit_or]
    · rfl
theorem mem_zero (n : Int) : memB 0 0 n = false := by unfold memB; simp
/-- A number more. -/
def withX (x : Nat) (n : Int) : Nat := if 0 ≤ n ∧ n < 64 then x ||| 2 ^ n.toNat else x
def withY (y : Nat) (n : Int) : Nat := if 64 ≤ n ∧ n < 128 then y ||| 2 ^ (n - 64).toNat else y
theorem wd_withX {x : Nat} (n : Int) (h : Wd x) : Wd (withX x n) := by
  unfold withX; split
  · exact wd_or h (two_pow_wd (by omega))
  · exact h
theorem wd_withY {x : Nat} (n : Int) (h : Wd x) : Wd (withY x n) := by
  unfold withY; split
  · exact wd_or h (two_pow_wd (by omega))
  · exact h
theorem mem_with {x y : Nat} (n k : Int) : memB (withX x n) (withY y n) k = (memB x y k || (decide (0 ≤ n ∧ n < 128) && decide (n = k))) := by
  unfold memB withX withY
  by_cases hk : 0 ≤ k ∧ k < 64
  · rw [if_pos hk, if_pos hk]
    by_cases hn : 0 ≤ n ∧ n < 64
    · rw [if_pos hn, Nat.testBit_or, Nat.testBit_two_pow]
      congr 1
      rw [decide_eq_true (show 0 ≤ n ∧ n < 128 by omega), Bool.true_and]
      by_cases e : n = k
      · rw [decide_eq_true e, decide_eq_true (by omega)]
      · rw [decide_eq_false e, decide_eq_false (by omega)]
    · rw [if_neg hn]
      by_cases hn2 : 0 ≤ n ∧ n < 128
      · rw [decide_eq_false (show ¬ n = k by omega)]; simp
      · rw [decide_eq_false hn2]; simp
  · rw [if_neg hk, if_neg hk]
    by_cases hk2 : 64 ≤ k ∧ k < 128
    · rw [if_pos hk2, if_pos hk2]
      by_cases hn : 64 ≤ n ∧ n < 128
      · rw [if_pos hn, Nat.testBit_or, Nat.testBit_two_pow]
        congr 1
        rw [decide_eq_true (show 0 ≤ n ∧ n < 128 by omega), Bool.true_and]
        by_cases e : n = k
        · rw [decide_eq_true e, decide_eq_true (by omega)]
        · rw [decide_eq_false e, decide_eq_false (by omega)]
      · rw [if_neg hn]
        by_cases hn2 : 0 ≤ n ∧ n < 128
        · rw [decide_eq_false (show ¬ n = k by omega)]; simp
        · rw [decide_eq_false hn2]; simp
    · rw [if_neg hk2, if_neg hk2]
      by_cases hn2 : 0 ≤ n ∧ n < 128
      · rw [decide_eq_false (show ¬ n = k by omega)]; simp
      · rw [decide_eq_false hn2]; simp
/-- What is below a number. -/
def belX (x : Nat) (n : Int) : Nat := if n ≤ 0 then 0 else if 64 ≤ n then x else x % 2 ^ n.toNat
def belY (y : Nat) (n : Int) : Nat := if n < 64 then 0 else if 128 ≤ n then y else y % 2 ^ (n - 64).toNat
theorem wd_belX {x : Nat} (n : Int) (h : Wd x) : Wd (belX x n) := by
  unfold belX; split
  · show 0 < 18446744073709551616; omega
  · split
    · exact h
    · exact Nat.lt_of_le_of_lt (Nat.mod_le _ _) h
theorem wd_belY {x : Nat} (n : Int) (h : Wd x) : Wd (belY x n) := by
  unfold belY; split
  · show 0 < 18446744073709551616; omega
  · split
    · exact h
    · exact Nat.lt_of_le_of_lt (Nat.mod_le _ _) h
theorem mem_bel {x y : Nat} (n k : Int) : memB (belX x n) (belY y n) k = (memB x y k && decide (k < n)) := by
  unfold memB belX belY
  by_cases hk : 0 ≤ k ∧ k < 64
  · rw [if_pos hk, if_pos hk]
    by_cases h0 : n ≤ 0
    · rw [if_pos h0, decide_eq_false (by omega)]; simp
    · rw [if_neg h0]
      by_cases h1 : 64 ≤ n
      · rw [if_pos h1, decide_eq_true (by omega)]; simp
      · rw [if_neg h1, Nat.testBit_mod_two_pow, Bool.and_comm]
        congr 1
        by_cases e : k < n
        · rw [decide_eq_true e, decide_eq_true (by omega)]
        · rw [decide_eq_false e, decide_eq_false (by omega)]
  · rw [if_neg hk, if_neg hk]
    by_cases hk2 : 64 ≤ k ∧ k < 128
    · rw [if_pos hk2, if_pos hk2]
      by_cases h0 : n < 64
      · rw [if_pos h0, decide_eq_false (by omega)]; simp
      · rw [if_neg h0]
        by_cases h1 : 128 ≤ n
        · rw [if_pos h1, decide_eq_true (by omega)]; simp
        · rw [if_neg h1, Nat.testBit_mod_two_pow, Bool.and_comm]
          congr 1
          by_cases e : k < n
          · rw [decide_eq_true e, decide_eq_true (by omega)]
          · rw [decide_eq_false e, decide_eq_false (by omega)]
    · rw [if_neg hk2, if_neg hk2]; simp
def subW (x z : Nat) : Nat := x &&& (18446744073709551615 - z)
theorem mem_sub {x y x' y' : Nat} (h1 : Wd x') (h2 : Wd y') (k : Int) : memB (subW x x') (subW y y') k = (memB x y k && !memB x' y' k) := by
  unfold memB subW
  by_cases hk : 0 ≤ k ∧ k < 64
  · simp only [if_pos hk]
    exact bit_sub h1 (by omega)
  · simp only [if_neg hk]
    by_cases hk2 : 64 ≤ k ∧ k < 128
    · simp only [if_pos hk2]
      exact bit_sub h2 (by omega)
    · simp only [if_neg hk2]; rfl
/-- What is not below a number. -/
def fromX (x : Nat) (n : Int) : Nat := subW x (belX x n)
def fromY (y : Nat) (n : Int) : Nat := subW y (belY y n)
theorem wd_from {x y : Nat} (n : Int) (hx : Wd x) (hy : Wd y) : Wd (fromX x n) ∧ Wd (fromY y n) := ⟨wd_and _ hx, wd_and _ hy⟩
theorem mem_from {x y : Nat} (hx : Wd x) (hy : Wd y) (n k : Int) : memB (fromX x n) (fromY y n) k = (memB x y k && decide (n ≤ k)) := by
  unfold fromX fromY
  rw [mem_sub (wd_belX n hx) (wd_belY n hy), mem_bel]
  by_cases h : k < n
  · rw [decide_eq_true h, decide_eq_false (by omega)]; simp
  · rw [decide_eq_false h, decide_eq_true (by omega)]; simp
/-- A set is empty when it has no number. -/
theorem empty_iff {x y : Nat} (hx : Wd x) (hy : Wd y) : (x = 0 ∧ y = 0) ↔ ∀ n : Int, 0 ≤ n → n < 128 → memB x y n = false := by
  constructor
  · rintro ⟨rfl, rfl⟩ n _ _; exact mem_zero n
  · intro h
    exact set_ext hx hy (by show 0 < 18446744073709551616; omega) (by show 0 < 18446744073709551616; omega) fun n a b => by rw [h n a b, mem_zero]
end Go.Proofs.YtejcgagblpkmoaaDoor
set_option linter.unusedVariables false
set_option linter.unusedSimpArgs false
namespace Go.Proofs.YtejcgagblpkmoaaDoor
open Go Go.Joins Go.RowKit
section
variable {P : Program} {ops : Array Oper} {md : Region.Mode} {C : World → Prop}

/-- Whatever order is picked of the first n, till L holds. -/
def headQ (P : Program) (md : Region.Mode) (ops : Array Oper) (C : World → Prop) (n : Nat) (L : Array Bool → Act → Prop) : Nat → Array Bool → Act → Prop
  | 0, done, a => L done a
  | f + 1, done, a => Region.ready md ops done ≠ [] ∧ ∀ i ∈ Region.ready md ops done, i < n ∧ qOp P ops C i (headQ P md ops C n L f (done.setIfInBounds i true)) a

theorem any_of_headQ {n g : Nat} {L : Array Bool → Act → Prop} {Q' : Exit → Act → World → Prop} (hL : ∀ done a w, C w → L done a → wpAny P md ops Q' g done a w) (f : Nat) :
    ∀ (done : Array Bool) (a : Act) (w : World), C w → headQ P md ops C n L f done a → wpAny P md ops Q' (f + g) done a w := by
  induction f with
  | zero => intro done a w hw h; rw [Nat.zero_add]; exact hL _ _ _ hw h
  | succ f ih =>
    intro done a w hw h
    have e : f + 1 + g = (f + g) + 1 := by omega
    rw [e]
    refine ⟨fun h0 => absurd h0 h.1, fun i hi => ?_⟩
    exact wpOp_of_qOp hw (fun a' w' hw' h' => ih _ a' w' hw' h') (h.2 i hi).2

/-- One that may come now may be taken first. -/
theorem headQ_first {n i : Nat} {oi : Oper} {v : Value} {L : Array Bool → Act → Prop} (hi : ops[i]? = some oi) (hsel : ∀ (j : Nat) (o : Oper) cs b, ops[j]? = some o → o.op ≠ .select cs b)
    (hs : Region.sinkB md ops n = true) (hc : Region.chainB md ops n = true) (hn : n < ops.size) (hin : i < n) (hend : ∀ done a, L done a → ∀ j ∈ Region.ready md ops done, n ≤ j) (f : Nat) :
    ∀ (done : Array Bool) (a : Act), HeadInv md ops n done →
      (∀ j oj, ops[j]? = some oj → j ≠ i → done.getD j true = false → (∀ e ∈ oj.after, Region.binds md e = true → e.on ≠ i) → oi.apart ops oj = true) →
      i ∈ Region.ready md ops done → YieldsIn P ops C oi v a → headQ P md ops C n L f (done.setIfInBounds i true) (a.put oi.dst v) → headQ P md ops C n L (f + 1) done a := by
  induction f with
  | zero =>
    intro done a inv _ hr hy H
    have hun := (mem_ready.1 hr).1
    have low : ∀ j, j ∈ Region.ready md ops done → j < n := fun j hj => Nat.lt_of_not_le fun hle => tail_waits hs hc hn inv _ i rfl hin hun j hle hj
    refine ⟨List.ne_nil_of_mem hr, fun j hj => ⟨low j hj, ?_⟩⟩
    by_cases e : j = i
    · subst e; exact hy.qOp hi H
    · have h1 := hend _ _ H j (ready_mono hj e)
      have h2 := low j hj
      omega
  | succ f ih =>
    intro done a inv hfree hr hy H
    have hun := (mem_ready.1 hr).1
    have low : ∀ j, j ∈ Region.ready md ops done → j < n := fun j hj => Nat.lt_of_not_le fun hle => tail_waits hs hc hn inv _ i rfl hin hun j hle hj
    refine ⟨List.ne_nil_of_mem hr, fun j hj => ⟨low j hj, ?_⟩⟩
    by_cases e : j = i
    · subst e; exact hy.qOp hi H
    · obtain ⟨hjun, oj, hoj, hall⟩ := mem_ready.1 hj
      have apart := hfree j oj hoj e hjun fun x hx hb hxi => by
        have hh := hall x hx hb
        rw [hxi, getD_both hun] at hh
        cases hh
      have step := qOp_put hoj apart (fun cs b => hsel i oi cs b hi) (fun cs b => hsel j oj cs b hoj) hy (H.2 j (ready_mono hj e)).2
      refine qOp_mono (fun a' h3 => ih _ a' (inv.set hj (low j hj)) ?_ (ready_mono hr (Ne.symm e)) h3.1 ?_) step
      · intro k ok hk hki hku hno
        refine hfree k ok hk hki ?_ hno
        by_cases hjk : j = k
        · subst hjk; exact hjun
        · rwa [getD_set_ne true hjk] at hku
      · rw [Array.setIfInBounds_comm _ _ e]
        exact h3.2

theorem headQ_text {n g : Nat} {Q : Act → Prop} (hsel : Region.noSelect ops = true) (hs : Region.sinkB md ops n = true) (hc : Region.chainB md ops n = true) (hn : n < ops.size) (l : List Oper) :
    ∀ (k : Nat) (done : Array Bool) (a : Act), (∀ j, j < l.length → l[j]? = ops[k + j]?) → k + l.length = n → HeadInv md ops n done → Region.lexHead md ops g l.length k done = true → wpQuiet P ops C Q l a →
      headQ P md ops C n (fun d a' => Region.seqB md ops g n d = true ∧ Q a') l.length done a := by
  induction l with
  | nil =>
    intro k done a _ hk inv hB h
    obtain rfl : k = n := by simpa using hk
    exact ⟨by simpa [Region.lexHead] using hB, h⟩
  | cons o l ih =>
    intro k done a hl hk inv hB h
    have h0 : ops[k]? = some o := by simpa using (hl 0 (by simp)).symm
    simp only [List.length_cons, Region.lexHead, Bool.and_eq_true] at hB
    have hkn : k < n := by simp only [List.length_cons] at hk; omega
    have hr : k ∈ Region.ready md ops done := by simpa using hB.1.1
    have hq : qOp P ops C k (wpQuiet P ops C Q l) a := by unfold qOp; simp only [h0]; exact h
    obtain ⟨v, hy, hK⟩ := yieldsIn_of_qOp h0 hq
    refine headQ_first h0 (Region.noSelect_spec hsel) hs hc hn hkn (fun d a' hL => seqB_ready hL.1) l.length done a inv (Region.free_spec h0 hB.1.2) hr hy ?_
    refine ih (k + 1) _ _ (fun j hj => ?_) (by simp only [List.length_cons] at hk; omega) (inv.set hr hkn) hB.2 hK
    have := hl (j + 1) (by simp; omega)
    simpa [Nat.add_assoc, Nat.add_comm 1 j] using this
end
/-- The first n operations read or call what leaves old memory; the tail is walked from any world that has grown. -/
theorem wp_region_grow_tail {P : Program} {id : Nat} {Q : Exit → Act → World → Prop} {a : Act} {w : World} {l : List Oper} (n : Nat) (hm : P.follows .mixedOrders = true) (hB : Region.lexTailB .any l.toArray n = true)
    (h : wpQuiet P l.toArray (fun w' => ∃ g : Grow w, w' = g.world) (fun a' => ∀ w', Below w.heap.size w w' → wpList P l.toArray Q (l.drop n) a' w') (l.take n) a) : (Code.region id l.toArray true).wp P Q a w := by
  simp only [Region.lexTailB, Bool.and_eq_true, decide_eq_true_eq] at hB
  obtain ⟨⟨⟨⟨hsel, hn⟩, hs⟩, hc⟩, hlex⟩ := hB
  have hn' : n < l.length := by simpa using hn
  have htl : (l.take n).length = n := by simp; omega
  have hdl : (l.drop n).length = l.toArray.size - n := by simp
  have inv0 : HeadInv .any l.toArray n (Array.replicate l.toArray.size false) :=
    ⟨by simp, fun j oj _ hl => by (rw [getD_replicate_false] at hl; cases hl), fun t _ ht => getD_in (by simpa using ht) (getD_replicate_false _ _)⟩
  have H := headQ_text (md := .any) (g := l.toArray.size - n) hsel hs hc hn (l.take n) 0 _ a (fun j hj => by
    rw [htl] at hj
    simp [hj]) (by simpa using htl) inv0 (by rw [htl]; exact hlex) h
  refine wp_region_any hm ?_
  have := any_of_headQ (Q' := Q) (g := l.toArray.size - n) (fun d a' w' hw' hL => by
    obtain ⟨gr, rfl⟩ := hw'
    have hh := wpAny_of_seq (md := .any) (Q' := Q) (l.drop n) n d a' gr.world (fun j => by simp [List.getElem?_drop]) (by rw [hdl]; exact hL.1) (hL.2 _ gr.2)
    rwa [hdl] at hh) _ _ _ { w with drawn := w.drawn + 1 } ⟨⟨w.drew, (Below.refl _ _).drew⟩, rfl⟩ H
  rw [htl, show n + (l.toArray.size - n) = l.toArray.size by omega] at this
  exact this
end Go.Proofs.YtejcgagblpkmoaaDoor
set_option linter.unusedVariables false
set_option linter.unusedSimpArgs false
namespace Go.Proofs.YtejcgagblpkmoaaDoor
open Go.ChangeShapes Go.WideShapes Go.ChangeAt Go.RowKit Go.Deep
section
variable {H : Type} {enc : TypeId × Value → H} {W : World} {base : Nat} {v : Value} {d : DataW H} {p : List MemPlace}
set_option maxRecDepth 100000 in
theorem arg_int (o : Value.okWide Tryd.prog W .any base 3 v) (h : DataW.Trod enc Tryd.prog W 0 (fun _ => true) true 3 v d p) : ∃ a : Int, v = .int .i64 a ∧ -9223372036854775808 ≤ a ∧ a ≤ 9223372036854775807 := by
  obtain ⟨a, rfl, rfl, rfl, wa⟩ := open_int Tryd.underlying3 o h
  exact ⟨a, rfl, bounds_i64 wa⟩
set_option maxRecDepth 100000 in
theorem arg_int64 (o : Value.okWide Tryd.prog W .any base 2 v) (h : DataW.Trod enc Tryd.prog W 0 (fun _ => true) true 2 v d p) : ∃ a : Int, v = .int .i64 a ∧ -9223372036854775808 ≤ a ∧ a ≤ 9223372036854775807 := by
  obtain ⟨a, rfl, rfl, rfl, wa⟩ := open_int Tryd.underlying2 o h
  exact ⟨a, rfl, bounds_i64 wa⟩
set_option maxRecDepth 100000 in
theorem arg_u64 (o : Value.okWide Tryd.prog W .any base 36 v) (h : DataW.Trod enc Tryd.prog W 0 (fun _ => true) true 36 v d p) : ∃ a : Int, v = .int .u64 a ∧ 0 ≤ a ∧ a ≤ 18446744073709551615 := by
  obtain ⟨a, rfl, rfl, rfl, wa⟩ := open_int Tryd.underlying36 o h
  exact ⟨a, rfl, bounds_u64 wa⟩
end
end Go.Proofs.YtejcgagblpkmoaaDoor
set_option linter.unusedVariables false
set_option linter.unusedSimpArgs false
namespace Go.Proofs.YtejcgagblpkmoaaDoor
open Go.ChangeShapes Go.WideShapes Go.ChangeAt Go.RowKit Go.Deep
section
variable {H : Type} {enc : TypeId × Value → H} {W : World} {base : Nat} {v : Value} {d : DataW H} {p : List MemPlace}
/-- A struct or an array by value is written out by its cells. -/
theorem arg_agg {P : Program} {t : TypeId} (hk : (∃ fs, P.underlying t = some (.struct fs)) ∨ ∃ n e, P.underlying t = some (.array n e)) (o : Value.okWide P W .any base t v) (h : DataW.Trod enc P W 0 (fun _ => true) true t v d p) :
    ∃ cs : List Value, v = .agg cs.toArray ∧ ∃ n, DataW.trod enc P W 0 (fun _ => true) true n t cs = some (d, p) := by
  obtain ⟨n, hn⟩ := h
  have : ∃ cs, v = .agg cs := by
    rcases hk with ⟨fs, hk⟩ | ⟨m, e, hk⟩ <;> (unfold Value.okWide at o; rw [hk] at o; obtain ⟨cs, rfl, _⟩ := o; exact ⟨cs, rfl⟩)
  obtain ⟨⟨cs⟩, rfl⟩ := this
  exact ⟨cs, rfl, n, hn⟩
/-- A slice. -/
theorem arg_slice {P : Program} {t e : TypeId} (hk : P.underlying t = some (.slice e)) (o : Value.okWide P W .any base t v) (h : DataW.Trod enc P W 0 (fun _ => true) true t v d p) :
    ∃ n, DataW.trod enc P W 0 (fun _ => true) true n t [v] = some (d, p) := by
  obtain ⟨a0, len, cap, rfl⟩ := okWide_slice hk o
  obtain ⟨n, hn⟩ := h
  exact ⟨n, hn⟩
/-- Two numbers by value. -/
theorem arg_arr2 {P : Program} {t e : TypeId} (hk : P.underlying t = some (.array 2 e)) (he : P.underlying e = some (.int .i64)) (hc : P.cellsOf e = 1) (hC : P.cellsOf t = 2) (o : Value.okWide P W .any base t v) (h : DataW.Trod enc P W 0 (fun _ => true) true t v d p) :
    ∃ a b : Int, v = .agg #[.int .i64 a, .int .i64 b] ∧ (-9223372036854775808 ≤ a ∧ a ≤ 9223372036854775807) ∧ (-9223372036854775808 ≤ b ∧ b ≤ 9223372036854775807) := by
  obtain ⟨cs, rfl, n, hn⟩ := arg_agg (.inr ⟨_, _, hk⟩) o h
  obtain ⟨xs, m, _, _, hl, hxl, hi⟩ := Go.DataW.trod_array hk hn
  rw [hC] at hl
  match cs, hl with
  | [c0, c1], _ =>
    have h0 := hi 0 (by omega)
    have h1 := hi 1 (by omega)
    rw [hc, List.getElem?_eq_getElem (by omega)] at h0 h1
    simp only [Nat.zero_mul, Nat.one_mul, List.drop, List.take] at h0 h1
    obtain ⟨a, q0, _, w0⟩ := DataW.trod_int he h0
    obtain ⟨b, q1, _, w1⟩ := DataW.trod_int he h1
    injection q0 with q0
    injection q1 with q1
    subst q0 q1
    exact ⟨a, b, rfl, bounds_i64 w0, bounds_i64 w1⟩
end
end Go.Proofs.YtejcgagblpkmoaaDoor
set_option linter.unusedVariables false
set_option linter.unusedSimpArgs false
namespace Go.Proofs.YtejcgagblpkmoaaDoor
open Go.Joins Go.ChangeShapes Go.WideShapes Go.ChangeAt Go.RowKit Go.Deep

def at0 (xs : List Int) (i : Nat) : Int := xs.getD i 0
/-- A slice of ints that reads as xs: what a walk asks of it. -/
def Ints (w : World) (A : Option Addr) (xs : List Int) : Prop :=
  0 < xs.length → ∃ b off, A = some ⟨b, off, none⟩ ∧ b < w.heap.size ∧ ∀ i, i < xs.length → w.cell? ⟨b, off + i, none⟩ = some (.int .i64 (at0 xs i))
theorem Ints.below {w w' : World} {A : Option Addr} {xs : List Int} (h : Ints w A xs) (hb : Below w.heap.size w w') : Ints w' A xs := fun hp => by
  obtain ⟨b, off, hA, hlt, hc⟩ := h hp
  exact ⟨b, off, hA, Nat.lt_of_lt_of_le hlt hb.size, fun i hi => (hb.cell (p := ⟨b, off + i, none⟩) hlt).trans (hc i hi)⟩
theorem ints_of {w : World} {A : Option Addr} {C : Nat} {xs : List Int} (h : RSlice 1 (RInt .i64) w [.slice A xs.length C] xs) : Ints w A xs := fun hp => by
  obtain ⟨A', C', hAC, _, _, hc⟩ := h
  injection hAC with hAC
  injection hAC with e1 e2 e3
  subst e1
  obtain ⟨b, off, hA, hlt, hx⟩ := hc hp
  refine ⟨b, off, hA, hlt, fun i hi => ?_⟩
  obtain ⟨es, ⟨rfl, _⟩, _, hce⟩ := hx i _ (List.getElem?_eq_getElem hi)
  have := hce 0 _ rfl
  simp only [Nat.mul_one, Nat.add_zero] at this
  rw [this]
  simp [at0, List.getD, List.getElem?_eq_getElem hi]
theorem ints_bd {w : World} {cs : List Value} {xs : List Int} (h : RSlice 1 (RInt .i64) w cs xs) : ∀ i, -9223372036854775808 ≤ at0 xs i ∧ at0 xs i ≤ 9223372036854775807 := by
  obtain ⟨A', C', hAC, _, _, hc⟩ := h
  intro i
  by_cases hi : i < xs.length
  · obtain ⟨b, off, hA, hlt, hx⟩ := hc (by omega)
    obtain ⟨es, ⟨rfl, hw⟩, _, _⟩ := hx i _ (List.getElem?_eq_getElem hi)
    have := bounds_i64 hw
    simpa [at0, List.getD, List.getElem?_eq_getElem hi] using this
  · simp [at0, List.getD, List.getElem?_eq_none (Nat.le_of_not_lt hi)]

/-- The first k, together. -/
def sumL (xs : List Int) : Nat → Int
  | 0 => 0
  | k + 1 => sumL xs k + at0 xs k
end Go.Proofs.YtejcgagblpkmoaaDoor
set_option linter.unusedVariables false
set_option linter.unusedSimpArgs false
namespace Go.Proofs.YtejcgagblpkmoaaDoor
open Go.Joins Go.ChangeShapes Go.WideShapes Go.ChangeAt Go.RowKit Go.Deep

theorem bel3 (w : World) (a b c : Obj) : Below w.heap.size w (((w.alloc a).alloc b).alloc c) := (Joins.below_alloc2 w a b).alloc (by simp; omega) c
theorem wrap_pow (m : Nat) (hm : m < 64) : IntKind.u64.wrap (2 ^ m) = ((2 ^ m : Nat) : Int) := by
  have h : (2 : Nat) ^ m ≤ 2 ^ 63 := Nat.pow_le_pow_right (by omega) (by omega)
  have e : ((2 ^ m : Nat) : Int) = 2 ^ m := by push_cast; rfl
  rw [← e]
  generalize 2 ^ m = z at *
  exact IntWalk.u64_in _ (by omega)
theorem wrap_mask (m : Nat) (hm : m < 64) : IntKind.u64.wrap (((2 ^ m : Nat) : Int) - 1) = ((2 ^ m - 1 : Nat) : Int) := by
  have h : (2 : Nat) ^ m ≤ 2 ^ 63 := Nat.pow_le_pow_right (by omega) (by omega)
  have h1 := Nat.pow_pos (n := m) (show 0 < 2 by omega)
  generalize 2 ^ m = z at *
  rw [IntWalk.u64_in _ (by omega)]
  omega
theorem box_below (w : World) (o : Obj) : Below w.heap.size w (w.alloc o) := below_alloc1 w o
set_option maxRecDepth 20000 in
set_option maxHeartbeats 1000000 in
theorem bits_Has (x y : Nat) (n : Int) (w : World) (hx : Wd x) (hy : Wd y) (hn : I64 n) : Calls Tryd.prog 41 #[sv x y, .int .i64 n] w fun e w' => e = .returned (.bool (memB x y n)) ∧ Below w.heap.size w w' := by
  unfold sv
  unfold I64 at hn
  by_cases h0 : n < 0 ∨ 128 ≤ n
  · rw [mem_out h0]
    clear hx hy
    rcases h0 with h0 | h0
    · have q1 : decide (0 ≤ n) = false := decide_eq_false (by omega)
      go_enter Tryd.func41, Tryd.ntmps41
      go_wp2
      go_ret
      exact ⟨rfl, box_below _ _⟩
    · have q1 : decide (0 ≤ n) = true := decide_eq_true (by omega)
      have q2 : decide (n < 128) = false := decide_eq_false (by omega)
      go_enter Tryd.func41, Tryd.ntmps41
      go_wp2
      go_ret
      exact ⟨rfl, box_below _ _⟩
  · have q1 : decide (0 ≤ n) = true := decide_eq_true (by omega)
    have q2 : decide (n < 128) = true := decide_eq_true (by omega)
    have a1 := i64_and63 n (by omega) (by omega)
    rcases Int.lt_or_le n 64 with h1 | h1
    · obtain ⟨m, rfl⟩ := Int.eq_ofNat_of_zero_le (show 0 ≤ n by omega)
      have hm : m < 64 := by omega
      rw [mem_low hm]
      have s1 : (x : Int) / 2 ^ m = ((x / 2 ^ m : Nat) : Int) := by push_cast; rfl
      have ht : Wd (x / 2 ^ m) := Nat.lt_of_le_of_lt (Nat.div_le_self _ _) hx
      have s2 := and_one _ ht
      have s3 := bit_eq x m
      have e1 : (m : Int) / 64 = 0 := by omega
      have e2 : (m : Int) % 64 = m := by omega
      rw [e2] at a1
      generalize x.testBit m = res at *
      generalize ((x / 2 ^ m % 2 : Nat) : Int) = t2 at *
      generalize ((x / 2 ^ m : Nat) : Int) = t at *
      clear ht e2
      go_enter Tryd.func41, Tryd.ntmps41
      go_wp2
      go_ret
      exact ⟨rfl, box_below _ _⟩
    · obtain ⟨m, hm2⟩ := Int.eq_ofNat_of_zero_le (show 0 ≤ n - 64 by omega)
      have hm : m < 64 := by omega
      obtain rfl : n = (m : Int) + 64 := by omega
      rw [mem_high hm]
      have s1 : (y : Int) / 2 ^ m = ((y / 2 ^ m : Nat) : Int) := by push_cast; rfl
      have ht : Wd (y / 2 ^ m) := Nat.lt_of_le_of_lt (Nat.div_le_self _ _) hy
      have s2 := and_one _ ht
      have s3 := bit_eq y m
      have e1 : ((m : Int) + 64) / 64 = 1 := by omega
      have e2 : ((m : Int) + 64) % 64 = m := by omega
      rw [e2] at a1
      generalize y.testBit m = res at *
      generalize ((y / 2 ^ m % 2 : Nat) : Int) = t2 at *
      generalize ((y / 2 ^ m : Nat) : Int) = t at *
      clear ht e2 hm2
      go_enter Tryd.func41, Tryd.ntmps41
      go_wp2
      go_ret
      exact ⟨rfl, box_below _ _⟩
set_option maxRecDepth 20000 in
set_option maxHeartbeats 1000000 in
theorem bits_Sub (x y x' y' : Nat) (w : World) (hx : Wd x) (hy : Wd y) (hx' : Wd x') (hy' : Wd y') : Calls Tryd.prog 59 #[sv x y, sv x' y'] w fun e w' => e = .returned (sv (subW x x') (subW y y')) ∧ Below w.heap.size w w' := by
  unfold sv subW
  have a1 := not_word x x' hx hx'
  have a2 := not_word y y' hy hy'
  generalize ((x &&& (18446744073709551615 - x') : Nat) : Int) = r1 at *
  generalize ((y &&& (18446744073709551615 - y') : Nat) : Int) = r2 at *
  clear hx hy hx' hy'
  go_enter Tryd.func59, Tryd.ntmps59
  go_wp2
  refine bodyPost_ret (v := .agg #[.int .u64 r1, .int .u64 r2]) (by simp [results, Tryd.results59, go_sem]) rfl ?_
  exact ⟨rfl, bel3 _ _ _ _⟩
set_option maxRecDepth 20000 in
set_option maxHeartbeats 1000000 in
theorem bits_Below (x y : Nat) (n : Int) (w : World) (hx : Wd x) (hy : Wd y) (hn : I64 n) : Calls Tryd.prog 53 #[sv x y, .int .i64 n] w fun e w' => e = .returned (sv (belX x n) (belY y n)) ∧ Below w.heap.size w w' := by
  unfold sv
  unfold I64 at hn
  rcases Int.lt_or_le 0 n with h0 | h0
  · have q0 : decide (n ≤ 0) = false := decide_eq_false (by omega)
    rcases Int.lt_or_le n 128 with h1 | h1
    · have q1 : decide (128 ≤ n) = false := decide_eq_false (by omega)
      rcases Int.lt_or_le n 64 with h2 | h2
      · have q2 : decide (64 ≤ n) = false := decide_eq_false (by omega)
        obtain ⟨m, rfl⟩ := Int.eq_ofNat_of_zero_le (show 0 ≤ n by omega)
        have hm : m < 64 := by omega
        have e1 : belX x m = x % 2 ^ m := by unfold belX; rw [if_neg (by omega), if_neg (by omega), Int.toNat_natCast]
        have e2 : belY y m = 0 := by unfold belY; rw [if_pos (by omega)]
        rw [e1, e2, ← mask_mod]
        have s1 := wrap_pow m hm
        have s2 := wrap_mask m hm
        have s3 := and_word x (2 ^ m - 1) hx (by have := two_pow_wd hm; show 2 ^ m - 1 < _; omega)
        generalize ((x &&& (2 ^ m - 1) : Nat) : Int) = r at *
        generalize ((2 ^ m - 1 : Nat) : Int) = r2 at *
        generalize ((2 ^ m : Nat) : Int) = r3 at *
        clear e1 e2
        go_enter Tryd.func53, Tryd.ntmps53
        go_wp2
        go_region
        go_wp2
        refine bodyPost_ret (v := .agg #[.int .u64 r, .int .u64 0]) (by simp [results, Tryd.results53, go_sem]) rfl ?_
        exact ⟨rfl, by first | exact Joins.below_alloc2 _ _ _ | exact (Joins.below_alloc2 _ _ _).drew | exact below_drewN (Joins.below_alloc2 _ _ _) _⟩
      · have q2 : decide (64 ≤ n) = true := decide_eq_true (by omega)
        have a1 := i64_and63 n (by omega) (by omega)
        obtain ⟨m, hm2⟩ := Int.eq_ofNat_of_zero_le (show 0 ≤ n - 64 by omega)
        have hm : m < 64 := by omega
        obtain rfl : n = (m : Int) + 64 := by omega
        have e1 : belX x ((m : Int) + 64) = x := by unfold belX; rw [if_neg (by omega), if_pos (by omega)]
        have e2 : belY y ((m : Int) + 64) = y % 2 ^ m := by unfold belY; rw [if_neg (by omega), if_neg (by omega)]; congr 2; omega
        rw [e1, e2, ← mask_mod]
        have e4 : ((m : Int) + 64) % 64 = m := by omega
        rw [e4] at a1
        have s1 := wrap_pow m hm
        have s2 := wrap_mask m hm
        have s3 := and_word y (2 ^ m - 1) hy (by have := two_pow_wd hm; show 2 ^ m - 1 < _; omega)
        generalize ((y &&& (2 ^ m - 1) : Nat) : Int) = r at *
        generalize ((2 ^ m - 1 : Nat) : Int) = r2 at *
        generalize ((2 ^ m : Nat) : Int) = r3 at *
        clear e1 e2 e4 hm2
        go_enter Tryd.func53, Tryd.ntmps53
        go_wp2
        go_region
        go_wp2
        refine bodyPost_ret (v := .agg #[.int .u64 (x : Int), .int .u64 r]) (by simp [results, Tryd.results53, go_sem]) rfl ?_
        exact ⟨rfl, by first | exact Joins.below_alloc2 _ _ _ | exact (Joins.below_alloc2 _ _ _).drew | exact below_drewN (Joins.below_alloc2 _ _ _) _⟩
    · have q1 : decide (128 ≤ n) = true := decide_eq_true (by omega)
      have e1 : belX x n = x := by unfold belX; rw [if_neg (by omega), if_pos (by omega)]
      have e2 : belY y n = y := by unfold belY; rw [if_neg (by omega), if_pos (by omega)]
      rw [e1, e2]
      clear e1 e2
      go_enter Tryd.func53, Tryd.ntmps53
      go_wp2
      refine bodyPost_ret (v := .agg #[.int .u64 (x : Int), .int .u64 (y : Int)]) (by simp [results, Tryd.results53, go_sem]) rfl ?_
      exact ⟨rfl, Joins.below_alloc2 _ _ _⟩
  · have q0 : decide (n ≤ 0) = true := decide_eq_true (by omega)
    have e1 : belX x n = 0 := by unfold belX; rw [if_pos h0]
    have e2 : belY y n = 0 := by unfold belY; rw [if_pos (by omega)]
    rw [e1, e2]
    clear e1 e2
    go_enter Tryd.func53, Tryd.ntmps53
    go_wp2
    refine bodyPost_ret (v := .agg #[.int .u64 0, .int .u64 0]) (by simp [results, Tryd.results53, go_sem]) rfl ?_
    exact ⟨rfl, Joins.below_alloc2 _ _ _⟩
end Go.Proofs.YtejcgagblpkmoaaDoor
set_option linter.unusedVariables false
set_option linter.unusedSimpArgs false
namespace Go.Proofs.YtejcgagblpkmoaaDoor
open Go.Joins Go.ChangeShapes Go.WideShapes Go.ChangeAt Go.RowKit Go.Deep

theorem set2b {w w' : World} {g : Nat} {u1 u2 : Value} (h : Below w.heap.size w w') : Below w.heap.size w ((w'.setCell ⟨w.heap.size + g, 0, none⟩ u1).setCell ⟨w.heap.size + g, 1, none⟩ u2) :=
  (h.setCell (by show _ ≤ w.heap.size + g; omega) _).setCell (by show _ ≤ w.heap.size + g; omega) _
theorem boxb2 (w : World) (t1 : TypeId) (c1 : Array Value) (t2 : TypeId) (c2 : Array Value) : Blk ((w.alloc (.cells c1 t1)).alloc (.cells c2 t2)) (w.heap.size + 1) t2 c2 := by
  have := Blk.new (w.alloc (.cells c1 t1)) t2 c2
  rwa [alloc_size] at this
set_option maxRecDepth 20000 in
set_option maxHeartbeats 1000000 in
theorem bits_From (x y : Nat) (n : Int) (w : World) (hx : Wd x) (hy : Wd y) (hn : I64 n) : Calls Tryd.prog 55 #[sv x y, .int .i64 n] w fun e w' => e = .returned (sv (fromX x n) (fromY y n)) ∧ Below w.heap.size w w' := by
  have cB := fun w => bits_Below x y n w hx hy hn
  have cS := fun w => bits_Sub x y (belX x n) (belY y n) w hx hy (wd_belX n hx) (wd_belY n hy)
  have e1 : subW x (belX x n) = fromX x n := rfl
  have e2 : subW y (belY y n) = fromY y n := rfl
  rw [e1, e2] at cS
  unfold sv at *
  have CB := Lib.hid cB
  have CS := Lib.hid cS
  clear cB cS e1 e2 hx hy
  generalize (fromX x n : Int) = r1 at *
  generalize (fromY y n : Int) = r2 at *
  generalize (belX x n : Int) = b1 at *
  generalize (belY y n : Int) = b2 at *
  go_enter Tryd.func55, Tryd.ntmps55
  go_wp2
  have hk := boxb2 w 38 #[.int .u64 (x : Int), .int .u64 (y : Int)] 38 #[.int .u64 0, .int .u64 0]
  obtain ⟨hBw2, hcw1, hdw2, hzw2⟩ := box2 w 38 #[.int .u64 (x : Int), .int .u64 (y : Int)] 38 #[.int .u64 0, .int .u64 0]
  change Code.wp _ _ _ _ ((w.alloc (.cells #[.int .u64 (x : Int), .int .u64 (y : Int)] 38)).alloc (.cells #[.int .u64 0, .int .u64 0] 38))
  generalize ((w.alloc (.cells #[.int .u64 (x : Int), .int .u64 (y : Int)] 38)).alloc (.cells #[.int .u64 0, .int .u64 0] 38)) = w2 at *
  have hyw2 : w.heap.size < w2.heap.size := by omega
  refine wp_region_grow_tail 5 (by kernel_rfl) (by kernel_rfl) ?_
  simp only [List.take_succ_cons, List.take_zero, List.drop_succ_cons, List.drop_zero]
  repeat (go_big_quiet_step ((first | (go_at_call 53; with_reducible exact grow_of (CB.out _)) | (go_at_call 59; with_reducible exact grow_of (CS.out _)))))
  refine wpQuiet_nil ?_
  intro w3 hb3
  have hk3 := hk.below hb3 (by omega)
  have hfw3 : ∀ i, w3.frozen? ⟨w.heap.size + 1, i, none⟩ = false := fun i => hk3.free i
  have hdw3 : ∀ i, w3.cell? ⟨w.heap.size + 1, i, none⟩ = (#[.int .u64 0, .int .u64 0] : Array Value)[i]? := fun i => hk3.cell i
  have hz3 := hb3.size
  clear hk hk3 hdw2 hcw1
  go_wp2
  refine bodyPost_ret (v := .agg #[.int .u64 r1, .int .u64 r2]) (by simp [results, Tryd.results55, go_sem, hdw3, hfw3]) rfl ?_
  exact ⟨rfl, set2b (hBw2.trans (hb3.mono (by omega)))⟩
/-- The set of the first k numbers of a row. -/
def ofX (f : Nat → Int) : Nat → Nat
  | 0 => 0
  | k + 1 => withX (ofX f k) (f k)
def ofY (f : Nat → Int) : Nat → Nat
  | 0 => 0
  | k + 1 => withY (ofY f k) (f k)
theorem wd_of (f : Nat → Int) (k : Nat) : Wd (ofX f k) ∧ Wd (ofY f k) := by
  induction k with
  | zero => exact ⟨by show 0 < 18446744073709551616; omega, by show 0 < 18446744073709551616; omega⟩
  | succ k ih => exact ⟨wd_withX _ ih.1, wd_withY _ ih.2⟩
theorem mem_of (f : Nat → Int) (k : Nat) (n : Int) (h0 : 0 ≤ n) (h1 : n < 128) : memB (ofX f k) (ofY f k) n = true ↔ ∃ i, i < k ∧ f i = n := by
  induction k with
  | zero => simp [ofX, ofY, mem_zero]
  | succ k ih =>
    simp only [ofX, ofY]
    rw [mem_with, Bool.or_eq_true, ih, Bool.and_eq_true, decide_eq_true_eq, decide_eq_true_eq]
    constructor
    · rintro (⟨i, hi, e⟩ | ⟨_, e⟩)
      · exact ⟨i, by omega, e⟩
      · exact ⟨k, by omega, e⟩
    · rintro ⟨i, hi, e⟩
      by_cases hk : i < k
      · exact .inl ⟨i, hk, e⟩
      · obtain rfl : i = k := by omega
        exact .inr ⟨by omega, e⟩
end Go.Proofs.YtejcgagblpkmoaaDoor
