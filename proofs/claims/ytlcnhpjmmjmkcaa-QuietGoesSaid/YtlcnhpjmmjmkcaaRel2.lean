/-
  Readers: what the cells of a value read as, type by type, stable while old memory stays. No conditions. The seat's closed facts: the program's set-up word, and that its table of types is laid out. A region that draws its order: operations that only read and callees that leave old memory, and behind them, in one forced order, a tail (a store of the result). One walk in the order of the text. A region in the text's order whose operations read or call what leaves old memory: walked against any grown world, up to its last call; the rest is walked from the grown world. A region that draws its order, whose operations make memory: of each operation a fact on its value that stays while memory grows, whatever order is drawn; behind the first n, in one forced order, a tail. The same rule where a fact may speak of the values on which the operation leans (guards whose outcome is not known ahead).
-/
import Derived.WalkKit
import Derived.ProofKit
import Derived.OpenShut
import Derived.ShutString
import Derived.ChangeOld
import Derived.Below
import Derived.Deep.Slices
import Derived.Deep.Fields
import Derived.Lib.Hide
import Derived.Lib.SmallJoins
import Derived.Test.YtlcnhpjmmjmkcaaRows
import Derived.WalkLawsBesides
import Derived.BigQuiet
import Derived.Deep.QuietTactic
import Derived.Deep.RegionHeld3
import Derived.Deep.DeepCutAuto
import Derived.StillTail
import Derived.LoopN
set_option linter.unusedVariables false
set_option linter.unusedSimpArgs false
namespace Go.Proofs.Ytlcnhpjmmjmkcaa
open Go.ChangeShapes Go.WideShapes Go.ChangeAt Go.RowKit Go.Deep

theorem ret_int {k : IntKind} {a b : Int} (h : a = b) : Ending.returned (.int k a) = .returned (.int k b) := by rw [h]
theorem val_int {k : IntKind} {a b : Int} (h : a = b) : Value.int k a = .int k b := by rw [h]
theorem ret_bool {a b : Bool} (h : a = b) : Ending.returned (.bool a) = .returned (.bool b) := by rw [h]

theorem alloc_size (w : World) (o : Obj) : (w.alloc o).heap.size = w.heap.size + 1 := by simp
/-- Block g of the world is just this row of cells, none of them frozen. -/
def Blk (w : World) (g : Nat) (t : TypeId) (cs : Array Value) : Prop := w.heap[g]? = some (.cells cs t (0, 0))
section
variable {w w' : World} {g : Nat} {t : TypeId} {cs : Array Value}
theorem Blk.lt (h : Blk w g t cs) : g < w.heap.size := by
  rcases Nat.lt_or_ge g w.heap.size with hl | hl
  · exact hl
  · unfold Blk at h
    rw [Array.getElem?_eq_none hl] at h
    cases h
theorem Blk.cell (h : Blk w g t cs) (i : Nat) : w.cell? ⟨g, i, none⟩ = cs[i]? := Joins.cell_of_block h i
theorem Blk.free (h : Blk w g t cs) (i : Nat) : w.frozen? ⟨g, i, none⟩ = false := Joins.unfrozen_of_block h i
theorem Blk.new (w : World) (t : TypeId) (cs : Array Value) : Blk (w.alloc (.cells cs t)) w.heap.size t cs := heap_alloc_new w _
theorem Blk.alloc (h : Blk w g t cs) (o : Obj) : Blk (w.alloc o) g t cs := (Below.heap_alloc w o g h.lt).trans h
theorem Blk.drewN (h : Blk w g t cs) (n : Nat) : Blk (w.drewN n) g t cs := h
theorem Blk.drew (h : Blk w g t cs) : Blk w.drew g t cs := h
theorem Blk.below {B : Nat} (h : Blk w g t cs) (hb : Below B w w') (hg : g < B) : Blk w' g t cs := (hb.block g hg).trans h
theorem Blk.far (h : Blk w g t cs) {p : Addr} (hp : g ≠ p.block) (u : Value) : Blk (w.setCell p u) g t cs := (Below.heap_setCell w p u g hp).trans h
theorem Blk.set_ (h : Blk w g t cs) (i : Nat) (u : Value) : Blk (w.setCell ⟨g, i, none⟩ u) g t (cs.setIfInBounds i u) := Joins.block_setCell h u
end
/-- What a call leaves: below the old size all cells and marks read as they did. -/
theorem bcell {W W1 : World} (hb : Below W.heap.size W W1) : (∀ b o, b < W.heap.size → W1.cell? ⟨b, o, none⟩ = W.cell? ⟨b, o, none⟩) ∧ (∀ b o, b < W.heap.size → W1.frozen? ⟨b, o, none⟩ = W.frozen? ⟨b, o, none⟩) :=
  ⟨fun b o h => hb.cell (p := ⟨b, o, none⟩) h, fun b o h => hb.frozen (p := ⟨b, o, none⟩) h⟩
theorem below_drewN {B : Nat} {a w : World} (h : Below B a w) (n : Nat) : Below B a (w.drewN n) := ⟨h.os, h.tape, h.output, h.size, h.block⟩
/-- A cell that is there reads the same behind a call that leaves old memory. -/
theorem keepc {w w' : World} (hb : Below w.heap.size w w') {a : Addr} {v : Value} (h : w.cell? a = some v) : w'.cell? a = some v := (hb.cell (World.block_lt_of_cell? w a h)).trans h
/-- A struct or an array that a function keeps in a cell row of its own. -/
theorem box (w : World) (t : TypeId) (cs : Array Value) : Below w.heap.size w (w.alloc (.cells cs t)) ∧ (∀ i, (w.alloc (.cells cs t)).cell? ⟨w.heap.size, i, none⟩ = cs[i]?) ∧ (w.alloc (.cells cs t)).heap.size = w.heap.size + 1 :=
  ⟨Joins.below_alloc1 _ _, fun i => (Blk.new w t cs).cell i, alloc_size _ _⟩
theorem box2 (w : World) (t1 : TypeId) (c1 : Array Value) (t2 : TypeId) (c2 : Array Value) : Below w.heap.size w ((w.alloc (.cells c1 t1)).alloc (.cells c2 t2)) ∧ (∀ i, ((w.alloc (.cells c1 t1)).alloc (.cells c2 t2)).cell? ⟨w.heap.size, i, none⟩ = c1[i]?) ∧
    (∀ i, ((w.alloc (.cells c1 t1)).alloc (.cells c2 t2)).cell? ⟨w.heap.size + 1, i, none⟩ = c2[i]?) ∧ w.heap.size + 1 < ((w.alloc (.cells c1 t1)).alloc (.cells c2 t2)).heap.size := by
  refine ⟨Joins.below_alloc2 _ _ _, fun i => ((Blk.new w t1 c1).alloc (.cells c2 t2)).cell i, fun i => ?_, by simp⟩
  have := (Blk.new (w.alloc (.cells c1 t1)) t2 c2).cell i
  rwa [alloc_size] at this
/-- What is held through a region: all that stood at its start. -/
theorem hold0 (W : World) : Below W.heap.size W W.drew ∧ ∀ b o, b < W.heap.size → W.drew.cell? ⟨b, o, none⟩ = W.cell? ⟨b, o, none⟩ := ⟨(Below.refl _ _).drew, fun _ _ _ => rfl⟩
theorem hold1 {W w w' : World} (h : Below W.heap.size W w ∧ ∀ b o, b < W.heap.size → w.cell? ⟨b, o, none⟩ = W.cell? ⟨b, o, none⟩) (hb : Below w.heap.size w w') :
    Below W.heap.size W w' ∧ ∀ b o, b < W.heap.size → w'.cell? ⟨b, o, none⟩ = W.cell? ⟨b, o, none⟩ :=
  have hh := h.1.trans (hb.mono h.1.size)
  ⟨hh, fun b o hlt => hh.cell (p := ⟨b, o, none⟩) hlt⟩
theorem hold2 {W w : World} (h : Below W.heap.size W w ∧ ∀ b o, b < W.heap.size → w.cell? ⟨b, o, none⟩ = W.cell? ⟨b, o, none⟩) (n : Nat) :
    Below W.heap.size W (w.drewN n) ∧ ∀ b o, b < W.heap.size → (w.drewN n).cell? ⟨b, o, none⟩ = W.cell? ⟨b, o, none⟩ := ⟨below_drewN h.1 n, h.2⟩
theorem getD_map {α β : Type} (l : List α) (f : α → β) (d : α) (k : Nat) (h : k < l.length) : (l.map f).toArray[k]? = some (f (l.getD k d)) := by
  simp [List.getD, List.getElem?_eq_getElem h]

abbrev Reader (α : Type) := World → List Value → α → Prop

/-- A reading stays while nothing that was there turns. -/
def Reader.Stays {α : Type} (R : Reader α) : Prop := ∀ (w w' : World) (cs : List Value) (a : α), R w cs a → Below w.heap.size w w' → R w' cs a

def RInt (k : IntKind) : Reader Int := fun _ cs n => cs = [.int k n] ∧ (Lit.int k n).wf = true
def RBool : Reader Bool := fun _ cs b => cs = [.bool b]
def RStr : Reader ByteArray := fun _ cs s => cs = [.string s] ∧ s.size ≤ maxLen

theorem RInt.stays (k : IntKind) : (RInt k).Stays := fun _ _ _ _ h _ => h
theorem RBool.stays : RBool.Stays := fun _ _ _ _ h _ => h
theorem RStr.stays : RStr.Stays := fun _ _ _ _ h _ => h

/-- A slice whose elements read as the list xs; an element has 'size' cells. -/
def RSlice {α : Type} (size : Nat) (R : Reader α) : Reader (List α) := fun w cs xs =>
  ∃ (A : Option Addr) (cap : Nat), cs = [.slice A xs.length cap] ∧ xs.length ≤ cap ∧ cap ≤ maxLen ∧
    (0 < xs.length → ∃ b off, A = some ⟨b, off, none⟩ ∧ b < w.heap.size ∧
      ∀ i a, xs[i]? = some a → ∃ es, R w es a ∧ es.length = size ∧ ∀ j u, es[j]? = some u → w.cell? ⟨b, off + i * size + j, none⟩ = some u)

theorem RSlice.stays {α : Type} {size : Nat} {R : Reader α} (hR : R.Stays) : (RSlice size R).Stays := by
  rintro w w' cs xs ⟨A, cap, hcs, hl, hm, h⟩ hb
  refine ⟨A, cap, hcs, hl, hm, fun hp => ?_⟩
  obtain ⟨b, off, hA, hlt, hx⟩ := h hp
  refine ⟨b, off, hA, Nat.lt_of_lt_of_le hlt hb.size, fun i a hi => ?_⟩
  obtain ⟨es, h1, h2, h3⟩ := hx i a hi
  exact ⟨es, hR _ _ _ _ h1 hb, h2, fun j u hj => (hb.cell (p := ⟨b, off + i * size + j, none⟩) hlt).trans (h3 j u hj)⟩

section
variable {α : Type} {H : Type} {enc : TypeId × Value → H} {P : Program} {w : World} {base : Nat} {spare : Nat → Bool} {held : Bool}

theorem read_int {t : TypeId} {k : IntKind} (ht : P.underlying t = some (.int k)) {n : Nat} {cs : List Value} {x : DataW H × List MemPlace} (h : DataW.trod enc P w base spare held n t cs = some x) : ∃ a, RInt k w cs a := by
  obtain ⟨a, rfl, _, hw⟩ := DataW.trod_int ht h
  exact ⟨a, rfl, hw⟩
theorem read_bool {t : TypeId} (ht : P.underlying t = some .bool) {n : Nat} {cs : List Value} {x : DataW H × List MemPlace} (h : DataW.trod enc P w base spare held n t cs = some x) : ∃ a, RBool w cs a := by
  obtain ⟨a, rfl, _⟩ := DataW.trod_bool ht h
  exact ⟨a, rfl⟩
theorem read_str {t : TypeId} (ht : P.underlying t = some .string) {n : Nat} {cs : List Value} {x : DataW H × List MemPlace} (h : DataW.trod enc P w base spare held n t cs = some x) : ∃ a, RStr w cs a := by
  obtain ⟨a, rfl, _, hw⟩ := DataW.trod_string ht h
  exact ⟨a, rfl, hw⟩

/-- A struct of one-cell fields, field by field. -/
theorem read_fields {t : TypeId} {fs : Array Field} (ht : P.underlying t = some (.struct fs)) (hone : oneCellFields P fs = true) (hC : P.cellsOf t = fs.size)
    {n : Nat} {cs : List Value} {x : DataW H × List MemPlace} (h : DataW.trod enc P w base spare held n t cs = some x) :
    cs.length = fs.size ∧ ∃ m, ∀ (j : Nat) (f : Field), fs[j]? = some f → ∃ (v : Value) (y : DataW H × List MemPlace), cs[j]? = some v ∧ DataW.trod enc P w base spare held m f.type [v] = some y := by
  obtain ⟨ys, m, _, _, hlen, hyl, hf⟩ := DataW.trod_struct ht h
  rw [hC] at hlen
  refine ⟨hlen, m, fun j f hj => ?_⟩
  obtain ⟨ho, hk⟩ := hone_of hone j f hj
  have hjl : j < fs.size := (Array.getElem?_eq_some_iff.1 hj).1
  have h1 := hf j f hj
  rw [ho, hk, List.drop_eq_getElem_cons (by omega)] at h1
  rw [show (cs[j]'(by omega) :: cs.drop (j + 1)).take 1 = [cs[j]'(by omega)] from rfl, List.getElem?_eq_getElem (by omega)] at h1
  exact ⟨_, _, List.getElem?_eq_getElem (by omega), h1⟩

theorem choose_list {n : Nat} {p : Nat → α → Prop} (h : ∀ i, i < n → ∃ x, p i x) : ∃ l : List α, l.length = n ∧ ∀ i a, l[i]? = some a → p i a := by
  induction n with
  | zero => exact ⟨[], rfl, fun i a hi => by simp at hi⟩
  | succ n ih =>
    obtain ⟨l, hl, hp⟩ := ih (fun i hi => h i (by omega))
    obtain ⟨x, hx⟩ := h n (by omega)
    refine ⟨l ++ [x], by simp [hl], fun i a hi => ?_⟩
    by_cases hin : i < l.length
    · rw [List.getElem?_append_left hin] at hi
      exact hp i a hi
    · rw [List.getElem?_append_right (by omega)] at hi
      have h0 : i - l.length = 0 := by
        rcases Nat.eq_zero_or_pos (i - l.length) with h0 | h0
        · exact h0
        · rw [List.getElem?_eq_none (by simp; omega)] at hi
          cases hi
      rw [h0] at hi
      simp at hi
      subst hi
      have : i = n := by omega
      subst this
      exact hx

theorem read_slice {t e : TypeId} {size : Nat} {R : Reader α} (ht : P.underlying t = some (.slice e)) (hc : P.cellsOf e = size) (hsz : 0 < size)
    (hR : ∀ (n : Nat) (cs : List Value) (x : DataW H × List MemPlace), DataW.trod enc P w base spare held n e cs = some x → ∃ a, R w cs a)
    {n : Nat} {cs : List Value} {x : DataW H × List MemPlace} (h : DataW.trod enc P w base spare held n t cs = some x) : ∃ a, RSlice size R w cs a := by
  rcases open_slice ht h with ⟨rfl, _⟩ | ⟨a, len, cap, m, n', D, Pl, rfl, hb, hl, hm, hmm, hx, hi⟩
  · exact ⟨[], none, 0, rfl, Nat.le_refl _, Nat.zero_le _, fun h => by simp at h⟩
  · subst hc
    obtain ⟨xs, hxl, hxs⟩ := choose_list (n := len) (p := fun i a' => ∃ es, R w es a' ∧ es.length = P.cellsOf e ∧ ∀ j u, es[j]? = some u → w.cell? (a.add (i * P.cellsOf e + j)) = some u) (by
      intro i hil
      obtain ⟨cs', hcs, htr⟩ := hi i (by rw [hmm]; split <;> omega)
      obtain ⟨a', ha'⟩ := hR _ _ _ htr
      obtain ⟨_, hcl, hat⟩ := World.cells?_some hcs
      refine ⟨a', cs', ha', hcl, fun j u hj => ?_⟩
      have hjl : j < P.cellsOf e := by
        have := (List.getElem?_eq_some_iff.1 hj).1
        omega
      rw [← Go.Deep.add_add, hat j hjl, hj])
    refine ⟨xs, some a, cap, by rw [hxl], by omega, hm, fun hpos => ?_⟩
    obtain ⟨es, _, hel, hce⟩ := hxs 0 (xs[0]'hpos) (List.getElem?_eq_getElem hpos)
    have h0 := hce 0 _ (List.getElem?_eq_getElem (by omega))
    have hadd : a.add (0 * P.cellsOf e + 0) = a := by simp [Addr.add]
    rw [hadd] at h0
    obtain ⟨b, off, spot⟩ := a
    obtain rfl : spot = none := World.cell?_spot h0
    refine ⟨b, off, rfl, World.block_lt_of_cell? w _ h0, fun i a' hia => ?_⟩
    obtain ⟨es', h1, h2, h3⟩ := hxs i a' hia
    refine ⟨es', h1, h2, fun j u hj => ?_⟩
    have := h3 j u hj
    rwa [show (⟨b, off, none⟩ : Addr).add (i * P.cellsOf e + j) = ⟨b, off + i * P.cellsOf e + j, none⟩ from by rw [Nat.add_assoc]; unfold Addr.add; split <;> simp_all] at this
end
end Go.Proofs.Ytlcnhpjmmjmkcaa
set_option linter.unusedVariables false
set_option linter.unusedSimpArgs false
namespace Go.Proofs.Ytlcnhpjmmjmkcaa
open Go.RowKit
theorem Base.own : ownKnob Try.prog.godebug = none := by kernel_rfl
theorem Base.laidOut : laidOutB Try.prog = true := by kernel_rfl

/-- A callee that leaves the world alone, inside a region that only reads. -/
theorem q_left {P : Program} {f : FuncId} {args : Array Value} {w : World} {n : Nat} {v : Value}
    (h : Calls P f args (w.drewN n) fun e w' => e = .returned v ∧ w.drewN n = w') : Calls P f args (w.drewN n) fun e w'' => e = .returned v ∧ ∃ m, w'' = w.drewN m :=
  h.mono fun _ _ ⟨he, hm⟩ => ⟨he, n, hm.symm⟩
/-- .. one that draws alone. -/
theorem q_drew {P : Program} {f : FuncId} {args : Array Value} {w : World} {n : Nat} {v : Value}
    (h : Calls P f args (w.drewN n) fun e w' => e = .returned v ∧ ∃ m, w' = (w.drewN n).drewN m) : Calls P f args (w.drewN n) fun e w'' => e = .returned v ∧ ∃ m, w'' = w.drewN m :=
  h.mono fun _ _ ⟨he, m, hm⟩ => ⟨he, n + m, by rw [hm, World.drewN_drewN]⟩
theorem q_left2 {P : Program} {f : FuncId} {args : Array Value} {w : World} {a n : Nat} {v : Value}
    (h : Calls P f args (w.drewN (a + n)) fun e w' => e = .returned v ∧ w.drewN (a + n) = w') : Calls P f args (w.drewN (a + n)) fun e w'' => e = .returned v ∧ ∃ m, w'' = w.drewN (a + m) :=
  h.mono fun _ _ ⟨he, hm⟩ => ⟨he, n, hm.symm⟩
theorem q_drew2 {P : Program} {f : FuncId} {args : Array Value} {w : World} {a n : Nat} {v : Value}
    (h : Calls P f args (w.drewN (a + n)) fun e w' => e = .returned v ∧ ∃ m, w' = (w.drewN (a + n)).drewN m) : Calls P f args (w.drewN (a + n)) fun e w'' => e = .returned v ∧ ∃ m, w'' = w.drewN (a + m) :=
  h.mono fun _ _ ⟨he, m, hm⟩ => ⟨he, n + m, by rw [hm, World.drewN_drewN, Nat.add_assoc]⟩

/-- A world that has grown out of W: all that stood in W stands. -/
def Grow (W : World) : Type := { w' : World // Below W.heap.size W w' }
instance growNonempty (W : World) : Nonempty (Grow W) := ⟨⟨W, Below.refl _ _⟩⟩
def Grow.world {W : World} (g : Grow W) : World := g.1
theorem Grow.cell {W : World} (g : Grow W) {b o : Nat} (h : b < W.heap.size) : g.world.cell? ⟨b, o, none⟩ = W.cell? ⟨b, o, none⟩ := g.2.cell (p := ⟨b, o, none⟩) h
theorem Grow.frozen {W : World} (g : Grow W) {b o : Nat} (h : b < W.heap.size) : g.world.frozen? ⟨b, o, none⟩ = W.frozen? ⟨b, o, none⟩ := g.2.frozen (p := ⟨b, o, none⟩) h
theorem Grow.below {W : World} (g : Grow W) : Below W.heap.size W g.world := g.2
attribute [go_sem] Grow.cell Grow.frozen
section
variable {P : Program} {f : FuncId} {args : Array Value} {W : World} {g : Grow W} {v : Value}
/-- A callee that leaves old memory, inside a region that holds it. -/
theorem grow_of (h : Calls P f args g.world fun e w' => e = .returned v ∧ Below g.world.heap.size g.world w') : Calls P f args g.world fun e w'' => e = .returned v ∧ ∃ g' : Grow W, w'' = g'.world :=
  h.mono fun _ w' ⟨he, hb⟩ => ⟨he, ⟨w', g.2.trans (hb.mono g.2.size)⟩, rfl⟩
theorem grow_same (h : Calls P f args g.world fun e w' => e = .returned v ∧ g.world = w') : Calls P f args g.world fun e w'' => e = .returned v ∧ ∃ g' : Grow W, w'' = g'.world :=
  h.mono fun _ w' ⟨he, hb⟩ => ⟨he, g, hb.symm⟩
theorem grow_draw (h : Calls P f args g.world fun e w' => e = .returned v ∧ ∃ n, w' = g.world.drewN n) : Calls P f args g.world fun e w'' => e = .returned v ∧ ∃ g' : Grow W, w'' = g'.world :=
  h.mono fun _ w' ⟨he, n, hb⟩ => ⟨he, ⟨w', g.2.trans (hb ▸ Joins.below_draws _ _ _)⟩, rfl⟩
end
/-- A region that draws its order, whose operations only read and whose callees leave old memory: one walk in the order of the text. -/
theorem wp_region_grow {P : Program} {id : Nat} {Q : Exit → Act → World → Prop} {a : Act} {w : World} {l : List Oper} (hm : P.follows .mixedOrders = true) (hB : Region.lexB .any l.toArray = true)
    (h : wpQuiet P l.toArray (fun w' => ∃ g : Grow w, w' = g.world) (fun a' => ∀ w', Below w.heap.size w w' → Q .normal a' w') l a) : (Code.region id l.toArray true).wp P Q a w := by
  have e : (fun a' => ∀ w', Below w.heap.size w w' → Q .normal a' w') = (fun a' => ∀ w', (∃ g : Grow w, w' = g.world) → Q .normal a' w') := by
    funext a'
    refine propext ⟨fun h w' ⟨g, hg⟩ => h w' (hg ▸ g.2), fun h w' hb => h w' ⟨⟨w', hb⟩, rfl⟩⟩
  rw [e] at h
  exact wp_region_quiet (C := fun w' => ∃ g : Grow w, w' = g.world) hm hB ⟨⟨w.drew, (Below.refl _ _).drew⟩, rfl⟩ (by simpa using h)
theorem below_of_alloc {B w : World} (h : Below B.heap.size B w) (o : Obj) : Below B.heap.size B (w.alloc o) := h.alloc h.size o
/-- Behind a call that was made with one more block. -/
theorem below_box {B w' w2 : World} {o : Obj} (hb : Below B.heap.size B w') (hb2 : Below (w'.alloc o).heap.size (w'.alloc o) w2) : Below B.heap.size B w2 :=
  (hb.alloc hb.size o).trans (hb2.mono (by have := hb.size; simp; omega))
end Go.Proofs.Ytlcnhpjmmjmkcaa
set_option linter.unusedVariables false
set_option linter.unusedSimpArgs false
namespace Go.Proofs.Ytlcnhpjmmjmkcaa
open Go Go.Joins Go.RowKit
section
variable {P : Program} {ops : Array Oper} {md : Region.Mode} {C : World → Prop}

/-- Whatever order is picked of the first n, till L holds. -/
def headQ (P : Program) (md : Region.Mode) (ops : Array Oper) (C : World → Prop) (n : Nat) (L : Array Bool → Act → Prop) : Nat → Array Bool → Act → Prop
  | 0, done, a => L done a
  | f + 1, done, a => Region.ready md ops done ≠ [] ∧ ∀ i ∈ Region.ready md ops done, i < n ∧ qOp P ops C i (headQ P md ops C n L f (done.setIfInBounds i true)) a

theorem any_of_headQ {n g : Nat} {L : Array Bool → Act → Prop} {Q' : Exit → Act → World → Prop} (hL : ∀ done a w, C w → L done a → wpAny P md ops Q' g done a w) (f : Nat) :
    ∀ (done : Array Bool) (a : Act) (w : World), C w → headQ P md ops C n L f done a → wpAny P md ops Q' (f + g) done a w := by
  induction f with
  | zero => intro done a w hw h; rw [Nat.zero_add]; exact hL _ _ _ hw h
  | succ f ih =>
    intro done a w hw h
    have e : f + 1 + g = (f + g) + 1 := by omega
    rw [e]
    refine ⟨fun h0 => absurd h0 h.1, fun i hi => ?_⟩
    exact wpOp_of_qOp hw (fun a' w' hw' h' => ih _ a' w' hw' h') (h.2 i hi).2

/-- One that may come now may be taken first. -/
theorem headQ_first {n i : Nat} {oi : Oper} {v : Value} {L : Array Bool → Act → Prop} (hi : ops[i]? = some oi) (hsel : ∀ (j : Nat) (o : Oper) cs b, ops[j]? = some o → o.op ≠ .select cs b)
    (hs : Region.sinkB md ops n = true) (hc : Region.chainB md ops n = true) (hn : n < ops.size) (hin : i < n) (hend : ∀ done a, L done a → ∀ j ∈ Region.ready md ops done, n ≤ j) (f : Nat) :
    ∀ (done : Array Bool) (a : Act), HeadInv md ops n done →
      (∀ j oj, ops[j]? = some oj → j ≠ i → done.getD j true = false → (∀ e ∈ oj.after, Region.binds md e = true → e.on ≠ i) → oi.apart ops oj = true) →
      i ∈ Region.ready md ops done → YieldsIn P ops C oi v a → headQ P md ops C n L f (done.setIfInBounds i true) (a.put oi.dst v) → headQ P md ops C n L (f + 1) done a := by
  induction f with
  | zero =>
    intro done a inv _ hr hy H
    have hun := (mem_ready.1 hr).1
    have low : ∀ j, j ∈ Region.ready md ops done → j < n := fun j hj => Nat.lt_of_not_le fun hle => tail_waits hs hc hn inv _ i rfl hin hun j hle hj
    refine ⟨List.ne_nil_of_mem hr, fun j hj => ⟨low j hj, ?_⟩⟩
    by_cases e : j = i
    · subst e; exact hy.qOp hi H
    · have h1 := hend _ _ H j (ready_mono hj e)
      have h2 := low j hj
      omega
  | succ f ih =>
    intro done a inv hfree hr hy H
    have hun := (mem_ready.1 hr).1
    have low : ∀ j, j ∈ Region.ready md ops done → j < n := fun j hj => Nat.lt_of_not_le fun hle => tail_waits hs hc hn inv _ i rfl hin hun j hle hj
    refine ⟨List.ne_nil_of_mem hr, fun j hj => ⟨low j hj, ?_⟩⟩
    by_cases e : j = i
    · subst e; exact hy.qOp hi H
    · obtain ⟨hjun, oj, hoj, hall⟩ := mem_ready.1 hj
      have apart := hfree j oj hoj e hjun fun x hx hb hxi => by
        have hh := hall x hx hb
        rw [hxi, getD_both hun] at hh
        cases hh
      have step := qOp_put hoj apart (fun cs b => hsel i oi cs b hi) (fun cs b => hsel j oj cs b hoj) hy (H.2 j (ready_mono hj e)).2
      refine qOp_mono (fun a' h3 => ih _ a' (inv.set hj (low j hj)) ?_ (ready_mono hr (Ne.symm e)) h3.1 ?_) step
      · intro k ok hk hki hku hno
        refine hfree k ok hk hki ?_ hno
        by_cases hjk : j = k
        · subst hjk; exact hjun
        · rwa [getD_set_ne true hjk] at hku
      · rw [Array.setIfInBounds_comm _ _ e]
        exact h3.2

theorem headQ_text {n g : Nat} {Q : Act → Prop} (hsel : Region.noSelect ops = true) (hs : Region.sinkB md ops n = true) (hc : Region.chainB md ops n = true) (hn : n < ops.size) (l : List Oper) :
    ∀ (k : Nat) (done : Array Bool) (a : Act), (∀ j, j < l.length → l[j]? = ops[k + j]?) → k + l.length = n → HeadInv md ops n done → Region.lexHead md ops g l.length k done = true → wpQuiet P ops C Q l a →
      headQ P md ops C n (fun d a' => Region.seqB md ops g n d = true ∧ Q a') l.length done a := by
  induction l with
  | nil =>
    intro k done a _ hk inv hB h
    obtain rfl : k = n := by simpa using hk
    exact ⟨by simpa [Region.lexHead] using hB, h⟩
  | cons o l ih =>
    intro k done a hl hk inv hB h
    have h0 : ops[k]? = some o := by simpa using (hl 0 (by simp)).symm
    simp only [List.length_cons, Region.lexHead, Bool.and_eq_true] at hB
    have hkn : k < n := by simp only [List.length_cons] at hk; omega
    have hr : k ∈ Region.ready md ops done := by simpa using hB.1.1
    have hq : qOp P ops C k (wpQuiet P ops C Q l) a := by unfold qOp; simp only [h0]; exact h
    obtain ⟨v, hy, hK⟩ := yieldsIn_of_qOp h0 hq
    refine headQ_first h0 (Region.noSelect_spec hsel) hs hc hn hkn (fun d a' hL => seqB_ready hL.1) l.length done a inv (Region.free_spec h0 hB.1.2) hr hy ?_
    refine ih (k + 1) _ _ (fun j hj => ?_) (by simp only [List.length_cons] at hk; omega) (inv.set hr hkn) hB.2 hK
    have := hl (j + 1) (by simp; omega)
    simpa [Nat.add_assoc, Nat.add_comm 1 j] using this
end
/-- The first n operations read or call what leaves old memory; the tail is walked from any world that has grown. -/
theorem wp_region_grow_tail {P : Program} {id : Nat} {Q : Exit → Act → World → Prop} {a : Act} {w : World} {l : List Oper} (n : Nat) (hm : P.follows .mixedOrders = true) (hB : Region.lexTailB .any l.toArray n = true)
    (h : wpQuiet P l.toArray (fun w' => ∃ g : Grow w, w' = g.world) (fun a' => ∀ w', Below w.heap.size w w' → wpList P l.toArray Q (l.drop n) a' w') (l.take n) a) : (Code.region id l.toArray true).wp P Q a w := by
  simp only [Region.lexTailB, Bool.and_eq_true, decide_eq_true_eq] at hB
  obtain ⟨⟨⟨⟨hsel, hn⟩, hs⟩, hc⟩, hlex⟩ := hB
  have hn' : n < l.length := by simpa using hn
  have htl : (l.take n).length = n := by simp; omega
  have hdl : (l.drop n).length = l.toArray.size - n := by simp
  have inv0 : HeadInv .any l.toArray n (Array.replicate l.toArray.size false) :=
    ⟨by simp, fun j oj _ hl => by (rw [getD_replicate_false] at hl; cases hl), fun t _ ht => getD_in (by simpa using ht) (getD_replicate_false _ _)⟩
  have H := headQ_text (md := .any) (g := l.toArray.size - n) hsel hs hc hn (l.take n) 0 _ a (fun j hj => by
    rw [htl] at hj
    simp [hj]) (by simpa using htl) inv0 (by rw [htl]; exact hlex) h
  refine wp_region_any hm ?_
  have := any_of_headQ (Q' := Q) (g := l.toArray.size - n) (fun d a' w' hw' hL => by
    obtain ⟨gr, rfl⟩ := hw'
    have hh := wpAny_of_seq (md := .any) (Q' := Q) (l.drop n) n d a' gr.world (fun j => by simp [List.getElem?_drop]) (by rw [hdl]; exact hL.1) (hL.2 _ gr.2)
    rwa [hdl] at hh) _ _ _ { w with drawn := w.drawn + 1 } ⟨⟨w.drew, (Below.refl _ _).drew⟩, rfl⟩ H
  rw [htl, show n + (l.toArray.size - n) = l.toArray.size by omega] at this
  exact this
end Go.Proofs.Ytlcnhpjmmjmkcaa
set_option linter.unusedVariables false
set_option linter.unusedSimpArgs false
namespace Go.Proofs.Ytlcnhpjmmjmkcaa
open Go Go.Joins Go.RowKit

/-- A call of a function of the program. -/
def isCall (o : Oper) : Bool := match o.op with
  | .call c => match c.callee with
    | .value _ => true
    | _ => false
  | _ => false
/-- The n-th operation is the last call. -/
def lastCall (l : List Oper) (n : Nat) : Bool := decide (n ≤ l.length) && (match n with
  | 0 => false
  | k + 1 => match l[k]? with
    | some o => isCall o
    | none => false) && (l.drop n).all (fun o => !isCall o)
section
variable {P : Program} {ops : Array Oper} {C : World → Prop} {Q : Act → Prop} {Q' : Exit → Act → World → Prop}
theorem wpList_of_quiet {L : List Oper} (hL : ∀ a w, C w → Q a → wpList P ops Q' L a w) : ∀ (l : List Oper) (a : Act) (w : World), C w → wpQuiet P ops C Q l a → wpList P ops Q' (l ++ L) a w
  | [], a, w, hw, h => hL a w hw h
  | o :: rest, a, w, hw, h => by
    unfold wpQuiet at h
    simp only [List.cons_append, wpList]
    split at h
    · rename_i hq
      rw [if_pos hq]
      exact .inl (Oper.wp_of_quiet hw (fun a' w' hw' hk => wpList_of_quiet hL rest a' w' hw' hk) h)
    · rename_i hq
      rw [if_neg hq]
      exact wpList_of_quiet hL rest _ w hw h
end
theorem wpList_grow {P : Program} {ops : Array Oper} {Q : Exit → Act → World → Prop} {a : Act} {w : World} {l : List Oper} (n : Nat) (hn : lastCall l n = true)
    (h : wpQuiet P ops (fun w' => ∃ g : Grow w, w' = g.world) (fun a' => ∀ w', Below w.heap.size w w' → wpList P ops Q (l.drop n) a' w') (l.take n) a) : wpList P ops Q l a w := by
  have := wpList_of_quiet (C := fun w' => ∃ g : Grow w, w' = g.world) (Q' := Q) (L := l.drop n) (fun a' w' hw' hq => by
    obtain ⟨g, rfl⟩ := hw'
    exact hq _ g.2) (l.take n) a w ⟨⟨w, Below.refl _ _⟩, rfl⟩ h
  rwa [List.take_append_drop] at this
/-- Does it hold a call? -/
def someCall (l : List Oper) : Bool := l.any isCall
theorem wpList_here {P : Program} {ops : Array Oper} {Q : Exit → Act → World → Prop} {a : Act} {w : World} {l : List Oper} (hn : someCall l = true) (h : wpList P ops Q l a w) : wpList P ops Q l a w := h
/-- The same for a region that draws its order and ends with what follows its last call. -/
theorem wp_region_any_here {P : Program} {id : Nat} {Q : Exit → Act → World → Prop} {a : Act} {w : World} {l : List Oper} (hn : someCall l = true) (h : (Code.region id l.toArray true).wp P Q a w) : (Code.region id l.toArray true).wp P Q a w := h
theorem wp_region_drawn {P : Program} {id : Nat} {Q : Exit → Act → World → Prop} {a : Act} {w : World} {l : List Oper} (n : Nat) (hn : lastCall l n = true) (hm : P.follows .mixedOrders = true) (hB : Region.lexTailB .any l.toArray n = true)
    (h : wpQuiet P l.toArray (fun w' => ∃ g : Grow w, w' = g.world) (fun a' => ∀ w', Below w.heap.size w w' → wpList P l.toArray Q (l.drop n) a' w') (l.take n) a) : (Code.region id l.toArray true).wp P Q a w :=
  wp_region_grow_tail n hm hB h
/-- A walk halts here. -/
def Hold (p : Prop) : Prop := p
theorem Hold.of {p : Prop} (h : p) : Hold p := h
theorem hold_list {P : Program} {ops : Array Oper} {Q : Exit → Act → World → Prop} {a : Act} {w : World} {l : List Oper} (hn : someCall l = true) (h : Hold (wpList P ops Q l a w)) : wpList P ops Q l a w := h
theorem hold_region {P : Program} {id : Nat} {Q : Exit → Act → World → Prop} {a : Act} {w : World} {l : List Oper} (hn : someCall l = true) (h : Hold ((Code.region id l.toArray true).wp P Q a w)) : (Code.region id l.toArray true).wp P Q a w := h
theorem rounds_in {P : Program} {c : Code} {Q : Exit → Act → World → Prop} {n : Nat} {a : Act} {w : World} (h : c.wp P (Exit.then (Code.rounds P c Q n) Q) a w) : Code.rounds P c Q (n + 1) a w := h
theorem hold_loop {P : Program} {c : Code} {Q : Exit → Act → World → Prop} {a : Act} {w : World} (h : Hold ((Code.loop c).wp P Q a w)) : (Code.loop c).wp P Q a w := h
theorem hold_slot {P : Program} {ops : Array Oper} {Q : Exit → Act → World → Prop} {a : Act} {w : World} {op : Op} {ty : TypeId} {pos : String} {af : Array Edge} {g : Option (Nat × Bool)} {l : List Oper} (k : Nat) (h : Hold (wpList P ops Q ({ dst := some k, op := op, type := ty, pos := pos, after := af, guard := g } :: l) a w)) : wpList P ops Q ({ dst := some k, op := op, type := ty, pos := pos, after := af, guard := g } :: l) a w := h
theorem blk_at {w : World} {t : TypeId} {cs : Array Value} {n : Nat} (h : w.heap.size = n) : Blk (w.alloc (.cells cs t)) n t cs := h ▸ Blk.new w t cs
theorem bel_at {B w : World} (h : Below B.heap.size B w) (o : Obj) : Below B.heap.size B (w.alloc o) := h.alloc h.size o
end Go.Proofs.Ytlcnhpjmmjmkcaa
set_option linter.unusedVariables false
set_option linter.unusedSimpArgs false
namespace Go.Proofs.Ytlcnhpjmmjmkcaa
open Go Go.Joins Go.RowKit
section
variable {P : Program}

/-- What an operation hands back, and that memory grows alone. -/
def growsUpon (P : Program) (w : World) (R : Value → World → Prop) : Result Next → Prop
  | .ok (.value u) w' => Below w.heap.size w w' ∧ R u w'
  | .ok (.enter f args) w' => Below w.heap.size w w' ∧ Calls P f args w' (fun e w'' => ∃ v, e = .returned v ∧ Below w.heap.size w w'' ∧ R v w'')
  | _ => False
def grows (P : Program) (o : Oper) (a : Act) (w : World) (R : Value → World → Prop) : Prop := growsUpon P w R ((execOp a.eval o).run P w)

/-- The same, and nothing where its guard bars it. -/
def gop (P : Program) (ops : Array Oper) (o : Oper) (a : Act) (w : World) (R : Value → World → Prop) : Prop := if Region.wanted o (yielded ops a.tmps) = true then grows P o a w R else R undef w
theorem wp_of_grows {o : Oper} {a : Act} {w : World} {R : Value → World → Prop} {K : Act → World → Prop} {Q : Exit → Act → World → Prop} (h : grows P o a w R) (hK : ∀ v w', Below w.heap.size w w' → R v w' → K (a.put o.dst v) w') : o.wp P a w K Q := by
  unfold grows at h
  unfold Oper.wp
  generalize (execOp a.eval o).run P w = r at *
  cases r with
  | ok n w' =>
    cases n <;> simp only [growsUpon] at h <;> simp only [Oper.upon]
    case value u => exact hK _ _ h.1 h.2
    case enter f args =>
      exact h.2.mono fun e w'' ⟨v, he, hb, hr⟩ => by subst he; exact hK _ _ hb hr
  | halt x w' => simp only [growsUpon] at h

/-- The frame with the operations' slots filled. -/
def frm (a : Act) : List Nat → (Nat → Value) → Act
  | [], _ => a
  | d :: D, f => frm { a with tmps := a.tmps.setIfInBounds d (f d) } D f
theorem frm_size (D : List Nat) : ∀ (a : Act) (f : Nat → Value), (frm a D f).tmps.size = a.tmps.size := by
  induction D with
  | nil => intro a f; rfl
  | cons d D ih => intro a f; unfold frm; rw [ih]; simp
theorem frm_defers (D : List Nat) : ∀ (a : Act) (f : Nat → Value), (frm a D f).defers = a.defers := by
  induction D with
  | nil => intro a f; rfl
  | cons d D ih => intro a f; unfold frm; rw [ih]
theorem frm_get (D : List Nat) : ∀ (a : Act) (f : Nat → Value) (k : Nat), (∀ d ∈ D, d < a.tmps.size) → (frm a D f).tmps[k]? = if k ∈ D then some (f k) else a.tmps[k]? := by
  induction D with
  | nil => intro a f k _; simp [frm]
  | cons d D ih =>
    intro a f k hd
    unfold frm
    rw [ih _ f k (fun x hx => by simp; exact hd x (by simp [hx]))]
    by_cases h1 : k ∈ D
    · simp [h1]
    · by_cases h2 : k = d
      · subst h2
        simp [h1, Array.getElem?_setIfInBounds, hd k (by simp)]
      · have : ¬ d = k := fun e => h2 e.symm
        simp [h1, h2, Array.getElem?_setIfInBounds, this]
/-- A frame that is the old one but for these slots. -/
structure Agree (a : Act) (D : List Nat) (a' : Act) : Prop where
  size : a'.tmps.size = a.tmps.size
  defers : a'.defers = a.defers
  get : ∀ k, k ∉ D → a'.tmps[k]? = a.tmps[k]?
theorem Agree.eq {a a' : Act} {D : List Nat} (h : Agree a D a') (hd : ∀ d ∈ D, d < a.tmps.size) : a' = frm a D (fun k => a'.tmps.getD k undef) := by
  obtain ⟨t', f'⟩ := a'
  have e1 : t' = (frm a D (fun k => t'.getD k undef)).tmps := by
    apply Array.ext_getElem?
    intro k
    rw [frm_get D a _ k hd]
    by_cases hk : k ∈ D
    · rw [if_pos hk]
      have : k < t'.size := by have := hd k hk; have := h.size; simp at this; omega
      simp [Array.getD_eq_getD_getElem?, Array.getElem?_eq_getElem this]
    · rw [if_neg hk]
      exact h.get k hk
  have e2 : f' = (frm a D (fun k => t'.getD k undef)).defers := by rw [frm_defers]; exact h.defers
  generalize hz : frm a D (fun k => t'.getD k undef) = z at *
  obtain ⟨zt, zf⟩ := z
  simp only at e1 e2
  rw [e1, e2]
theorem Agree.put {a a' : Act} {D : List Nat} (h : Agree a D a') {d : Nat} (hd : d ∈ D) (v : Value) : Agree a D (a'.put (some d) v) := by
  refine ⟨by simp [Act.put, h.size], by simp [Act.put, h.defers], fun k hk => ?_⟩
  have : ¬ d = k := fun e => hk (e ▸ hd)
  simp [Act.put, Array.getElem?_setIfInBounds, this, h.get k hk]

/-- How many of the first n are still to come. -/
def undone (done : Array Bool) : Nat → Nat
  | 0 => 0
  | k + 1 => undone done k + (if done.getD k false = true then 0 else 1)
theorem undone_zero {done : Array Bool} {n : Nat} (h : undone done n = 0) : ∀ i, i < n → done.getD i false = true := by
  induction n with
  | zero => intro i hi; omega
  | succ n ih =>
    intro i hi
    unfold undone at h
    split at h
    · rename_i hn
      by_cases hin : i = n
      · rw [hin]; exact hn
      · exact ih (by omega) i (by omega)
    · omega
theorem undone_some {done : Array Bool} {n m : Nat} (h : undone done n = m + 1) : ∃ i, i < n ∧ done.getD i false = false ∧ ∀ j, j < i → done.getD j false = true := by
  have key : ∀ n, (∀ j, j < n → done.getD j false = true) ∨ ∃ i, i < n ∧ done.getD i false = false ∧ ∀ j, j < i → done.getD j false = true := by
    intro n
    induction n with
    | zero => exact .inl fun j hj => by omega
    | succ n ih =>
      rcases ih with ih | ⟨i, h1, h2, h3⟩
      · by_cases hn : done.getD n false = true
        · refine .inl fun j hj => ?_
          by_cases e : j = n
          · rw [e]; exact hn
          · exact ih j (by omega)
        · exact .inr ⟨n, by omega, by simpa using hn, ih⟩
      · exact .inr ⟨i, by omega, h2, h3⟩
  rcases key n with hk | hk
  · exfalso
    have : ∀ k, k ≤ n → undone done k = 0 := by
      intro k
      induction k with
      | zero => intro _; rfl
      | succ k ih => intro hkn; unfold undone; rw [ih (by omega), if_pos (hk k (by omega))]
    rw [this n (Nat.le_refl _)] at h
    omega
  · exact hk
theorem getD_set (done : Array Bool) (i j : Nat) (hi : i < done.size) : (done.setIfInBounds i true).getD j false = if j = i then true else done.getD j false := by
  simp only [Array.getD_eq_getD_getElem?, Array.getElem?_setIfInBounds]
  by_cases h : i = j
  · subst h; simp [hi]
  · have h' : ¬ j = i := fun e => h e.symm
    simp [h, h']
theorem undone_set {done : Array Bool} {n i : Nat} (hi : i < n) (his : i < done.size) (hu : done.getD i false = false) : undone (done.setIfInBounds i true) n + 1 = undone done n := by
  have far : ∀ k, k ≤ i → undone (done.setIfInBounds i true) k = undone done k := by
    intro k
    induction k with
    | zero => intro _; rfl
    | succ k ih =>
      intro hk
      unfold undone
      have hne : ¬ k = i := by omega
      rw [ih (by omega), getD_set _ _ _ his, if_neg hne]
  induction n with
  | zero => omega
  | succ n ih =>
    unfold undone
    rw [getD_set _ _ _ his]
    by_cases hin : i = n
    · subst hin
      rw [far i (Nat.le_refl _), if_pos rfl, hu]
      simp
    · have := ih (by omega)
      have hne : ¬ n = i := by omega
      rw [if_neg hne]
      omega
/-- The first n done. -/
def doneN (s n : Nat) : Array Bool := ((List.range s).map fun i => decide (i < n)).toArray
def nodupB : List Nat → Bool
  | [] => true
  | d :: D => !(D.any (· == d)) && nodupB D
theorem nodup_of {D : List Nat} (h : nodupB D = true) : D.Nodup := by
  induction D with
  | nil => exact List.nodup_nil
  | cons d D ih =>
    simp only [nodupB, Bool.and_eq_true, Bool.not_eq_true'] at h
    refine List.nodup_cons.2 ⟨fun hm => ?_, ih h.2⟩
    have : D.any (· == d) = true := List.any_eq_true.2 ⟨d, hm, by simp⟩
    rw [this] at h
    cases h.1
/-- What is asked of the region's text. -/
def relB (md : Region.Mode) (ops : Array Oper) (n : Nat) (D : List Nat) : Bool :=
  Region.sinkB md ops n && Region.chainB md ops n && decide (n < ops.size) && Region.seqB md ops (ops.size - n) n (doneN ops.size n) &&
  (List.range n).all (fun i => match ops[i]? with
    | some o => (match o.dst with
      | some d => decide (D[i]? = some d)
      | none => false) && o.after.all (fun e => !Region.binds md e || decide (e.on < i))
    | none => false) && nodupB D && decide (D.length = n)
/-- What stands of the operations on which one leans. -/
def leans (md : Region.Mode) (D : List Nat) (R : Nat → Value → World → Prop) (f : Nat → Value) (w : World) : List Edge → Prop
  | [] => True
  | e :: es => (if Region.binds md e = true then R e.on (f (D.getD e.on 0)) w else True) ∧ leans md D R f w es
theorem leans_of {md : Region.Mode} {D : List Nat} {R : Nat → Value → World → Prop} {f : Nat → Value} {w : World} (l : List Edge) (h : ∀ e ∈ l, Region.binds md e = true → R e.on (f (D.getD e.on 0)) w) : leans md D R f w l := by
  induction l with
  | nil => trivial
  | cons e es ih =>
    refine ⟨?_, ih fun x hx => h x (by simp [hx])⟩
    split
    · rename_i hb; exact h e (by simp) hb
    · trivial
/-- Each operation, on its own. -/
def eachRel (P : Program) (ops : Array Oper) (md : Region.Mode) (W : World) (a : Act) (D : List Nat) (R : Nat → Value → World → Prop) : Nat → List Oper → Prop
  | _, [] => True
  | i, o :: os => (∀ f w, Below W.heap.size W w → leans md D R f w o.after.toList → gop P ops o (frm a D f) w (R i)) ∧ eachRel P ops md W a D R (i + 1) os
theorem eachRel_at {ops : Array Oper} {md : Region.Mode} {W : World} {a : Act} {D : List Nat} {R : Nat → Value → World → Prop} (l : List Oper) : ∀ (k : Nat), eachRel P ops md W a D R k l → ∀ i o, l[i]? = some o → ∀ f w, Below W.heap.size W w → leans md D R f w o.after.toList → gop P ops o (frm a D f) w (R (k + i)) := by
  induction l with
  | nil => intro k _ i o h; simp at h
  | cons x l ih =>
    intro k h i o hi
    cases i with
    | zero => simp at hi; subst hi; exact h.1
    | succ i =>
      simp at hi
      have := ih (k + 1) h.2 i o hi
      rwa [show k + 1 + i = k + (i + 1) by omega] at this
/-- At the end: what holds of each value. -/
def allRel (D : List Nat) (R : Nat → Value → World → Prop) (f : Nat → Value) (w : World) : Nat → Prop
  | 0 => True
  | k + 1 => allRel D R f w k ∧ R k (f (D.getD k 0)) w
end
section
variable {P : Program}
theorem wp_region_rel {id : Nat} {Q : Exit → Act → World → Prop} {a : Act} {w : World} {l : List Oper} (n : Nat) (D : List Nat) (R : Nat → Value → World → Prop) (hm : P.follows .mixedOrders = true) (hB : relB .any l.toArray n D = true)
    (hD : D.all (· < a.tmps.size) = true) (stays : ∀ i v w1 w2, R i v w1 → Below w1.heap.size w1 w2 → R i v w2)
    (each : eachRel P l.toArray .any w a D R 0 (l.take n))
    (tail : ∀ f w', Below w.heap.size w w' → allRel D R f w' n → wpList P l.toArray Q (l.drop n) (frm a D f) w') : (Code.region id l.toArray true).wp P Q a w := by
  unfold relB at hB
  simp only [Bool.and_eq_true, decide_eq_true_eq] at hB
  obtain ⟨⟨⟨⟨⟨⟨hs, hc⟩, hn⟩, hseq⟩, hops⟩, hnd⟩, hlen⟩ := hB
  replace hnd := nodup_of hnd
  have hd : ∀ d ∈ D, d < a.tmps.size := by
    intro d hdd
    have := List.all_eq_true.1 hD d hdd
    simpa using this
  have hn' : n < l.length := by simpa using hn
  have facts : ∀ i, i < n → ∃ o d, l.toArray[i]? = some o ∧ o.dst = some d ∧ D[i]? = some d ∧ ∀ e ∈ o.after, Region.binds .any e = true → e.on < i := by
    intro i hi
    have h := List.all_eq_true.1 hops i (List.mem_range.2 hi)
    cases ho : l.toArray[i]? with
    | none => rw [ho] at h; simp at h
    | some o =>
      rw [ho] at h
      simp only [Bool.and_eq_true] at h
      obtain ⟨hdst, haf⟩ := h
      cases hdd : o.dst with
      | none => rw [hdd] at hdst; simp at hdst
      | some d =>
        rw [hdd] at hdst
        refine ⟨o, d, rfl, hdd, by simpa using hdst, fun e he hb => ?_⟩
        have := Array.all_eq_true'.1 haf e he
        rw [hb] at this
        simpa using this
  have key : ∀ m done (a' : Act) (w' : World), undone done n = m → HeadInv .any l.toArray n done → Agree a D a' → Below w.heap.size w w' → (∀ i, i < n → done.getD i false = true → R i (a'.tmps.getD (D.getD i 0) undef) w') →
      wpAny P .any l.toArray Q (m + (l.toArray.size - n)) done a' w' := by
    intro m
    induction m with
    | zero =>
      intro done a' w' hu inv ag hb hR
      have hall := undone_zero hu
      have e : done = doneN l.toArray.size n := by
        apply Array.ext_getElem?
        intro k
        unfold doneN
        by_cases hk : k < l.toArray.size
        · have hk2 : k < done.size := by rw [inv.size]; exact hk
          rw [Array.getElem?_eq_getElem hk2, Array.getElem?_eq_getElem (by simpa using hk)]
          congr 1
          simp only [List.getElem_toArray, List.getElem_map, List.getElem_range]
          by_cases hkn : k < n
          · have := hall k hkn
            simp [Array.getD_eq_getD_getElem?, Array.getElem?_eq_getElem hk2] at this
            simp [this, hkn]
          · have := inv.tail k (by omega) hk
            simp [Array.getD_eq_getD_getElem?, Array.getElem?_eq_getElem hk2] at this
            simp [this, hkn]
        · rw [Array.getElem?_eq_none (by rw [inv.size]; omega), Array.getElem?_eq_none (by simpa using hk)]
      have hf := tail (fun k => a'.tmps.getD k undef) w' hb (by
        have : ∀ k, k ≤ n → allRel D R (fun k => a'.tmps.getD k undef) w' k := by
          intro k
          induction k with
          | zero => intro _; trivial
          | succ k ih => intro hk; exact ⟨ih (by omega), hR k (by omega) (hall k (by omega))⟩
        exact this n (Nat.le_refl _))
      rw [← ag.eq hd] at hf
      have hdl : (l.drop n).length = l.toArray.size - n := by simp
      have := wpAny_of_seq (md := .any) (Q' := Q) (l.drop n) n done a' w' (fun j => by simp [List.getElem?_drop]) (by rw [hdl, e]; exact hseq) hf
      rwa [hdl, ← Nat.zero_add (l.toArray.size - n)] at this
    | succ m ih =>
      intro done a' w' hu inv ag hb hR
      obtain ⟨i0, hi0, hu0, hlo⟩ := undone_some hu
      have hi0s : i0 < done.size := by rw [inv.size]; simp; omega
      rw [show m + 1 + (l.toArray.size - n) = (m + (l.toArray.size - n)) + 1 by omega]
      have hu0' := getD_in hi0s hu0
      refine ⟨fun h0 => ?_, fun i hi => ?_⟩
      · exfalso
        obtain ⟨o, d, ho, _, _, hback⟩ := facts i0 hi0
        have : i0 ∈ Region.ready .any l.toArray done := mem_ready.2 ⟨hu0', o, ho, fun e he hbn => hlo _ (hback e he hbn)⟩
        rw [h0] at this
        cases this
      · have hin : i < n := Nat.lt_of_not_le fun hle => tail_waits hs hc hn inv _ i0 rfl hi0 hu0' i hle hi
        obtain ⟨hun, oi, hoi, hdeps⟩ := mem_ready.1 hi
        obtain ⟨o, d, ho, hdst, hDi, hback⟩ := facts i hin
        obtain rfl : oi = o := Option.some.inj (hoi.symm.trans ho)
        have his : i < done.size := by rw [inv.size]; simp; omega
        have hunf : done.getD i false = false := getD_both hun
        have hdm : d ∈ D := List.mem_of_getElem? hDi
        have hgd : D.getD i 0 = d := by simp [List.getD, hDi]
        have hl : leans .any D R (fun k => a'.tmps.getD k undef) w' oi.after.toList := leans_of _ fun e he hbn => by
          have h1 := hback e (by simpa using he) hbn
          exact hR e.on (by omega) (hdeps e (by simpa using he) hbn)
        have hgr := eachRel_at (l.take n) 0 each i oi (by rw [List.getElem?_take_of_lt hin]; simpa using hoi) (fun k => a'.tmps.getD k undef) w' hb hl
        rw [← ag.eq hd, Nat.zero_add] at hgr
        have fin : ∀ v w'', Below w'.heap.size w' w'' → R i v w'' → wpAny P .any l.toArray Q (m + (l.toArray.size - n)) (done.setIfInBounds i true) (a'.put oi.dst v) w'' := by
          intro v w'' hb2 hr
          rw [hdst]
          refine ih _ _ _ (by have := undone_set hin his hunf; omega) (inv.set hi hin) (ag.put hdm v) (hb.trans (hb2.mono hb.size)) fun j hj hdj => ?_
          have hds : d < a'.tmps.size := by rw [ag.size]; exact hd d hdm
          by_cases hji : j = i
          · subst hji
            rw [hgd]
            simpa [Act.put, Array.getD_eq_getD_getElem?, Array.getElem?_setIfInBounds, hds] using hr
          · rw [getD_set _ _ _ his, if_neg hji] at hdj
            obtain ⟨_, dj, _, _, hDj, _⟩ := facts j hj
            have hgj : D.getD j 0 = dj := by simp [List.getD, hDj]
            have hne : ¬ d = dj := by
              intro e
              subst e
              have h1 : i < D.length := by omega
              have h2 : j < D.length := by omega
              rw [List.getElem?_eq_getElem h1] at hDi
              rw [List.getElem?_eq_getElem h2] at hDj
              have h3 : D[i] = D[j] := by
                rw [Option.some.inj hDi, Option.some.inj hDj]
              exact hji ((List.getElem_inj hnd).1 h3).symm
            have := stays _ _ _ _ (hR j hj hdj) hb2
            rw [hgj] at this ⊢
            simpa [Act.put, Array.getD_eq_getD_getElem?, Array.getElem?_setIfInBounds, hne] using this
        show wpOp P l.toArray Q i _ a' w'
        unfold wpOp
        simp only [hoi]
        unfold gop at hgr
        split
        · rename_i hwan
          rw [if_pos hwan] at hgr
          exact .inl (wp_of_grows hgr fin)
        · rename_i hwan
          rw [if_neg hwan] at hgr
          exact fin _ _ (Below.refl _ _) hgr
  refine wp_region_any hm ?_
  have inv0 : HeadInv .any l.toArray n (Array.replicate l.toArray.size false) :=
    ⟨by simp, fun j oj _ hl => by (rw [getD_replicate_false] at hl; cases hl), fun t _ ht => getD_in (by simpa using ht) (getD_replicate_false _ _)⟩
  have hu : undone (Array.replicate l.toArray.size false) n = n := by
    have : ∀ k, undone (Array.replicate l.toArray.size false) k = k := by
      intro k
      induction k with
      | zero => rfl
      | succ k ih => unfold undone; rw [ih, getD_replicate_false]; simp
    exact this n
  have := key n (Array.replicate l.toArray.size false) a { w with drawn := w.drawn + 1 } hu inv0 ⟨rfl, rfl, fun _ _ => rfl⟩ ((Below.refl _ _).drew) (fun i _ h => by rw [getD_replicate_false] at h; cases h)
  rwa [show n + (l.toArray.size - n) = l.toArray.size by omega] at this
end
end Go.Proofs.Ytlcnhpjmmjmkcaa
set_option linter.unusedVariables false
set_option linter.unusedSimpArgs false
namespace Go.Proofs.Ytlcnhpjmmjmkcaa
open Go Go.Joins Go.RowKit
section
variable {P : Program}
theorem gop_yes {ops : Array Oper} {o : Oper} {a : Act} {w : World} {R : Value → World → Prop} (h : Region.wanted o (yielded ops a.tmps) = true) (hg : grows P o a w R) : gop P ops o a w R := by unfold gop; rw [if_pos h]; exact hg
theorem gop_no {ops : Array Oper} {o : Oper} {a : Act} {w : World} {R : Value → World → Prop} (h : Region.wanted o (yielded ops a.tmps) = false) (hg : R undef w) : gop P ops o a w R := by unfold gop; rw [if_neg (by rw [h]; exact Bool.false_ne_true)]; exact hg
/-- One slot more. -/
def upd (f : Nat → Value) (d : Nat) (v : Value) (k : Nat) : Value := if k = d then v else f k
/-- What stands of the operations on which one leans2. -/
def leans2 (md : Region.Mode) (D : List Nat) (R : Nat → (Nat → Value) → World → Prop) (f : Nat → Value) (w : World) : List Edge → Prop
  | [] => True
  | e :: es => (if Region.binds md e = true then R e.on f w else True) ∧ leans2 md D R f w es
theorem leans2_of {md : Region.Mode} {D : List Nat} {R : Nat → (Nat → Value) → World → Prop} {f : Nat → Value} {w : World} (l : List Edge) (h : ∀ e ∈ l, Region.binds md e = true → R e.on f w) : leans2 md D R f w l := by
  induction l with
  | nil => trivial
  | cons e es ih =>
    refine ⟨?_, ih fun x hx => h x (by simp [hx])⟩
    split
    · rename_i hb; exact h e (by simp) hb
    · trivial
/-- Each operation, on its own. -/
def eachRel2 (P : Program) (ops : Array Oper) (md : Region.Mode) (W : World) (a : Act) (D : List Nat) (R : Nat → (Nat → Value) → World → Prop) : Nat → List Oper → Prop
  | _, [] => True
  | i, o :: os => (∀ f w, Below W.heap.size W w → leans2 md D R f w o.after.toList → gop P ops o (frm a D f) w (fun v w2 => R i (upd f (D.getD i 0) v) w2)) ∧ eachRel2 P ops md W a D R (i + 1) os
theorem eachRel2_at {ops : Array Oper} {md : Region.Mode} {W : World} {a : Act} {D : List Nat} {R : Nat → (Nat → Value) → World → Prop} (l : List Oper) : ∀ (k : Nat), eachRel2 P ops md W a D R k l → ∀ i o, l[i]? = some o → ∀ f w, Below W.heap.size W w → leans2 md D R f w o.after.toList → gop P ops o (frm a D f) w (fun v w2 => R (k + i) (upd f (D.getD (k + i) 0) v) w2) := by
  induction l with
  | nil => intro k _ i o h; simp at h
  | cons x l ih =>
    intro k h i o hi
    cases i with
    | zero => simp at hi; subst hi; exact h.1
    | succ i =>
      simp at hi
      have := ih (k + 1) h.2 i o hi
      rwa [show k + 1 + i = k + (i + 1) by omega] at this
/-- At the end: what holds of each value. -/
def allRel2 (D : List Nat) (R : Nat → (Nat → Value) → World → Prop) (f : Nat → Value) (w : World) : Nat → Prop
  | 0 => True
  | k + 1 => allRel2 D R f w k ∧ R k f w
end
section
variable {P : Program}
theorem wp_region_rel2 {id : Nat} {Q : Exit → Act → World → Prop} {a : Act} {w : World} {l : List Oper} (n : Nat) (D : List Nat) (R : Nat → (Nat → Value) → World → Prop) (hm : P.follows .mixedOrders = true) (hB : relB .any l.toArray n D = true)
    (hD : D.all (· < a.tmps.size) = true) (stays : ∀ i f w1 w2, R i f w1 → Below w1.heap.size w1 w2 → R i f w2)
    (loc : ∀ i f f' w o, l[i]? = some o → f (D.getD i 0) = f' (D.getD i 0) → (∀ e ∈ o.after, Region.binds .any e = true → f (D.getD e.on 0) = f' (D.getD e.on 0)) → R i f w → R i f' w)
    (each : eachRel2 P l.toArray .any w a D R 0 (l.take n))
    (tail : ∀ f w', Below w.heap.size w w' → allRel2 D R f w' n → wpList P l.toArray Q (l.drop n) (frm a D f) w') : (Code.region id l.toArray true).wp P Q a w := by
  unfold relB at hB
  simp only [Bool.and_eq_true, decide_eq_true_eq] at hB
  obtain ⟨⟨⟨⟨⟨⟨hs, hc⟩, hn⟩, hseq⟩, hops⟩, hnd⟩, hlen⟩ := hB
  replace hnd := nodup_of hnd
  have hd : ∀ d ∈ D, d < a.tmps.size := by
    intro d hdd
    have := List.all_eq_true.1 hD d hdd
    simpa using this
  have hn' : n < l.length := by simpa using hn
  have facts : ∀ i, i < n → ∃ o d, l.toArray[i]? = some o ∧ o.dst = some d ∧ D[i]? = some d ∧ ∀ e ∈ o.after, Region.binds .any e = true → e.on < i := by
    intro i hi
    have h := List.all_eq_true.1 hops i (List.mem_range.2 hi)
    cases ho : l.toArray[i]? with
    | none => rw [ho] at h; simp at h
    | some o =>
      rw [ho] at h
      simp only [Bool.and_eq_true] at h
      obtain ⟨hdst, haf⟩ := h
      cases hdd : o.dst with
      | none => rw [hdd] at hdst; simp at hdst
      | some d =>
        rw [hdd] at hdst
        refine ⟨o, d, rfl, hdd, by simpa using hdst, fun e he hb => ?_⟩
        have := Array.all_eq_true'.1 haf e he
        rw [hb] at this
        simpa using this
  have key : ∀ m done (a' : Act) (w' : World), undone done n = m → HeadInv .any l.toArray n done → Agree a D a' → Below w.heap.size w w' → (∀ i, i < n → done.getD i false = true → R i (fun k => a'.tmps.getD k undef) w') →
      wpAny P .any l.toArray Q (m + (l.toArray.size - n)) done a' w' := by
    intro m
    induction m with
    | zero =>
      intro done a' w' hu inv ag hb hR
      have hall := undone_zero hu
      have e : done = doneN l.toArray.size n := by
        apply Array.ext_getElem?
        intro k
        unfold doneN
        by_cases hk : k < l.toArray.size
        · have hk2 : k < done.size := by rw [inv.size]; exact hk
          rw [Array.getElem?_eq_getElem hk2, Array.getElem?_eq_getElem (by simpa using hk)]
          congr 1
          simp only [List.getElem_toArray, List.getElem_map, List.getElem_range]
          by_cases hkn : k < n
          · have := hall k hkn
            simp [Array.getD_eq_getD_getElem?, Array.getElem?_eq_getElem hk2] at this
            simp [this, hkn]
          · have := inv.tail k (by omega) hk
            simp [Array.getD_eq_getD_getElem?, Array.getElem?_eq_getElem hk2] at this
            simp [this, hkn]
        · rw [Array.getElem?_eq_none (by rw [inv.size]; omega), Array.getElem?_eq_none (by simpa using hk)]
      have hf := tail (fun k => a'.tmps.getD k undef) w' hb (by
        have : ∀ k, k ≤ n → allRel2 D R (fun k => a'.tmps.getD k undef) w' k := by
          intro k
          induction k with
          | zero => intro _; trivial
          | succ k ih => intro hk; exact ⟨ih (by omega), hR k (by omega) (hall k (by omega))⟩
        exact this n (Nat.le_refl _))
      rw [← ag.eq hd] at hf
      have hdl : (l.drop n).length = l.toArray.size - n := by simp
      have := wpAny_of_seq (md := .any) (Q' := Q) (l.drop n) n done a' w' (fun j => by simp [List.getElem?_drop]) (by rw [hdl, e]; exact hseq) hf
      rwa [hdl, ← Nat.zero_add (l.toArray.size - n)] at this
    | succ m ih =>
      intro done a' w' hu inv ag hb hR
      obtain ⟨i0, hi0, hu0, hlo⟩ := undone_some hu
      have hi0s : i0 < done.size := by rw [inv.size]; simp; omega
      rw [show m + 1 + (l.toArray.size - n) = (m + (l.toArray.size - n)) + 1 by omega]
      have hu0' := getD_in hi0s hu0
      refine ⟨fun h0 => ?_, fun i hi => ?_⟩
      · exfalso
        obtain ⟨o, d, ho, _, _, hback⟩ := facts i0 hi0
        have : i0 ∈ Region.ready .any l.toArray done := mem_ready.2 ⟨hu0', o, ho, fun e he hbn => hlo _ (hback e he hbn)⟩
        rw [h0] at this
        cases this
      · have hin : i < n := Nat.lt_of_not_le fun hle => tail_waits hs hc hn inv _ i0 rfl hi0 hu0' i hle hi
        obtain ⟨hun, oi, hoi, hdeps⟩ := mem_ready.1 hi
        obtain ⟨o, d, ho, hdst, hDi, hback⟩ := facts i hin
        obtain rfl : oi = o := Option.some.inj (hoi.symm.trans ho)
        have his : i < done.size := by rw [inv.size]; simp; omega
        have hunf : done.getD i false = false := getD_both hun
        have hdm : d ∈ D := List.mem_of_getElem? hDi
        have hgd : D.getD i 0 = d := by simp [List.getD, hDi]
        have hl : leans2 .any D R (fun k => a'.tmps.getD k undef) w' oi.after.toList := leans2_of _ fun e he hbn => by
          have h1 := hback e (by simpa using he) hbn
          exact hR e.on (by omega) (hdeps e (by simpa using he) hbn)
        have hgr := eachRel2_at (l.take n) 0 each i oi (by rw [List.getElem?_take_of_lt hin]; simpa using hoi) (fun k => a'.tmps.getD k undef) w' hb hl
        rw [← ag.eq hd, Nat.zero_add] at hgr
        have hds : d < a'.tmps.size := by rw [ag.size]; exact hd d hdm
        have ndup : ∀ j, j < n → ¬ j = i → ¬ D.getD j 0 = d := by
          intro j hj hji e
          obtain ⟨_, dj, _, _, hDj, _⟩ := facts j hj
          have hgj : D.getD j 0 = dj := by simp [List.getD, hDj]
          have h1 : i < D.length := by omega
          have h2 : j < D.length := by omega
          rw [hgj] at e
          subst e
          rw [List.getElem?_eq_getElem h1] at hDi
          rw [List.getElem?_eq_getElem h2] at hDj
          have h3 : D[i] = D[j] := by
            rw [Option.some.inj hDi, Option.some.inj hDj]
          exact hji ((List.getElem_inj hnd).1 h3).symm
        have fin : ∀ v w'', Below w'.heap.size w' w'' → R i (upd (fun k => a'.tmps.getD k undef) (D.getD i 0) v) w'' → wpAny P .any l.toArray Q (m + (l.toArray.size - n)) (done.setIfInBounds i true) (a'.put oi.dst v) w'' := by
          intro v w'' hb2 hr
          rw [hdst]
          have hf : (fun k => (a'.put (some d) v).tmps.getD k undef) = upd (fun k => a'.tmps.getD k undef) (D.getD i 0) v := by
            funext k
            rw [hgd]
            unfold upd
            by_cases hk : k = d
            · rw [if_pos hk, hk]
              simp [Act.put, Array.getD_eq_getD_getElem?, Array.getElem?_setIfInBounds, hds]
            · rw [if_neg hk]
              have hk' : ¬ d = k := fun e => hk e.symm
              simp [Act.put, Array.getD_eq_getD_getElem?, Array.getElem?_setIfInBounds, hk']
          refine ih _ _ _ (by have := undone_set hin his hunf; omega) (inv.set hi hin) (ag.put hdm v) (hb.trans (hb2.mono hb.size)) fun j hj hdj => ?_
          rw [hf]
          by_cases hji : j = i
          · subst hji
            exact hr
          · rw [getD_set _ _ _ his, if_neg hji] at hdj
            obtain ⟨oj, dj, hoj, _, hDj, _⟩ := facts j hj
            have hne := ndup j hj hji
            refine loc j _ _ w'' oj (by simpa using hoj) ?_ (fun e he hbn => ?_) (stays _ _ _ _ (hR j hj hdj) hb2)
            · unfold upd
              rw [hgd, if_neg hne]
            · have hde := inv.closed j oj hoj hdj e he hbn
              have hen : e.on < n := by
                apply Nat.lt_of_not_le
                intro hle
                by_cases hsz : e.on < l.toArray.size
                · have h1 := getD_both (inv.tail e.on hle hsz)
                  rw [hde] at h1
                  cases h1
                · rw [Array.getD_eq_getD_getElem?, Array.getElem?_eq_none (by rw [inv.size]; omega)] at hde
                  cases hde
              have hei : ¬ e.on = i := by
                intro e2
                rw [e2, hunf] at hde
                cases hde
              unfold upd
              rw [hgd, if_neg (ndup e.on hen hei)]
        show wpOp P l.toArray Q i _ a' w'
        unfold wpOp
        simp only [hoi]
        unfold gop at hgr
        split
        · rename_i hwan
          rw [if_pos hwan] at hgr
          exact .inl (wp_of_grows hgr fin)
        · rename_i hwan
          rw [if_neg hwan] at hgr
          exact fin _ _ (Below.refl _ _) hgr
  refine wp_region_any hm ?_
  have inv0 : HeadInv .any l.toArray n (Array.replicate l.toArray.size false) :=
    ⟨by simp, fun j oj _ hl => by (rw [getD_replicate_false] at hl; cases hl), fun t _ ht => getD_in (by simpa using ht) (getD_replicate_false _ _)⟩
  have hu : undone (Array.replicate l.toArray.size false) n = n := by
    have : ∀ k, undone (Array.replicate l.toArray.size false) k = k := by
      intro k
      induction k with
      | zero => rfl
      | succ k ih => unfold undone; rw [ih, getD_replicate_false]; simp
    exact this n
  have := key n (Array.replicate l.toArray.size false) a { w with drawn := w.drawn + 1 } hu inv0 ⟨rfl, rfl, fun _ _ => rfl⟩ ((Below.refl _ _).drew) (fun i _ h => by rw [getD_replicate_false] at h; cases h)
  rwa [show n + (l.toArray.size - n) = l.toArray.size by omega] at this
end
end Go.Proofs.Ytlcnhpjmmjmkcaa
