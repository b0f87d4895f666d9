
/-
  A region in the text's order whose operations read or call what leaves old memory: walked against any grown world, up to its last call; the rest is walked from the grown world.
-/
import Derived.Test.YtgfhgopfhcakhaaDoorTail
import Derived.LoopN
set_option linter.unusedVariables false
set_option linter.unusedSimpArgs false
namespace Go.Proofs.YtgfhgopfhcakhaaDoor
open Go Go.Joins Go.RowKit

/-- A call of a function of the program. -/
def isCall (o : Oper) : Bool := match o.op with
  | .call c => match c.callee with
    | .value _ => true
    | _ => false
  | _ => false
/-- The n-th operation is the last call. -/
def lastCall (l : List Oper) (n : Nat) : Bool := decide (n ≤ l.length) && (match n with
  | 0 => false
  | k + 1 => match l[k]? with
    | some o => isCall o
    | none => false) && (l.drop n).all (fun o => !isCall o)
section
variable {P : Program} {ops : Array Oper} {C : World → Prop} {Q : Act → Prop} {Q' : Exit → Act → World → Prop}
theorem wpList_of_quiet {L : List Oper} (hL : ∀ a w, C w → Q a → wpList P ops Q' L a w) : ∀ (l : List Oper) (a : Act) (w : World), C w → wpQuiet P ops C Q l a → wpList P ops Q' (l ++ L) a w
  | [], a, w, hw, h => hL a w hw h
  | o :: rest, a, w, hw, h => by
    unfold wpQuiet at h
    simp only [List.cons_append, wpList]
    split at h
    · rename_i hq
      rw [if_pos hq]
      exact .inl (Oper.wp_of_quiet hw (fun a' w' hw' hk => wpList_of_quiet hL rest a' w' hw' hk) h)
    · rename_i hq
      rw [if_neg hq]
      exact wpList_of_quiet hL rest _ w hw h
end
theorem wpList_grow {P : Program} {ops : Array Oper} {Q : Exit → Act → World → Prop} {a : Act} {w : World} {l : List Oper} (n : Nat) (hn : lastCall l n = true)
    (h : wpQuiet P ops (fun w' => ∃ g : Grow w, w' = g.world) (fun a' => ∀ w', Below w.heap.size w w' → wpList P ops Q (l.drop n) a' w') (l.take n) a) : wpList P ops Q l a w := by
  have := wpList_of_quiet (C := fun w' => ∃ g : Grow w, w' = g.world) (Q' := Q) (L := l.drop n) (fun a' w' hw' hq => by
    obtain ⟨g, rfl⟩ := hw'
    exact hq _ g.2) (l.take n) a w ⟨⟨w, Below.refl _ _⟩, rfl⟩ h
  rwa [List.take_append_drop] at this
/-- Does it hold a call? -/
def someCall (l : List Oper) : Bool := l.any isCall
theorem wpList_here {P : Program} {ops : Array Oper} {Q : Exit → Act → World → Prop} {a : Act} {w : World} {l : List Oper} (hn : someCall l = true) (h : wpList P ops Q l a w) : wpList P ops Q l a w := h
/-- The same for a region that draws its order and ends with what follows its last call. -/
theorem wp_region_any_here {P : Program} {id : Nat} {Q : Exit → Act → World → Prop} {a : Act} {w : World} {l : List Oper} (hn : someCall l = true) (h : (Code.region id l.toArray true).wp P Q a w) : (Code.region id l.toArray true).wp P Q a w := h
theorem wp_region_drawn {P : Program} {id : Nat} {Q : Exit → Act → World → Prop} {a : Act} {w : World} {l : List Oper} (n : Nat) (hn : lastCall l n = true) (hm : P.follows .mixedOrders = true) (hB : Region.lexTailB .any l.toArray n = true)
    (h : wpQuiet P l.toArray (fun w' => ∃ g : Grow w, w' = g.world) (fun a' => ∀ w', Below w.heap.size w w' → wpList P l.toArray Q (l.drop n) a' w') (l.take n) a) : (Code.region id l.toArray true).wp P Q a w :=
  wp_region_grow_tail n hm hB h
/-- A walk halts here. -/
def Hold (p : Prop) : Prop := p
theorem Hold.of {p : Prop} (h : p) : Hold p := h
theorem hold_list {P : Program} {ops : Array Oper} {Q : Exit → Act → World → Prop} {a : Act} {w : World} {l : List Oper} (hn : someCall l = true) (h : Hold (wpList P ops Q l a w)) : wpList P ops Q l a w := h
theorem hold_region {P : Program} {id : Nat} {Q : Exit → Act → World → Prop} {a : Act} {w : World} {l : List Oper} (hn : someCall l = true) (h : Hold ((Code.region id l.toArray true).wp P Q a w)) : (Code.region id l.toArray true).wp P Q a w := h
theorem rounds_in {P : Program} {c : Code} {Q : Exit → Act → World → Prop} {n : Nat} {a : Act} {w : World} (h : c.wp P (Exit.then (Code.rounds P c Q n) Q) a w) : Code.rounds P c Q (n + 1) a w := h
theorem hold_loop {P : Program} {c : Code} {Q : Exit → Act → World → Prop} {a : Act} {w : World} (h : Hold ((Code.loop c).wp P Q a w)) : (Code.loop c).wp P Q a w := h
theorem hold_slot {P : Program} {ops : Array Oper} {Q : Exit → Act → World → Prop} {a : Act} {w : World} {op : Op} {ty : TypeId} {pos : String} {af : Array Edge} {g : Option (Nat × Bool)} {l : List Oper} (k : Nat) (h : Hold (wpList P ops Q ({ dst := some k, op := op, type := ty, pos := pos, after := af, guard := g } :: l) a w)) : wpList P ops Q ({ dst := some k, op := op, type := ty, pos := pos, after := af, guard := g } :: l) a w := h
theorem blk_at {w : World} {t : TypeId} {cs : Array Value} {n : Nat} (h : w.heap.size = n) : Blk (w.alloc (.cells cs t)) n t cs := h ▸ Blk.new w t cs
theorem bel_at {B w : World} (h : Below B.heap.size B w) (o : Obj) : Below B.heap.size B (w.alloc o) := h.alloc h.size o
end Go.Proofs.YtgfhgopfhcakhaaDoor
