
/-
  The seat's closed facts: the program's set-up word, and that its table of types is laid out.
-/
import Derived.Test.YtgfhgopfhcakhaaDoorRows
import Derived.Test.YtgfhgopfhcakhaaDoorRead
import Derived.WalkLawsBesides
import Derived.BigQuiet
import Derived.Deep.QuietTactic
import Derived.Deep.RegionHeld3
import Derived.Deep.DeepCutAuto
set_option linter.unusedVariables false
set_option linter.unusedSimpArgs false
namespace Go.Proofs.YtgfhgopfhcakhaaDoor
open Go.RowKit
theorem Base.own : ownKnob Tryd.prog.godebug = none := by kernel_rfl
theorem Base.laidOut : laidOutB Tryd.prog = true := by kernel_rfl

/-- A callee that leaves the world alone, inside a region that only reads. -/
theorem q_left {P : Program} {f : FuncId} {args : Array Value} {w : World} {n : Nat} {v : Value}
    (h : Calls P f args (w.drewN n) fun e w' => e = .returned v ∧ w.drewN n = w') : Calls P f args (w.drewN n) fun e w'' => e = .returned v ∧ ∃ m, w'' = w.drewN m :=
  h.mono fun _ _ ⟨he, hm⟩ => ⟨he, n, hm.symm⟩
/-- .. one that draws alone. -/
theorem q_drew {P : Program} {f : FuncId} {args : Array Value} {w : World} {n : Nat} {v : Value}
    (h : Calls P f args (w.drewN n) fun e w' => e = .returned v ∧ ∃ m, w' = (w.drewN n).drewN m) : Calls P f args (w.drewN n) fun e w'' => e = .returned v ∧ ∃ m, w'' = w.drewN m :=
  h.mono fun _ _ ⟨he, m, hm⟩ => ⟨he, n + m, by rw [hm, World.drewN_drewN]⟩
theorem q_left2 {P : Program} {f : FuncId} {args : Array Value} {w : World} {a n : Nat} {v : Value}
    (h : Calls P f args (w.drewN (a + n)) fun e w' => e = .returned v ∧ w.drewN (a + n) = w') : Calls P f args (w.drewN (a + n)) fun e w'' => e = .returned v ∧ ∃ m, w'' = w.drewN (a + m) :=
  h.mono fun _ _ ⟨he, hm⟩ => ⟨he, n, hm.symm⟩
theorem q_drew2 {P : Program} {f : FuncId} {args : Array Value} {w : World} {a n : Nat} {v : Value}
    (h : Calls P f args (w.drewN (a + n)) fun e w' => e = .returned v ∧ ∃ m, w' = (w.drewN (a + n)).drewN m) : Calls P f args (w.drewN (a + n)) fun e w'' => e = .returned v ∧ ∃ m, w'' = w.drewN (a + m) :=
  h.mono fun _ _ ⟨he, m, hm⟩ => ⟨he, n + m, by rw [hm, World.drewN_drewN, Nat.add_assoc]⟩

/-- A world that has grown out of W: all that stood in W stands. -/
def Grow (W : World) : Type := { w' : World // Below W.heap.size W w' }
instance growNonempty (W : World) : Nonempty (Grow W) := ⟨⟨W, Below.refl _ _⟩⟩
def Grow.world {W : World} (g : Grow W) : World := g.1
theorem Grow.cell {W : World} (g : Grow W) {b o : Nat} (h : b < W.heap.size) : g.world.cell? ⟨b, o, none⟩ = W.cell? ⟨b, o, none⟩ := g.2.cell (p := ⟨b, o, none⟩) h
theorem Grow.frozen {W : World} (g : Grow W) {b o : Nat} (h : b < W.heap.size) : g.world.frozen? ⟨b, o, none⟩ = W.frozen? ⟨b, o, none⟩ := g.2.frozen (p := ⟨b, o, none⟩) h
theorem Grow.below {W : World} (g : Grow W) : Below W.heap.size W g.world := g.2
attribute [go_sem] Grow.cell Grow.frozen
section
variable {P : Program} {f : FuncId} {args : Array Value} {W : World} {g : Grow W} {v : Value}
/-- A callee that leaves old memory, inside a region that holds it. -/
theorem grow_of (h : Calls P f args g.world fun e w' => e = .returned v ∧ Below g.world.heap.size g.world w') : Calls P f args g.world fun e w'' => e = .returned v ∧ ∃ g' : Grow W, w'' = g'.world :=
  h.mono fun _ w' ⟨he, hb⟩ => ⟨he, ⟨w', g.2.trans (hb.mono g.2.size)⟩, rfl⟩
theorem grow_same (h : Calls P f args g.world fun e w' => e = .returned v ∧ g.world = w') : Calls P f args g.world fun e w'' => e = .returned v ∧ ∃ g' : Grow W, w'' = g'.world :=
  h.mono fun _ w' ⟨he, hb⟩ => ⟨he, g, hb.symm⟩
theorem grow_draw (h : Calls P f args g.world fun e w' => e = .returned v ∧ ∃ n, w' = g.world.drewN n) : Calls P f args g.world fun e w'' => e = .returned v ∧ ∃ g' : Grow W, w'' = g'.world :=
  h.mono fun _ w' ⟨he, n, hb⟩ => ⟨he, ⟨w', g.2.trans (hb ▸ Joins.below_draws _ _ _)⟩, rfl⟩
end
/-- A region that draws its order, whose operations only read and whose callees leave old memory: one walk in the order of the text. -/
theorem wp_region_grow {P : Program} {id : Nat} {Q : Exit → Act → World → Prop} {a : Act} {w : World} {l : List Oper} (hm : P.follows .mixedOrders = true) (hB : Region.lexB .any l.toArray = true)
    (h : wpQuiet P l.toArray (fun w' => ∃ g : Grow w, w' = g.world) (fun a' => ∀ w', Below w.heap.size w w' → Q .normal a' w') l a) : (Code.region id l.toArray true).wp P Q a w := by
  have e : (fun a' => ∀ w', Below w.heap.size w w' → Q .normal a' w') = (fun a' => ∀ w', (∃ g : Grow w, w' = g.world) → Q .normal a' w') := by
    funext a'
    refine propext ⟨fun h w' ⟨g, hg⟩ => h w' (hg ▸ g.2), fun h w' hb => h w' ⟨⟨w', hb⟩, rfl⟩⟩
  rw [e] at h
  exact wp_region_quiet (C := fun w' => ∃ g : Grow w, w' = g.world) hm hB ⟨⟨w.drew, (Below.refl _ _).drew⟩, rfl⟩ (by simpa using h)
theorem below_of_alloc {B w : World} (h : Below B.heap.size B w) (o : Obj) : Below B.heap.size B (w.alloc o) := h.alloc h.size o
/-- Behind a call that was made with one more block. -/
theorem below_box {B w' w2 : World} {o : Obj} (hb : Below B.heap.size B w') (hb2 : Below (w'.alloc o).heap.size (w'.alloc o) w2) : Below B.heap.size B w2 :=
  (hb.alloc hb.size o).trans (hb2.mono (by have := hb.size; simp; omega))
end Go.Proofs.YtgfhgopfhcakhaaDoor
