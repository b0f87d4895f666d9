
/-
  Where a car is to stop: want.Rides, Full, Lands, Of, Beyond. Condition: at most 1000 riders; the numbers fit their kinds.
-/
import Derived.Test.YtejcgagblpkmoaaDoorSetW2
import Derived.Test.YtejcgagblpkmoaaDoorDataC
set_option linter.unusedVariables false
set_option linter.unusedSimpArgs false
namespace Go.Proofs.YtejcgagblpkmoaaDoor
open Go.Joins Go.ChangeShapes Go.WideShapes Go.ChangeAt Go.RowKit Go.Deep

def rid (rs : List Rider) (i : Nat) : Rider := rs.getD i ⟨0, 0⟩
def dst (rs : List Rider) (i : Nat) : Int := (rid rs i).dest
/-- A slice of riders that reads as rs: what a walk asks of it. -/
def Rids (w : World) (A : Option Addr) (rs : List Rider) : Prop :=
  0 < rs.length → ∃ b off, A = some ⟨b, off, none⟩ ∧ b < w.heap.size ∧ ∀ i, i < rs.length → w.cell? ⟨b, off + i * 2, none⟩ = some (.int .i64 (rid rs i).id) ∧ w.cell? ⟨b, off + i * 2 + 1, none⟩ = some (.int .i64 (dst rs i))
theorem Rids.below {w w' : World} {A : Option Addr} {xs : List Rider} (h : Rids w A xs) (hb : Below w.heap.size w w') : Rids w' A xs := fun hp => by
  obtain ⟨b, off, hA, hlt, hc⟩ := h hp
  exact ⟨b, off, hA, Nat.lt_of_lt_of_le hlt hb.size, fun i hi => ⟨(hb.cell (p := ⟨b, off + i * 2, none⟩) hlt).trans (hc i hi).1, (hb.cell (p := ⟨b, off + i * 2 + 1, none⟩) hlt).trans (hc i hi).2⟩⟩
theorem rids_of {w : World} {A : Option Addr} {C : Nat} {xs : List Rider} (h : RSlice 2 RRider w [.slice A xs.length C] xs) : Rids w A xs := fun hp => by
  obtain ⟨A', C', hAC, _, _, hc⟩ := h
  injection hAC with hAC
  injection hAC with e1 e2 e3
  subst e1
  obtain ⟨b, off, hA, hlt, hx⟩ := hc hp
  refine ⟨b, off, hA, hlt, fun i hi => ?_⟩
  obtain ⟨es, ⟨rfl, _⟩, _, hce⟩ := hx i _ (List.getElem?_eq_getElem hi)
  have h0 := hce 0 _ rfl
  have h1 := hce 1 _ rfl
  simp only [Nat.add_zero] at h0
  rw [h0, h1]
  simp [dst, rid, List.getD, List.getElem?_eq_getElem hi]
theorem rids_bd {w : World} {cs : List Value} {xs : List Rider} (h : RSlice 2 RRider w cs xs) : ∀ i, I64 (dst xs i) := by
  obtain ⟨A', C', hAC, _, _, hc⟩ := h
  intro i
  by_cases hi : i < xs.length
  · obtain ⟨b, off, hA, hlt, hx⟩ := hc (by omega)
    obtain ⟨es, ⟨_, hw⟩, _, _⟩ := hx i _ (List.getElem?_eq_getElem hi)
    have e : dst xs i = xs[i].dest := by simp [dst, rid, List.getD, List.getElem?_eq_getElem hi]
    rw [e]
    exact hw.2
  · have e : dst xs i = 0 := by simp [dst, rid, List.getD, List.getElem?_eq_none (Nat.le_of_not_lt hi)]
    rw [e]; unfold I64; omega
def ridX (c : Car) : Nat := ofX (dst c.riders) c.riders.length
def ridY (c : Car) : Nat := ofY (dst c.riders) c.riders.length
theorem wd_rid (c : Car) : Wd (ridX c) ∧ Wd (ridY c) := wd_of _ _
theorem blk2 (w : World) (o1 o2 : Obj) (t : TypeId) (cs : Array Value) : Blk (((w.alloc o1).alloc o2).alloc (.cells cs t)) (w.heap.size + 2) t cs := by
  have := Blk.new ((w.alloc o1).alloc o2) t cs
  rwa [alloc_size, alloc_size] at this
def fullB (c : Car) (cap : Int) : Bool := decide (cap ≤ (c.riders.length : Int))
def landX (c : Car) (cap : Int) (x : Nat) : Nat := if fullB c cap = true then 0 else x
theorem wd_land {c : Car} {cap : Int} {x : Nat} (h : Wd x) : Wd (landX c cap x) := by
  unfold landX; split
  · show 0 < 18446744073709551616; omega
  · exact h
/-- What a car wants. -/
def wantX (c : Car) (cap : Int) (u d : Nat) : Nat := ridX c ||| landX c cap (u ||| d)
def wantY (c : Car) (cap : Int) (u d : Nat) : Nat := ridY c ||| landX c cap (u ||| d)
theorem wd_wantX {c : Car} {cap : Int} {u d : Nat} (hu : Wd u) (hd : Wd d) : Wd (wantX c cap u d) := wd_or (wd_rid c).1 (wd_land (wd_or hu hd))
theorem wd_wantY {c : Car} {cap : Int} {u d : Nat} (hu : Wd u) (hd : Wd d) : Wd (wantY c cap u d) := wd_or (wd_rid c).2 (wd_land (wd_or hu hd))
theorem blk3 (w : World) (o1 o2 o3 : Obj) (t : TypeId) (cs : Array Value) : Blk ((((w.alloc o1).alloc o2).alloc o3).alloc (.cells cs t)) (w.heap.size + 3) t cs := by
  have := Blk.new (((w.alloc o1).alloc o2).alloc o3) t cs
  rwa [alloc_size, alloc_size, alloc_size] at this
theorem bel4 (w : World) (a b c d : Obj) : Below w.heap.size w ((((w.alloc a).alloc b).alloc c).alloc d) := (bel3 w a b c).alloc (by simp; omega) d
end Go.Proofs.YtejcgagblpkmoaaDoor
