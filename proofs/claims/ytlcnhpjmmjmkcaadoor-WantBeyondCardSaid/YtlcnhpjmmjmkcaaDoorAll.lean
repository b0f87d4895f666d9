
/-
  bits.All: going through the numbers of a set, rising. Condition: the library's table lies as laid.
-/
import Derived.RangeFuncBox
import Derived.RangeFuncLeaves
import Derived.RangeFuncNested
import Derived.RangeFuncCalls
import Derived.Shelf.Abstract
import Derived.Shelf.RegionOpen
import Derived.WalkKit
import Derived.OwnWalkIn
import Derived.TacticsInMore
import Derived.LoopNIn
import Derived.LoopIn
import Derived.Maps.AppendAt
import Derived.Test.YtlcnhpjmmjmkcaaDoorOrderP
set_option linter.unusedVariables false
set_option linter.unusedSimpArgs false
namespace Go.Proofs.YtlcnhpjmmjmkcaaDoor
open Go.Joins Go.ChangeShapes Go.WideShapes Go.ChangeAt Go.RowKit Go.Deep Go.Shelf
attribute [local go_sem] Oper.semAt_some

set_option maxRecDepth 100000 in
set_option maxHeartbeats 2000000 in
/-- **bits.All**: the set is boxed; the function value captures the box. -/
theorem bits_All (x y : Nat) (w : World) :
    CallsIn Fence.wide 2 Tryd.prog 49 #[sv x y] w fun e w' => e = .returned (.func (.func 54) #[] #[.pointer (some ⟨w.heap.size, 0, none⟩)]) ∧ w' = w.alloc (.cells #[.int .u64 (x : Int), .int .u64 (y : Int)] 24) := by
  unfold sv
  refine callsIn_of_wp Tryd.func49 rfl trivial ?_ rfl
  simp only [Tryd.ntmps49, List.size_toArray, List.length_cons, List.length_nil, Nat.reduceAdd, Nat.reduceSub, Array.replicate_succ, Array.replicate_zero, List.push_toArray, List.append_toArray, List.nil_append, List.cons_append]
  gi_wp2
  go_ret
  exact ⟨rfl, rfl⟩

def okN : Value → Nat
  | .bool true => 1
  | _ => 0
/-- The first of a row, and whether there is one. -/
def hdL : List Int → Int × Bool
  | [] => (0, false)
  | a :: _ => (a, true)
theorem geL_app (n : Int) (r : Int × Bool) (a b : List Int) : geL n r (a ++ b) = geL n (geL n r b) a := by simp [geL]
theorem geL_low (n : Int) (r : Int × Bool) : ∀ a : List Int, (∀ v ∈ a, v < n) → geL n r a = r
  | [], _ => rfl
  | v :: a, h => by
    show (if n ≤ v then (v, true) else geL n r a) = r
    have h1 : v < n := h v (by simp)
    rw [if_neg (by omega)]
    exact geL_low n r a fun u hu => h u (by simp [hu])
theorem geL_high (n : Int) (b : List Int) (h : ∀ v ∈ b, n ≤ v) : geL n (0, false) b = hdL b := by
  cases b with
  | nil => rfl
  | cons v b =>
    show (if n ≤ v then (v, true) else geL n (0, false) b) = (v, true)
    rw [if_pos (h v (by simp))]
theorem items_rise (x y : Nat) : (items x y).Pairwise (· < ·) := by
  unfold items preI
  rw [List.pairwise_map]
  refine List.Pairwise.imp ?_ (List.Pairwise.filter _ List.pairwise_lt_range)
  intro a b h
  show (a : Int) < (b : Int)
  omega
theorem item_in {x y : Nat} {v : Int} (h : v ∈ items x y) : 0 ≤ v ∧ v < 128 := by
  unfold items preI at h
  simp at h
  obtain ⟨a, ⟨h1, _⟩, rfl⟩ := h
  omega
/-- The next number, having gone through some. -/
theorem next_hd (x y : Nat) (n : Int) (pre rest : List Int) (hx : Wd x) (hy : Wd y) (hL : items x y = pre ++ rest) (h1 : ∀ v ∈ pre, v < n) (h2 : ∀ v ∈ rest, n ≤ v) :
    (nextI (fromX x n) (fromY y n), nextB (fromX x n) (fromY y n)) = hdL rest := by
  rw [← next_of x y n hx hy, hL, geL_app, geL_high n rest h2, geL_low n _ pre h1]
theorem bits_Next_hd (x y : Nat) (n : Int) (pre rest : List Int) (w : World) (hx : Wd x) (hy : Wd y) (hn : I64 n) (hT : Tab w) (hL : items x y = pre ++ rest) (h1 : ∀ v ∈ pre, v < n) (h2 : ∀ v ∈ rest, n ≤ v) :
    Calls Tryd.prog 44 #[sv x y, .int .i64 n] w fun e w' => e = .returned (.tuple #[.int .i64 (hdL rest).1, .bool (hdL rest).2]) ∧ Below w.heap.size w w' := by
  have h := bits_Next x y n w hx hy hn hT
  have e := next_hd x y n pre rest hx hy hL h1 h2
  rw [← e]
  exact h
/-- What a round keeps: what lay ahead of the call, and the block with the set. -/
def KpA (n0 Bn : Nat) (W W' : World) : Prop := Below n0 W W' ∧ W'.heap[Bn]? = W.heap[Bn]?
theorem KpA.trans {n0 Bn : Nat} {A B C : World} (h : KpA n0 Bn A B) (k : KpA n0 Bn B C) : KpA n0 Bn A C := ⟨h.1.trans k.1, k.2.trans h.2⟩
theorem KpA.of {n0 Bn : Nat} {A B : World} (h : Below A.heap.size A B) (h0 : n0 ≤ A.heap.size) (h1 : Bn < A.heap.size) : KpA n0 Bn A B := ⟨h.mono h0, h.block Bn h1⟩
theorem KpA.blk {n0 Bn : Nat} {A B : World} {t : TypeId} {cs : Array Value} (h : KpA n0 Bn A B) (hk : Blk A Bn t cs) : Blk B Bn t cs := h.2.trans hk
theorem kpA_b {n0 Bn : Nat} {w : World} (hn : n0 ≤ w.heap.size) (hB : Bn < w.heap.size) (W : World) (l : Nat) (o o' : Obj) (hl : w.heap.size ≤ l) (h : W.heap[l]? = some o) (hc : o.isCells = false) (hw : o.isWalk = false) : KpA n0 Bn W (W.putObj l o') :=
  ⟨belowK_b hn W l o o' hl h hc hw, World.putObj_heap_other (by omega)⟩
theorem grown_of {W W' : World} (h : Below W.heap.size W W') : W.grownBy W' none := ⟨h.os, h.tape, h.output, h.size, fun k hk _ => h.block k hk⟩
set_option maxRecDepth 100000 in
set_option maxHeartbeats 4000000 in
/-- 'for n, ok := Next(s, 0); ok; n, ok = Next(s, n+1) { if !yield(n) { return } }': for every loop body that keeps what lay below. -/
theorem all1_in (l Bn n0 : Nat) (x y : Nat) (hx : Wd x) (hy : Wd y) (J Jx : List Int → World → Prop)
    (hJ : ∀ pre W W', J pre W → Below W.heap.size W W' → J pre W')
    (hY : ∀ pre v W, J pre W → pre.length < (items x y).length → YieldAt Fence.wide (2 - 1) Tryd.prog l #[.int .i64 v] W fun e W' =>
      (e = .returned (.bool true) ∧ J (pre ++ [v]) W' ∧ KpA n0 Bn W W') ∨ (e = .returned (.bool false) ∧ Jx (pre ++ [v]) W'))
    (W : World) (hnW : n0 ≤ W.heap.size) (hBn : Blk W Bn 24 #[.int .u64 (x : Int), .int .u64 (y : Int)]) (hT : ∀ W', KpA n0 Bn W W' → Tab W') (h0 : J [] W) :
    CallsIn Fence.wide 2 Tryd.prog 54 #[.func (.yield l) #[] #[], .pointer (some ⟨Bn, 0, none⟩)] W fun e W' => (∃ v, e = .returned v) ∧
      ((∃ ys, ys = items x y ∧ J ys W') ∨ (∃ pre, pre <+: items x y ∧ Jx pre W')) := by
  have cN := fun n pre rest w => bits_Next_hd x y n pre rest w hx hy
  have hr := items_rise x y
  have hin := fun v => @item_in x y v
  unfold sv at cN
  generalize items x y = L at *
  have c0 := hBn.cell
  have cz := cN 0 [] L
  obtain ⟨z1, hz1⟩ : ∃ z, z = (hdL L).1 := ⟨_, rfl⟩
  obtain ⟨z2, hz2⟩ : ∃ z, z = (hdL L).2 := ⟨_, rfl⟩
  rw [← hz1, ← hz2] at cz
  have HZ := Lib.hid (And.intro hz1 hz2)
  clear hx hy hz1 hz2
  have HT := Lib.hid hT
  have CN := Lib.hid cN
  clear cN hT
  refine callsIn_of_wp Tryd.func54 rfl trivial ?_ rfl
  simp only [Tryd.ntmps54, List.size_toArray, List.length_cons, List.length_nil, Nat.reduceAdd, Nat.reduceSub, Array.replicate_succ, Array.replicate_zero, List.push_toArray, List.append_toArray, List.nil_append, List.cons_append]
  gi_wp2_with (refine ⟨trivial, ?_⟩; gi_at_call 44; refine (callsIn_wide.2 (cz _ (by unfold I64; omega) (HT.out W ⟨Below.refl _ _, rfl⟩) rfl (by simp) (fun v hv => (hin v hv).1))).mono ?_; rintro e w' ⟨rfl, hb⟩)
  clear cz
  gi_loopw [3, 4] (fun i v wr => ∃ (pre rest : List Int), L = pre ++ rest ∧ i = .int .i64 (hdL rest).1 ∧ v = .bool (hdL rest).2 ∧ KpA n0 Bn W wr ∧ J pre wr)
    (fun i v _ => okN v * (129 - (intOf i).toNat))
  case atStart =>
    exact ⟨[], L, rfl, by rw [HZ.out.1], by rw [HZ.out.2], KpA.of hb hnW hBn.lt, hJ _ _ _ h0 hb⟩
  case round =>
    obtain ⟨pre, rest, hx, rfl, rfl, hq, hJs⟩ := hrel
    cases rest with
    | nil =>
      simp only [hdL]
      gi_wp2
      go_end0
      exact ⟨⟨_, rfl⟩, .inl ⟨pre, by simp [hx], hJs⟩⟩
    | cons a rest =>
      simp only [hdL]
      have hain := hin a (by rw [hx]; simp)
      have hrs := hr
      rw [hx, List.pairwise_append] at hrs
      have hp1 : ∀ v ∈ pre ++ [a], v < a + 1 := fun v hv => by
        rcases List.mem_append.1 hv with h | h
        · have := hrs.2.2 v h a (by simp); omega
        · simp at h; omega
      have hp2 : ∀ v ∈ rest, a + 1 ≤ v := fun v hv => by
        have := (List.pairwise_cons.1 hrs.2.1).1 v hv; omega
      have e3 : IntKind.i64.wrap (a + 1) = a + 1 := IntWalk.i64_in _ (by omega)
      obtain ⟨fn, tmps, assign, body, hy, hR⟩ := hY pre a wr hJs (by rw [hx]; simp)
      clear c0
      gi_wp2
      refine hR.mono ?_
      rintro e W3 (⟨rfl, hJ3, hk3⟩ | ⟨rfl, hJx3⟩)
      · have hq3 := hq.trans hk3
        have b3 := hq3.blk hBn
        have c3 := b3.cell
        have cn := CN.out (a + 1) (pre ++ [a]) rest W3 (by unfold I64; omega) (HT.out W3 hq3) (by simp [hx]) hp1 hp2
        gi_wp2_with (refine ⟨trivial, ?_⟩; gi_at_call 44; refine (callsIn_wide.2 cn).mono ?_; rintro e w4 ⟨rfl, hb4⟩)
        have hnW3 : n0 ≤ W3.heap.size := Nat.le_trans hnW hq3.1.size
        go_roundw
        case rel => exact ⟨pre ++ [a], rest, by simp [hx], rfl, rfl, hq3.trans (KpA.of hb4 hnW3 b3.lt), hJ _ _ _ hJ3 hb4⟩
        case measure =>
          clear hq hq3 hb4 hnW3 hk3 b3
          cases rest with
          | nil => simp [hdL, intOf, okN]; omega
          | cons c rest =>
            have := hp2 c (by simp)
            have := (hin c (by rw [hx]; simp))
            simp [hdL, intOf, okN]; omega
      · gi_wp2
        refine bodyPost_ret (results_none rfl _ _ _) rfl ?_
        exact ⟨⟨_, rfl⟩, .inr ⟨pre ++ [a], ⟨rest, by rw [hx]; simp⟩, hJx3⟩⟩
/-- **bits.All hands back a value that goes through the numbers, rising**, or a part of them, where a round has said 'no more'. -/
theorem all_stops (Bn n0 : Nat) (x y : Nat) (w : World) (hx : Wd x) (hy : Wd y) (hn : n0 ≤ w.heap.size) (hBn : Blk w Bn 24 #[.int .u64 (x : Int), .int .u64 (y : Int)]) (hT : ∀ W', Below n0 w W' → Tab W') :
    SeqStopsK Fence.wide 2 Tryd.prog 54 #[.pointer (some ⟨Bn, 0, none⟩)] (fun v : Int => #[Value.int .i64 v]) (KpA n0 Bn) (fun ys => ys = items x y) (fun pre => pre <+: items x y) (items x y).length w := fun l J Jx W hW hJ _ hY h0 =>
  all1_in l Bn n0 x y hx hy J Jx (fun pre A B h hb => hJ pre A B none h (grown_of hb) (fun r e => by cases e)) hY W (Nat.le_trans hn hW.size) (hBn.below hW hBn.lt) (fun W' h => hT W' ((hW.mono hn).trans h.1)) h0
end Go.Proofs.YtlcnhpjmmjmkcaaDoor
