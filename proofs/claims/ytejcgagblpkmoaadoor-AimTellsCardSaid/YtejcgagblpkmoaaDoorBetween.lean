/-
  bits.All: going through the numbers of a set, rising. Condition: the library's table lies as laid. hoistwaylaw03.all: the row of a set's numbers, by going through. Condition: the library's table lies as laid. want.Between and the document's: how many floors of a set lie between two. Condition of the first: the library's table lies as laid.
-/
import Derived.RangeFuncBox
import Derived.RangeFuncLeaves
import Derived.RangeFuncNested
import Derived.RangeFuncCalls
import Derived.Shelf.Abstract
import Derived.Shelf.RegionOpen
import Derived.WalkKit
import Derived.OwnWalkIn
import Derived.TacticsInMore
import Derived.LoopNIn
import Derived.LoopIn
import Derived.Maps.AppendAt
import Derived.Test.YtejcgagblpkmoaaDoorOrderP
set_option linter.unusedVariables false
set_option linter.unusedSimpArgs false
namespace Go.Proofs.YtejcgagblpkmoaaDoor
open Go.Joins Go.ChangeShapes Go.WideShapes Go.ChangeAt Go.RowKit Go.Deep Go.Shelf
attribute [local go_sem] Oper.semAt_some

set_option maxRecDepth 100000 in
set_option maxHeartbeats 2000000 in
/-- **bits.All**: the set is boxed; the function value captures the box. -/
theorem bits_All (x y : Nat) (w : World) :
    CallsIn Fence.wide 2 Tryd.prog 51 #[sv x y] w fun e w' => e = .returned (.func (.func 57) #[] #[.pointer (some ⟨w.heap.size, 0, none⟩)]) ∧ w' = w.alloc (.cells #[.int .u64 (x : Int), .int .u64 (y : Int)] 38) := by
  unfold sv
  refine callsIn_of_wp Tryd.func51 rfl trivial ?_ rfl
  simp only [Tryd.ntmps51, List.size_toArray, List.length_cons, List.length_nil, Nat.reduceAdd, Nat.reduceSub, Array.replicate_succ, Array.replicate_zero, List.push_toArray, List.append_toArray, List.nil_append, List.cons_append]
  gi_wp2
  go_ret
  exact ⟨rfl, rfl⟩

def okN : Value → Nat
  | .bool true => 1
  | _ => 0
/-- The first of a row, and whether there is one. -/
def hdL : List Int → Int × Bool
  | [] => (0, false)
  | a :: _ => (a, true)
theorem geL_app (n : Int) (r : Int × Bool) (a b : List Int) : geL n r (a ++ b) = geL n (geL n r b) a := by simp [geL]
theorem geL_low (n : Int) (r : Int × Bool) : ∀ a : List Int, (∀ v ∈ a, v < n) → geL n r a = r
  | [], _ => rfl
  | v :: a, h => by
    show (if n ≤ v then (v, true) else geL n r a) = r
    have h1 : v < n := h v (by simp)
    rw [if_neg (by omega)]
    exact geL_low n r a fun u hu => h u (by simp [hu])
theorem geL_high (n : Int) (b : List Int) (h : ∀ v ∈ b, n ≤ v) : geL n (0, false) b = hdL b := by
  cases b with
  | nil => rfl
  | cons v b =>
    show (if n ≤ v then (v, true) else geL n (0, false) b) = (v, true)
    rw [if_pos (h v (by simp))]
theorem items_rise (x y : Nat) : (items x y).Pairwise (· < ·) := by
  unfold items preI
  rw [List.pairwise_map]
  refine List.Pairwise.imp ?_ (List.Pairwise.filter _ List.pairwise_lt_range)
  intro a b h
  show (a : Int) < (b : Int)
  omega
theorem item_in {x y : Nat} {v : Int} (h : v ∈ items x y) : 0 ≤ v ∧ v < 128 := by
  unfold items preI at h
  simp at h
  obtain ⟨a, ⟨h1, _⟩, rfl⟩ := h
  omega
/-- The next number, having gone through some. -/
theorem next_hd (x y : Nat) (n : Int) (pre rest : List Int) (hx : Wd x) (hy : Wd y) (hL : items x y = pre ++ rest) (h1 : ∀ v ∈ pre, v < n) (h2 : ∀ v ∈ rest, n ≤ v) :
    (nextI (fromX x n) (fromY y n), nextB (fromX x n) (fromY y n)) = hdL rest := by
  rw [← next_of x y n hx hy, hL, geL_app, geL_high n rest h2, geL_low n _ pre h1]
theorem bits_Next_hd (x y : Nat) (n : Int) (pre rest : List Int) (w : World) (hx : Wd x) (hy : Wd y) (hn : I64 n) (hT : Tab w) (hL : items x y = pre ++ rest) (h1 : ∀ v ∈ pre, v < n) (h2 : ∀ v ∈ rest, n ≤ v) :
    Calls Tryd.prog 45 #[sv x y, .int .i64 n] w fun e w' => e = .returned (.tuple #[.int .i64 (hdL rest).1, .bool (hdL rest).2]) ∧ Below w.heap.size w w' := by
  have h := bits_Next x y n w hx hy hn hT
  have e := next_hd x y n pre rest hx hy hL h1 h2
  rw [← e]
  exact h
/-- What a round keeps: what lay ahead of the call, and the block with the set. -/
def KpA (n0 Bn : Nat) (W W' : World) : Prop := Below n0 W W' ∧ W'.heap[Bn]? = W.heap[Bn]?
theorem KpA.trans {n0 Bn : Nat} {A B C : World} (h : KpA n0 Bn A B) (k : KpA n0 Bn B C) : KpA n0 Bn A C := ⟨h.1.trans k.1, k.2.trans h.2⟩
theorem KpA.of {n0 Bn : Nat} {A B : World} (h : Below A.heap.size A B) (h0 : n0 ≤ A.heap.size) (h1 : Bn < A.heap.size) : KpA n0 Bn A B := ⟨h.mono h0, h.block Bn h1⟩
theorem KpA.blk {n0 Bn : Nat} {A B : World} {t : TypeId} {cs : Array Value} (h : KpA n0 Bn A B) (hk : Blk A Bn t cs) : Blk B Bn t cs := h.2.trans hk
theorem kpA_b {n0 Bn : Nat} {w : World} (hn : n0 ≤ w.heap.size) (hB : Bn < w.heap.size) (W : World) (l : Nat) (o o' : Obj) (hl : w.heap.size ≤ l) (h : W.heap[l]? = some o) (hc : o.isCells = false) (hw : o.isWalk = false) : KpA n0 Bn W (W.putObj l o') :=
  ⟨belowK_b hn W l o o' hl h hc hw, World.putObj_heap_other (by omega)⟩
theorem grown_of {W W' : World} (h : Below W.heap.size W W') : W.grownBy W' none := ⟨h.os, h.tape, h.output, h.size, fun k hk _ => h.block k hk⟩
set_option maxRecDepth 100000 in
set_option maxHeartbeats 4000000 in
/-- 'for n, ok := Next(s, 0); ok; n, ok = Next(s, n+1) { if !yield(n) { return } }': for every loop body that keeps what lay below. -/
theorem all1_in (l Bn n0 : Nat) (x y : Nat) (hx : Wd x) (hy : Wd y) (J Jx : List Int → World → Prop)
    (hJ : ∀ pre W W', J pre W → Below W.heap.size W W' → J pre W')
    (hY : ∀ pre v W, J pre W → pre.length < (items x y).length → YieldAt Fence.wide (2 - 1) Tryd.prog l #[.int .i64 v] W fun e W' =>
      (e = .returned (.bool true) ∧ J (pre ++ [v]) W' ∧ KpA n0 Bn W W') ∨ (e = .returned (.bool false) ∧ Jx (pre ++ [v]) W'))
    (W : World) (hnW : n0 ≤ W.heap.size) (hBn : Blk W Bn 38 #[.int .u64 (x : Int), .int .u64 (y : Int)]) (hT : ∀ W', KpA n0 Bn W W' → Tab W') (h0 : J [] W) :
    CallsIn Fence.wide 2 Tryd.prog 57 #[.func (.yield l) #[] #[], .pointer (some ⟨Bn, 0, none⟩)] W fun e W' => (∃ v, e = .returned v) ∧
      ((∃ ys, ys = items x y ∧ J ys W') ∨ (∃ pre, pre <+: items x y ∧ Jx pre W')) := by
  have cN := fun n pre rest w => bits_Next_hd x y n pre rest w hx hy
  have hr := items_rise x y
  have hin := fun v => @item_in x y v
  unfold sv at cN
  generalize items x y = L at *
  have c0 := hBn.cell
  have cz := cN 0 [] L
  obtain ⟨z1, hz1⟩ : ∃ z, z = (hdL L).1 := ⟨_, rfl⟩
  obtain ⟨z2, hz2⟩ : ∃ z, z = (hdL L).2 := ⟨_, rfl⟩
  rw [← hz1, ← hz2] at cz
  have HZ := Lib.hid (And.intro hz1 hz2)
  clear hx hy hz1 hz2
  have HT := Lib.hid hT
  have CN := Lib.hid cN
  clear cN hT
  refine callsIn_of_wp Tryd.func57 rfl trivial ?_ rfl
  simp only [Tryd.ntmps57, List.size_toArray, List.length_cons, List.length_nil, Nat.reduceAdd, Nat.reduceSub, Array.replicate_succ, Array.replicate_zero, List.push_toArray, List.append_toArray, List.nil_append, List.cons_append]
  gi_wp2_with (refine ⟨trivial, ?_⟩; gi_at_call 45; refine (callsIn_wide.2 (cz _ (by unfold I64; omega) (HT.out W ⟨Below.refl _ _, rfl⟩) rfl (by simp) (fun v hv => (hin v hv).1))).mono ?_; rintro e w' ⟨rfl, hb⟩)
  clear cz
  gi_loopw [3, 4] (fun i v wr => ∃ (pre rest : List Int), L = pre ++ rest ∧ i = .int .i64 (hdL rest).1 ∧ v = .bool (hdL rest).2 ∧ KpA n0 Bn W wr ∧ J pre wr)
    (fun i v _ => okN v * (129 - (intOf i).toNat))
  case atStart =>
    exact ⟨[], L, rfl, by rw [HZ.out.1], by rw [HZ.out.2], KpA.of hb hnW hBn.lt, hJ _ _ _ h0 hb⟩
  case round =>
    obtain ⟨pre, rest, hx, rfl, rfl, hq, hJs⟩ := hrel
    cases rest with
    | nil =>
      simp only [hdL]
      gi_wp2
      go_end0
      exact ⟨⟨_, rfl⟩, .inl ⟨pre, by simp [hx], hJs⟩⟩
    | cons a rest =>
      simp only [hdL]
      have hain := hin a (by rw [hx]; simp)
      have hrs := hr
      rw [hx, List.pairwise_append] at hrs
      have hp1 : ∀ v ∈ pre ++ [a], v < a + 1 := fun v hv => by
        rcases List.mem_append.1 hv with h | h
        · have := hrs.2.2 v h a (by simp); omega
        · simp at h; omega
      have hp2 : ∀ v ∈ rest, a + 1 ≤ v := fun v hv => by
        have := (List.pairwise_cons.1 hrs.2.1).1 v hv; omega
      have e3 : IntKind.i64.wrap (a + 1) = a + 1 := IntWalk.i64_in _ (by omega)
      obtain ⟨fn, tmps, assign, body, hy, hR⟩ := hY pre a wr hJs (by rw [hx]; simp)
      clear c0
      gi_wp2
      refine hR.mono ?_
      rintro e W3 (⟨rfl, hJ3, hk3⟩ | ⟨rfl, hJx3⟩)
      · have hq3 := hq.trans hk3
        have b3 := hq3.blk hBn
        have c3 := b3.cell
        have cn := CN.out (a + 1) (pre ++ [a]) rest W3 (by unfold I64; omega) (HT.out W3 hq3) (by simp [hx]) hp1 hp2
        gi_wp2_with (refine ⟨trivial, ?_⟩; gi_at_call 45; refine (callsIn_wide.2 cn).mono ?_; rintro e w4 ⟨rfl, hb4⟩)
        have hnW3 : n0 ≤ W3.heap.size := Nat.le_trans hnW hq3.1.size
        go_roundw
        case rel => exact ⟨pre ++ [a], rest, by simp [hx], rfl, rfl, hq3.trans (KpA.of hb4 hnW3 b3.lt), hJ _ _ _ hJ3 hb4⟩
        case measure =>
          clear hq hq3 hb4 hnW3 hk3 b3
          cases rest with
          | nil => simp [hdL, intOf, okN]; omega
          | cons c rest =>
            have := hp2 c (by simp)
            have := (hin c (by rw [hx]; simp))
            simp [hdL, intOf, okN]; omega
      · gi_wp2
        refine bodyPost_ret (results_none rfl _ _ _) rfl ?_
        exact ⟨⟨_, rfl⟩, .inr ⟨pre ++ [a], ⟨rest, by rw [hx]; simp⟩, hJx3⟩⟩
/-- **bits.All hands back a value that goes through the numbers, rising**, or a part of them, where a round has said 'no more'. -/
theorem all_stops (Bn n0 : Nat) (x y : Nat) (w : World) (hx : Wd x) (hy : Wd y) (hn : n0 ≤ w.heap.size) (hBn : Blk w Bn 38 #[.int .u64 (x : Int), .int .u64 (y : Int)]) (hT : ∀ W', Below n0 w W' → Tab W') :
    SeqStopsK Fence.wide 2 Tryd.prog 57 #[.pointer (some ⟨Bn, 0, none⟩)] (fun v : Int => #[Value.int .i64 v]) (KpA n0 Bn) (fun ys => ys = items x y) (fun pre => pre <+: items x y) (items x y).length w := fun l J Jx W hW hJ _ hY h0 =>
  all1_in l Bn n0 x y hx hy J Jx (fun pre A B h hb => hJ pre A B none h (grown_of hb) (fun r e => by cases e)) hY W (Nat.le_trans hn hW.size) (hBn.below hW hBn.lt) (fun W' h => hT W' ((hW.mono hn).trans h.1)) h0
end Go.Proofs.YtejcgagblpkmoaaDoor
set_option linter.unusedVariables false
set_option linter.unusedSimpArgs false
namespace Go.Proofs.YtejcgagblpkmoaaDoor
open Go.Joins Go.ChangeShapes Go.WideShapes Go.ChangeAt Go.RowKit Go.Deep Go.Shelf
attribute [local go_sem] Oper.semAt_some

theorem info_intA : (Tryd.prog.info? 3).map (fun i => (i.zero, i.size, i.bytes)) = some (some (.int .i64 0), 1, 8) := by kernel_rfl
theorem run_noSeq (g : Nat) (lb : Array Value) (w : World) : (binOp .eql 86 (.func (.func g) #[] lb) .nilFunc).run Tryd.prog w = .ok (.bool false) w := by
  have h : (Op.equalIn (9999 + 1) 86 (.func (.func g) #[] lb) .nilFunc).run Tryd.prog w = .ok false w := by
    rw [Op.equalIn]
    simp only [Sem.run_bind, run_underlying Tryd.underlying86, Result.andThen_ok]
    rfl
  show (do pure (Value.bool (← Op.equalIn (9999 + 1) 86 (.func (.func g) #[] lb) .nilFunc)) : Sem Value).run Tryd.prog w = _
  rw [Sem.run_bind, h]
  rfl
/-- A row of its own is no block of another type; so an append leaves that block. -/
theorem blk_not_row {W : World} {B : Nat} {t e : TypeId} {cs : Array Value} (h : Blk W B t cs) (hte : t ≠ e) {base size k : Nat} {v : Value} {xs : List Value} (hr : W.ownsRow base e size v k xs) : some B ≠ v.ownBlock := by
  rcases hr.2 with ⟨rfl, _⟩ | ⟨g, cap, cur, rfl, _, hgb, _⟩
  · simp [Value.ownBlock]
  · intro e'
    obtain rfl : B = g := by simpa [Value.ownBlock] using e'
    have := (show W.heap[B]? = _ from h).symm.trans hgb
    simp at this
    exact hte this.2
theorem blk_own (Bn : Nat) (t : TypeId) (cs : Array Value) : Own (fun (_ : List Int) W => Blk W Bn t cs) := fun s W W' row h hg hr => (grownBy_keeps_cells hg hr h rfl).trans h
theorem blk_appended {W w1 : World} {n B Bn : Nat} {t e : TypeId} {size : Nat} {v v' : Value} {k : Nat} {xs : List Value} {cs : Array Value} {tmp : Obj}
    (h : Blk W Bn t cs) (hte : t ≠ e) (hrow : W.ownsRow n e size v k xs) (hgrow : (W.alloc tmp).grownBy w1 v.ownBlock) (hne : Bn ≠ B) :
    (w1.setCell ⟨B, 0, none⟩ v').heap[Bn]? = W.heap[Bn]? :=
  (Below.heap_setCell _ _ _ _ hne).trans ((hgrow.block Bn (by have := h.lt; simp; omega) (blk_not_row h hte hrow)).trans (Below.heap_alloc _ _ _ h.lt))
end Go.Proofs.YtejcgagblpkmoaaDoor
set_option linter.unusedVariables false
set_option linter.unusedSimpArgs false
namespace Go.Proofs.YtejcgagblpkmoaaDoor
open Go.Joins Go.ChangeShapes Go.WideShapes Go.ChangeAt Go.RowKit Go.Deep Go.Shelf
attribute [local go_sem] Oper.semAt_some

/-- Does a number lie between two? -/
def btw (a b v : Int) : Bool := decide (min a b < v) && decide (v < max a b)
def cntB (a b : Int) (l : List Int) : Nat := (l.filter (btw a b)).length
theorem cntB_snoc (a b v : Int) (l : List Int) : cntB a b (l ++ [v]) = cntB a b l + (if btw a b v then 1 else 0) := by
  unfold cntB
  rw [List.filter_append, List.length_append]
  cases h : btw a b v <;> simp [h]
theorem cntB_le (a b : Int) (l : List Int) : cntB a b l ≤ l.length := List.length_filter_le _ _
theorem btw_or (a b v : Int) : (decide (a < v) && decide (v < b) || (decide (b < v) && decide (v < a))) = btw a b v := by
  unfold btw
  rw [Bool.eq_iff_iff]
  simp only [Bool.or_eq_true, Bool.and_eq_true, decide_eq_true_eq]
  omega
theorem blkb_own (B : Nat) (t : TypeId) (cs : Array Value) : Own (fun (_ : List Int) W => Blk W B t cs) := fun s W W' row h hg hr => (grownBy_keeps_cells hg hr h rfl).trans h
theorem blkc_own (B : Nat) (t : TypeId) (cs : List Int → Array Value) : Own (fun (s : List Int) W => Blk W B t (cs s)) := fun s W W' row h hg hr => (grownBy_keeps_cells hg hr h rfl).trans h
set_option maxRecDepth 100000 in
set_option maxHeartbeats 4000000 in
theorem want_Between (x y : Nat) (a b : Int) (w : World) (hx : Wd x) (hy : Wd y) (ha : I64 a) (hb : I64 b) (hT : Tab w) :
    Calls Tryd.prog 42 #[sv x y, .int .i64 a, .int .i64 b] w fun e w' => e = .returned (.int .i64 (cntB a b (items x y) : Nat)) ∧ Below w.heap.size w w' := by
  have cS := fun Bn w' => all_stops Bn w.heap.size x y w' hx hy
  have cA := fun w => bits_All x y w
  have hL := itemL_len x y
  have hsn := cntB_snoc a b
  have hle := cntB_le a b
  have hz : cntB a b [] = 0 := rfl
  have hbw : ∀ v, btw a b v = (decide (min a b < v) && decide (v < max a b)) := fun v => rfl
  generalize cntB a b = G at *
  generalize btw a b = Q at *
  generalize items x y = L at *
  unfold sv at *
  have CS := Lib.hid cS
  have CA := Lib.hid cA
  have HT := Lib.hid hT
  have HSN := Lib.hid hsn
  have HLE := Lib.hid hle
  have HZ := Lib.hid hz
  have HBW := Lib.hid hbw
  clear cS cA hx hy hT hsn hle hz hbw
  refine (callsIn_wide (n := 3)).1 ?_
  refine callsIn_of_wp_marks Tryd.func42 rfl trivial ?_ rfl
  simp only [Tryd.ntmps42, List.size_toArray, List.length_cons, List.length_nil, Nat.reduceAdd, Nat.reduceSub, Array.replicate_succ, Array.replicate_zero, List.push_toArray, List.append_toArray, List.nil_append, List.cons_append]
  gi_wp2_with (refine ⟨trivial, ?_⟩; gi_at_call 51; refine (CA.out _).mono ?_; rintro e w' ⟨rfl, rfl⟩)
  have k0 : Blk (((((w.alloc (.cells #[.int .u64 (x : Int), .int .u64 (y : Int)] 38)).alloc (.cells #[.int .i64 a] 3)).alloc (.cells #[.int .i64 b] 3)).alloc (.cells #[.int .i64 0] 3)).alloc (.cells #[.int .u64 (x : Int), .int .u64 (y : Int)] 38)) (w.heap.size) 38 #[.int .u64 (x : Int), .int .u64 (y : Int)] := (Blk.alloc (Blk.alloc (Blk.alloc (Blk.alloc (blk_at (by simp)) (.cells #[.int .i64 a] 3)) (.cells #[.int .i64 b] 3)) (.cells #[.int .i64 0] 3)) (.cells #[.int .u64 (x : Int), .int .u64 (y : Int)] 38))
  have k1 : Blk (((((w.alloc (.cells #[.int .u64 (x : Int), .int .u64 (y : Int)] 38)).alloc (.cells #[.int .i64 a] 3)).alloc (.cells #[.int .i64 b] 3)).alloc (.cells #[.int .i64 0] 3)).alloc (.cells #[.int .u64 (x : Int), .int .u64 (y : Int)] 38)) (w.heap.size + 1) 3 #[.int .i64 a] := (Blk.alloc (Blk.alloc (Blk.alloc (blk_at (by simp)) (.cells #[.int .i64 b] 3)) (.cells #[.int .i64 0] 3)) (.cells #[.int .u64 (x : Int), .int .u64 (y : Int)] 38))
  have k2 : Blk (((((w.alloc (.cells #[.int .u64 (x : Int), .int .u64 (y : Int)] 38)).alloc (.cells #[.int .i64 a] 3)).alloc (.cells #[.int .i64 b] 3)).alloc (.cells #[.int .i64 0] 3)).alloc (.cells #[.int .u64 (x : Int), .int .u64 (y : Int)] 38)) (w.heap.size + 2) 3 #[.int .i64 b] := (Blk.alloc (Blk.alloc (blk_at (by simp)) (.cells #[.int .i64 0] 3)) (.cells #[.int .u64 (x : Int), .int .u64 (y : Int)] 38))
  have k3 : Blk (((((w.alloc (.cells #[.int .u64 (x : Int), .int .u64 (y : Int)] 38)).alloc (.cells #[.int .i64 a] 3)).alloc (.cells #[.int .i64 b] 3)).alloc (.cells #[.int .i64 0] 3)).alloc (.cells #[.int .u64 (x : Int), .int .u64 (y : Int)] 38)) (w.heap.size + 3) 3 #[.int .i64 0] := (Blk.alloc (blk_at (by simp)) (.cells #[.int .u64 (x : Int), .int .u64 (y : Int)] 38))
  have k4 : Blk (((((w.alloc (.cells #[.int .u64 (x : Int), .int .u64 (y : Int)] 38)).alloc (.cells #[.int .i64 a] 3)).alloc (.cells #[.int .i64 b] 3)).alloc (.cells #[.int .i64 0] 3)).alloc (.cells #[.int .u64 (x : Int), .int .u64 (y : Int)] 38)) (w.heap.size + 4) 38 #[.int .u64 (x : Int), .int .u64 (y : Int)] := (blk_at (by simp))
  have hB : Below w.heap.size w (((((w.alloc (.cells #[.int .u64 (x : Int), .int .u64 (y : Int)] 38)).alloc (.cells #[.int .i64 a] 3)).alloc (.cells #[.int .i64 b] 3)).alloc (.cells #[.int .i64 0] 3)).alloc (.cells #[.int .u64 (x : Int), .int .u64 (y : Int)] 38)) := (bel_at (bel_at (bel_at (bel_at (bel_at (Below.refl _ _) (.cells #[.int .u64 (x : Int), .int .u64 (y : Int)] 38)) (.cells #[.int .i64 a] 3)) (.cells #[.int .i64 b] 3)) (.cells #[.int .i64 0] 3)) (.cells #[.int .u64 (x : Int), .int .u64 (y : Int)] 38))
  generalize (((((w.alloc (.cells #[.int .u64 (x : Int), .int .u64 (y : Int)] 38)).alloc (.cells #[.int .i64 a] 3)).alloc (.cells #[.int .i64 b] 3)).alloc (.cells #[.int .i64 0] 3)).alloc (.cells #[.int .u64 (x : Int), .int .u64 (y : Int)] 38)) = w1 at *
  (try clear k0c k0f k0z); have k0c := fun i => Blk.cell k0 i; have k0f := fun i => Blk.free k0 i; have k0z := Blk.lt k0; (try clear k1c k1f k1z); have k1c := fun i => Blk.cell k1 i; have k1f := fun i => Blk.free k1 i; have k1z := Blk.lt k1; (try clear k2c k2f k2z); have k2c := fun i => Blk.cell k2 i; have k2f := fun i => Blk.free k2 i; have k2z := Blk.lt k2; (try clear k3c k3f k3z); have k3c := fun i => Blk.cell k3 i; have k3f := fun i => Blk.free k3 i; have k3z := Blk.lt k3; (try clear k4c k4f k4z); have k4c := fun i => Blk.cell k4 i; have k4f := fun i => Blk.free k4 i; have k4z := Blk.lt k4
  have hst := CS.out (w.heap.size + 1 + 1 + 1 + 1) w1 hB.size k4 (fun W' h => HT.out.below (hB.trans h))
  refine wpIn_rangeFunc_ownG rfl (by omega) (gf := 57) (lb := #[.pointer (some ⟨w.heap.size + 1 + 1 + 1 + 1, 0, none⟩)]) rfl trivial (enters_of Tryd.func57 (by kernel_rfl) rfl)
    hst KpA.trans (kpA_b (by omega) (by omega)) (Below.refl _ _) (fun _ => rfl)
    (fun pre W => ((((Blk W (w.heap.size + 1) 3 #[.int .i64 a] ∧ Blk W (w.heap.size + 1 + 1) 3 #[.int .i64 b]) ∧ Blk W (w.heap.size + 1 + 1 + 1) 3 #[.int .i64 (G pre : Nat)]) ∧ Blk W (w.heap.size + 1 + 1 + 1 + 1) 38 #[.int .u64 (x : Int), .int .u64 (y : Int)]) ∧ Below w.heap.size w W))
    (fun _ _ _ => False)
    (OwnFrom.and (OwnFrom.and (OwnFrom.and (OwnFrom.and (Own.from (blk_own _ _ _) _) (Own.from (blk_own _ _ _) _)) (Own.from (blkc_own _ _ _) _)) (Own.from (blk_own _ _ _) _)) (ownFrom_below (Nat.le_refl _) (by omega)))
    (fun _ _ _ _ _ hs _ _ => hs)
    ⟨⟨⟨⟨k1, k2⟩, by rw [HZ.out]; exact k3⟩, k4⟩, hB⟩
    (fun v => { tmps := #[.agg #[.int .u64 (x : Int), .int .u64 (y : Int)], .int .i64 a, .int .i64 b, .pointer (some ⟨w.heap.size, 0, none⟩), .pointer (some ⟨w.heap.size + 1, 0, none⟩), .pointer (some ⟨w.heap.size + 1 + 1, 0, none⟩), .int .i64 0, .pointer (some ⟨w.heap.size + 1 + 1 + 1, 0, none⟩), .int .i64 v, .agg #[.int .u64 (x : Int), .int .u64 (y : Int)], .func (.func 57) #[] #[.pointer (some ⟨w.heap.size + 1 + 1 + 1 + 1, 0, none⟩)], .int .i64 v, undef, undef, undef, undef, undef, undef, undef, undef, undef, undef, undef, undef, undef, undef, undef], defers := [] }) ?assign ?body ?done ?stop
  case assign =>
    intro l v W K hK
    gi_wp2
    exact hK
  case body =>
    clear k0 k1 k2 k3 k4 k0c k1c k2c k3c k4c k0f k1f k2f k3f k4f
    rintro l pre v W ⟨⟨⟨⟨h1, h2⟩, h3⟩, h4⟩, hq⟩ hlt
    have c1 := h1.cell
    have c2 := h2.cell
    have c3 := h3.cell
    have f3 := h3.free
    have hsn := HSN.out v pre
    have hbw := HBW.out v
    have hpl := HLE.out pre
    have e0 : IntKind.i64.wrap ((G pre : Int) + 1) = (G pre : Int) + 1 := IntWalk.i64_in _ (by omega)
    by_cases q1 : min a b < v
    · have q2 : decide (min a b < v) = true := decide_eq_true q1
      by_cases q3 : v < max a b
      · have q4 : decide (v < max a b) = true := decide_eq_true q3
        rw [q2, q4] at hbw
        rw [hbw] at hsn
        have HS := Lib.hid hsn
        clear hsn hbw q1 q3
        gi_wp2
        exact ⟨(KeepsOthers.setCell _ _ _).from _, ⟨(Below.refl _ _).setCell (p := ⟨w.heap.size + 1 + 1 + 1, 0, none⟩) (by show _ ≤ w.heap.size + 1 + 1 + 1; omega) _, Below.heap_setCell _ _ _ _ (by show w.heap.size + 1 + 1 + 1 + 1 ≠ w.heap.size + 1 + 1 + 1; omega)⟩, ⟨⟨⟨h1.far (p := ⟨w.heap.size + 1 + 1 + 1, 0, none⟩) (by show w.heap.size + 1 ≠ w.heap.size + 1 + 1 + 1; omega) _, h2.far (p := ⟨w.heap.size + 1 + 1 + 1, 0, none⟩) (by show w.heap.size + 1 + 1 ≠ w.heap.size + 1 + 1 + 1; omega) _⟩, by rw [HS.out]; exact h3.set_ 0 _⟩, h4.far (p := ⟨w.heap.size + 1 + 1 + 1, 0, none⟩) (by show w.heap.size + 1 + 1 + 1 + 1 ≠ w.heap.size + 1 + 1 + 1; omega) _⟩, hq.setCell (p := ⟨w.heap.size + 1 + 1 + 1, 0, none⟩) (by show _ ≤ w.heap.size + 1 + 1 + 1; omega) _⟩
      · have q4 : decide (v < max a b) = false := decide_eq_false q3
        rw [q2, q4] at hbw
        rw [hbw] at hsn
        have HS := Lib.hid hsn
        clear hsn hbw q1 q3
        gi_wp2
        exact ⟨KeepsFrom.refl _ _, ⟨Below.refl _ _, rfl⟩, ⟨⟨⟨h1, h2⟩, by rw [HS.out]; exact h3⟩, h4⟩, hq⟩
    · have q2 : decide (min a b < v) = false := decide_eq_false q1
      rw [q2, Bool.false_and] at hbw
      rw [hbw] at hsn
      have HS := Lib.hid hsn
      clear hsn hbw q1
      gi_wp2
      exact ⟨KeepsFrom.refl _ _, ⟨Below.refl _ _, rfl⟩, ⟨⟨⟨h1, h2⟩, by rw [HS.out]; exact h3⟩, h4⟩, hq⟩
  case done =>
    clear k0 k1 k2 k3 k4 k0c k1c k2c k3c k4c k0f k1f k2f k3f k4f
    rintro D ys W hD rfl ⟨⟨⟨⟨h1, h2⟩, h3⟩, h4⟩, hq⟩ hK
    have hc := h3.cell
    gi_wp2
    refine ⟨by simp, .inl ⟨_, _, rfl, run_takeDeferred hK, ?_⟩⟩
    exact ⟨_, results_tmp rfl _ _ _, rfl, hq.trans (belowK_b (w := w) (Nat.le_refl _) W D _ _ (by omega) hK rfl rfl)⟩
  case stop =>
    rintro D c pre W _ _ h _
    exact h.elim
end Go.Proofs.YtejcgagblpkmoaaDoor
