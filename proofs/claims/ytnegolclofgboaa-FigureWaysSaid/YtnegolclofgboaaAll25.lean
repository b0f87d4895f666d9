
/-
  Where a car is behind each tick, by the document: hoistwayref25.All. Condition: the legs are within bounds; a horizon of at most 300 ticks behind the first.
-/
import Derived.Test.YtnegolclofgboaaTrackR
import Derived.Test.YtnegolclofgboaaGreat35
import Derived.Test.YtnegolclofgboaaOwnS
set_option linter.unusedVariables false
set_option linter.unusedSimpArgs false
namespace Go.Proofs.Ytnegolclofgboaa
open Go.Joins Go.ChangeShapes Go.WideShapes Go.ChangeAt Go.RowKit Go.Deep

/-- Where a car is behind a tick, and its door. -/
structure TickR where
  pos : Int
  door : Bool
abbrev TickR.cells (s : TickR) : List Value := [.int .i64 s.pos, .bool s.door]
theorem tick_cells_len (a : TickR) : a.cells.length = 2 := rfl
theorem info_tick : (Try.prog.info? 69).map (fun i => (i.zero, i.size, i.bytes)) = some (some (.agg #[.int .i64 0, .bool false]), 2, 16) := by kernel_rfl
def tickAt (ls : List Leg) (t : Int) : TickR := ⟨wayP ls t, wayD ls t⟩
def ticksL (ls : List Leg) (t0 : Int) (k : Nat) : List TickR := (List.range k).map fun (i : Nat) => tickAt ls (t0 + (i : Int))
theorem ticksL_len (ls : List Leg) (t0 : Int) (k : Nat) : (ticksL ls t0 k).length = k := by simp [ticksL]
theorem ticksL_succ (ls : List Leg) (t0 : Int) (k : Nat) : ticksL ls t0 (k + 1) = ticksL ls t0 k ++ [tickAt ls (t0 + k)] := by simp [ticksL, List.range_succ]
theorem ticksL_at (ls : List Leg) (t0 : Int) {k i : Nat} (h : i < k) : (ticksL ls t0 k)[i]? = some (tickAt ls (t0 + i)) := by simp [ticksL, h]
/-- All of them ahead of a horizon. -/
def allT (ls : List Leg) (h : Int) : List TickR := ticksL ls (legAt ls 0).tick (if ls.length = 0 then 0 else (h - (legAt ls 0).tick).toNat)
set_option maxRecDepth 20000 in
set_option maxHeartbeats 4000000 in
theorem ref25_All (A : Option Addr) (C : Nat) (ls : List Leg) (h : Int) (w : World) (hx : Legs w A ls) (hf : fineRow h ls) (hh : -1 ≤ h ∧ h ≤ 1073741824) :
    Calls Try.prog 28 #[.slice A ls.length C, .int .i64 h] w (RetElems 2 TickR.cells (allT ls h) w) := by
  rcases Nat.eq_zero_or_pos ls.length with h0 | h0
  · have e : allT ls h = [] := by unfold allT; rw [if_pos h0]; rfl
    rw [e, h0]
    go_enter Try.func28, Try.ntmps28
    go_wp2
    go_ret
    exact ⟨none, 0, rfl, fun hp => by simp at hp, Below.refl _ _⟩
  · obtain ⟨i0, hi, hz0, hz1, hz2⟩ := info_parts info_tick
    have e : allT ls h = ticksL ls (legAt ls 0).tick (h - (legAt ls 0).tick).toNat := by unfold allT; rw [if_neg (by omega)]
    obtain ⟨hl, hfl, h300⟩ := hf
    have h3 := h300 h0
    obtain ⟨_, _, hf4, hf5⟩ := hfl.2.1 0 h0
    have cA := fun (t : Int) (w' : World) (hb : Below w.heap.size w w') (ht : -2147483648 ≤ t ∧ t ≤ 2147483648) => ref25_At A C ls t w' (hx.below hb) hfl ht
    obtain ⟨b, off, rfl, hbl, hce⟩ := hx h0
    obtain ⟨g, hg⟩ := at_some (xs := ls) (k := 0) h0
    have y0 := hce 0 g hg 0 _ rfl
    simp only [Nat.zero_mul, Nat.add_zero] at y0
    have hl0 := legAt_of hg
    rw [hl0] at e h3 hf4 hf5
    rw [e]
    obtain ⟨n, hn⟩ : ∃ n, (h - g.tick).toNat = n := ⟨_, rfl⟩
    rw [hn]
    have hnn : n ≤ 300 := by omega
    have HN := Lib.hid hn
    have HS := Lib.hid (fun k => ticksL_succ ls g.tick k)
    have HL := Lib.hid (fun k => ticksL_len ls g.tick k)
    have hz := show Hid (ticksL ls g.tick 0 = []) from rfl
    have CA := Lib.hid cA
    generalize hG : ticksL ls g.tick = G at *
    have HT : Hid (∀ t, wayP ls t = (tickAt ls t).pos ∧ wayD ls t = (tickAt ls t).door) := fun t => ⟨rfl, rfl⟩
    generalize g.tick = t0 at *
    clear hn hce hg hl0 hG cA e h300 hx hfl
    have e0 : ((ls.length : Int) == 0) = false := beq_eq_false_iff_ne.2 (by omega)
    go_enter Try.func28, Try.ntmps28
    go_wp2
    clear e0
    go_loopw [6, 5, 7, 8] (fun i v _ _ wr => ∃ k : Nat, k ≤ n ∧ i = .int .i64 (t0 + (k : Int)) ∧ Hid (wr.ownsRow w.heap.size 69 2 v (G k).length ((G k).flatMap TickR.cells)) ∧ Below w.heap.size w wr) (fun i _ _ _ _ => (h - intOf i).toNat)
    case atStart => exact ⟨0, by omega, val_int (by omega), by rw [hz.out]; exact World.ownsRow_nil _ _ _ _, Below.refl _ _⟩
    case round =>
      obtain ⟨k, hk, rfl, hown, hb⟩ := hrel
      have hnk := HN.out
      by_cases hkl : k < n
      · have hlt : t0 + (k : Int) < h := by omega
        have hlk : (G k).length ≤ 300 := by rw [HL.out k]; omega
        have hsk := HS.out k
        have cA := CA.out (t0 + (k : Int)) wr hb (by omega)
        obtain ⟨e1, e2⟩ := HT.out (t0 + (k : Int))
        rw [e1, e2] at cA
        generalize tickAt ls (t0 + (k : Int)) = tk at *
        obtain ⟨p, d⟩ := tk
        simp only at cA
        have CB := Lib.hid cA
        have HSK := Lib.hid hsk
        clear cA e1 e2 hsk hnk
        go_wp2_with fail
        refine CB.out.mono ?_
        rintro e w2 ⟨rfl, hb2⟩
        have ho2 := ownsRow_below hown.out hb2
        have hb3 := hb.trans (hb2.mono hb.size)
        have hs3 := hb3.size
        have HO := Lib.hid (ho2.alloc (.cells #[.int .i64 p, .bool d] 69))
        have HB3 := Lib.hid (hb3.alloc hs3 (.cells #[.int .i64 p, .bool d] 69))
        clear hb2 hb3 ho2 hb CB hown
        go_wp2_with (at_builtin; refine wpList_append_own _ rfl _ _ 66 rfl w.heap.size 69 i0 _ 2 16 Try.underlying66 hi hz0 hz1 hz2 rfl (by decide) _ _ _ rfl (HO.out.alloc _) _ 1 1 [.int .i64 p, .bool d] rfl rfl ?c1 ?c2 ?c3 ?c4 ?c5 ?_)
        case c1 => exact cells_at (by simp) _ _
        case c2 => intro u hu; simp at hu; rcases hu with rfl | rfl <;> rfl
        case c3 => unfold maxLen; omega
        case c4 => omega
        case c5 => simp; omega
        intro v' w4 hown' hgrow _
        have hb4 : Below w.heap.size w w4 := (HB3.out.alloc (by simp; omega) _).grown hgrow (by simp; omega) (fun g hg => (HO.out.lt g hg).1)
        have ho4 : Hid (w4.ownsRow w.heap.size 69 2 v' (G (k + 1)).length ((G (k + 1)).flatMap TickR.cells)) := by
          rw [HSK.out, List.flatMap_append, List.length_append]
          exact hown'
        clear hgrow hown'
        go_wp2
        go_roundw
        case rel => exact ⟨k + 1, by omega, val_int (by omega), ho4, hb4⟩
        case measure => simp [intOf]; omega
      · obtain rfl : k = n := by omega
        have hge : ¬ t0 + (k : Int) < h := by omega
        obtain ⟨A', C', rfl, hel⟩ := owns_elems tick_cells_len hown.out
        have HE := Lib.hid hel
        clear hown hel hnk
        go_wp2
        go_ret
        exact ⟨A', C', rfl, HE.out, hb⟩
end Go.Proofs.Ytnegolclofgboaa
