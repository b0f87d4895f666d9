
/-
  Where a car is behind a tick, by the document: hoistwayref25.At. Condition: the legs are within bounds, their ticks rise.
-/
import Derived.Test.YtnegolclofgboaaTrack
set_option linter.unusedVariables false
set_option linter.unusedSimpArgs false
namespace Go.Proofs.Ytnegolclofgboaa
open Go.Joins Go.ChangeShapes Go.WideShapes Go.ChangeAt Go.RowKit Go.Deep

/-- What the first k legs say. -/
def wayPk (ls : List Leg) (t : Int) (k : Nat) : Int := if 0 < legK ls t k then (legAt ls (legK ls t k - 1)).pos + (legAt ls (legK ls t k - 1)).dir * (t - (legAt ls (legK ls t k - 1)).tick) else 0
def wayDk (ls : List Leg) (t : Int) (k : Nat) : Bool := if 0 < legK ls t k then (legAt ls (legK ls t k - 1)).door else false
def wayBk (ls : List Leg) (t : Int) (k : Nat) : Bool := decide (0 < legK ls t k)
theorem way_stay {ls : List Leg} {t : Int} {k : Nat} (h : t < (legAt ls k).tick) : wayPk ls t (k + 1) = wayPk ls t k ∧ wayDk ls t (k + 1) = wayDk ls t k ∧ wayBk ls t (k + 1) = wayBk ls t k := by
  have e : legK ls t (k + 1) = legK ls t k := by simp only [legK]; rw [if_neg (by omega)]
  unfold wayPk wayDk wayBk
  rw [e]
  exact ⟨rfl, rfl, rfl⟩
theorem way_step {ls : List Leg} {t : Int} {k : Nat} (hf : fineLs ls) (hk : k < ls.length) (h : (legAt ls k).tick ≤ t) : wayPk ls t (k + 1) = (legAt ls k).pos + (legAt ls k).dir * (t - (legAt ls k).tick) ∧ wayDk ls t (k + 1) = (legAt ls k).door ∧ wayBk ls t (k + 1) = true := by
  have e : legK ls t (k + 1) = k + 1 := legK_pre fun i hi => Int.le_trans (legs_rise hf (by omega) hk) h
  unfold wayPk wayDk wayBk
  rw [e]
  exact ⟨by rw [if_pos (by omega)]; rfl, by rw [if_pos (by omega)]; rfl, by simp⟩
theorem set2w {w w' : World} {b : Nat} {u1 u2 : Value} (h : Below w.heap.size w w') (hb : w.heap.size ≤ b) : Below w.heap.size w ((w'.setCell ⟨b, 0, none⟩ u1).setCell ⟨b, 1, none⟩ u2) :=
  (h.setCell hb _).setCell hb _
set_option maxHeartbeats 2000000 in
theorem ref25_At (A : Option Addr) (C : Nat) (ls : List Leg) (t : Int) (w : World) (hx : Legs w A ls) (hf : fineLs ls) (ht : -2147483648 ≤ t ∧ t ≤ 2147483648) :
    Calls Try.prog 33 #[.slice A ls.length C, .int .i64 t] w fun e w' => e = .returned (.tuple #[.agg #[.int .i64 (wayP ls t), .bool (wayD ls t)], .bool (wayB ls t)]) ∧ Below w.heap.size w w' := by
  have HX := Lib.hid hx
  have HF := Lib.hid hf
  have hl := hf.1
  clear hx hf
  go_enter Try.func33, Try.ntmps33
  go_wp2
  have hB1 := (Blk.new w 69 #[.int .i64 0, .bool false]).alloc (.cells #[.int .i64 0, .bool false] 69)
  have hB2 := Blk.new (w.alloc (.cells #[.int .i64 0, .bool false] 69)) 69 #[.int .i64 0, .bool false]
  rw [alloc_size] at hB2
  have hb2 := Joins.below_alloc2 w (.cells #[.int .i64 0, .bool false] 69) (.cells #[.int .i64 0, .bool false] 69)
  generalize ((w.alloc (.cells #[.int .i64 0, .bool false] 69)).alloc (.cells #[.int .i64 0, .bool false] 69)) = w1 at *
  go_loopw [7, 8] (fun v i wr => ∃ k : Nat, k ≤ ls.length ∧ i = .int .i64 k ∧ v = .bool (wayBk ls t k) ∧ Blk wr w.heap.size 69 #[.int .i64 0, .bool false] ∧ Blk wr (w.heap.size + 1) 69 #[.int .i64 (wayPk ls t k), .bool (wayDk ls t k)] ∧ Below w.heap.size w wr) (fun _ i _ => ls.length - (intOf i).toNat)
  case atStart => exact ⟨0, by omega, rfl, rfl, hB1, hB2, hb2⟩
  case round =>
    obtain ⟨k, hk, rfl, rfl, hq1, hq2, hb⟩ := hrel
    have c0 : wr.cell? ⟨w.heap.size + 1, 0, none⟩ = some (.int .i64 (wayPk ls t k)) := hq2.cell 0
    have c1 : wr.cell? ⟨w.heap.size + 1, 1, none⟩ = some (.bool (wayDk ls t k)) := hq2.cell 1
    have g0 := hq2.free 0
    have g1 := hq2.free 1
    by_cases hkl : k < ls.length
    · obtain ⟨b, off, rfl, hbl, hce⟩ := HX.out (by omega)
      obtain ⟨g, hg⟩ := at_some hkl
      have z := fun j u h => (hb.cell (p := ⟨b, off + k * 4 + j, none⟩) hbl).trans (hce k g hg j u h)
      have z0 := z 0 _ rfl
      have z1 := z 1 _ rfl
      have z2 := z 2 _ rfl
      have z3 := z 3 _ rfl
      simp only [Nat.add_zero] at z0
      have hga := legAt_of hg
      have hfl := HF.out.2.1 k hkl
      rw [hga] at hfl
      obtain ⟨f1, ⟨f2, f3⟩, f4, f5⟩ := hfl
      rcases Int.lt_or_le t g.tick with hc | hc
      · obtain ⟨s1, s2, s3⟩ := way_stay (ls := ls) (t := t) (k := k) (by rw [hga]; exact hc)
        have S1 := Lib.hid s1
        have S2 := Lib.hid s2
        have S3 := Lib.hid s3
        clear s1 s2 s3 hga hg hce z
        go_wp2
        go_roundw
        case rel => exact ⟨k + 1, by omega, by go_num, by rw [S3.out], hq1, by rw [S1.out, S2.out]; exact hq2, hb⟩
        case measure => simp [intOf]; omega
      · obtain ⟨s1, s2, s3⟩ := way_step HF.out hkl (t := t) (by rw [hga]; exact hc)
        rw [hga] at s1 s2
        have S1 := Lib.hid s1
        have S2 := Lib.hid s2
        have S3 := Lib.hid s3
        obtain ⟨m0, m1⟩ := dir_mul f1 (x := t - g.tick) (by omega)
        have k1 : IntKind.i64.wrap (t - g.tick) = t - g.tick := IntWalk.i64_in _ (by omega)
        have k2 : IntKind.i64.wrap (g.dir * (t - g.tick)) = g.dir * (t - g.tick) := IntWalk.i64_in _ (by omega)
        have k3 : IntKind.i64.wrap (g.pos + g.dir * (t - g.tick)) = g.pos + g.dir * (t - g.tick) := IntWalk.i64_in _ (by omega)
        have i0 : (0 : Int) ≤ (k : Int) := by omega
        have i1 : (k : Int) < (ls.length : Int) := by omega
        have hne : b ≠ w.heap.size + 1 := by omega
        have y0 := hce k g hg 0 _ rfl
        have y1 := hce k g hg 1 _ rfl
        have y2 := hce k g hg 2 _ rfl
        have y3 := hce k g hg 3 _ rfl
        simp only [Nat.add_zero] at y0
        have HC := Lib.hid (heldB (B := w) hb.drew)
        clear s1 s2 s3 hga hg hce z
        go_wp2_with fail
        clear z0 z1 z2 z3
        go_region_held3 (fun w' => Below w.heap.size w w' ∧ ∀ b o, b < w.heap.size → w'.cell? ⟨b, o, none⟩ = w.cell? ⟨b, o, none⟩) (first | exact HC.out | exact heldB (set2w hb (by omega)).drew) (fail)
        have hq3 : Blk ((wr.setCell ⟨w.heap.size + 1, 0, none⟩ (.int .i64 (g.pos + g.dir * (t - g.tick)))).setCell ⟨w.heap.size + 1, 1, none⟩ (.bool g.door)).drew (w.heap.size + 1) 69 #[.int .i64 (g.pos + g.dir * (t - g.tick)), .bool g.door] := (hq2.set_ 0 _).set_ 1 _
        have hq4 : Blk ((wr.setCell ⟨w.heap.size + 1, 0, none⟩ (.int .i64 (g.pos + g.dir * (t - g.tick)))).setCell ⟨w.heap.size + 1, 1, none⟩ (.bool g.door)).drew w.heap.size 69 #[.int .i64 0, .bool false] := (hq1.far (by simp) _).far (by simp) _
        have hb5 : Below w.heap.size w ((wr.setCell ⟨w.heap.size + 1, 0, none⟩ (.int .i64 (g.pos + g.dir * (t - g.tick)))).setCell ⟨w.heap.size + 1, 1, none⟩ (.bool g.door)).drew := (set2w hb (by omega)).drew
        clear hq1 hq2 k1 k2 k3 c0 c1 g0 g1 y0 y1 y2 y3
        go_wp2
        go_roundw
        case rel => exact ⟨k + 1, by omega, by go_num, by rw [S3.out], hq4, by rw [S1.out, S2.out]; exact hq3, hb5⟩
        case measure => simp [intOf]; omega
    · obtain rfl : k = ls.length := by omega
      have d0 : wr.cell? ⟨w.heap.size, 0, none⟩ = some (.int .i64 0) := hq1.cell 0
      have d1 : wr.cell? ⟨w.heap.size, 1, none⟩ = some (.bool false) := hq1.cell 1
      have h0 := hq1.free 0
      have h1 := hq1.free 1
      clear hq1 hq2 hkl
      go_wp2
      refine bodyPost_ret (v := .tuple #[.agg #[.int .i64 (wayPk ls t ls.length), .bool (wayDk ls t ls.length)], .bool (wayBk ls t ls.length)]) (by simp [results, Try.results33, go_sem, d0, d1]) rfl ?_
      exact ⟨rfl, set2w hb (Nat.le_refl _)⟩
end Go.Proofs.Ytnegolclofgboaa
