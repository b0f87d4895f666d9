
/-
  quiet.After, and the chapter's example of layer 44. Conditions: numbers within a million.
-/
import Derived.Test.YtlcnhpjmmjmkcaaQuiet
set_option linter.unusedVariables false
set_option linter.unusedSimpArgs false
namespace Go.Proofs.Ytlcnhpjmmjmkcaa
open Go.Joins Go.ChangeShapes Go.WideShapes Go.ChangeAt Go.RowKit Go.Deep

/-- A car so many ticks on. -/
def afterC (c : Car) (k : Int) : Car := if c.mode = 1 then { c with pos := c.pos + c.dir * k } else if c.mode = 2 ∨ c.mode = 3 ∨ c.mode = 4 then { c with left := c.left - k } else c
set_option maxRecDepth 20000 in
set_option maxHeartbeats 4000000 in
theorem quiet_After (c : Car) (A : Option Addr) (C : Nat) (k : Int) (w : World) (hp : -1000000 ≤ c.pos ∧ c.pos ≤ 1000000) (hl : -1000000 ≤ c.left ∧ c.left ≤ 1000000) (hk : -1000000 ≤ k ∧ k ≤ 1000000) (hd : -1 ≤ c.dir ∧ c.dir ≤ 1) :
    Calls Try.prog 26 #[c.val A C, .int .i64 k] w fun e w' => e = .returned ((afterC c k).val A C) ∧ Below w.heap.size w w' := by
  have hdk : -1000000 ≤ c.dir * k ∧ c.dir * k ≤ 1000000 := by
    have hd3 : c.dir = 0 ∨ c.dir = 1 ∨ c.dir = -1 := by omega
    rcases hd3 with e | e | e <;> rw [e] <;> omega
  unfold afterC
  obtain ⟨p, d, m, l, wt, rs⟩ := c
  simp only at *
  by_cases h1 : m = 1
  · rw [if_pos h1]
    subst h1
    have e1 : IntKind.i64.wrap (d * k) = d * k := IntWalk.i64_in _ (by omega)
    have e2 : IntKind.i64.wrap (p + d * k) = p + d * k := IntWalk.i64_in _ (by omega)
    generalize hdm : d * k = dk at *
    go_enter Try.func26, Try.ntmps26
    go_wp2_with (with_reducible refine hold_slot 18 ?_)
    have k0 : Blk ((w.alloc (.cells #[.int .i64 p, .int .i64 d, .int .i64 1, .int .i64 l, .bool wt, .slice A rs.length C] 25)).alloc (.cells #[.int .i64 0, .int .i64 0, .int .i64 0, .int .i64 0, .bool false, .slice none 0 0] 25)) (w.heap.size) 25 #[.int .i64 p, .int .i64 d, .int .i64 1, .int .i64 l, .bool wt, .slice A rs.length C] := (Blk.alloc (blk_at (by simp)) (.cells #[.int .i64 0, .int .i64 0, .int .i64 0, .int .i64 0, .bool false, .slice none 0 0] 25))
    have k1 : Blk ((w.alloc (.cells #[.int .i64 p, .int .i64 d, .int .i64 1, .int .i64 l, .bool wt, .slice A rs.length C] 25)).alloc (.cells #[.int .i64 0, .int .i64 0, .int .i64 0, .int .i64 0, .bool false, .slice none 0 0] 25)) (w.heap.size + 1) 25 #[.int .i64 0, .int .i64 0, .int .i64 0, .int .i64 0, .bool false, .slice none 0 0] := (blk_at (by simp))
    have hB : Below w.heap.size w ((w.alloc (.cells #[.int .i64 p, .int .i64 d, .int .i64 1, .int .i64 l, .bool wt, .slice A rs.length C] 25)).alloc (.cells #[.int .i64 0, .int .i64 0, .int .i64 0, .int .i64 0, .bool false, .slice none 0 0] 25)) := (bel_at (bel_at (Below.refl _ _) (.cells #[.int .i64 p, .int .i64 d, .int .i64 1, .int .i64 l, .bool wt, .slice A rs.length C] 25)) (.cells #[.int .i64 0, .int .i64 0, .int .i64 0, .int .i64 0, .bool false, .slice none 0 0] 25))
    generalize ((w.alloc (.cells #[.int .i64 p, .int .i64 d, .int .i64 1, .int .i64 l, .bool wt, .slice A rs.length C] 25)).alloc (.cells #[.int .i64 0, .int .i64 0, .int .i64 0, .int .i64 0, .bool false, .slice none 0 0] 25)) = w1 at *
    (try clear k0c k0f k0z); have k0c := fun i => Blk.cell k0 i; have k0f := fun i => Blk.free k0 i; have k0z := Blk.lt k0; (try clear k1c k1f k1z); have k1c := fun i => Blk.cell k1 i; have k1f := fun i => Blk.free k1 i; have k1z := Blk.lt k1
    unfold Hold
    go_wp2
    refine bodyPost_ret (v := .agg #[.int .i64 (p + dk), .int .i64 d, .int .i64 1, .int .i64 l, .bool wt, .slice A rs.length C]) (by simp [results, Try.results26, go_sem, k1c, k1f]) rfl ?_
    exact ⟨rfl, by (repeat' (first | with_reducible exact hB | with_reducible exact below_drewN hB _ | with_reducible refine Below.drew ?_ | with_reducible refine Below.setCell ?_ ?_ _)) <;> (first | (simp; done) | omega | (simp; omega))⟩
  · rw [if_neg h1]
    by_cases h2 : m = 2 ∨ m = 3 ∨ m = 4
    · rw [if_pos h2]
      have e1 : IntKind.i64.wrap (l - k) = l - k := IntWalk.i64_in _ (by omega)
      rcases h2 with h | h | h
      · subst h
        go_enter Try.func26, Try.ntmps26
        go_wp2_with (with_reducible refine hold_slot 11 ?_)
        have k0 : Blk ((w.alloc (.cells #[.int .i64 p, .int .i64 d, .int .i64 2, .int .i64 l, .bool wt, .slice A rs.length C] 25)).alloc (.cells #[.int .i64 0, .int .i64 0, .int .i64 0, .int .i64 0, .bool false, .slice none 0 0] 25)) (w.heap.size) 25 #[.int .i64 p, .int .i64 d, .int .i64 2, .int .i64 l, .bool wt, .slice A rs.length C] := (Blk.alloc (blk_at (by simp)) (.cells #[.int .i64 0, .int .i64 0, .int .i64 0, .int .i64 0, .bool false, .slice none 0 0] 25))
        have k1 : Blk ((w.alloc (.cells #[.int .i64 p, .int .i64 d, .int .i64 2, .int .i64 l, .bool wt, .slice A rs.length C] 25)).alloc (.cells #[.int .i64 0, .int .i64 0, .int .i64 0, .int .i64 0, .bool false, .slice none 0 0] 25)) (w.heap.size + 1) 25 #[.int .i64 0, .int .i64 0, .int .i64 0, .int .i64 0, .bool false, .slice none 0 0] := (blk_at (by simp))
        have hB : Below w.heap.size w ((w.alloc (.cells #[.int .i64 p, .int .i64 d, .int .i64 2, .int .i64 l, .bool wt, .slice A rs.length C] 25)).alloc (.cells #[.int .i64 0, .int .i64 0, .int .i64 0, .int .i64 0, .bool false, .slice none 0 0] 25)) := (bel_at (bel_at (Below.refl _ _) (.cells #[.int .i64 p, .int .i64 d, .int .i64 2, .int .i64 l, .bool wt, .slice A rs.length C] 25)) (.cells #[.int .i64 0, .int .i64 0, .int .i64 0, .int .i64 0, .bool false, .slice none 0 0] 25))
        generalize ((w.alloc (.cells #[.int .i64 p, .int .i64 d, .int .i64 2, .int .i64 l, .bool wt, .slice A rs.length C] 25)).alloc (.cells #[.int .i64 0, .int .i64 0, .int .i64 0, .int .i64 0, .bool false, .slice none 0 0] 25)) = w1 at *
        (try clear k0c k0f k0z); have k0c := fun i => Blk.cell k0 i; have k0f := fun i => Blk.free k0 i; have k0z := Blk.lt k0; (try clear k1c k1f k1z); have k1c := fun i => Blk.cell k1 i; have k1f := fun i => Blk.free k1 i; have k1z := Blk.lt k1
        unfold Hold
        go_wp2
        refine bodyPost_ret (v := .agg #[.int .i64 p, .int .i64 d, .int .i64 2, .int .i64 (l - k), .bool wt, .slice A rs.length C]) (by simp [results, Try.results26, go_sem, k1c, k1f]) rfl ?_
        exact ⟨rfl, by (repeat' (first | with_reducible exact hB | with_reducible exact below_drewN hB _ | with_reducible refine Below.drew ?_ | with_reducible refine Below.setCell ?_ ?_ _)) <;> (first | (simp; done) | omega | (simp; omega))⟩
      · subst h
        go_enter Try.func26, Try.ntmps26
        go_wp2_with (with_reducible refine hold_slot 11 ?_)
        have k0 : Blk ((w.alloc (.cells #[.int .i64 p, .int .i64 d, .int .i64 3, .int .i64 l, .bool wt, .slice A rs.length C] 25)).alloc (.cells #[.int .i64 0, .int .i64 0, .int .i64 0, .int .i64 0, .bool false, .slice none 0 0] 25)) (w.heap.size) 25 #[.int .i64 p, .int .i64 d, .int .i64 3, .int .i64 l, .bool wt, .slice A rs.length C] := (Blk.alloc (blk_at (by simp)) (.cells #[.int .i64 0, .int .i64 0, .int .i64 0, .int .i64 0, .bool false, .slice none 0 0] 25))
        have k1 : Blk ((w.alloc (.cells #[.int .i64 p, .int .i64 d, .int .i64 3, .int .i64 l, .bool wt, .slice A rs.length C] 25)).alloc (.cells #[.int .i64 0, .int .i64 0, .int .i64 0, .int .i64 0, .bool false, .slice none 0 0] 25)) (w.heap.size + 1) 25 #[.int .i64 0, .int .i64 0, .int .i64 0, .int .i64 0, .bool false, .slice none 0 0] := (blk_at (by simp))
        have hB : Below w.heap.size w ((w.alloc (.cells #[.int .i64 p, .int .i64 d, .int .i64 3, .int .i64 l, .bool wt, .slice A rs.length C] 25)).alloc (.cells #[.int .i64 0, .int .i64 0, .int .i64 0, .int .i64 0, .bool false, .slice none 0 0] 25)) := (bel_at (bel_at (Below.refl _ _) (.cells #[.int .i64 p, .int .i64 d, .int .i64 3, .int .i64 l, .bool wt, .slice A rs.length C] 25)) (.cells #[.int .i64 0, .int .i64 0, .int .i64 0, .int .i64 0, .bool false, .slice none 0 0] 25))
        generalize ((w.alloc (.cells #[.int .i64 p, .int .i64 d, .int .i64 3, .int .i64 l, .bool wt, .slice A rs.length C] 25)).alloc (.cells #[.int .i64 0, .int .i64 0, .int .i64 0, .int .i64 0, .bool false, .slice none 0 0] 25)) = w1 at *
        (try clear k0c k0f k0z); have k0c := fun i => Blk.cell k0 i; have k0f := fun i => Blk.free k0 i; have k0z := Blk.lt k0; (try clear k1c k1f k1z); have k1c := fun i => Blk.cell k1 i; have k1f := fun i => Blk.free k1 i; have k1z := Blk.lt k1
        unfold Hold
        go_wp2
        refine bodyPost_ret (v := .agg #[.int .i64 p, .int .i64 d, .int .i64 3, .int .i64 (l - k), .bool wt, .slice A rs.length C]) (by simp [results, Try.results26, go_sem, k1c, k1f]) rfl ?_
        exact ⟨rfl, by (repeat' (first | with_reducible exact hB | with_reducible exact below_drewN hB _ | with_reducible refine Below.drew ?_ | with_reducible refine Below.setCell ?_ ?_ _)) <;> (first | (simp; done) | omega | (simp; omega))⟩
      · subst h
        go_enter Try.func26, Try.ntmps26
        go_wp2_with (with_reducible refine hold_slot 11 ?_)
        have k0 : Blk ((w.alloc (.cells #[.int .i64 p, .int .i64 d, .int .i64 4, .int .i64 l, .bool wt, .slice A rs.length C] 25)).alloc (.cells #[.int .i64 0, .int .i64 0, .int .i64 0, .int .i64 0, .bool false, .slice none 0 0] 25)) (w.heap.size) 25 #[.int .i64 p, .int .i64 d, .int .i64 4, .int .i64 l, .bool wt, .slice A rs.length C] := (Blk.alloc (blk_at (by simp)) (.cells #[.int .i64 0, .int .i64 0, .int .i64 0, .int .i64 0, .bool false, .slice none 0 0] 25))
        have k1 : Blk ((w.alloc (.cells #[.int .i64 p, .int .i64 d, .int .i64 4, .int .i64 l, .bool wt, .slice A rs.length C] 25)).alloc (.cells #[.int .i64 0, .int .i64 0, .int .i64 0, .int .i64 0, .bool false, .slice none 0 0] 25)) (w.heap.size + 1) 25 #[.int .i64 0, .int .i64 0, .int .i64 0, .int .i64 0, .bool false, .slice none 0 0] := (blk_at (by simp))
        have hB : Below w.heap.size w ((w.alloc (.cells #[.int .i64 p, .int .i64 d, .int .i64 4, .int .i64 l, .bool wt, .slice A rs.length C] 25)).alloc (.cells #[.int .i64 0, .int .i64 0, .int .i64 0, .int .i64 0, .bool false, .slice none 0 0] 25)) := (bel_at (bel_at (Below.refl _ _) (.cells #[.int .i64 p, .int .i64 d, .int .i64 4, .int .i64 l, .bool wt, .slice A rs.length C] 25)) (.cells #[.int .i64 0, .int .i64 0, .int .i64 0, .int .i64 0, .bool false, .slice none 0 0] 25))
        generalize ((w.alloc (.cells #[.int .i64 p, .int .i64 d, .int .i64 4, .int .i64 l, .bool wt, .slice A rs.length C] 25)).alloc (.cells #[.int .i64 0, .int .i64 0, .int .i64 0, .int .i64 0, .bool false, .slice none 0 0] 25)) = w1 at *
        (try clear k0c k0f k0z); have k0c := fun i => Blk.cell k0 i; have k0f := fun i => Blk.free k0 i; have k0z := Blk.lt k0; (try clear k1c k1f k1z); have k1c := fun i => Blk.cell k1 i; have k1f := fun i => Blk.free k1 i; have k1z := Blk.lt k1
        unfold Hold
        go_wp2
        refine bodyPost_ret (v := .agg #[.int .i64 p, .int .i64 d, .int .i64 4, .int .i64 (l - k), .bool wt, .slice A rs.length C]) (by simp [results, Try.results26, go_sem, k1c, k1f]) rfl ?_
        exact ⟨rfl, by (repeat' (first | with_reducible exact hB | with_reducible exact below_drewN hB _ | with_reducible refine Below.drew ?_ | with_reducible refine Below.setCell ?_ ?_ _)) <;> (first | (simp; done) | omega | (simp; omega))⟩
    · rw [if_neg h2]
      have q1 : (m == 1) = false := by simpa using h1
      have q2 : (m == 2) = false := by simp; omega
      have q3 : (m == 3) = false := by simp; omega
      have q4 : (m == 4) = false := by simp; omega
      clear h1 h2
      go_enter Try.func26, Try.ntmps26
      go_wp2
      refine bodyPost_ret (v := .agg #[.int .i64 p, .int .i64 d, .int .i64 m, .int .i64 l, .bool wt, .slice A rs.length C]) (by simp [results, Try.results26, go_sem]) rfl ?_
      exact ⟨rfl, by first | exact Joins.below_alloc2 _ _ _ | (have hB := Joins.below_alloc2 w (.cells #[.int .i64 p, .int .i64 d, .int .i64 m, .int .i64 l, .bool wt, .slice A rs.length C] 25) (.cells #[.int .i64 0, .int .i64 0, .int .i64 0, .int .i64 0, .bool false, .slice none 0 0] 25); (repeat' (first | with_reducible exact hB | with_reducible exact below_drewN hB _ | with_reducible refine Below.drew ?_ | with_reducible refine Below.setCell ?_ ?_ _)) <;> (first | (simp; done) | omega | (simp; omega)))⟩
theorem run_carpos (p d m l : Int) (wt : Bool) (v : Value) (w : World) : (Instr.field 25 (.agg #[.int .i64 p, .int .i64 d, .int .i64 m, .int .i64 l, .bool wt, v]) 0).run Try.prog w = .ok (.int .i64 p) w := by
  have hi := run_underlying Try.underlying3
  have hz := Try.sizeOf3
  simp [Instr.field, go_sem, run_underlying Try.underlying25, part, isAgg, asAgg, hi, hz]
abbrev s44 : Scen := ⟨2, 1, 1, 1, 1, 1, 1, 1, [⟨1, 1, 0⟩], 1, 9, 1, 1⟩
abbrev car44 : Car := ⟨0, 0, 3, 5, false, []⟩
abbrev carB44 : Car := ⟨9, -1, 1, 0, false, []⟩
theorem fine44q : FineQ s44 car44 0 0 0 0 :=
  have hz : inF 2 0 0 := fun n hn => absurd hn (by rw [mem_zero]; simp)
  ⟨(by unfold Scen.fine; decide), (by unfold carIn; decide), (fun i hi => absurd hi (by simp)), hz, hz, .inr (.inr ⟨(by decide), (by decide), (by decide), (by decide)⟩)⟩
set_option maxRecDepth 20000 in
set_option maxHeartbeats 4000000 in
theorem alive44 (w : World) : Calls Try.prog 22 #[] w fun e w' => e = .returned (.bool true) ∧ Below w.heap.size w w' := by
  have hw0 : Wd 0 := by unfold Wd; decide
  have eN : qN s44 car44 0 0 0 0 = 5 := by unfold qN; rw [if_neg (by decide), if_neg (by decide)]
  have eB : qB s44 car44 0 0 0 0 = true := by unfold qB; rw [if_neg (by decide)]
  have eA : afterC carB44 4 = ⟨5, -1, 1, 0, false, []⟩ := by unfold afterC; rw [if_pos (by decide)]; rfl
  have cN : ∀ A w, Calls Try.prog 21 #[.agg #[.int .i64 2, .int .i64 1, .int .i64 1, .int .i64 1, .int .i64 1, .int .i64 1, .int .i64 1, .int .i64 1, .slice A 1 1, .int .i64 1, .int .i64 9, .int .i64 1, .int .i64 1], .agg #[.int .i64 0, .int .i64 0, .int .i64 3, .int .i64 5, .bool false, .slice none 0 0], .agg #[.int .u64 0, .int .u64 0], .agg #[.int .u64 0, .int .u64 0]] w fun e w' => e = .returned (.tuple #[.int .i64 5, .bool true]) ∧ Below w.heap.size w w' := fun A w => by
    have := quiet_Next s44 A 1 car44 none 0 0 0 0 0 w fine44q (fun h => by simp at h) (fun i => by unfold I64 dst rid; simp) hw0 hw0 hw0 hw0
    rw [eN, eB] at this
    exact this
  have cA : ∀ w, Calls Try.prog 26 #[.agg #[.int .i64 9, .int .i64 (-1), .int .i64 1, .int .i64 0, .bool false, .slice none 0 0], .int .i64 4] w fun e w' => e = .returned (.agg #[.int .i64 5, .int .i64 (-1), .int .i64 1, .int .i64 0, .bool false, .slice none 0 0]) ∧ Below w.heap.size w w' := fun w => by
    have := quiet_After carB44 none 0 4 w (by decide) (by decide) (by decide) (by decide)
    rw [eA] at this
    exact this
  have CN := Lib.hid cN
  have CA := Lib.hid cA
  clear cN cA eN eB eA hw0
  go_enter Try.func22, Try.ntmps22
  go_wp2_with (go_at_call 21; with_reducible refine (CN.out _ _).mono ?_)
  rintro e w2 ⟨rfl, hb⟩
  have hB : Below w.heap.size w w2 := (below_alloc1 _ _).trans (hb.mono (by simp))
  clear hb
  go_wp2_with (go_at_call 26; with_reducible refine (CA.out _).mono ?_)
  rintro e w3 ⟨rfl, hb⟩
  replace hB := hB.trans (hb.mono hB.size)
  clear hb
  have hf := run_carpos 5 (-1) 1 0 false (.slice none 0 0)
  go_wp2
  go_ret
  exact ⟨rfl, hB⟩
end Go.Proofs.Ytlcnhpjmmjmkcaa
