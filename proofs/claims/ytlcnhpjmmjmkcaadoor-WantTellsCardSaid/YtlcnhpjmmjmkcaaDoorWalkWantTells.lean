
/-
  The statement WantTells, walked. Condition: the library's table lies as laid.
-/
import Derived.Test.YtlcnhpjmmjmkcaaDoorAlive30
import Derived.Test.YtlcnhpjmmjmkcaaDoorRel3
import Derived.Test.YtlcnhpjmmjmkcaaDoorArgSet
import Derived.Test.YtlcnhpjmmjmkcaaDoorRef30b
import Derived.Test.YtlcnhpjmmjmkcaaDoorDoorL
import Derived.Test.YtlcnhpjmmjmkcaaDoorEqSet
import Derived.Deep.CutRange
set_option linter.unusedVariables false
set_option linter.unusedSimpArgs false
namespace Go.Proofs.YtlcnhpjmmjmkcaaDoor
open Go.Joins Go.ChangeShapes Go.WideShapes Go.ChangeAt Go.RowKit Go.Deep

theorem gop_yesW {P : Program} {ops : Array Oper} {o : Oper} {a : Act} {w : World} {R : Value → World → Prop} (h : Region.wanted o (yielded ops a.tmps) = true) (hg : grows P o a w R) : gop P ops o a w R := by unfold gop; rw [if_pos h]; exact hg
theorem ref03_OfL (x y : Nat) (A : Option Addr) (C : Nat) (w : World) (hx : Wd x) (hy : Wd y) (hI : Ints w A (items x y)) : Calls Tryd.prog 13 #[.slice A (items x y).length C] w fun e w' => e = .returned (sv x y) ∧ Below w.heap.size w w' := by
  have h := ref03_Of A C (items x y) w hI (by have := items_len x y; omega) (items_bd 0 0 (items x y) fun k hk => by rw [mem_items] at hk; exact ⟨hk.1, hk.2.1⟩)
  rw [(items_set hx hy).1, (items_set hx hy).2] at h
  exact h
def relWant (cap : Int) (fu : Bool) (car up dn r la wo : Value) (L1 L2 : List Int) (i : Nat) (v : Value) (w : World) : Prop := match i with
  | 0 => v = car
  | 1 => v = r
  | 2 => v = car
  | 3 => ∃ A C, v = .slice A L1.length C ∧ Ints w A L1
  | 4 => v = r
  | 5 => v = .bool true
  | 6 => v = .bool true
  | 7 => v = car
  | 8 => v = .int .i64 cap
  | 9 => v = .bool fu
  | 10 => v = car
  | 11 => v = .int .i64 cap
  | 12 => v = .bool fu
  | 13 => v = .bool true
  | 14 => v = .bool true
  | 15 => v = .bool true
  | 16 => v = car
  | 17 => v = .int .i64 cap
  | 18 => v = up
  | 19 => v = la
  | 20 => v = car
  | 21 => v = .int .i64 cap
  | 22 => v = up
  | 23 => ∃ A C, v = .slice A L2.length C ∧ Ints w A L2
  | 24 => v = la
  | 25 => v = .bool true
  | 26 => v = .bool true
  | 27 => v = .bool true
  | 28 => v = car
  | 29 => v = .int .i64 cap
  | 30 => v = up
  | 31 => v = dn
  | 32 => v = wo
  | 33 => v = car
  | 34 => v = .int .i64 cap
  | 35 => v = up
  | 36 => v = dn
  | 37 => v = wo
  | 38 => v = .bool true
  | 39 => v = .bool true
  | 40 => v = .bool true
  | 41 => v = .bool true
  | 42 => v = .bool true
  | _ => True
theorem relWant_stays (cap : Int) (fu : Bool) (car up dn r la wo : Value) (L1 L2 : List Int) : ∀ i v w1 w2, relWant cap fu car up dn r la wo L1 L2 i v w1 → Below w1.heap.size w1 w2 → relWant cap fu car up dn r la wo L1 L2 i v w2 := by
  intro i v w1 w2 h hb
  unfold relWant at *
  split <;> simp only at h <;> first | exact h | (obtain ⟨A, C, e, h⟩ := h; exact ⟨A, C, e, h.below hb⟩)
set_option maxRecDepth 20000 in
set_option maxHeartbeats 16000000 in
theorem law_WantTells (c : Car) (A : Option Addr) (C : Nat) (cap : Int) (ux uy dx dy : Nat) (w : World) (hr : Rids w A c.riders) (hlen : (c.riders.length : Int) ≤ 9223372036854775807) (hbd : ∀ i, I64 (dst c.riders i)) (hc : I64 cap)
    (h1 : Wd ux) (h2 : Wd uy) (h3 : Wd dx) (h4 : Wd dy) (hT : Tab w) :
    Calls Tryd.prog 7 #[c.val A C, .int .i64 cap, .agg #[.int .u64 (ux : Int), .int .u64 (uy : Int), .int .u64 (dx : Int), .int .u64 (dy : Int)]] w fun e w' => e = .returned (.bool true) ∧ Below w.heap.size w w' := by
  by_cases hl : (100 : Int) < c.riders.length
  · obtain ⟨p, d, m, l, wt, rs⟩ := c
    simp only at *
    have q1 : decide ((100 : Int) < (rs.length : Int)) = true := decide_eq_true hl
    clear hr hlen hbd hc h1 h2 h3 h4 hT hl
    go_enter Tryd.func7, Tryd.ntmps7
    go_wp2
    go_ret
    exact ⟨rfl, Joins.below_alloc2 _ _ _⟩
  have wr := fun w hr => want_Rides c A C w hr (by omega) hbd
  have rr := fun w hr => ref30_Rides c A C w hr (by omega) hbd
  have wf := fun w => want_Full c A C cap w (by omega) hc
  have rf := fun w => ref30_Full c A C cap w (by omega) hc
  have wl := fun w => want_Lands c A C cap ux uy w (by omega) hc
  have rl := fun w => ref30_Lands c A C cap ux uy w (by omega) hc h1 h2
  have wo := fun w hr => want_Of c A C cap ux uy dx dy w hr (by omega) hbd hc h1 h2 h3 h4
  have ro := fun w hr => ref30_Of c A C cap ux uy dx dy w hr (by omega) hbd hc h1 h2 h3 h4
  have o1 := fun A C w hI => ref03_OfL (ridX c) (ridY c) A C w (wd_rid c).1 (wd_rid c).2 hI
  have o2 := fun A C w hI => ref03_OfL (landX c cap ux) (landX c cap uy) A C w (wd_land h1) (wd_land h2) hI
  have al := fun w hT => alive30 w hT
  have q1 : decide ((100 : Int) < (c.riders.length : Int)) = false := decide_eq_false hl
  clear hl hlen hbd hc h1 h2 h3 h4
  generalize items (ridX c) (ridY c) = L1 at *
  generalize items (landX c cap ux) (landX c cap uy) = L2 at *
  unfold sv at *
  generalize ((ridX c : Nat) : Int) = r1 at *
  generalize ((ridY c : Nat) : Int) = r2 at *
  generalize ((landX c cap ux : Nat) : Int) = l1 at *
  generalize ((landX c cap uy : Nat) : Int) = l2 at *
  generalize ((wantX c cap ux dx : Nat) : Int) = w1' at *
  generalize ((wantY c cap uy dy : Nat) : Int) = w2' at *
  generalize fullB c cap = fu at *
  have g1 := run_set2 r1 r2 r1 r2
  have g2 := run_set2 l1 l2 l1 l2
  have g3 := run_set2 w1' w2' w1' w2'
  simp only [beq_self_eq_true, Bool.and_self] at g1 g2 g3
  obtain ⟨p, d, m, l, wt, rs⟩ := c
  simp only at *
  have WR := Lib.hid wr
  have RR := Lib.hid rr
  have WF := Lib.hid wf
  have RF := Lib.hid rf
  have WL := Lib.hid wl
  have RL := Lib.hid rl
  have WO := Lib.hid wo
  have RO := Lib.hid ro
  have OF1 := Lib.hid o1
  have OF2 := Lib.hid o2
  have AL := Lib.hid al
  have HR := Lib.hid hr
  have HT := Lib.hid hT
  clear wr rr wf rf wl rl wo ro o1 o2 al hr hT
  go_enter Tryd.func7, Tryd.ntmps7
  go_upto_region 3 with fail
  have k0 : Blk ((w.alloc (.cells #[.int .i64 p, .int .i64 d, .int .i64 m, .int .i64 l, .bool wt, .slice A rs.length C] 47)).alloc (.cells #[.int .u64 (ux : Int), .int .u64 (uy : Int), .int .u64 (dx : Int), .int .u64 (dy : Int)] 48)) (w.heap.size) 47 #[.int .i64 p, .int .i64 d, .int .i64 m, .int .i64 l, .bool wt, .slice A rs.length C] := (Blk.alloc (blk_at (by simp)) (.cells #[.int .u64 (ux : Int), .int .u64 (uy : Int), .int .u64 (dx : Int), .int .u64 (dy : Int)] 48))
  have k1 : Blk ((w.alloc (.cells #[.int .i64 p, .int .i64 d, .int .i64 m, .int .i64 l, .bool wt, .slice A rs.length C] 47)).alloc (.cells #[.int .u64 (ux : Int), .int .u64 (uy : Int), .int .u64 (dx : Int), .int .u64 (dy : Int)] 48)) (w.heap.size + 1) 48 #[.int .u64 (ux : Int), .int .u64 (uy : Int), .int .u64 (dx : Int), .int .u64 (dy : Int)] := (blk_at (by simp))
  have hB : Below w.heap.size w ((w.alloc (.cells #[.int .i64 p, .int .i64 d, .int .i64 m, .int .i64 l, .bool wt, .slice A rs.length C] 47)).alloc (.cells #[.int .u64 (ux : Int), .int .u64 (uy : Int), .int .u64 (dx : Int), .int .u64 (dy : Int)] 48)) := (bel_at (bel_at (Below.refl _ _) (.cells #[.int .i64 p, .int .i64 d, .int .i64 m, .int .i64 l, .bool wt, .slice A rs.length C] 47)) (.cells #[.int .u64 (ux : Int), .int .u64 (uy : Int), .int .u64 (dx : Int), .int .u64 (dy : Int)] 48))
  generalize ((w.alloc (.cells #[.int .i64 p, .int .i64 d, .int .i64 m, .int .i64 l, .bool wt, .slice A rs.length C] 47)).alloc (.cells #[.int .u64 (ux : Int), .int .u64 (uy : Int), .int .u64 (dx : Int), .int .u64 (dy : Int)] 48)) = w1 at *
  (try clear k0c k0f k0z); have k0c := fun i => Blk.cell k0 i; have k0f := fun i => Blk.free k0 i; have k0z := Blk.lt k0; (try clear k1c k1f k1z); have k1c := fun i => Blk.cell k1 i; have k1f := fun i => Blk.free k1 i; have k1z := Blk.lt k1
  go_cut [7, 8] from 13 to 16 (fun v7 v8 wc => ∃ b3 b4, v7 = .pointer (some ⟨b3, 0, none⟩) ∧ v8 = .pointer (some ⟨b4, 0, none⟩) ∧ Blk wc b3 24 #[.int .u64 (ux : Int), .int .u64 (uy : Int)] ∧ Blk wc b4 24 #[.int .u64 (dx : Int), .int .u64 (dy : Int)] ∧ Blk wc w.heap.size 47 #[.int .i64 p, .int .i64 d, .int .i64 m, .int .i64 l, .bool wt, .slice A rs.length C] ∧ Below w.heap.size w wc)
  case first =>
    go_region
    all_goals go_wp2_with fail
    all_goals go_meet
    · exact ⟨_, _, rfl, rfl, Blk.alloc (Blk.new _ _ _) _, boxb2 _ _ _ _ _, Blk.alloc (Blk.alloc k0 _) _, ((hB.alloc hB.size _).alloc (by simp; omega) _).drew⟩
    · exact ⟨_, _, rfl, rfl, boxb2 _ _ _ _ _, Blk.alloc (Blk.new _ _ _) _, Blk.alloc (Blk.alloc k0 _) _, ((hB.alloc hB.size _).alloc (by simp; omega) _).drew⟩
  case rest =>
  clear k0 k1 k0c k0f k0z k1c k1f k1z hB
  obtain ⟨b3, b4, rfl, rfl, k3, k4, k0, hB⟩ := hcut
  (try clear k0c k0f k0z); have k0c := fun i => Blk.cell k0 i; have k0f := fun i => Blk.free k0 i; have k0z := Blk.lt k0; (try clear k3c k3f k3z); have k3c := fun i => Blk.cell k3 i; have k3f := fun i => Blk.free k3 i; have k3z := Blk.lt k3; (try clear k4c k4f k4z); have k4c := fun i => Blk.cell k4 i; have k4f := fun i => Blk.free k4 i; have k4z := Blk.lt k4
  go_wp2
  have HR3 := Lib.hid (HR.out.below hB)
  have HT3 := Lib.hid (HT.out.below hB)
  refine wp_region_rel 43 [17, 18, 19, 20, 21, 22, 23, 24, 25, 26, 27, 28, 29, 30, 31, 32, 33, 34, 35, 36, 37, 38, 39, 40, 41, 42, 43, 44, 45, 46, 47, 48, 49, 50, 51, 52, 53, 54, 55, 56, 57, 58, 59] (relWant cap fu (.agg #[.int .i64 p, .int .i64 d, .int .i64 m, .int .i64 l, .bool wt, .slice A rs.length C]) (.agg #[.int .u64 (ux : Int), .int .u64 (uy : Int)]) (.agg #[.int .u64 (dx : Int), .int .u64 (dy : Int)]) (.agg #[.int .u64 (r1 : Int), .int .u64 (r2 : Int)]) (.agg #[.int .u64 (l1 : Int), .int .u64 (l2 : Int)]) (.agg #[.int .u64 (w1' : Int), .int .u64 (w2' : Int)]) L1 L2) (by kernel_rfl) (by kernel_rfl) (by kernel_rfl) (relWant_stays _ _ _ _ _ _ _ _ _ _) ?_ ?_
  · refine ⟨?_, ?_, ?_, ?_, ?_, ?_, ?_, ?_, ?_, ?_, ?_, ?_, ?_, ?_, ?_, ?_, ?_, ?_, ?_, ?_, ?_, ?_, ?_, ?_, ?_, ?_, ?_, ?_, ?_, ?_, ?_, ?_, ?_, ?_, ?_, ?_, ?_, ?_, ?_, ?_, ?_, ?_, ?_, trivial⟩
    all_goals
      intro f w6 hb hl2
      simp [leans, Region.binds, relWant] at hl2
      have j0 := k0.below hb k0.lt
      have j0c := fun i => Blk.cell j0 i
      have j3 := k3.below hb k3.lt
      have j3c := fun i => Blk.cell j3 i
      have j4 := k4.below hb k4.lt
      have j4c := fun i => Blk.cell j4 i
    · simp [gop, Region.wanted, grows, frm]
      simp [execOp, go_sem, *, growsUpon]
      exact ⟨Below.refl _ _, rfl⟩
    · simp [gop, Region.wanted, grows, frm]
      simp [execOp, go_sem, *, growsUpon]
      exact ⟨Below.refl _ _, (WR.out _ (HR3.out.below hb)).mono fun e w3 h => ⟨_, h.1, h.2, rfl⟩⟩
    · simp [gop, Region.wanted, grows, frm]
      simp [execOp, go_sem, *, growsUpon]
      exact ⟨Below.refl _ _, rfl⟩
    · simp [gop, Region.wanted, grows, frm]
      simp [execOp, go_sem, *, growsUpon]
      exact ⟨Below.refl _ _, (RR.out _ (HR3.out.below hb)).mono fun e w3 h => by obtain ⟨A, C, he, hi, hb⟩ := h.ints; exact ⟨_, he, hb, A, C, rfl, hi⟩⟩
    · have hg3 := hl2
      cases hg3 with
      | intro A3 h3 =>
      have HI3 := Lib.hid h3.2
      have h4 := h3.1
      clear h3
      cases h4 with
      | intro C3 hs3 =>
      clear hl2
      simp [gop, Region.wanted, grows, frm]
      simp [execOp, go_sem, *, growsUpon]
      exact ⟨Below.refl _ _, (OF1.out _ _ _ HI3.out).mono fun e w3 h => ⟨_, h.1, h.2, rfl⟩⟩
    · simp [gop, Region.wanted, grows, frm]
      simp [execOp, go_sem, *, growsUpon]
      exact ⟨Below.refl _ _, rfl⟩
    · simp [gop, Region.wanted, grows, frm]
      simp [execOp, go_sem, *, growsUpon]
      exact ⟨Below.refl _ _, rfl⟩
    · have hg : f 23 = .bool true := by simp [hl2]
      simp only [frm, List.setIfInBounds_toArray, List.set_cons_succ, List.set_cons_zero]
      rw [hg]
      refine gop_yesW (by rfl) ?_
      simp [grows, execOp, go_sem, *, growsUpon]
      exact ⟨Below.refl _ _, rfl⟩
    · have hg : f 23 = .bool true := by simp [hl2]
      simp only [frm, List.setIfInBounds_toArray, List.set_cons_succ, List.set_cons_zero]
      rw [hg]
      refine gop_yesW (by rfl) ?_
      simp [grows, execOp, go_sem, *, growsUpon]
      exact ⟨Below.refl _ _, rfl⟩
    · have hg : f 23 = .bool true := by simp [hl2]
      simp only [frm, List.setIfInBounds_toArray, List.set_cons_succ, List.set_cons_zero]
      rw [hg]
      refine gop_yesW (by rfl) ?_
      simp [grows, execOp, go_sem, *, growsUpon]
      exact ⟨Below.refl _ _, (WF.out _).mono fun e w3 h => ⟨_, h.1, h.2, rfl⟩⟩
    · have hg : f 23 = .bool true := by simp [hl2]
      simp only [frm, List.setIfInBounds_toArray, List.set_cons_succ, List.set_cons_zero]
      rw [hg]
      refine gop_yesW (by rfl) ?_
      simp [grows, execOp, go_sem, *, growsUpon]
      exact ⟨Below.refl _ _, rfl⟩
    · have hg : f 23 = .bool true := by simp [hl2]
      simp only [frm, List.setIfInBounds_toArray, List.set_cons_succ, List.set_cons_zero]
      rw [hg]
      refine gop_yesW (by rfl) ?_
      simp [grows, execOp, go_sem, *, growsUpon]
      exact ⟨Below.refl _ _, rfl⟩
    · have hg : f 23 = .bool true := by simp [hl2]
      simp only [frm, List.setIfInBounds_toArray, List.set_cons_succ, List.set_cons_zero]
      rw [hg]
      refine gop_yesW (by rfl) ?_
      simp [grows, execOp, go_sem, *, growsUpon]
      exact ⟨Below.refl _ _, (RF.out _).mono fun e w3 h => ⟨_, h.1, h.2, rfl⟩⟩
    · have hg : f 23 = .bool true := by simp [hl2]
      simp only [frm, List.setIfInBounds_toArray, List.set_cons_succ, List.set_cons_zero]
      rw [hg]
      refine gop_yesW (by rfl) ?_
      simp [grows, execOp, go_sem, *, growsUpon]
      exact ⟨Below.refl _ _, rfl⟩
    · simp [gop, Region.wanted, grows, frm]
      simp [execOp, go_sem, *, growsUpon]
      exact ⟨Below.refl _ _, rfl⟩
    · simp [gop, Region.wanted, grows, frm]
      simp [execOp, go_sem, *, growsUpon]
      exact ⟨Below.refl _ _, rfl⟩
    · have hg : f 32 = .bool true := by simp [hl2]
      simp only [frm, List.setIfInBounds_toArray, List.set_cons_succ, List.set_cons_zero]
      rw [hg]
      refine gop_yesW (by rfl) ?_
      simp [grows, execOp, go_sem, *, growsUpon]
      exact ⟨Below.refl _ _, rfl⟩
    · have hg : f 32 = .bool true := by simp [hl2]
      simp only [frm, List.setIfInBounds_toArray, List.set_cons_succ, List.set_cons_zero]
      rw [hg]
      refine gop_yesW (by rfl) ?_
      simp [grows, execOp, go_sem, *, growsUpon]
      exact ⟨Below.refl _ _, rfl⟩
    · have hg : f 32 = .bool true := by simp [hl2]
      simp only [frm, List.setIfInBounds_toArray, List.set_cons_succ, List.set_cons_zero]
      rw [hg]
      refine gop_yesW (by rfl) ?_
      simp [grows, execOp, go_sem, *, growsUpon]
      exact ⟨Below.refl _ _, rfl⟩
    · have hg : f 32 = .bool true := by simp [hl2]
      simp only [frm, List.setIfInBounds_toArray, List.set_cons_succ, List.set_cons_zero]
      rw [hg]
      refine gop_yesW (by rfl) ?_
      simp [grows, execOp, go_sem, *, growsUpon]
      exact ⟨Below.refl _ _, (WL.out _).mono fun e w3 h => ⟨_, h.1, h.2, rfl⟩⟩
    · have hg : f 32 = .bool true := by simp [hl2]
      simp only [frm, List.setIfInBounds_toArray, List.set_cons_succ, List.set_cons_zero]
      rw [hg]
      refine gop_yesW (by rfl) ?_
      simp [grows, execOp, go_sem, *, growsUpon]
      exact ⟨Below.refl _ _, rfl⟩
    · have hg : f 32 = .bool true := by simp [hl2]
      simp only [frm, List.setIfInBounds_toArray, List.set_cons_succ, List.set_cons_zero]
      rw [hg]
      refine gop_yesW (by rfl) ?_
      simp [grows, execOp, go_sem, *, growsUpon]
      exact ⟨Below.refl _ _, rfl⟩
    · have hg : f 32 = .bool true := by simp [hl2]
      simp only [frm, List.setIfInBounds_toArray, List.set_cons_succ, List.set_cons_zero]
      rw [hg]
      refine gop_yesW (by rfl) ?_
      simp [grows, execOp, go_sem, *, growsUpon]
      exact ⟨Below.refl _ _, rfl⟩
    · have hg : f 32 = .bool true := by simp [hl2]
      simp only [frm, List.setIfInBounds_toArray, List.set_cons_succ, List.set_cons_zero]
      rw [hg]
      refine gop_yesW (by rfl) ?_
      simp [grows, execOp, go_sem, *, growsUpon]
      exact ⟨Below.refl _ _, (RL.out _).mono fun e w3 h => by obtain ⟨A, C, he, hi, hb⟩ := h.ints; exact ⟨_, he, hb, A, C, rfl, hi⟩⟩
    · have hg3 := hl2.1
      replace hl2 := hl2.2
      cases hg3 with
      | intro A3 h3 =>
      have HI3 := Lib.hid h3.2
      have h4 := h3.1
      clear h3
      cases h4 with
      | intro C3 hs3 =>
      have hg : f 32 = .bool true := by simp [hl2]
      simp only [frm, List.setIfInBounds_toArray, List.set_cons_succ, List.set_cons_zero]
      rw [hg]
      refine gop_yesW (by rfl) ?_
      simp [grows, execOp, go_sem, *, growsUpon]
      exact ⟨Below.refl _ _, (OF2.out _ _ _ HI3.out).mono fun e w3 h => ⟨_, h.1, h.2, rfl⟩⟩
    · have hg : f 32 = .bool true := by simp [hl2]
      simp only [frm, List.setIfInBounds_toArray, List.set_cons_succ, List.set_cons_zero]
      rw [hg]
      refine gop_yesW (by rfl) ?_
      simp [grows, execOp, go_sem, *, growsUpon]
      exact ⟨Below.refl _ _, rfl⟩
    · simp [gop, Region.wanted, grows, frm]
      simp [execOp, go_sem, *, growsUpon]
      exact ⟨Below.refl _ _, rfl⟩
    · simp [gop, Region.wanted, grows, frm]
      simp [execOp, go_sem, *, growsUpon]
      exact ⟨Below.refl _ _, rfl⟩
    · have hg : f 44 = .bool true := by simp [hl2]
      simp only [frm, List.setIfInBounds_toArray, List.set_cons_succ, List.set_cons_zero]
      rw [hg]
      refine gop_yesW (by rfl) ?_
      simp [grows, execOp, go_sem, *, growsUpon]
      exact ⟨Below.refl _ _, rfl⟩
    · have hg : f 44 = .bool true := by simp [hl2]
      simp only [frm, List.setIfInBounds_toArray, List.set_cons_succ, List.set_cons_zero]
      rw [hg]
      refine gop_yesW (by rfl) ?_
      simp [grows, execOp, go_sem, *, growsUpon]
      exact ⟨Below.refl _ _, rfl⟩
    · have hg : f 44 = .bool true := by simp [hl2]
      simp only [frm, List.setIfInBounds_toArray, List.set_cons_succ, List.set_cons_zero]
      rw [hg]
      refine gop_yesW (by rfl) ?_
      simp [grows, execOp, go_sem, *, growsUpon]
      exact ⟨Below.refl _ _, rfl⟩
    · have hg : f 44 = .bool true := by simp [hl2]
      simp only [frm, List.setIfInBounds_toArray, List.set_cons_succ, List.set_cons_zero]
      rw [hg]
      refine gop_yesW (by rfl) ?_
      simp [grows, execOp, go_sem, *, growsUpon]
      exact ⟨Below.refl _ _, rfl⟩
    · have hg : f 44 = .bool true := by simp [hl2]
      simp only [frm, List.setIfInBounds_toArray, List.set_cons_succ, List.set_cons_zero]
      rw [hg]
      refine gop_yesW (by rfl) ?_
      simp [grows, execOp, go_sem, *, growsUpon]
      exact ⟨Below.refl _ _, (WO.out _ (HR3.out.below hb)).mono fun e w3 h => ⟨_, h.1, h.2, rfl⟩⟩
    · have hg : f 44 = .bool true := by simp [hl2]
      simp only [frm, List.setIfInBounds_toArray, List.set_cons_succ, List.set_cons_zero]
      rw [hg]
      refine gop_yesW (by rfl) ?_
      simp [grows, execOp, go_sem, *, growsUpon]
      exact ⟨Below.refl _ _, rfl⟩
    · have hg : f 44 = .bool true := by simp [hl2]
      simp only [frm, List.setIfInBounds_toArray, List.set_cons_succ, List.set_cons_zero]
      rw [hg]
      refine gop_yesW (by rfl) ?_
      simp [grows, execOp, go_sem, *, growsUpon]
      exact ⟨Below.refl _ _, rfl⟩
    · have hg : f 44 = .bool true := by simp [hl2]
      simp only [frm, List.setIfInBounds_toArray, List.set_cons_succ, List.set_cons_zero]
      rw [hg]
      refine gop_yesW (by rfl) ?_
      simp [grows, execOp, go_sem, *, growsUpon]
      exact ⟨Below.refl _ _, rfl⟩
    · have hg : f 44 = .bool true := by simp [hl2]
      simp only [frm, List.setIfInBounds_toArray, List.set_cons_succ, List.set_cons_zero]
      rw [hg]
      refine gop_yesW (by rfl) ?_
      simp [grows, execOp, go_sem, *, growsUpon]
      exact ⟨Below.refl _ _, rfl⟩
    · have hg : f 44 = .bool true := by simp [hl2]
      simp only [frm, List.setIfInBounds_toArray, List.set_cons_succ, List.set_cons_zero]
      rw [hg]
      refine gop_yesW (by rfl) ?_
      simp [grows, execOp, go_sem, *, growsUpon]
      exact ⟨Below.refl _ _, (RO.out _ (HR3.out.below hb)).mono fun e w3 h => ⟨_, h.1, h.2, rfl⟩⟩
    · have hg : f 44 = .bool true := by simp [hl2]
      simp only [frm, List.setIfInBounds_toArray, List.set_cons_succ, List.set_cons_zero]
      rw [hg]
      refine gop_yesW (by rfl) ?_
      simp [grows, execOp, go_sem, *, growsUpon]
      exact ⟨Below.refl _ _, rfl⟩
    · simp [gop, Region.wanted, grows, frm]
      simp [execOp, go_sem, *, growsUpon]
      exact ⟨Below.refl _ _, rfl⟩
    · simp [gop, Region.wanted, grows, frm]
      simp [execOp, go_sem, *, growsUpon]
      exact ⟨Below.refl _ _, rfl⟩
    · have hg : f 57 = .bool true := by simp [hl2]
      simp only [frm, List.setIfInBounds_toArray, List.set_cons_succ, List.set_cons_zero]
      rw [hg]
      refine gop_yesW (by rfl) ?_
      simp [grows, execOp, go_sem, *, growsUpon]
      exact ⟨Below.refl _ _, (AL.out _ (HT3.out.below hb)).mono fun e w3 h => ⟨_, h.1, h.2, rfl⟩⟩
    · simp [gop, Region.wanted, grows, frm]
      simp [execOp, go_sem, *, growsUpon]
      exact ⟨Below.refl _ _, rfl⟩
  intro f w6 hb hl2
  simp [allRel, relWant] at hl2
  replace hl2 := hl2.2
  simp [frm, hl2]
  replace hB := hB.trans (hb.mono hB.size)
  clear k0 k3 k4 k0c k0f k0z k3c k3f k3z k4c k4f k4z hb
  go_wp2
  go_ret
  exact ⟨rfl, hB⟩
set_option maxRecDepth 100000 in
theorem walkWantTells {H : Type} (W : World) (base : Nat) (enc : TypeId × Value → H) {v0 : Value} {d0 : DataW H} {p0 : List MemPlace} {v1 : Value} {d1 : DataW H} {p1 : List MemPlace} {v2 : Value} {d2 : DataW H} {p2 : List MemPlace}
    (h0 : DataW.Trod enc Tryd.prog W 0 (fun _ => true) true 47 v0 d0 p0) (h1 : DataW.Trod enc Tryd.prog W 0 (fun _ => true) true 3 v1 d1 p1) (h2 : DataW.Trod enc Tryd.prog W 0 (fun _ => true) true 48 v2 d2 p2)
    (o0 : Value.okWide Tryd.prog W .any base 47 v0) (o1 : Value.okWide Tryd.prog W .any base 3 v1) (o2 : Value.okWide Tryd.prog W .any base 48 v2) (hT : Tab W) :
    Calls Tryd.prog 7 #[v0, v1, v2] W fun e W' => e = .returned (.bool true) ∧ Below W.heap.size W W' := by
  obtain ⟨cs, rfl, m, hm⟩ := arg_agg (.inl ⟨_, Tryd.underlying47⟩) o0 h0
  obtain ⟨c, A, C, rfl, hcar, hrs⟩ := read_Car hm
  obtain ⟨cap, rfl, hcap⟩ := arg_int o1 h1
  obtain ⟨cs, rfl, m2, hm2⟩ := arg_agg (.inr ⟨_, _, Tryd.underlying48⟩) o2 h2
  obtain ⟨ux, uy, dx, dy, rfl, ⟨b1, b2⟩, b3, b4⟩ := read_sets2 hm2
  have hlen : (c.riders.length : Int) ≤ 9223372036854775807 := by
    obtain ⟨A', C', hAC, hl, hm, _⟩ := hrs
    unfold maxLen at hm
    omega
  exact law_WantTells c A C cap ux uy dx dy W (rids_of hrs) hlen (rids_bd hrs) hcap b1 b2 b3 b4 hT
end Go.Proofs.YtlcnhpjmmjmkcaaDoor
