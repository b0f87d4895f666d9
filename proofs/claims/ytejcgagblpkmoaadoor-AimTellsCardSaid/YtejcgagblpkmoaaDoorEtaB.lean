
/-
  eta.between: how many floors of a set lie between two places. Conditions: the numbers lie within bounds.
-/
import Derived.Test.YtejcgagblpkmoaaDoorEtaW
import Derived.Test.YtejcgagblpkmoaaDoorRel3
set_option linter.unusedVariables false
set_option linter.unusedSimpArgs false
namespace Go.Proofs.YtejcgagblpkmoaaDoor
open Go.Joins Go.ChangeShapes Go.WideShapes Go.ChangeAt Go.RowKit Go.Deep

def relBtw (sv0 s sa sb sc : Value) (a b n : Int) (i : Nat) (v : Value) (w : World) : Prop := match i with
  | 0 => v = sv0
  | 1 => v = s
  | 2 => v = .int .i64 a
  | 3 => v = .int .i64 b
  | 4 => v = .int .i64 (min a b)
  | 5 => v = sa
  | 6 => v = sv0
  | 7 => v = s
  | 8 => v = .int .i64 a
  | 9 => v = .int .i64 b
  | 10 => v = .int .i64 (max a b)
  | 11 => v = sb
  | 12 => v = sc
  | 13 => v = .int .i64 n
  | _ => True
theorem relBtw_stays (sv0 s sa sb sc : Value) (a b n : Int) : ∀ i v w1 w2, relBtw sv0 s sa sb sc a b n i v w1 → Below w1.heap.size w1 w2 → relBtw sv0 s sa sb sc a b n i v w2 := by
  intro i v w1 w2 h hb
  unfold relBtw at *
  split <;> simp only at h <;> exact h
set_option maxRecDepth 20000 in
set_option maxHeartbeats 4000000 in
theorem eta_between (s : Scen) (A : Option Addr) (C : Nat) (x y : Nat) (a b : Int) (w : World) (hx : Wd x) (hy : Wd y) (hg : 1 ≤ s.gap ∧ s.gap ≤ 16) (ha : 0 ≤ a ∧ a ≤ 4096) (hb : 0 ≤ b ∧ b ≤ 4096) :
    Calls Tryd.prog 29 #[s.val A C, sv x y, .int .i64 a, .int .i64 b] w fun e w' => e = .returned (.int .i64 (cntB a b (places x y s.gap) : Nat)) ∧ Below w.heap.size w w' := by
  have cA := fun w => eta_ahead s A C x y (min a b) 1 w hx hy hg (by omega) (by omega)
  have cB := fun w => eta_ahead s A C x y (max a b) (-1) w hx hy hg (by omega) (by omega)
  have cN := fun w => bits_And (ahX x (min a b) s.gap 1) (ahY y (min a b) s.gap 1) (ahX x (max a b) s.gap (-1)) (ahY y (max a b) s.gap (-1)) w (wd_ahX _ _ _ hx) (wd_ahY _ _ _ hy) (wd_ahX _ _ _ hx) (wd_ahY _ _ _ hy)
  have cC := fun w => bits_Count (ahX x (min a b) s.gap 1 &&& ahX x (max a b) s.gap (-1)) (ahY y (min a b) s.gap 1 &&& ahY y (max a b) s.gap (-1)) w (wd_and _ (wd_ahX _ _ _ hx)) (wd_and _ (wd_ahY _ _ _ hy))
  have hcnt := and_cnt hx hy (a := a) (b := b) (g := s.gap) hg.1
  rw [items_count] at hcnt
  have hcn : ((popN (ahX x (min a b) s.gap 1 &&& ahX x (max a b) s.gap (-1)) 64 : Nat) : Int) + ((popN (ahY y (min a b) s.gap 1 &&& ahY y (max a b) s.gap (-1)) 64 : Nat) : Int) = ((cntB a b (places x y s.gap) : Nat) : Int) := by omega
  rw [hcn] at cC
  obtain ⟨f0, f1, f2, f3, f4, f5, f6, f7, sg, f8, f9, f10, f11⟩ := s
  simp only at *
  clear hcnt hcn hx hy hg ha hb
  unfold sv at *
  generalize ((cntB a b (places x y f1) : Nat) : Int) = n at *
  generalize ((ahX x (min a b) f1 1 &&& ahX x (max a b) f1 (-1) : Nat) : Int) = c1 at *
  generalize ((ahY y (min a b) f1 1 &&& ahY y (max a b) f1 (-1) : Nat) : Int) = c2 at *
  generalize ((ahX x (min a b) f1 1 : Nat) : Int) = a1 at *
  generalize ((ahY y (min a b) f1 1 : Nat) : Int) = a2 at *
  generalize ((ahX x (max a b) f1 (-1) : Nat) : Int) = b1 at *
  generalize ((ahY y (max a b) f1 (-1) : Nat) : Int) = b2 at *
  have CA := Lib.hid cA
  have CB := Lib.hid cB
  have CN := Lib.hid cN
  have CC := Lib.hid cC
  clear cA cB cN cC
  go_enter Tryd.func29, Tryd.ntmps29
  go_wp2
  have k0 : Blk ((w.alloc (.cells #[.int .i64 f0, .int .i64 f1, .int .i64 f2, .int .i64 f3, .int .i64 f4, .int .i64 f5, .int .i64 f6, .int .i64 f7, .slice A sg.length C, .int .i64 f8, .int .i64 f9, .int .i64 f10, .int .i64 f11] 25)).alloc (.cells #[.int .u64 (x : Int), .int .u64 (y : Int)] 38)) (w.heap.size) 25 #[.int .i64 f0, .int .i64 f1, .int .i64 f2, .int .i64 f3, .int .i64 f4, .int .i64 f5, .int .i64 f6, .int .i64 f7, .slice A sg.length C, .int .i64 f8, .int .i64 f9, .int .i64 f10, .int .i64 f11] := (Blk.alloc (blk_at (by simp)) (.cells #[.int .u64 (x : Int), .int .u64 (y : Int)] 38))
  have k1 : Blk ((w.alloc (.cells #[.int .i64 f0, .int .i64 f1, .int .i64 f2, .int .i64 f3, .int .i64 f4, .int .i64 f5, .int .i64 f6, .int .i64 f7, .slice A sg.length C, .int .i64 f8, .int .i64 f9, .int .i64 f10, .int .i64 f11] 25)).alloc (.cells #[.int .u64 (x : Int), .int .u64 (y : Int)] 38)) (w.heap.size + 1) 38 #[.int .u64 (x : Int), .int .u64 (y : Int)] := (blk_at (by simp))
  have hB : Below w.heap.size w ((w.alloc (.cells #[.int .i64 f0, .int .i64 f1, .int .i64 f2, .int .i64 f3, .int .i64 f4, .int .i64 f5, .int .i64 f6, .int .i64 f7, .slice A sg.length C, .int .i64 f8, .int .i64 f9, .int .i64 f10, .int .i64 f11] 25)).alloc (.cells #[.int .u64 (x : Int), .int .u64 (y : Int)] 38)) := (bel_at (bel_at (Below.refl _ _) (.cells #[.int .i64 f0, .int .i64 f1, .int .i64 f2, .int .i64 f3, .int .i64 f4, .int .i64 f5, .int .i64 f6, .int .i64 f7, .slice A sg.length C, .int .i64 f8, .int .i64 f9, .int .i64 f10, .int .i64 f11] 25)) (.cells #[.int .u64 (x : Int), .int .u64 (y : Int)] 38))
  generalize ((w.alloc (.cells #[.int .i64 f0, .int .i64 f1, .int .i64 f2, .int .i64 f3, .int .i64 f4, .int .i64 f5, .int .i64 f6, .int .i64 f7, .slice A sg.length C, .int .i64 f8, .int .i64 f9, .int .i64 f10, .int .i64 f11] 25)).alloc (.cells #[.int .u64 (x : Int), .int .u64 (y : Int)] 38)) = w1 at *
  (try clear k0c k0f k0z); have k0c := fun i => Blk.cell k0 i; have k0f := fun i => Blk.free k0 i; have k0z := Blk.lt k0; (try clear k1c k1f k1z); have k1c := fun i => Blk.cell k1 i; have k1f := fun i => Blk.free k1 i; have k1z := Blk.lt k1
  refine wp_region_rel 14 [9, 10, 11, 12, 13, 14, 15, 16, 17, 18, 19, 20, 21, 22] (relBtw (.agg #[.int .i64 f0, .int .i64 f1, .int .i64 f2, .int .i64 f3, .int .i64 f4, .int .i64 f5, .int .i64 f6, .int .i64 f7, .slice A sg.length C, .int .i64 f8, .int .i64 f9, .int .i64 f10, .int .i64 f11]) (.agg #[.int .u64 (x : Int), .int .u64 (y : Int)]) (.agg #[.int .u64 a1, .int .u64 a2]) (.agg #[.int .u64 b1, .int .u64 b2]) (.agg #[.int .u64 c1, .int .u64 c2]) a b n) (by kernel_rfl) (by kernel_rfl) (by kernel_rfl) (relBtw_stays _ _ _ _ _ _ _ _) ?_ ?_
  · refine ⟨?_, ?_, ?_, ?_, ?_, ?_, ?_, ?_, ?_, ?_, ?_, ?_, ?_, ?_, trivial⟩
    all_goals
      intro f w6 hb hl2
      simp [leans, Region.binds, relBtw] at hl2
      have j0 := k0.below hb k0.lt
      have j0c := fun i => Blk.cell j0 i
      have j1 := k1.below hb k1.lt
      have j1c := fun i => Blk.cell j1 i
      simp [gop, Region.wanted, grows, frm]
      simp [execOp, go_sem, *, growsUpon]
    · exact ⟨Below.refl _ _, rfl⟩
    · exact ⟨Below.refl _ _, rfl⟩
    · exact ⟨Below.refl _ _, rfl⟩
    · exact ⟨Below.refl _ _, rfl⟩
    · exact ⟨Below.refl _ _, rfl⟩
    · exact ⟨Below.refl _ _, (CA.out _).mono fun e w3 h => ⟨_, h.1, h.2, rfl⟩⟩
    · exact ⟨Below.refl _ _, rfl⟩
    · exact ⟨Below.refl _ _, rfl⟩
    · exact ⟨Below.refl _ _, rfl⟩
    · exact ⟨Below.refl _ _, rfl⟩
    · exact ⟨Below.refl _ _, rfl⟩
    · exact ⟨Below.refl _ _, (CB.out _).mono fun e w3 h => ⟨_, h.1, h.2, rfl⟩⟩
    · exact ⟨Below.refl _ _, (CN.out _).mono fun e w3 h => ⟨_, h.1, h.2, rfl⟩⟩
    · exact ⟨Below.refl _ _, (CC.out _).mono fun e w3 h => ⟨_, h.1, h.2, rfl⟩⟩
  intro f w6 hb hl2
  simp [allRel, relBtw] at hl2
  replace hl2 := hl2.2
  simp [frm, hl2]
  replace hB := hB.trans (hb.mono hB.size)
  clear k0 k1 k0c k0f k0z k1c k1f k1z hb
  go_wp2
  go_ret
  exact ⟨rfl, hB⟩
end Go.Proofs.YtejcgagblpkmoaaDoor
