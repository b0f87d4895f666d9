
/-
  The document's sight: hoistwayref31.See, (S).Call, (S).Beyond. Conditions: at most 1000 riders; floors within a million.
-/
import Derived.Test.YtlcnhpjmmjmkcaaRef30c
import Derived.Test.YtlcnhpjmmjmkcaaFace4
import Derived.Test.YtlcnhpjmmjmkcaaRel2
set_option linter.unusedVariables false
set_option linter.unusedSimpArgs false
namespace Go.Proofs.Ytlcnhpjmmjmkcaa
open Go.Joins Go.ChangeShapes Go.WideShapes Go.ChangeAt Go.RowKit Go.Deep

/-- The facts of the values of See's region. -/
def relSee (cv : Value) (cap : Int) (u d o lu ld sg : Value) (L2 L3 : List Int) (i : Nat) (v : Value) (w : World) : Prop := match i with
  | 0 => v = cv
  | 1 => v = .int .i64 cap
  | 2 => v = u
  | 3 => v = d
  | 4 => v = o
  | 5 => v = cv
  | 6 => v = .int .i64 cap
  | 7 => v = u
  | 8 => ∃ A C, v = .slice A L2.length C ∧ Ints w A L2
  | 9 => v = lu
  | 10 => v = cv
  | 11 => v = .int .i64 cap
  | 12 => v = d
  | 13 => ∃ A C, v = .slice A L3.length C ∧ Ints w A L3
  | 14 => v = ld
  | 15 => v = sg
  | _ => True
theorem relSee_stays (cv : Value) (cap : Int) (u d o lu ld sg : Value) (L2 L3 : List Int) : ∀ i v w1 w2, relSee cv cap u d o lu ld sg L2 L3 i v w1 → Below w1.heap.size w1 w2 → relSee cv cap u d o lu ld sg L2 L3 i v w2 := by
  intro i v w1 w2 h hb
  unfold relSee at *
  split <;> simp only at h <;> first | exact h | (obtain ⟨A, C, e, h⟩ := h; exact ⟨A, C, e, h.below hb⟩)
set_option maxRecDepth 20000 in
set_option maxHeartbeats 8000000 in
theorem ref31_See (c : Car) (A : Option Addr) (C : Nat) (cap : Int) (ux uy dx dy : Nat) (w : World) (hr : Rids w A c.riders) (hl : c.riders.length ≤ 1000) (hbd : ∀ i, I64 (dst c.riders i)) (hc : I64 cap)
    (h1 : Wd ux) (h2 : Wd uy) (h3 : Wd dx) (h4 : Wd dy) :
    Calls Try.prog 23 #[c.val A C, .int .i64 cap, sv ux uy, sv dx dy] w fun e w' => e = .returned (seeOf c cap ux uy dx dy).val ∧ Below w.heap.size w w' := by
  have cO := fun w hr => ref30_Of c A C cap ux uy dx dy w hr hl hbd hc h1 h2 h3 h4
  have cU := fun w => ref30_Lands c A C cap ux uy w hl hc h1 h2
  have cD := fun w => ref30_Lands c A C cap dx dy w hl hc h3 h4
  have su := items_set (wd_land (c := c) (cap := cap) h1) (wd_land (c := c) (cap := cap) h2)
  have sd := items_set (wd_land (c := c) (cap := cap) h3) (wd_land (c := c) (cap := cap) h4)
  have cF := fun A C x y w hx => ref03_Of A C (items x y) w hx (by have := items_len x y; omega) (items_bd 0 0 _ fun k hk => by rw [mem_items] at hk; exact ⟨hk.1, hk.2.1⟩)
  have cFu := fun A C => cF A C (landX c cap ux) (landX c cap uy)
  have cFd := fun A C => cF A C (landX c cap dx) (landX c cap dy)
  rw [su.1, su.2] at cFu
  rw [sd.1, sd.2] at cFd
  clear cF su sd
  unfold seeOf
  unfold sv at *
  unfold Sgt.val
  simp only
  clear hbd hc h1 h2 h3 h4
  generalize wantX c cap ux dx = r1 at *
  generalize wantY c cap uy dy = r2 at *
  generalize items (landX c cap ux) (landX c cap uy) = L2 at *
  generalize items (landX c cap dx) (landX c cap dy) = L3 at *
  generalize landX c cap ux = l1 at *
  generalize landX c cap uy = l2 at *
  generalize landX c cap dx = l3 at *
  generalize landX c cap dy = l4 at *
  obtain ⟨p, d, m, l, wt, rs⟩ := c
  simp only at *
  have HR := Lib.hid hr
  have CO := Lib.hid cO
  have CU := Lib.hid cU
  have CD := Lib.hid cD
  have CFU := Lib.hid cFu
  have CFD := Lib.hid cFd
  clear hr cO cU cD cFu cFd
  go_enter Try.func23, Try.ntmps23
  go_wp2_with (first | ((with_reducible refine hold_list ?_ ?_); (· exact Eq.refl true)) | ((with_reducible refine hold_region ?_ ?_); (· exact Eq.refl true)) | (with_reducible refine hold_loop ?_))
  have k0 : Blk ((((w.alloc (.cells #[.int .i64 p, .int .i64 d, .int .i64 m, .int .i64 l, .bool wt, .slice A rs.length C] 25)).alloc (.cells #[.int .u64 (ux : Int), .int .u64 (uy : Int)] 28)).alloc (.cells #[.int .u64 (dx : Int), .int .u64 (dy : Int)] 28)).alloc (.cells #[.int .u64 0, .int .u64 0, .int .u64 0, .int .u64 0, .int .u64 0, .int .u64 0] 50)) (w.heap.size) 25 #[.int .i64 p, .int .i64 d, .int .i64 m, .int .i64 l, .bool wt, .slice A rs.length C] := (Blk.alloc (Blk.alloc (Blk.alloc (blk_at (by simp)) (.cells #[.int .u64 (ux : Int), .int .u64 (uy : Int)] 28)) (.cells #[.int .u64 (dx : Int), .int .u64 (dy : Int)] 28)) (.cells #[.int .u64 0, .int .u64 0, .int .u64 0, .int .u64 0, .int .u64 0, .int .u64 0] 50))
  have k1 : Blk ((((w.alloc (.cells #[.int .i64 p, .int .i64 d, .int .i64 m, .int .i64 l, .bool wt, .slice A rs.length C] 25)).alloc (.cells #[.int .u64 (ux : Int), .int .u64 (uy : Int)] 28)).alloc (.cells #[.int .u64 (dx : Int), .int .u64 (dy : Int)] 28)).alloc (.cells #[.int .u64 0, .int .u64 0, .int .u64 0, .int .u64 0, .int .u64 0, .int .u64 0] 50)) (w.heap.size + 1) 28 #[.int .u64 (ux : Int), .int .u64 (uy : Int)] := (Blk.alloc (Blk.alloc (blk_at (by simp)) (.cells #[.int .u64 (dx : Int), .int .u64 (dy : Int)] 28)) (.cells #[.int .u64 0, .int .u64 0, .int .u64 0, .int .u64 0, .int .u64 0, .int .u64 0] 50))
  have k2 : Blk ((((w.alloc (.cells #[.int .i64 p, .int .i64 d, .int .i64 m, .int .i64 l, .bool wt, .slice A rs.length C] 25)).alloc (.cells #[.int .u64 (ux : Int), .int .u64 (uy : Int)] 28)).alloc (.cells #[.int .u64 (dx : Int), .int .u64 (dy : Int)] 28)).alloc (.cells #[.int .u64 0, .int .u64 0, .int .u64 0, .int .u64 0, .int .u64 0, .int .u64 0] 50)) (w.heap.size + 2) 28 #[.int .u64 (dx : Int), .int .u64 (dy : Int)] := (Blk.alloc (blk_at (by simp)) (.cells #[.int .u64 0, .int .u64 0, .int .u64 0, .int .u64 0, .int .u64 0, .int .u64 0] 50))
  have k3 : Blk ((((w.alloc (.cells #[.int .i64 p, .int .i64 d, .int .i64 m, .int .i64 l, .bool wt, .slice A rs.length C] 25)).alloc (.cells #[.int .u64 (ux : Int), .int .u64 (uy : Int)] 28)).alloc (.cells #[.int .u64 (dx : Int), .int .u64 (dy : Int)] 28)).alloc (.cells #[.int .u64 0, .int .u64 0, .int .u64 0, .int .u64 0, .int .u64 0, .int .u64 0] 50)) (w.heap.size + 3) 50 #[.int .u64 0, .int .u64 0, .int .u64 0, .int .u64 0, .int .u64 0, .int .u64 0] := (blk_at (by simp))
  have hB : Below w.heap.size w ((((w.alloc (.cells #[.int .i64 p, .int .i64 d, .int .i64 m, .int .i64 l, .bool wt, .slice A rs.length C] 25)).alloc (.cells #[.int .u64 (ux : Int), .int .u64 (uy : Int)] 28)).alloc (.cells #[.int .u64 (dx : Int), .int .u64 (dy : Int)] 28)).alloc (.cells #[.int .u64 0, .int .u64 0, .int .u64 0, .int .u64 0, .int .u64 0, .int .u64 0] 50)) := (bel_at (bel_at (bel_at (bel_at (Below.refl _ _) (.cells #[.int .i64 p, .int .i64 d, .int .i64 m, .int .i64 l, .bool wt, .slice A rs.length C] 25)) (.cells #[.int .u64 (ux : Int), .int .u64 (uy : Int)] 28)) (.cells #[.int .u64 (dx : Int), .int .u64 (dy : Int)] 28)) (.cells #[.int .u64 0, .int .u64 0, .int .u64 0, .int .u64 0, .int .u64 0, .int .u64 0] 50))
  generalize ((((w.alloc (.cells #[.int .i64 p, .int .i64 d, .int .i64 m, .int .i64 l, .bool wt, .slice A rs.length C] 25)).alloc (.cells #[.int .u64 (ux : Int), .int .u64 (uy : Int)] 28)).alloc (.cells #[.int .u64 (dx : Int), .int .u64 (dy : Int)] 28)).alloc (.cells #[.int .u64 0, .int .u64 0, .int .u64 0, .int .u64 0, .int .u64 0, .int .u64 0] 50)) = w1 at *
  (try clear k0c k0f k0z); have k0c := fun i => Blk.cell k0 i; have k0f := fun i => Blk.free k0 i; have k0z := Blk.lt k0; (try clear k1c k1f k1z); have k1c := fun i => Blk.cell k1 i; have k1f := fun i => Blk.free k1 i; have k1z := Blk.lt k1; (try clear k2c k2f k2z); have k2c := fun i => Blk.cell k2 i; have k2f := fun i => Blk.free k2 i; have k2z := Blk.lt k2; (try clear k3c k3f k3z); have k3c := fun i => Blk.cell k3 i; have k3f := fun i => Blk.free k3 i; have k3z := Blk.lt k3
  unfold Hold
  have HR2 := Lib.hid (HR.out.below hB)
  refine wp_region_rel 16 [9, 10, 11, 12, 13, 14, 15, 16, 17, 18, 19, 20, 21, 22, 23, 24] (relSee (.agg #[.int .i64 p, .int .i64 d, .int .i64 m, .int .i64 l, .bool wt, .slice A rs.length C]) cap (.agg #[.int .u64 (ux : Int), .int .u64 (uy : Int)]) (.agg #[.int .u64 (dx : Int), .int .u64 (dy : Int)]) (.agg #[.int .u64 (r1 : Int), .int .u64 (r2 : Int)]) (.agg #[.int .u64 (l1 : Int), .int .u64 (l2 : Int)]) (.agg #[.int .u64 (l3 : Int), .int .u64 (l4 : Int)]) (.agg #[.int .u64 (r1 : Int), .int .u64 (r2 : Int), .int .u64 (l1 : Int), .int .u64 (l2 : Int), .int .u64 (l3 : Int), .int .u64 (l4 : Int)]) L2 L3) (by kernel_rfl) (by kernel_rfl) (by rfl) (relSee_stays _ _ _ _ _ _ _ _ _ _) ?each ?tail
  case each =>
    refine ⟨?_, ?_, ?_, ?_, ?_, ?_, ?_, ?_, ?_, ?_, ?_, ?_, ?_, ?_, ?_, ?_, trivial⟩
    all_goals
      intro f w2 hb hl2
      simp [leans, Region.binds, relSee] at hl2
      have j0 := k0.below hb k0.lt
      have j1 := k1.below hb k1.lt
      have j2 := k2.below hb k2.lt
      have j0c := fun i => Blk.cell j0 i
      have j1c := fun i => Blk.cell j1 i
      have j2c := fun i => Blk.cell j2 i
      simp [gop, Region.wanted, grows, frm]
    · simp [execOp, go_sem, *, growsUpon]
      exact ⟨Below.refl _ _, rfl⟩
    · simp [execOp, go_sem, *, growsUpon]
      exact ⟨Below.refl _ _, rfl⟩
    · simp [execOp, go_sem, *, growsUpon]
      exact ⟨Below.refl _ _, rfl⟩
    · simp [execOp, go_sem, *, growsUpon]
      exact ⟨Below.refl _ _, rfl⟩
    · obtain ⟨e1, e2, e3, e4⟩ := hl2
      simp [execOp, go_sem, *, growsUpon]
      exact ⟨Below.refl _ _, (CO.out _ (HR2.out.below hb)).mono fun e w3 h => ⟨_, h.1, h.2, rfl⟩⟩
    · simp [execOp, go_sem, *, growsUpon]
      exact ⟨Below.refl _ _, rfl⟩
    · simp [execOp, go_sem, *, growsUpon]
      exact ⟨Below.refl _ _, rfl⟩
    · simp [execOp, go_sem, *, growsUpon]
      exact ⟨Below.refl _ _, rfl⟩
    · obtain ⟨e1, e2, e3⟩ := hl2
      simp [execOp, go_sem, *, growsUpon]
      exact ⟨Below.refl _ _, (CU.out _).mono fun e w3 h => by obtain ⟨A, C, he, hi, hb⟩ := h.ints; exact ⟨_, he, hb, A, C, rfl, hi⟩⟩
    · obtain ⟨A, ⟨C, e1⟩, hi⟩ := hl2
      simp [execOp, go_sem, *, growsUpon]
      exact ⟨Below.refl _ _, (CFU.out _ _ _ hi).mono fun e w3 h => ⟨_, h.1, h.2, rfl⟩⟩
    · simp [execOp, go_sem, *, growsUpon]
      exact ⟨Below.refl _ _, rfl⟩
    · simp [execOp, go_sem, *, growsUpon]
      exact ⟨Below.refl _ _, rfl⟩
    · simp [execOp, go_sem, *, growsUpon]
      exact ⟨Below.refl _ _, rfl⟩
    · obtain ⟨e1, e2, e3⟩ := hl2
      simp [execOp, go_sem, *, growsUpon]
      exact ⟨Below.refl _ _, (CD.out _).mono fun e w3 h => by obtain ⟨A, C, he, hi, hb⟩ := h.ints; exact ⟨_, he, hb, A, C, rfl, hi⟩⟩
    · obtain ⟨A, ⟨C, e1⟩, hi⟩ := hl2
      simp [execOp, go_sem, *, growsUpon]
      exact ⟨Below.refl _ _, (CFD.out _ _ _ hi).mono fun e w3 h => ⟨_, h.1, h.2, rfl⟩⟩
    · obtain ⟨e1, e2, e3⟩ := hl2
      simp [execOp, go_sem, *, growsUpon]
      exact ⟨Below.refl _ _, rfl⟩
  case tail =>
    intro f w2 hb hl2
    simp [allRel, relSee] at hl2
    obtain ⟨_, hl2⟩ := hl2
    simp [frm, hl2]
    replace hB := hB.trans (hb.mono hB.size)
    replace k3 := k3.below hb k3.lt
    clear k0 k1 k2 k0c k0f k0z k1c k1f k1z k2c k2f k2z hb hl2
    (try clear k3c k3f k3z); have k3c := fun i => Blk.cell k3 i; have k3f := fun i => Blk.free k3 i; have k3z := Blk.lt k3
    go_wp2
    refine bodyPost_ret (v := .agg #[.int .u64 (r1 : Int), .int .u64 (r2 : Int), .int .u64 (l1 : Int), .int .u64 (l2 : Int), .int .u64 (l3 : Int), .int .u64 (l4 : Int)]) (by simp [results, Try.results23, go_sem, k3c, k3f]) rfl ?_
    exact ⟨rfl, set6 (g := 3) hB⟩
end Go.Proofs.Ytlcnhpjmmjmkcaa
