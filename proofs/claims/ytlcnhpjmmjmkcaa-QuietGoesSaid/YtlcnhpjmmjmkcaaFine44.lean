
/-
  hoistwaylaw44.fine: what it makes sure of.
-/
import Derived.Test.YtlcnhpjmmjmkcaaFine40
set_option linter.unusedVariables false
set_option linter.unusedSimpArgs false
namespace Go.Proofs.Ytlcnhpjmmjmkcaa
open Go.Joins Go.ChangeShapes Go.WideShapes Go.ChangeAt Go.RowKit Go.Deep

/-- What is made sure of. -/
structure FineQ (s : Scen) (c : Car) (x0 y0 x1 y1 : Nat) : Prop where
  fine : s.fine
  car : carIn s c
  riders : ∀ i, i < c.riders.length → 0 ≤ dst c.riders i ∧ dst c.riders i < s.floors
  up : inF s.floors x0 y0
  down : inF s.floors x1 y1
  ways : (c.mode = 0 ∧ c.pos % s.gap = 0) ∨ (c.mode = 1 ∧ c.dir ≠ 0) ∨ (c.mode ≠ 0 ∧ c.mode ≠ 1 ∧ 1 ≤ c.left ∧ c.pos % s.gap = 0)
/-- The facts of the first region's values. -/
def rel44 (F1 F2 : Prop) (sc cv : Value) (cc : Array Value) (b2 : Nat) (i : Nat) (f : Nat → Value) (w : World) : Prop := match i with
  | 0 => f 8 = sc
  | 1 => f 9 = cv
  | 2 => ∃ b, f 10 = .slice (some ⟨b, 0, none⟩) 1 1 ∧ Blk w b 25 cc
  | 3 => ∃ r, f 11 = .bool r ∧ (r = true → F1)
  | 4 => ∃ r, f 12 = .bool r ∧ (r = false → F1)
  | 5 => ∃ r, f 13 = .bool r ∧ (r = false → F1)
  | 6 => f 13 = .bool false → f 14 = sc
  | 7 => f 13 = .bool false → f 15 = .slice (some ⟨b2, 0, none⟩) 2 2
  | 8 => f 13 = .bool false → ∃ r, f 16 = .bool r ∧ (r = true → F2)
  | 9 => f 13 = .bool false → ∃ r, f 17 = .bool r ∧ (r = false → F2)
  | _ => True
theorem rel44_stays (F1 F2 : Prop) (sc cv : Value) (cc : Array Value) (b2 : Nat) : ∀ i f w1 w2, rel44 F1 F2 sc cv cc b2 i f w1 → Below w1.heap.size w1 w2 → rel44 F1 F2 sc cv cc b2 i f w2 := by
  intro i f w1 w2 h hb
  unfold rel44 at *
  split <;> simp only at h <;> first | exact h | (obtain ⟨b, e, h⟩ := h; exact ⟨b, e, h.below hb h.lt⟩)
set_option maxRecDepth 20000 in
set_option maxHeartbeats 8000000 in
theorem fine44 (s : Scen) (A : Option Addr) (C : Nat) (c : Car) (A2 : Option Addr) (C2 : Nat) (x0 y0 x1 y1 : Nat) (w : World) (hs : RSlice 3 RSeg w [.slice A s.segs.length C] s.segs) (hr : RSlice 2 RRider w [.slice A2 c.riders.length C2] c.riders) (hok : s.ok) (hco : c.ok)
    (h0 : Wd x0) (h1 : Wd y0) (h2 : Wd x1) (h3 : Wd y1) :
    Calls Try.prog 20 #[s.val A C, c.val A2 C2, .agg #[.int .u64 (x0 : Int), .int .u64 (y0 : Int), .int .u64 (x1 : Int), .int .u64 (y1 : Int)]] w fun e w' => ∃ r, e = .returned (.bool r) ∧ (r = true → FineQ s c x0 y0 x1 y1) ∧ Below w.heap.size w w' := by
  have cA := fun b w hs hk hr => within_any s A C [c] (some ⟨b, 0, none⟩) 1 w hs (car_slice (s := s) (A2 := A2) (C2 := C2) (b := b) hk hco hr)
  have cB := fun b w hk => within34 s A C b x0 y0 x1 y1 w hok.1 h0 h1 h2 h3 hk
  have hrs := rids_of hr
  have hlen : c.riders.length ≤ maxLen := by
    obtain ⟨A', C', hAC, hl, hm, _⟩ := hr
    omega
  have hlen2 : c.riders.length ≤ 9223372036854775807 := hlen
  clear hlen
  have CA := Lib.hid cA
  have CB := Lib.hid cB
  have HS := Lib.hid hs
  have HR := Lib.hid hr
  have HRS := Lib.hid hrs
  have HCO := Lib.hid hco
  clear cA cB hs hr h0 h1 h2 h3 hrs
  obtain ⟨okf, okg, _⟩ := hok
  obtain ⟨okp, okd, okm, _⟩ := hco
  go_enter Try.func20, Try.ntmps20
  go_wp2_with (first | ((with_reducible refine hold_list ?_ ?_); (· exact Eq.refl true)) | ((with_reducible refine hold_region ?_ ?_); (· exact Eq.refl true)) | (with_reducible refine hold_loop ?_))
  have k0 : Blk (((w.alloc (.cells #[.int .i64 s.floors, .int .i64 s.gap, .int .i64 s.cars, .int .i64 s.capacity, .int .i64 s.open_, .int .i64 s.dwell, .int .i64 s.close, .int .i64 s.transfer, .slice A s.segs.length C, .int .i64 s.disp, .int .i64 s.horizon, .int .i64 s.bins, .int .i64 s.width] 42)).alloc (.cells #[.int .i64 c.pos, .int .i64 c.dir, .int .i64 c.mode, .int .i64 c.left, .bool c.waited, .slice A2 c.riders.length C2] 25)).alloc (.cells #[.int .u64 (x0 : Int), .int .u64 (y0 : Int), .int .u64 (x1 : Int), .int .u64 (y1 : Int)] 29)) (w.heap.size) 42 #[.int .i64 s.floors, .int .i64 s.gap, .int .i64 s.cars, .int .i64 s.capacity, .int .i64 s.open_, .int .i64 s.dwell, .int .i64 s.close, .int .i64 s.transfer, .slice A s.segs.length C, .int .i64 s.disp, .int .i64 s.horizon, .int .i64 s.bins, .int .i64 s.width] := (Blk.alloc (Blk.alloc (blk_at (by simp)) (.cells #[.int .i64 c.pos, .int .i64 c.dir, .int .i64 c.mode, .int .i64 c.left, .bool c.waited, .slice A2 c.riders.length C2] 25)) (.cells #[.int .u64 (x0 : Int), .int .u64 (y0 : Int), .int .u64 (x1 : Int), .int .u64 (y1 : Int)] 29))
  have k1 : Blk (((w.alloc (.cells #[.int .i64 s.floors, .int .i64 s.gap, .int .i64 s.cars, .int .i64 s.capacity, .int .i64 s.open_, .int .i64 s.dwell, .int .i64 s.close, .int .i64 s.transfer, .slice A s.segs.length C, .int .i64 s.disp, .int .i64 s.horizon, .int .i64 s.bins, .int .i64 s.width] 42)).alloc (.cells #[.int .i64 c.pos, .int .i64 c.dir, .int .i64 c.mode, .int .i64 c.left, .bool c.waited, .slice A2 c.riders.length C2] 25)).alloc (.cells #[.int .u64 (x0 : Int), .int .u64 (y0 : Int), .int .u64 (x1 : Int), .int .u64 (y1 : Int)] 29)) (w.heap.size + 1) 25 #[.int .i64 c.pos, .int .i64 c.dir, .int .i64 c.mode, .int .i64 c.left, .bool c.waited, .slice A2 c.riders.length C2] := (Blk.alloc (blk_at (by simp)) (.cells #[.int .u64 (x0 : Int), .int .u64 (y0 : Int), .int .u64 (x1 : Int), .int .u64 (y1 : Int)] 29))
  have k2 : Blk (((w.alloc (.cells #[.int .i64 s.floors, .int .i64 s.gap, .int .i64 s.cars, .int .i64 s.capacity, .int .i64 s.open_, .int .i64 s.dwell, .int .i64 s.close, .int .i64 s.transfer, .slice A s.segs.length C, .int .i64 s.disp, .int .i64 s.horizon, .int .i64 s.bins, .int .i64 s.width] 42)).alloc (.cells #[.int .i64 c.pos, .int .i64 c.dir, .int .i64 c.mode, .int .i64 c.left, .bool c.waited, .slice A2 c.riders.length C2] 25)).alloc (.cells #[.int .u64 (x0 : Int), .int .u64 (y0 : Int), .int .u64 (x1 : Int), .int .u64 (y1 : Int)] 29)) (w.heap.size + 2) 29 #[.int .u64 (x0 : Int), .int .u64 (y0 : Int), .int .u64 (x1 : Int), .int .u64 (y1 : Int)] := (blk_at (by simp))
  have hB : Below w.heap.size w (((w.alloc (.cells #[.int .i64 s.floors, .int .i64 s.gap, .int .i64 s.cars, .int .i64 s.capacity, .int .i64 s.open_, .int .i64 s.dwell, .int .i64 s.close, .int .i64 s.transfer, .slice A s.segs.length C, .int .i64 s.disp, .int .i64 s.horizon, .int .i64 s.bins, .int .i64 s.width] 42)).alloc (.cells #[.int .i64 c.pos, .int .i64 c.dir, .int .i64 c.mode, .int .i64 c.left, .bool c.waited, .slice A2 c.riders.length C2] 25)).alloc (.cells #[.int .u64 (x0 : Int), .int .u64 (y0 : Int), .int .u64 (x1 : Int), .int .u64 (y1 : Int)] 29)) := (bel_at (bel_at (bel_at (Below.refl _ _) (.cells #[.int .i64 s.floors, .int .i64 s.gap, .int .i64 s.cars, .int .i64 s.capacity, .int .i64 s.open_, .int .i64 s.dwell, .int .i64 s.close, .int .i64 s.transfer, .slice A s.segs.length C, .int .i64 s.disp, .int .i64 s.horizon, .int .i64 s.bins, .int .i64 s.width] 42)) (.cells #[.int .i64 c.pos, .int .i64 c.dir, .int .i64 c.mode, .int .i64 c.left, .bool c.waited, .slice A2 c.riders.length C2] 25)) (.cells #[.int .u64 (x0 : Int), .int .u64 (y0 : Int), .int .u64 (x1 : Int), .int .u64 (y1 : Int)] 29))
  generalize (((w.alloc (.cells #[.int .i64 s.floors, .int .i64 s.gap, .int .i64 s.cars, .int .i64 s.capacity, .int .i64 s.open_, .int .i64 s.dwell, .int .i64 s.close, .int .i64 s.transfer, .slice A s.segs.length C, .int .i64 s.disp, .int .i64 s.horizon, .int .i64 s.bins, .int .i64 s.width] 42)).alloc (.cells #[.int .i64 c.pos, .int .i64 c.dir, .int .i64 c.mode, .int .i64 c.left, .bool c.waited, .slice A2 c.riders.length C2] 25)).alloc (.cells #[.int .u64 (x0 : Int), .int .u64 (y0 : Int), .int .u64 (x1 : Int), .int .u64 (y1 : Int)] 29)) = w1 at *
  (try clear k0c k0f k0z); have k0c := fun i => Blk.cell k0 i; have k0f := fun i => Blk.free k0 i; have k0z := Blk.lt k0; (try clear k1c k1f k1z); have k1c := fun i => Blk.cell k1 i; have k1f := fun i => Blk.free k1 i; have k1z := Blk.lt k1; (try clear k2c k2f k2z); have k2c := fun i => Blk.cell k2 i; have k2f := fun i => Blk.free k2 i; have k2z := Blk.lt k2
  unfold Hold
  have HS1 := Lib.hid ((RSlice.stays RSeg.stays) _ _ _ _ HS.out (hB.mono (Nat.le_refl _)))
  have HR1 := Lib.hid ((RSlice.stays RRider.stays) _ _ _ _ HR.out hB)
  refine wp_region_rel2 10 [8, 9, 10, 11, 12, 13, 14, 15, 16, 17] (rel44 (s.fine ∧ carIn s c) (inF s.floors x0 y0 ∧ inF s.floors x1 y1) (.agg #[.int .i64 s.floors, .int .i64 s.gap, .int .i64 s.cars, .int .i64 s.capacity, .int .i64 s.open_, .int .i64 s.dwell, .int .i64 s.close, .int .i64 s.transfer, .slice A s.segs.length C, .int .i64 s.disp, .int .i64 s.horizon, .int .i64 s.bins, .int .i64 s.width]) (.agg #[.int .i64 c.pos, .int .i64 c.dir, .int .i64 c.mode, .int .i64 c.left, .bool c.waited, .slice A2 c.riders.length C2]) #[.int .i64 c.pos, .int .i64 c.dir, .int .i64 c.mode, .int .i64 c.left, .bool c.waited, .slice A2 c.riders.length C2] (w.heap.size + 2)) (by kernel_rfl) (by kernel_rfl) (by rfl) (rel44_stays _ _ _ _ _ _) ?loc ?each ?tail
  case loc =>
    intro i f f' w o ho g1 g2 hR
    match i with
    | 0 => simp at ho; subst ho; simp [Region.binds, rel44] at *; simp_all
    | 1 => simp at ho; subst ho; simp [Region.binds, rel44] at *; simp_all
    | 2 => simp at ho; subst ho; simp [Region.binds, rel44] at *; simp_all
    | 3 => simp at ho; subst ho; simp [Region.binds, rel44] at *; simp_all
    | 4 => simp at ho; subst ho; simp [Region.binds, rel44] at *; simp_all
    | 5 => simp at ho; subst ho; simp [Region.binds, rel44] at *; simp_all
    | 6 => simp at ho; subst ho; simp [Region.binds, rel44] at *; simp_all
    | 7 => simp at ho; subst ho; simp [Region.binds, rel44] at *; simp_all
    | 8 => simp at ho; subst ho; simp [Region.binds, rel44] at *; simp_all
    | 9 => simp at ho; subst ho; simp [Region.binds, rel44] at *; simp_all
    | _ + 10 => trivial
  case each =>
    refine ⟨?_, ?_, ?_, ?_, ?_, ?_, ?_, ?_, ?_, ?_, trivial⟩
    all_goals
      intro f w2 hb hl2
      simp [leans2, Region.binds, rel44] at hl2
      have j0 := k0.below hb k0.lt
      have j1 := k1.below hb k1.lt
      have j2 := k2.below hb k2.lt
      have j0c := fun i => Blk.cell j0 i
      have j1c := fun i => Blk.cell j1 i
    · simp [gop, Region.wanted, grows, frm, execOp, go_sem, j0c, growsUpon]
      exact ⟨Below.refl _ _, rfl⟩
    · simp [gop, Region.wanted, grows, frm, execOp, go_sem, j1c, growsUpon]
      exact ⟨Below.refl _ _, rfl⟩
    · simp [gop, Region.wanted, grows, frm, execOp, go_sem, hl2, growsUpon]
      exact ⟨below_alloc1 _ _, w2.heap.size, rfl, Blk.new _ _ _⟩
    · obtain ⟨e1, b, e2, hk⟩ := hl2
      simp [gop, Region.wanted, grows, frm, execOp, go_sem, e1, e2, growsUpon]
      exact ⟨Below.refl _ _, (CA.out b w2 ((RSlice.stays RSeg.stays) _ _ _ _ HS1.out hb) hk ((RSlice.stays RRider.stays) _ _ _ _ HR1.out hb)).mono fun e w3 h => by
        obtain ⟨r, he, hh, hbb⟩ := h
        exact ⟨_, he, hbb, r, rfl, fun hr => ⟨(hh hr).1, (hh hr).2.2 0 c rfl⟩⟩⟩
    · cases hl2 with
      | inl hA =>
        simp only [frm, List.setIfInBounds_toArray, List.set_cons_succ, List.set_cons_zero]
        rw [hA]
        refine gop_yes (by rfl) ?_
        simp [grows, execOp, go_sem, growsUpon]
        exact ⟨Below.refl _ _, true, rfl, fun h => by cases h⟩
      | inr hA =>
        have e1 := hA.1
        have hF := hA.2
        simp only [frm, List.setIfInBounds_toArray, List.set_cons_succ, List.set_cons_zero]
        rw [e1]
        refine gop_yes (by rfl) ?_
        simp [grows, execOp, go_sem, growsUpon]
        exact ⟨Below.refl _ _, false, rfl, fun _ => hF⟩
    · rcases hl2 with ⟨⟨e1, hF⟩ | e1, _⟩
      ·
        simp only [frm, List.setIfInBounds_toArray, List.set_cons_succ, List.set_cons_zero]
        rw [e1]
        refine gop_yes (by rfl) ?_
        simp [grows, execOp, go_sem, growsUpon]
        exact ⟨Below.refl _ _, false, rfl, fun _ => hF⟩
      ·
        simp only [frm, List.setIfInBounds_toArray, List.set_cons_succ, List.set_cons_zero]
        rw [e1]
        refine gop_yes (by rfl) ?_
        simp [grows, execOp, go_sem, growsUpon]
        exact ⟨Below.refl _ _, true, rfl, fun h => by cases h⟩
    · cases hl2 with
      | inl hA =>
        have e1 := hA.1
        simp only [frm, List.setIfInBounds_toArray, List.set_cons_succ, List.set_cons_zero]
        rw [e1]
        refine gop_yes (by rfl) ?_
        simp [grows, execOp, go_sem, j0c, growsUpon]
        exact ⟨Below.refl _ _, fun _ => rfl⟩
      | inr hA =>
        simp only [frm, List.setIfInBounds_toArray, List.set_cons_succ, List.set_cons_zero]
        rw [hA]
        refine gop_no (by rfl) ?_
        intro h
        have h2 : f 13 = .bool false := h
        rw [hA] at h2
        cases h2
    · cases hl2 with
      | inl hA =>
        have e1 := hA.1
        simp only [frm, List.setIfInBounds_toArray, List.set_cons_succ, List.set_cons_zero]
        rw [e1]
        refine gop_yes (by rfl) ?_
        simp [grows, execOp, go_sem, growsUpon]
        exact ⟨Below.refl _ _, fun _ => rfl⟩
      | inr hA =>
        simp only [frm, List.setIfInBounds_toArray, List.set_cons_succ, List.set_cons_zero]
        rw [hA]
        refine gop_no (by rfl) ?_
        intro h
        have h2 : f 13 = .bool false := h
        rw [hA] at h2
        cases h2
    · have h6 := hl2.1
      have h7 := hl2.2.1
      have h5 := hl2.2.2
      cases h5 with
      | inl hA =>
        have e1 := hA.1
        have e6 := h6 e1
        have e7 := h7 e1
        simp only [frm, List.setIfInBounds_toArray, List.set_cons_succ, List.set_cons_zero]
        rw [e1, e6, e7]
        refine gop_yes (by rfl) ?_
        simp [grows, execOp, go_sem, growsUpon]
        exact ⟨Below.refl _ _, (CB.out _ _ j2).mono fun e w3 h => by
          obtain ⟨r, he, hh, hbb⟩ := h
          exact ⟨_, he, hbb, fun _ => ⟨r, rfl, hh⟩⟩⟩
      | inr hA =>
        simp only [frm, List.setIfInBounds_toArray, List.set_cons_succ, List.set_cons_zero]
        rw [hA]
        refine gop_no (by rfl) ?_
        intro h
        have h2 : f 13 = .bool false := h
        rw [hA] at h2
        cases h2
    · have h8 := hl2.1
      have h5 := hl2.2
      cases h5 with
      | inl hA =>
        have e1 := hA.1
        have h9 := h8 e1
        cases h9 with
        | inl e8 =>
          simp only [frm, List.setIfInBounds_toArray, List.set_cons_succ, List.set_cons_zero]
          rw [e1, e8]
          refine gop_yes (by rfl) ?_
          simp [grows, execOp, go_sem, growsUpon]
          exact ⟨Below.refl _ _, fun _ => ⟨true, rfl, fun h => by cases h⟩⟩
        | inr hB2 =>
          have e8 := hB2.1
          have hF2 := hB2.2
          simp only [frm, List.setIfInBounds_toArray, List.set_cons_succ, List.set_cons_zero]
          rw [e1, e8]
          refine gop_yes (by rfl) ?_
          simp [grows, execOp, go_sem, growsUpon]
          exact ⟨Below.refl _ _, fun _ => ⟨false, rfl, fun _ => hF2⟩⟩
      | inr hA =>
        simp only [frm, List.setIfInBounds_toArray, List.set_cons_succ, List.set_cons_zero]
        rw [hA]
        refine gop_no (by rfl) ?_
        intro h
        have h2 : f 13 = .bool false := h
        rw [hA] at h2
        cases h2
  case tail =>
    intro f w2 hb hl2
    have h9 : f 13 = .bool false → ∃ r, f 17 = .bool r ∧ (r = false → inF s.floors x0 y0 ∧ inF s.floors x1 y1) := hl2.2
    have h5 : ∃ r, f 13 = .bool r ∧ (r = false → s.fine ∧ carIn s c) := hl2.1.1.1.1.2
    clear hl2
    replace hB := hB.trans (hb.mono hB.size)
    replace k0 := k0.below hb k0.lt
    replace k1 := k1.below hb k1.lt
    clear k2 k2c k2f k2z hb
    (try clear k0c k0f k0z); have k0c := fun i => Blk.cell k0 i; have k0f := fun i => Blk.free k0 i; have k0z := Blk.lt k0; (try clear k1c k1f k1z); have k1c := fun i => Blk.cell k1 i; have k1f := fun i => Blk.free k1 i; have k1z := Blk.lt k1
    cases h5 with
    | intro r h =>
    have e1 := h.1
    have hh := h.2
    clear h
    simp only [frm, List.setIfInBounds_toArray, List.set_cons_succ, List.set_cons_zero, List.drop_succ_cons, List.drop_zero]
    cases r with
    | true =>
      rw [e1]
      clear h9
      go_wp2
      go_ret
      first | exact ⟨false, rfl, (fun h : false = true => nomatch h), hB⟩ | exact .inl ⟨rfl, hB⟩
    | false =>
      have h17 := h9 e1
      cases h17 with
      | intro r2 h' =>
      have e2 := h'.1
      have hh2 := h'.2
      clear h' h9
      rw [e1, e2]
      cases r2 with
      | true =>
        go_wp2
        go_ret
        first | exact ⟨false, rfl, (fun h : false = true => nomatch h), hB⟩ | exact .inl ⟨rfl, hB⟩
      | false =>
      have hF : (s.fine ∧ carIn s c) ∧ inF s.floors x0 y0 ∧ inF s.floors x1 y1 := ⟨hh rfl, hh2 rfl⟩
      clear hh hh2 e2
      have hbd := rids_bd HR.out
      have HBD := Lib.hid hbd
      have HF := Lib.hid hF
      have hgap := hF.1.1.2.1.1
      have hpos := hF.1.2.1.1
      clear hbd hF e1
      go_wp2_with (with_reducible refine hold_loop ?_)
      unfold Hold
      go_loopw [7] (fun i wr => ∃ k : Nat, k ≤ c.riders.length ∧ i = .int .i64 k ∧ Blk wr w.heap.size 42 #[.int .i64 s.floors, .int .i64 s.gap, .int .i64 s.cars, .int .i64 s.capacity, .int .i64 s.open_, .int .i64 s.dwell, .int .i64 s.close, .int .i64 s.transfer, .slice A s.segs.length C, .int .i64 s.disp, .int .i64 s.horizon, .int .i64 s.bins, .int .i64 s.width] ∧ Blk wr (w.heap.size + 1) 25 #[.int .i64 c.pos, .int .i64 c.dir, .int .i64 c.mode, .int .i64 c.left, .bool c.waited, .slice A2 c.riders.length C2] ∧ Hid (∀ i, i < k → 0 ≤ dst c.riders i ∧ dst c.riders i < s.floors) ∧ Below w.heap.size w wr) (fun i _ => c.riders.length - (intOf i).toNat)
      case atStart => exact ⟨0, by omega, rfl, k0, k1, Lib.hid fun i hi => by omega, hB⟩
      case round =>
        obtain ⟨k, hk, rfl, b0, b1, hall, hq⟩ := hrel
        clear k0 k1 k0c k0f k0z k1c k1f k1z hB
        have B0 := Lib.hid b0
        have B1 := Lib.hid b1
        have k0c := fun i => Blk.cell b0 i
        have k1c := fun i => Blk.cell b1 i
        clear b0 b1
        by_cases hlt : k < c.riders.length
        · obtain ⟨b, off, hA, hbl, hce⟩ := (HRS.out.below hq) (by omega)
          subst hA
          obtain ⟨hcx, hcy⟩ := hce k hlt
          have hdk := HBD.out k
          have hk1 : (k : Int) + 1 ≤ 9223372036854775807 := by omega
          unfold I64 at hdk
          have hmore : (0 ≤ dst c.riders k ∧ dst c.riders k < s.floors) → Hid (∀ i, i < k + 1 → 0 ≤ dst c.riders i ∧ dst c.riders i < s.floors) := fun h => Lib.hid fun i hi => by
            by_cases e : i = k
            · rw [e]; exact h
            · exact hall.out i (by omega)
          have HM := Lib.hid hmore
          have HALL := Lib.hid hall
          clear hce hmore hall
          generalize dst c.riders k = x at *
          by_cases h1 : x < 0
          · have p1 : decide (x < 0) = true := decide_eq_true h1
            go_wp2
            go_quiet (fail)
            go_wp2
            go_ret
            exact ⟨false, rfl, (fun h : false = true => nomatch h), below_drewN hq _⟩
          · have p1 : decide (x < 0) = false := decide_eq_false h1
            by_cases h2 : s.floors ≤ x
            · have p2 : decide (s.floors ≤ x) = true := decide_eq_true h2
              go_wp2
              go_quiet (fail)
              go_wp2
              go_ret
              exact ⟨false, rfl, (fun h : false = true => nomatch h), below_drewN hq _⟩
            · have p2 : decide (s.floors ≤ x) = false := decide_eq_false h2
              have hm2 := HM.out ⟨by omega, by omega⟩
              go_wp2
              go_quiet (fail)
              go_wp2
              go_roundw
              case rel => exact ⟨k + 1, by omega, by go_num, B0.out.drewN _, B1.out.drewN _, hm2, below_drewN hq _⟩
              case measure => simp [intOf]; try omega
        · obtain rfl : k = c.riders.length := by omega
          have hp2 : (c.pos % s.gap = 0 ∧ (c.pos % s.gap == 0) = true) ∨ (c.pos % s.gap == 0) = false := by
            by_cases hp : c.pos % s.gap = 0
            · exact .inl ⟨hp, by simpa using hp⟩
            · exact .inr (by simpa using hp)
          by_cases hm0 : c.mode = 0
          · have q1 : (c.mode == 0) = true := by simpa using hm0
            have HMO := Lib.hid hm0
            clear hm0
            rcases hp2 with ⟨hp, p1⟩ | p1
            · have HP := Lib.hid hp
              clear hp
              go_wp2
              go_ret
              exact ⟨true, rfl, fun _ => ⟨HF.out.1.1, HF.out.1.2, hall.out, HF.out.2.1, HF.out.2.2, .inl ⟨HMO.out, HP.out⟩⟩, hq⟩
            · go_wp2
              go_ret
              first | exact ⟨false, rfl, (fun h : false = true => nomatch h), hq⟩ | exact .inl ⟨rfl, hq⟩
          · have q1 : (c.mode == 0) = false := by simpa using hm0
            have HM0 := Lib.hid hm0
            clear hm0
            by_cases hm1 : c.mode = 1
            · have q2 : (c.mode == 1) = true := by simpa using hm1
              have HM1 := Lib.hid hm1
              clear hm1 hp2
              by_cases hd : c.dir = 0
              · have p3 : (c.dir != 0) = false := by simpa using hd
                clear hd
                go_wp2
                go_ret
                first | exact ⟨false, rfl, (fun h : false = true => nomatch h), hq⟩ | exact .inl ⟨rfl, hq⟩
              · have p3 : (c.dir != 0) = true := by simpa using hd
                have HD := Lib.hid hd
                clear hd
                go_wp2
                go_ret
                exact ⟨true, rfl, fun _ => ⟨HF.out.1.1, HF.out.1.2, hall.out, HF.out.2.1, HF.out.2.2, .inr (.inl ⟨HM1.out, HD.out⟩)⟩, hq⟩
            · have q2 : (c.mode == 1) = false := by simpa using hm1
              have HM1 := Lib.hid hm1
              clear hm1
              by_cases hl : 1 ≤ c.left
              · have p4 : decide (1 ≤ c.left) = true := decide_eq_true hl
                have HL := Lib.hid hl
                clear hl
                rcases hp2 with ⟨hp, p1⟩ | p1
                · have HP := Lib.hid hp
                  clear hp
                  go_wp2
                  go_ret
                  exact ⟨true, rfl, fun _ => ⟨HF.out.1.1, HF.out.1.2, hall.out, HF.out.2.1, HF.out.2.2, .inr (.inr ⟨HM0.out, HM1.out, HL.out, HP.out⟩)⟩, hq⟩
                · go_wp2
                  go_ret
                  first | exact ⟨false, rfl, (fun h : false = true => nomatch h), hq⟩ | exact .inl ⟨rfl, hq⟩
              · have p4 : decide (1 ≤ c.left) = false := decide_eq_false hl
                clear hp2
                go_wp2
                go_ret
                first | exact ⟨false, rfl, (fun h : false = true => nomatch h), hq⟩ | exact .inl ⟨rfl, hq⟩
end Go.Proofs.Ytlcnhpjmmjmkcaa
