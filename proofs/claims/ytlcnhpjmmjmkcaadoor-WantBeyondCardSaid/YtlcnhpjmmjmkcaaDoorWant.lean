
/-
  Where a car is to stop: want.Rides, Full, Lands, Of, Beyond. Condition: at most 1000 riders; the numbers fit their kinds.
-/
import Derived.Test.YtlcnhpjmmjmkcaaDoorSetW2
import Derived.Test.YtlcnhpjmmjmkcaaDoorDataC
set_option linter.unusedVariables false
set_option linter.unusedSimpArgs false
namespace Go.Proofs.YtlcnhpjmmjmkcaaDoor
open Go.Joins Go.ChangeShapes Go.WideShapes Go.ChangeAt Go.RowKit Go.Deep

def rid (rs : List Rider) (i : Nat) : Rider := rs.getD i ⟨0, 0⟩
def dst (rs : List Rider) (i : Nat) : Int := (rid rs i).dest
/-- A slice of riders that reads as rs: what a walk asks of it. -/
def Rids (w : World) (A : Option Addr) (rs : List Rider) : Prop :=
  0 < rs.length → ∃ b off, A = some ⟨b, off, none⟩ ∧ b < w.heap.size ∧ ∀ i, i < rs.length → w.cell? ⟨b, off + i * 2, none⟩ = some (.int .i64 (rid rs i).id) ∧ w.cell? ⟨b, off + i * 2 + 1, none⟩ = some (.int .i64 (dst rs i))
theorem Rids.below {w w' : World} {A : Option Addr} {xs : List Rider} (h : Rids w A xs) (hb : Below w.heap.size w w') : Rids w' A xs := fun hp => by
  obtain ⟨b, off, hA, hlt, hc⟩ := h hp
  exact ⟨b, off, hA, Nat.lt_of_lt_of_le hlt hb.size, fun i hi => ⟨(hb.cell (p := ⟨b, off + i * 2, none⟩) hlt).trans (hc i hi).1, (hb.cell (p := ⟨b, off + i * 2 + 1, none⟩) hlt).trans (hc i hi).2⟩⟩
theorem rids_of {w : World} {A : Option Addr} {C : Nat} {xs : List Rider} (h : RSlice 2 RRider w [.slice A xs.length C] xs) : Rids w A xs := fun hp => by
  obtain ⟨A', C', hAC, _, _, hc⟩ := h
  injection hAC with hAC
  injection hAC with e1 e2 e3
  subst e1
  obtain ⟨b, off, hA, hlt, hx⟩ := hc hp
  refine ⟨b, off, hA, hlt, fun i hi => ?_⟩
  obtain ⟨es, ⟨rfl, _⟩, _, hce⟩ := hx i _ (List.getElem?_eq_getElem hi)
  have h0 := hce 0 _ rfl
  have h1 := hce 1 _ rfl
  simp only [Nat.add_zero] at h0
  rw [h0, h1]
  simp [dst, rid, List.getD, List.getElem?_eq_getElem hi]
theorem rids_bd {w : World} {cs : List Value} {xs : List Rider} (h : RSlice 2 RRider w cs xs) : ∀ i, I64 (dst xs i) := by
  obtain ⟨A', C', hAC, _, _, hc⟩ := h
  intro i
  by_cases hi : i < xs.length
  · obtain ⟨b, off, hA, hlt, hx⟩ := hc (by omega)
    obtain ⟨es, ⟨_, hw⟩, _, _⟩ := hx i _ (List.getElem?_eq_getElem hi)
    have e : dst xs i = xs[i].dest := by simp [dst, rid, List.getD, List.getElem?_eq_getElem hi]
    rw [e]
    exact hw.2
  · have e : dst xs i = 0 := by simp [dst, rid, List.getD, List.getElem?_eq_none (Nat.le_of_not_lt hi)]
    rw [e]; unfold I64; omega
def ridX (c : Car) : Nat := ofX (dst c.riders) c.riders.length
def ridY (c : Car) : Nat := ofY (dst c.riders) c.riders.length
theorem wd_rid (c : Car) : Wd (ridX c) ∧ Wd (ridY c) := wd_of _ _
theorem blk2 (w : World) (o1 o2 : Obj) (t : TypeId) (cs : Array Value) : Blk (((w.alloc o1).alloc o2).alloc (.cells cs t)) (w.heap.size + 2) t cs := by
  have := Blk.new ((w.alloc o1).alloc o2) t cs
  rwa [alloc_size, alloc_size] at this
set_option maxRecDepth 20000 in
set_option maxHeartbeats 2000000 in
theorem want_Rides (c : Car) (A : Option Addr) (C : Nat) (w : World) (hr : Rids w A c.riders) (hl : c.riders.length ≤ 1000) (hbd : ∀ i, I64 (dst c.riders i)) :
    Calls Tryd.prog 31 #[c.val A C] w fun e w' => e = .returned (sv (ridX c) (ridY c)) ∧ Below w.heap.size w w' := by
  have cW := fun k w => bits_With (ofX (dst c.riders) k) (ofY (dst c.riders) k) (dst c.riders k) w (wd_of _ k).1 (wd_of _ k).2 (hbd k)
  obtain ⟨p, d, m, l, wt, rs⟩ := c
  unfold ridX ridY
  simp only at *
  unfold sv at *
  have HR := Lib.hid hr
  have CW := Lib.hid cW
  clear hr hbd cW
  go_enter Tryd.func31, Tryd.ntmps31
  go_wp2
  have hk2 := blk2 w (.cells #[.int .i64 p, .int .i64 d, .int .i64 m, .int .i64 l, .bool wt, .slice A rs.length C] 47) (.cells #[.int .u64 0, .int .u64 0] 24) 24 #[.int .u64 0, .int .u64 0]
  have hk1 := (boxb2 w 47 #[.int .i64 p, .int .i64 d, .int .i64 m, .int .i64 l, .bool wt, .slice A rs.length C] 24 #[.int .u64 0, .int .u64 0]).alloc (.cells #[.int .u64 0, .int .u64 0] 24)
  have hB := bel3 w (.cells #[.int .i64 p, .int .i64 d, .int .i64 m, .int .i64 l, .bool wt, .slice A rs.length C] 47) (.cells #[.int .u64 0, .int .u64 0] 24) (.cells #[.int .u64 0, .int .u64 0] 24)
  generalize ((w.alloc (.cells #[.int .i64 p, .int .i64 d, .int .i64 m, .int .i64 l, .bool wt, .slice A rs.length C] 47)).alloc (.cells #[.int .u64 0, .int .u64 0] 24)).alloc (.cells #[.int .u64 0, .int .u64 0] 24) = w1 at *
  go_loopw [9] (fun i wr => ∃ k : Nat, k ≤ rs.length ∧ i = .int .i64 k ∧ Blk wr (w.heap.size + 1) 24 #[.int .u64 0, .int .u64 0] ∧ Blk wr (w.heap.size + 2) 24 #[.int .u64 (ofX (dst rs) k : Nat), .int .u64 (ofY (dst rs) k : Nat)] ∧ Below w.heap.size w wr) (fun i _ => rs.length - (intOf i).toNat)
  case atStart => exact ⟨0, by omega, rfl, hk1, hk2, hB⟩
  case round =>
    obtain ⟨k, hk, rfl, b0, b1, hb⟩ := hrel
    have hlt1 := b1.lt
    by_cases hlt : k < rs.length
    · obtain ⟨b, off, rfl, hbl, hce⟩ := (HR.out.below hb) (by omega)
      obtain ⟨hcx, hcy⟩ := hce k hlt
      have hcs : ∀ i, wr.cell? ⟨w.heap.size + 2, i, none⟩ = (#[.int .u64 (ofX (dst rs) k : Nat), .int .u64 (ofY (dst rs) k : Nat)] : Array Value)[i]? := fun i => b1.cell i
      have e1 : ofX (dst rs) (k + 1) = withX (ofX (dst rs) k) (dst rs k) := rfl
      have e2 : ofY (dst rs) (k + 1) = withY (ofY (dst rs) k) (dst rs k) := rfl
      have cW := CW.out k
      rw [← e1, ← e2] at cW
      have CW2 := Lib.hid cW
      clear hce cW e1 e2 CW
      generalize dst rs k = x at *
      generalize (rid rs k).id = idv at *
      go_wp2_with fail
      refine (CW2.out _).mono ?_
      rintro e w2 ⟨rfl, hb2⟩
      have hal := below_alloc1 wr (.cells #[.int .i64 idv, .int .i64 x] 70)
      have hb3 : Below wr.heap.size wr w2 := hal.trans (hb2.mono (by simp))
      have c1 := b1.below hb3 hlt1
      have c0 := b0.below hb3 (by omega)
      have hB2 := hb.trans (hb3.mono hb.size)
      have hfw : ∀ i, w2.frozen? ⟨w.heap.size + 2, i, none⟩ = false := fun i => c1.free i
      have hcw : ∀ i, w2.cell? ⟨w.heap.size + 2, i, none⟩ = (#[.int .u64 (ofX (dst rs) k : Nat), .int .u64 (ofY (dst rs) k : Nat)] : Array Value)[i]? := fun i => c1.cell i
      have C0 := Lib.hid c0
      have C1 := Lib.hid c1
      clear hcs b0 b1 c0 c1 hb2 hal hb3
      go_wp2
      go_roundw
      case rel => exact ⟨k + 1, by omega, by go_num, (C0.out.far (by simp) _).far (by simp) _, (C1.out.set_ 0 _).set_ 1 _, set2b (g := 2) hB2⟩
      case measure => simp [intOf]; omega
    · obtain rfl : k = rs.length := by omega
      have hcs : ∀ i, wr.cell? ⟨w.heap.size + 2, i, none⟩ = (#[.int .u64 (ofX (dst rs) rs.length : Nat), .int .u64 (ofY (dst rs) rs.length : Nat)] : Array Value)[i]? := fun i => b1.cell i
      have hcw : ∀ i, wr.cell? ⟨w.heap.size + 1, i, none⟩ = (#[.int .u64 0, .int .u64 0] : Array Value)[i]? := fun i => b0.cell i
      have hfw : ∀ i, wr.frozen? ⟨w.heap.size + 1, i, none⟩ = false := fun i => b0.free i
      clear b0 b1 CW
      obtain ⟨r1, hr1⟩ : ∃ r, r = (ofX (dst rs) rs.length : Int) := ⟨_, rfl⟩
      obtain ⟨r2, hr2⟩ : ∃ r, r = (ofY (dst rs) rs.length : Int) := ⟨_, rfl⟩
      rw [← hr1, ← hr2] at hcs
      have R1 := Lib.hid hr1
      have R2 := Lib.hid hr2
      clear hr1 hr2
      go_wp2
      refine bodyPost_ret (v := .agg #[.int .u64 r1, .int .u64 r2]) (by simp [results, Tryd.results31, go_sem, hcw, hfw]) rfl ?_
      exact ⟨by rw [R1.out, R2.out], set2b hb⟩
def fullB (c : Car) (cap : Int) : Bool := decide (cap ≤ (c.riders.length : Int))
set_option maxRecDepth 20000 in
theorem want_Full (c : Car) (A : Option Addr) (C : Nat) (cap : Int) (w : World) (hl : c.riders.length ≤ 1000) (hc : I64 cap) : Calls Tryd.prog 33 #[c.val A C, .int .i64 cap] w fun e w' => e = .returned (.bool (fullB c cap)) ∧ Below w.heap.size w w' := by
  obtain ⟨p, d, m, l, wt, rs⟩ := c
  unfold fullB
  simp only at *
  have hd : ∀ b, decide (cap ≤ (rs.length : Int)) = b → True := fun _ _ => trivial
  go_enter Tryd.func33, Tryd.ntmps33
  go_wp2
  go_ret
  exact ⟨rfl, below_alloc1 _ _⟩
def landX (c : Car) (cap : Int) (x : Nat) : Nat := if fullB c cap = true then 0 else x
theorem wd_land {c : Car} {cap : Int} {x : Nat} (h : Wd x) : Wd (landX c cap x) := by
  unfold landX; split
  · show 0 < 18446744073709551616; omega
  · exact h
set_option maxRecDepth 20000 in
set_option maxHeartbeats 1000000 in
theorem want_Lands (c : Car) (A : Option Addr) (C : Nat) (cap : Int) (x y : Nat) (w : World) (hl : c.riders.length ≤ 1000) (hc : I64 cap) :
    Calls Tryd.prog 35 #[c.val A C, .int .i64 cap, sv x y] w fun e w' => e = .returned (sv (landX c cap x) (landX c cap y)) ∧ Below w.heap.size w w' := by
  have cF := fun w => want_Full c A C cap w hl hc
  unfold landX
  unfold sv
  generalize fullB c cap = fb at *
  obtain ⟨p, d, m, l, wt, rs⟩ := c
  have CF := Lib.hid cF
  clear cF hc hl
  have hk2 := blk2 w (.cells #[.int .i64 p, .int .i64 d, .int .i64 m, .int .i64 l, .bool wt, .slice A rs.length C] 47) (.cells #[.int .u64 (x : Int), .int .u64 (y : Int)] 24) 24 #[.int .u64 0, .int .u64 0]
  have hk1 := (boxb2 w 47 #[.int .i64 p, .int .i64 d, .int .i64 m, .int .i64 l, .bool wt, .slice A rs.length C] 24 #[.int .u64 (x : Int), .int .u64 (y : Int)]).alloc (.cells #[.int .u64 0, .int .u64 0] 24)
  have hB := bel3 w (.cells #[.int .i64 p, .int .i64 d, .int .i64 m, .int .i64 l, .bool wt, .slice A rs.length C] 47) (.cells #[.int .u64 (x : Int), .int .u64 (y : Int)] 24) (.cells #[.int .u64 0, .int .u64 0] 24)
  have H1 := Lib.hid hk1
  have H2 := Lib.hid hk2
  have HB := Lib.hid hB
  clear hk1 hk2 hB
  cases fb
  all_goals
    go_enter Tryd.func35, Tryd.ntmps35
    go_wp2_with fail
    refine (CF.out _).mono ?_
    rintro e w2 ⟨rfl, hb2⟩
    have c1 := H1.out.below hb2 (by first | (simp; done) | (simp; omega))
    have c2 := H2.out.below hb2 (by simp)
    have hb3 := HB.out.trans (hb2.mono (by first | (simp; done) | (simp; omega)))
    have g1 : ∀ i, w2.cell? ⟨w.heap.size + 1, i, none⟩ = (#[.int .u64 (x : Int), .int .u64 (y : Int)] : Array Value)[i]? := fun i => c1.cell i
    have g2 : ∀ i, w2.cell? ⟨w.heap.size + 2, i, none⟩ = (#[.int .u64 0, .int .u64 0] : Array Value)[i]? := fun i => c2.cell i
    have g3 : ∀ i, w2.frozen? ⟨w.heap.size + 2, i, none⟩ = false := fun i => c2.free i
    clear H1 H2 c1 c2 hb2 HB
    go_wp2
  · refine bodyPost_ret (v := .agg #[.int .u64 (x : Int), .int .u64 (y : Int)]) (by simp [results, Tryd.results35, go_sem, g2, g3]) rfl ?_
    exact ⟨rfl, set2b (g := 2) hb3⟩
  · refine bodyPost_ret (v := .agg #[.int .u64 0, .int .u64 0]) (by simp [results, Tryd.results35, go_sem, g2, g3]) rfl ?_
    exact ⟨rfl, set2b (g := 2) hb3⟩
/-- What a car wants. -/
def wantX (c : Car) (cap : Int) (u d : Nat) : Nat := ridX c ||| landX c cap (u ||| d)
def wantY (c : Car) (cap : Int) (u d : Nat) : Nat := ridY c ||| landX c cap (u ||| d)
theorem wd_wantX {c : Car} {cap : Int} {u d : Nat} (hu : Wd u) (hd : Wd d) : Wd (wantX c cap u d) := wd_or (wd_rid c).1 (wd_land (wd_or hu hd))
theorem wd_wantY {c : Car} {cap : Int} {u d : Nat} (hu : Wd u) (hd : Wd d) : Wd (wantY c cap u d) := wd_or (wd_rid c).2 (wd_land (wd_or hu hd))
theorem blk3 (w : World) (o1 o2 o3 : Obj) (t : TypeId) (cs : Array Value) : Blk ((((w.alloc o1).alloc o2).alloc o3).alloc (.cells cs t)) (w.heap.size + 3) t cs := by
  have := Blk.new (((w.alloc o1).alloc o2).alloc o3) t cs
  rwa [alloc_size, alloc_size, alloc_size] at this
theorem bel4 (w : World) (a b c d : Obj) : Below w.heap.size w ((((w.alloc a).alloc b).alloc c).alloc d) := (bel3 w a b c).alloc (by simp; omega) d
set_option maxRecDepth 20000 in
set_option maxHeartbeats 2000000 in
theorem want_Of (c : Car) (A : Option Addr) (C : Nat) (cap : Int) (ux uy dx dy : Nat) (w : World) (hr : Rids w A c.riders) (hl : c.riders.length ≤ 1000) (hbd : ∀ i, I64 (dst c.riders i)) (hc : I64 cap)
    (h1 : Wd ux) (h2 : Wd uy) (h3 : Wd dx) (h4 : Wd dy) :
    Calls Tryd.prog 37 #[c.val A C, .int .i64 cap, sv ux uy, sv dx dy] w fun e w' => e = .returned (sv (wantX c cap ux dx) (wantY c cap uy dy)) ∧ Below w.heap.size w w' := by
  have cR := fun w hr => want_Rides c A C w hr hl hbd
  have cO := fun w => bits_Or ux uy dx dy w h1 h2 h3 h4
  have cL := fun w => want_Lands c A C cap (ux ||| dx) (uy ||| dy) w hl hc
  have cO2 := fun w => bits_Or (ridX c) (ridY c) (landX c cap (ux ||| dx)) (landX c cap (uy ||| dy)) w (wd_rid c).1 (wd_rid c).2 (wd_land (wd_or h1 h3)) (wd_land (wd_or h2 h4))
  have e1 : ridX c ||| landX c cap (ux ||| dx) = wantX c cap ux dx := rfl
  have e2 : ridY c ||| landX c cap (uy ||| dy) = wantY c cap uy dy := rfl
  rw [e1, e2] at cO2
  unfold sv at *
  clear e1 e2 hbd hc h1 h2 h3 h4
  generalize (wantX c cap ux dx : Int) = r1 at *
  generalize (wantY c cap uy dy : Int) = r2 at *
  generalize (landX c cap (ux ||| dx) : Int) = l1 at *
  generalize (landX c cap (uy ||| dy) : Int) = l2 at *
  generalize ((ux ||| dx : Nat) : Int) = o1 at *
  generalize ((uy ||| dy : Nat) : Int) = o2 at *
  generalize (ridX c : Int) = q1 at *
  generalize (ridY c : Int) = q2 at *
  obtain ⟨p, d, m, l, wt, rs⟩ := c
  simp only at *
  have hk0 := (((Blk.new w 47 #[.int .i64 p, .int .i64 d, .int .i64 m, .int .i64 l, .bool wt, .slice A rs.length C]).alloc (.cells #[.int .u64 (ux : Int), .int .u64 (uy : Int)] 24)).alloc (.cells #[.int .u64 (dx : Int), .int .u64 (dy : Int)] 24)).alloc (.cells #[.int .u64 0, .int .u64 0] 24)
  have hk1 := ((boxb2 w 47 #[.int .i64 p, .int .i64 d, .int .i64 m, .int .i64 l, .bool wt, .slice A rs.length C] 24 #[.int .u64 (ux : Int), .int .u64 (uy : Int)]).alloc (.cells #[.int .u64 (dx : Int), .int .u64 (dy : Int)] 24)).alloc (.cells #[.int .u64 0, .int .u64 0] 24)
  have hk2 := (blk2 w (.cells #[.int .i64 p, .int .i64 d, .int .i64 m, .int .i64 l, .bool wt, .slice A rs.length C] 47) (.cells #[.int .u64 (ux : Int), .int .u64 (uy : Int)] 24) 24 #[.int .u64 (dx : Int), .int .u64 (dy : Int)]).alloc (.cells #[.int .u64 0, .int .u64 0] 24)
  have hk3 := blk3 w (.cells #[.int .i64 p, .int .i64 d, .int .i64 m, .int .i64 l, .bool wt, .slice A rs.length C] 47) (.cells #[.int .u64 (ux : Int), .int .u64 (uy : Int)] 24) (.cells #[.int .u64 (dx : Int), .int .u64 (dy : Int)] 24) 24 #[.int .u64 0, .int .u64 0]
  have hB := bel4 w (.cells #[.int .i64 p, .int .i64 d, .int .i64 m, .int .i64 l, .bool wt, .slice A rs.length C] 47) (.cells #[.int .u64 (ux : Int), .int .u64 (uy : Int)] 24) (.cells #[.int .u64 (dx : Int), .int .u64 (dy : Int)] 24) (.cells #[.int .u64 0, .int .u64 0] 24)
  have HR := Lib.hid hr
  have CR := Lib.hid cR
  have CO := Lib.hid cO
  have CL := Lib.hid cL
  have CO2 := Lib.hid cO2
  clear hr cR cO cL cO2
  go_enter Tryd.func37, Tryd.ntmps37
  go_wp2
  generalize (((w.alloc (.cells #[.int .i64 p, .int .i64 d, .int .i64 m, .int .i64 l, .bool wt, .slice A rs.length C] 47)).alloc (.cells #[.int .u64 (ux : Int), .int .u64 (uy : Int)] 24)).alloc (.cells #[.int .u64 (dx : Int), .int .u64 (dy : Int)] 24)).alloc (.cells #[.int .u64 0, .int .u64 0] 24) = w1 at *
  have g0 : ∀ i, w1.cell? ⟨w.heap.size, i, none⟩ = (#[.int .i64 p, .int .i64 d, .int .i64 m, .int .i64 l, .bool wt, .slice A rs.length C] : Array Value)[i]? := fun i => hk0.cell i
  have g1 : ∀ i, w1.cell? ⟨w.heap.size + 1, i, none⟩ = (#[.int .u64 (ux : Int), .int .u64 (uy : Int)] : Array Value)[i]? := fun i => hk1.cell i
  have g2 : ∀ i, w1.cell? ⟨w.heap.size + 2, i, none⟩ = (#[.int .u64 (dx : Int), .int .u64 (dy : Int)] : Array Value)[i]? := fun i => hk2.cell i
  have z3 := hk3.lt
  have z0 : w.heap.size < w1.heap.size := by omega
  have z1 : w.heap.size + 1 < w1.heap.size := by omega
  have z2 : w.heap.size + 2 < w1.heap.size := by omega
  have hgr : ∀ g : Grow w1, Rids g.world A rs := fun g => (HR.out.below hB).below g.below
  have HG := Lib.hid hgr
  clear hk0 hk1 hk2 hgr
  refine wp_region_grow_tail 9 (by kernel_rfl) (by kernel_rfl) ?_
  simp only [List.take_succ_cons, List.take_zero, List.drop_succ_cons, List.drop_zero]
  repeat (go_big_quiet_step ((first | (go_at_call 31; with_reducible exact grow_of (CR.out _ (HG.out _))) | (go_at_call 22; with_reducible exact grow_of (CO.out _)) | (go_at_call 35; with_reducible exact grow_of (CL.out _)) | (go_at_call 22; with_reducible exact grow_of (CO2.out _)))))
  refine wpQuiet_nil ?_
  intro w3 hb3
  have c3 := hk3.below hb3 z3
  have g3 : ∀ i, w3.cell? ⟨w.heap.size + 3, i, none⟩ = (#[.int .u64 0, .int .u64 0] : Array Value)[i]? := fun i => c3.cell i
  have g4 : ∀ i, w3.frozen? ⟨w.heap.size + 3, i, none⟩ = false := fun i => c3.free i
  have hz3 := hb3.size
  clear hk3 c3 g0 g1 g2
  go_wp2
  refine bodyPost_ret (v := .agg #[.int .u64 r1, .int .u64 r2]) (by simp [results, Tryd.results37, go_sem, g3, g4]) rfl ?_
  exact ⟨rfl, set2b (g := 3) (hB.trans (hb3.mono (by omega)))⟩
end Go.Proofs.YtlcnhpjmmjmkcaaDoor
