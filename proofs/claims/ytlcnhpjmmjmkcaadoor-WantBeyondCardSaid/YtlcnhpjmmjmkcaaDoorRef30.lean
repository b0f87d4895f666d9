
/-
  The document's wants: hoistwayref30.Rides, Full, Lands. Conditions: at most 1000 riders.
-/
import Derived.Test.YtlcnhpjmmjmkcaaDoorRef03e
import Derived.Test.YtlcnhpjmmjmkcaaDoorWant
set_option linter.unusedVariables false
set_option linter.unusedSimpArgs false
namespace Go.Proofs.YtlcnhpjmmjmkcaaDoor
open Go.Joins Go.ChangeShapes Go.WideShapes Go.ChangeAt Go.RowKit Go.Deep

/-- Where the first k riders want to. -/
def dsts (rs : List Rider) (k : Nat) : List Int := (List.range k).map (dst rs)
theorem dsts_succ (rs : List Rider) (k : Nat) : dsts rs (k + 1) = dsts rs k ++ [dst rs k] := by unfold dsts; rw [List.range_succ, List.map_append]; rfl
theorem dsts_len (rs : List Rider) (k : Nat) : (dsts rs k).length = k := by simp [dsts]
theorem dsts_at (rs : List Rider) (k i : Nat) (h : i < k) : at0 (dsts rs k) i = dst rs i := by
  unfold at0 dsts
  simp [List.getD, h]
theorem of_congr {f g : Nat → Int} (k : Nat) (h : ∀ i, i < k → f i = g i) : ofX f k = ofX g k ∧ ofY f k = ofY g k := by
  induction k with
  | zero => exact ⟨rfl, rfl⟩
  | succ k ih =>
    have := ih fun i hi => h i (by omega)
    simp only [ofX, ofY]
    rw [this.1, this.2, h k (by omega)]
    exact ⟨rfl, rfl⟩
theorem of_dsts (rs : List Rider) (k : Nat) : ofX (at0 (dsts rs k)) (dsts rs k).length = ofX (dst rs) k ∧ ofY (at0 (dsts rs k)) (dsts rs k).length = ofY (dst rs) k := by
  rw [dsts_len]
  exact of_congr k fun i hi => dsts_at rs k i hi
set_option maxRecDepth 20000 in
set_option maxHeartbeats 4000000 in
theorem ref30_Rides (c : Car) (A : Option Addr) (C : Nat) (w : World) (hr : Rids w A c.riders) (hl : c.riders.length ≤ 1000) (hbd : ∀ i, I64 (dst c.riders i)) :
    Calls Tryd.prog 32 #[c.val A C] w (RetOwn (items (ridX c) (ridY c)) w) := by
  obtain ⟨i0, hi, hz0, hz1, hz2⟩ := info_parts info_int
  have hof := of_dsts c.riders c.riders.length
  have cI := fun w => ref03_Items (ridX c) (ridY c) w (wd_rid c).1 (wd_rid c).2
  have cO := fun A C w hx => ref03_Of A C (dsts c.riders c.riders.length) w hx (by rw [dsts_len]; omega) (fun i => by
    unfold at0 dsts
    by_cases h : i < c.riders.length
    · simp [List.getD, h]; exact hbd i
    · simp [List.getD, h, I64])
  rw [hof.1, hof.2] at cO
  rw [dsts_len] at cO
  have e1 : ofX (dst c.riders) c.riders.length = ridX c := rfl
  have e2 : ofY (dst c.riders) c.riders.length = ridY c := rfl
  rw [e1, e2] at cO
  clear e1 e2 hof
  generalize ridX c = rx at *
  generalize ridY c = ry at *
  obtain ⟨p, d, m, l, wt, rs⟩ := c
  simp only at *
  have HR := Lib.hid hr
  have CI := Lib.hid cI
  have CO := Lib.hid cO
  clear hr cI cO hbd
  go_enter Tryd.func32, Tryd.ntmps32
  go_wp2_with (first | ((with_reducible refine hold_list ?_ ?_); (· exact Eq.refl true)) | ((with_reducible refine hold_region ?_ ?_); (· exact Eq.refl true)) | (with_reducible refine hold_loop ?_))
  have k0 : Blk (w.alloc (.cells #[.int .i64 p, .int .i64 d, .int .i64 m, .int .i64 l, .bool wt, .slice A rs.length C] 47)) (w.heap.size) 47 #[.int .i64 p, .int .i64 d, .int .i64 m, .int .i64 l, .bool wt, .slice A rs.length C] := (blk_at (by simp))
  have hB : Below w.heap.size w (w.alloc (.cells #[.int .i64 p, .int .i64 d, .int .i64 m, .int .i64 l, .bool wt, .slice A rs.length C] 47)) := (bel_at (Below.refl _ _) (.cells #[.int .i64 p, .int .i64 d, .int .i64 m, .int .i64 l, .bool wt, .slice A rs.length C] 47))
  generalize (w.alloc (.cells #[.int .i64 p, .int .i64 d, .int .i64 m, .int .i64 l, .bool wt, .slice A rs.length C] 47)) = w1 at *
  (try clear k0c k0f k0z); have k0c := fun i => Blk.cell k0 i; have k0f := fun i => Blk.free k0 i; have k0z := Blk.lt k0
  unfold Hold
  have K0 := Lib.hid k0
  have HB := Lib.hid hB
  clear k0c k0f k0 hB
  go_loopw [3, 4] (fun v i wr => ∃ k : Nat, k ≤ rs.length ∧ i = .int .i64 k ∧ wr.ownsRow w1.heap.size 3 1 v k (intV (dsts rs k)) ∧ Below w1.heap.size w1 wr) (fun _ i _ => rs.length - (intOf i).toNat)
  case atStart => exact ⟨0, by omega, rfl, World.ownsRow_nil _ _ _ _, Below.refl _ _⟩
  case round =>
    obtain ⟨k, hk, rfl, hown, hbq⟩ := hrel
    have k0 := K0.out.below hbq K0.out.lt
    (try clear k0c k0f k0z); have k0c := fun i => Blk.cell k0 i; have k0f := fun i => Blk.free k0 i; have k0z := Blk.lt k0
    have hgs := hbq.size
    by_cases hlt : k < rs.length
    · obtain ⟨b, off, rfl, hbl, hce⟩ := (HR.out.below (HB.out.trans (hbq.mono HB.out.size))) (by omega)
      obtain ⟨hcx, hcy⟩ := hce k hlt
      have HO := Lib.hid hown
      have HQ := Lib.hid hbq
      have hp : intV (dsts rs (k + 1)) = intV (dsts rs k) ++ [.int .i64 (dst rs k)] := by rw [dsts_succ, intV_snoc]
      have HP := Lib.hid hp
      have ho := HO.out
      clear hce hp hown hbq
      generalize dst rs k = x at *
      generalize (rid rs k).id = idv at *
      go_wp2_with (at_builtin; refine wpList_append_own _ rfl _ _ 26 rfl w1.heap.size 3 i0 (.int .i64 0) 1 8 Tryd.underlying26 hi hz0 hz1 hz2 rfl (by decide) _ _ _ rfl (ho.alloc _) ⟨wr.heap.size, 0, none⟩ 1 1 [.int .i64 x] rfl rfl ?c1 ?c2 ?c3 ?c4 ?c5 ?_)
      case c1 => exact cell_one _ _ _
      case c2 => intro u hu; simp at hu; subst hu; rfl
      case c3 => unfold maxLen; omega
      case c4 => omega
      case c5 => simp; omega
      intro v' w4 hown' hgrow _
      rw [← HP.out] at hown'
      have hb4 : Below w1.heap.size w1 w4 := (HQ.out.alloc hgs _).grown hgrow (by simp; omega) (fun k hk => (ho.lt k hk).1)
      clear hgrow ho
      go_wp2
      go_roundw
      case rel => exact ⟨k + 1, by omega, by go_num, hown', hb4⟩
      case measure => simp [intOf]; try omega
    · obtain rfl : k = rs.length := by omega
      obtain ⟨A', C', rfl, hints⟩ := owns_ints_n hown (dsts_len rs rs.length).symm
      rw [dsts_len]
      have hB2 := HB.out.trans (hbq.mono HB.out.size)
      have HI := Lib.hid hints
      clear hown hbq
      go_wp2_with (go_at_call 13; refine (CO.out _ _ _ HI.out).mono ?_)
      rintro e w2 ⟨rfl, hb2⟩
      have hB3 := hB2.trans (hb2.mono hB2.size)
      go_wp2_with (go_at_call 30; refine (CI.out _).mono ?_)
      rintro e w3 ⟨v, rfl, ho3, hb3⟩
      have hB4 := hB3.trans (hb3.mono hB3.size)
      have HO3 := Lib.hid (owns_base (B' := w.heap.size) ho3 hB3.size)
      clear ho3
      go_wp2
      go_ret
      exact ⟨_, rfl, HO3.out, hB4⟩
set_option maxRecDepth 20000 in
theorem ref30_Full (c : Car) (A : Option Addr) (C : Nat) (cap : Int) (w : World) (hl : c.riders.length ≤ 1000) (hc : I64 cap) : Calls Tryd.prog 34 #[c.val A C, .int .i64 cap] w fun e w' => e = .returned (.bool (fullB c cap)) ∧ Below w.heap.size w w' := by
  obtain ⟨p, d, m, l, wt, rs⟩ := c
  unfold fullB
  simp only at *
  go_enter Tryd.func34, Tryd.ntmps34
  go_wp2
  go_ret
  exact ⟨rfl, below_alloc1 _ _⟩
theorem items_zero : items 0 0 = [] := by
  unfold items preI
  have : (List.range 128).filter (bitsF 0 0) = [] := by
    rw [List.filter_eq_nil_iff]
    intro n _
    unfold bitsF
    rw [mem_zero]
    simp
  rw [this]; rfl
set_option maxRecDepth 20000 in
set_option maxHeartbeats 4000000 in
theorem ref30_Lands (c : Car) (A : Option Addr) (C : Nat) (cap : Int) (x y : Nat) (w : World) (hl : c.riders.length ≤ 1000) (hc : I64 cap) (hx : Wd x) (hy : Wd y) :
    Calls Tryd.prog 36 #[c.val A C, .int .i64 cap, sv x y] w (RetOwn (items (landX c cap x) (landX c cap y)) w) := by
  have cF := fun w => ref30_Full c A C cap w hl hc
  have cI := fun w => ref03_Items x y w hx hy
  unfold landX
  unfold sv at *
  generalize fullB c cap = fb at *
  obtain ⟨p, d, m, l, wt, rs⟩ := c
  have CF := Lib.hid cF
  have CI := Lib.hid cI
  clear cF cI hc hl hx hy
  cases fb
  · go_enter Tryd.func36, Tryd.ntmps36
    go_wp2_with (first | ((with_reducible refine hold_list ?_ ?_); (· exact Eq.refl true)) | ((with_reducible refine hold_region ?_ ?_); (· exact Eq.refl true)) | (with_reducible refine hold_loop ?_))
    have k0 : Blk ((w.alloc (.cells #[.int .i64 p, .int .i64 d, .int .i64 m, .int .i64 l, .bool wt, .slice A rs.length C] 47)).alloc (.cells #[.int .u64 (x : Int), .int .u64 (y : Int)] 24)) (w.heap.size) 47 #[.int .i64 p, .int .i64 d, .int .i64 m, .int .i64 l, .bool wt, .slice A rs.length C] := (Blk.alloc (blk_at (by simp)) (.cells #[.int .u64 (x : Int), .int .u64 (y : Int)] 24))
    have k1 : Blk ((w.alloc (.cells #[.int .i64 p, .int .i64 d, .int .i64 m, .int .i64 l, .bool wt, .slice A rs.length C] 47)).alloc (.cells #[.int .u64 (x : Int), .int .u64 (y : Int)] 24)) (w.heap.size + 1) 24 #[.int .u64 (x : Int), .int .u64 (y : Int)] := (blk_at (by simp))
    have hB : Below w.heap.size w ((w.alloc (.cells #[.int .i64 p, .int .i64 d, .int .i64 m, .int .i64 l, .bool wt, .slice A rs.length C] 47)).alloc (.cells #[.int .u64 (x : Int), .int .u64 (y : Int)] 24)) := (bel_at (bel_at (Below.refl _ _) (.cells #[.int .i64 p, .int .i64 d, .int .i64 m, .int .i64 l, .bool wt, .slice A rs.length C] 47)) (.cells #[.int .u64 (x : Int), .int .u64 (y : Int)] 24))
    generalize ((w.alloc (.cells #[.int .i64 p, .int .i64 d, .int .i64 m, .int .i64 l, .bool wt, .slice A rs.length C] 47)).alloc (.cells #[.int .u64 (x : Int), .int .u64 (y : Int)] 24)) = w1 at *
    (try clear k0c k0f k0z); have k0c := fun i => Blk.cell k0 i; have k0f := fun i => Blk.free k0 i; have k0z := Blk.lt k0; (try clear k1c k1f k1z); have k1c := fun i => Blk.cell k1 i; have k1f := fun i => Blk.free k1 i; have k1z := Blk.lt k1
    unfold Hold
    go_wp2_with (first | (first | ((with_reducible refine wpList_here ?_ ?_); (· exact Eq.refl true); first | ((with_reducible refine wpList_grow 3 ?_ ?_); (· exact Eq.refl true))) | ((with_reducible refine wp_region_any_here ?_ ?_); (· exact Eq.refl true); first | ((with_reducible refine wp_region_drawn 3 ?_ ?_ ?_ ?_); (· exact Eq.refl true); (· kernel_rfl); (· kernel_rfl)) | refine wp_region_grow (by kernel_rfl) (by kernel_rfl) ?_)); (try simp only [List.take_succ_cons, List.take_zero, List.drop_succ_cons, List.drop_zero]); (repeat (go_big_quiet_step ((first | (go_at_call 34; with_reducible exact grow_of (CF.out _)))))); (first | (refine wpQuiet_nil ?_; intro w' hb; replace hB := Below.trans hB (Below.mono hb (Below.size hB)); replace k0 := Blk.below k0 hb (Blk.lt k0); replace k1 := Blk.below k1 hb (Blk.lt k1); (try clear k0c k0f k0z); have k0c := fun i => Blk.cell k0 i; have k0f := fun i => Blk.free k0 i; have k0z := Blk.lt k0; (try clear k1c k1f k1z); have k1c := fun i => Blk.cell k1 i; have k1f := fun i => Blk.free k1 i; have k1z := Blk.lt k1) | skip))
    all_goals (try (go_wp2_with (go_at_call 30; refine (CI.out _).mono ?_)))
    rintro e w3 ⟨v, rfl, ho3, hb3⟩
    have hB4 := hB.trans (hb3.mono hB.size)
    have HO3 := Lib.hid (owns_base (B' := w.heap.size) ho3 hB.size)
    clear ho3
    go_wp2
    go_ret
    exact ⟨_, rfl, HO3.out, hB4⟩
  · simp only [if_true]
    rw [items_zero]
    go_enter Tryd.func36, Tryd.ntmps36
    go_wp2_with (first | ((with_reducible refine hold_list ?_ ?_); (· exact Eq.refl true)) | ((with_reducible refine hold_region ?_ ?_); (· exact Eq.refl true)) | (with_reducible refine hold_loop ?_))
    have k0 : Blk ((w.alloc (.cells #[.int .i64 p, .int .i64 d, .int .i64 m, .int .i64 l, .bool wt, .slice A rs.length C] 47)).alloc (.cells #[.int .u64 (x : Int), .int .u64 (y : Int)] 24)) (w.heap.size) 47 #[.int .i64 p, .int .i64 d, .int .i64 m, .int .i64 l, .bool wt, .slice A rs.length C] := (Blk.alloc (blk_at (by simp)) (.cells #[.int .u64 (x : Int), .int .u64 (y : Int)] 24))
    have k1 : Blk ((w.alloc (.cells #[.int .i64 p, .int .i64 d, .int .i64 m, .int .i64 l, .bool wt, .slice A rs.length C] 47)).alloc (.cells #[.int .u64 (x : Int), .int .u64 (y : Int)] 24)) (w.heap.size + 1) 24 #[.int .u64 (x : Int), .int .u64 (y : Int)] := (blk_at (by simp))
    have hB : Below w.heap.size w ((w.alloc (.cells #[.int .i64 p, .int .i64 d, .int .i64 m, .int .i64 l, .bool wt, .slice A rs.length C] 47)).alloc (.cells #[.int .u64 (x : Int), .int .u64 (y : Int)] 24)) := (bel_at (bel_at (Below.refl _ _) (.cells #[.int .i64 p, .int .i64 d, .int .i64 m, .int .i64 l, .bool wt, .slice A rs.length C] 47)) (.cells #[.int .u64 (x : Int), .int .u64 (y : Int)] 24))
    generalize ((w.alloc (.cells #[.int .i64 p, .int .i64 d, .int .i64 m, .int .i64 l, .bool wt, .slice A rs.length C] 47)).alloc (.cells #[.int .u64 (x : Int), .int .u64 (y : Int)] 24)) = w1 at *
    (try clear k0c k0f k0z); have k0c := fun i => Blk.cell k0 i; have k0f := fun i => Blk.free k0 i; have k0z := Blk.lt k0; (try clear k1c k1f k1z); have k1c := fun i => Blk.cell k1 i; have k1f := fun i => Blk.free k1 i; have k1z := Blk.lt k1
    unfold Hold
    go_wp2_with (first | ((with_reducible refine wpList_here ?_ ?_); (· exact Eq.refl true); first | ((with_reducible refine wpList_grow 3 ?_ ?_); (· exact Eq.refl true))) | ((with_reducible refine wp_region_any_here ?_ ?_); (· exact Eq.refl true); first | ((with_reducible refine wp_region_drawn 3 ?_ ?_ ?_ ?_); (· exact Eq.refl true); (· kernel_rfl); (· kernel_rfl)) | refine wp_region_grow (by kernel_rfl) (by kernel_rfl) ?_)); (try simp only [List.take_succ_cons, List.take_zero, List.drop_succ_cons, List.drop_zero]); (repeat (go_big_quiet_step ((first | (go_at_call 34; with_reducible exact grow_of (CF.out _)))))); (first | (refine wpQuiet_nil ?_; intro w' hb; replace hB := Below.trans hB (Below.mono hb (Below.size hB)); replace k0 := Blk.below k0 hb (Blk.lt k0); replace k1 := Blk.below k1 hb (Blk.lt k1); (try clear k0c k0f k0z); have k0c := fun i => Blk.cell k0 i; have k0f := fun i => Blk.free k0 i; have k0z := Blk.lt k0; (try clear k1c k1f k1z); have k1c := fun i => Blk.cell k1 i; have k1f := fun i => Blk.free k1 i; have k1z := Blk.lt k1) | skip)
    all_goals (try (go_wp2_with (first | ((with_reducible refine wpList_here ?_ ?_); (· exact Eq.refl true); first | ((with_reducible refine wpList_grow 3 ?_ ?_); (· exact Eq.refl true))) | ((with_reducible refine wp_region_any_here ?_ ?_); (· exact Eq.refl true); first | ((with_reducible refine wp_region_drawn 3 ?_ ?_ ?_ ?_); (· exact Eq.refl true); (· kernel_rfl); (· kernel_rfl)) | refine wp_region_grow (by kernel_rfl) (by kernel_rfl) ?_)); (try simp only [List.take_succ_cons, List.take_zero, List.drop_succ_cons, List.drop_zero]); (repeat (go_big_quiet_step ((first | (go_at_call 34; with_reducible exact grow_of (CF.out _)))))); (first | (refine wpQuiet_nil ?_; intro w' hb; replace hB := Below.trans hB (Below.mono hb (Below.size hB)); replace k0 := Blk.below k0 hb (Blk.lt k0); replace k1 := Blk.below k1 hb (Blk.lt k1); (try clear k0c k0f k0z); have k0c := fun i => Blk.cell k0 i; have k0f := fun i => Blk.free k0 i; have k0z := Blk.lt k0; (try clear k1c k1f k1z); have k1c := fun i => Blk.cell k1 i; have k1f := fun i => Blk.free k1 i; have k1z := Blk.lt k1) | skip)))
    go_ret
    exact ⟨_, rfl, World.ownsRow_nil _ _ _ _, hB⟩
end Go.Proofs.YtlcnhpjmmjmkcaaDoor
