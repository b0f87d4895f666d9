
/-
  The document's wants: hoistwayref30.Of. Conditions: at most 1000 riders.
-/
import Derived.Test.YtlcnhpjmmjmkcaaDoorRef30
import Derived.Test.YtlcnhpjmmjmkcaaDoorApp
import Derived.Test.YtlcnhpjmmjmkcaaDoorFaceP
set_option linter.unusedVariables false
set_option linter.unusedSimpArgs false
namespace Go.Proofs.YtlcnhpjmmjmkcaaDoor
open Go.Joins Go.ChangeShapes Go.WideShapes Go.ChangeAt Go.RowKit Go.Deep

theorem mem_ofL (L : List Int) (n : Int) (h0 : 0 ≤ n) (h1 : n < 128) : memB (ofX (at0 L) L.length) (ofY (at0 L) L.length) n = true ↔ n ∈ L := by
  rw [mem_of (at0 L) L.length n h0 h1, List.mem_iff_getElem?]
  constructor
  · rintro ⟨i, hi, e⟩
    refine ⟨i, ?_⟩
    rw [List.getElem?_eq_getElem hi]
    rw [← e]
    simp [at0, List.getD, List.getElem?_eq_getElem hi]
  · rintro ⟨i, e⟩
    have hi : i < L.length := (List.getElem?_eq_some_iff.1 e).1
    exact ⟨i, hi, by simp [at0, List.getD, e]⟩
theorem ofL_set {L : List Int} {x y : Nat} (hx : Wd x) (hy : Wd y) (h : ∀ n : Int, 0 ≤ n → n < 128 → (n ∈ L ↔ memB x y n = true)) : ofX (at0 L) L.length = x ∧ ofY (at0 L) L.length = y :=
  set_ext (wd_of _ _).1 (wd_of _ _).2 hx hy fun n a b => by
    rw [Bool.eq_iff_iff, mem_ofL L n a b]
    exact h n a b
theorem items_set {x y : Nat} (hx : Wd x) (hy : Wd y) : ofX (at0 (items x y)) (items x y).length = x ∧ ofY (at0 (items x y)) (items x y).length = y :=
  ofL_set hx hy fun n a b => by rw [mem_items]; exact ⟨fun h => h.2.2, fun h => ⟨a, b, h⟩⟩
theorem items_len (x y : Nat) : (items x y).length ≤ 128 := pre_len x y 128
theorem items_bd (x y : Nat) (L : List Int) (h : ∀ k ∈ L, 0 ≤ k ∧ k < 128) : ∀ i, I64 (at0 L i) := fun i => by
  unfold at0 I64
  by_cases hi : i < L.length
  · have := h L[i] (List.getElem_mem hi)
    simp [List.getD, List.getElem?_eq_getElem hi]
    omega
  · simp [List.getD, List.getElem?_eq_none (Nat.le_of_not_lt hi)]
/-- All where it is to stop. -/
def wantL (c : Car) (cap : Int) (ux uy dx dy : Nat) : List Int := items (ridX c) (ridY c) ++ items (landX c cap ux) (landX c cap uy) ++ items (landX c cap dx) (landX c cap dy)
theorem wantL_set (c : Car) (cap : Int) {ux uy dx dy : Nat} (h1 : Wd ux) (h2 : Wd uy) (h3 : Wd dx) (h4 : Wd dy) : ofX (at0 (wantL c cap ux uy dx dy)) (wantL c cap ux uy dx dy).length = wantX c cap ux dx ∧ ofY (at0 (wantL c cap ux uy dx dy)) (wantL c cap ux uy dx dy).length = wantY c cap uy dy :=
  ofL_set (wd_wantX h1 h3) (wd_wantY h2 h4) fun n a b => by
    have := mem_want c cap ux uy dx dy n
    simp only [seeOf] at this
    rw [this]
    unfold wantL
    simp only [List.mem_append, mem_items, Bool.or_eq_true]
    constructor
    · rintro ((h | h) | h)
      · exact .inl h.2.2
      · exact .inr (.inl h.2.2)
      · exact .inr (.inr h.2.2)
    · rintro (h | h | h)
      · exact .inl (.inl ⟨a, b, h⟩)
      · exact .inl (.inr ⟨a, b, h⟩)
      · exact .inr ⟨a, b, h⟩
set_option maxRecDepth 20000 in
set_option maxHeartbeats 4000000 in
theorem ref30_Of (c : Car) (A : Option Addr) (C : Nat) (cap : Int) (ux uy dx dy : Nat) (w : World) (hr : Rids w A c.riders) (hl : c.riders.length ≤ 1000) (hbd : ∀ i, I64 (dst c.riders i)) (hc : I64 cap)
    (h1 : Wd ux) (h2 : Wd uy) (h3 : Wd dx) (h4 : Wd dy) :
    Calls Tryd.prog 38 #[c.val A C, .int .i64 cap, sv ux uy, sv dx dy] w fun e w' => e = .returned (sv (wantX c cap ux dx) (wantY c cap uy dy)) ∧ Below w.heap.size w w' := by
  have cR := fun w hr => ref30_Rides c A C w hr hl hbd
  have cU := fun w => ref30_Lands c A C cap ux uy w hl hc h1 h2
  have cD := fun w => ref30_Lands c A C cap dx dy w hl hc h3 h4
  have hset := wantL_set c cap h1 h2 h3 h4
  have cO := fun A C w hx => ref03_Of A C (wantL c cap ux uy dx dy) w hx (by
    unfold wantL
    have := items_len (ridX c) (ridY c)
    have := items_len (landX c cap ux) (landX c cap uy)
    have := items_len (landX c cap dx) (landX c cap dy)
    simp only [List.length_append]
    omega) (items_bd 0 0 _ fun k hk => by
      unfold wantL at hk
      simp only [List.mem_append, mem_items] at hk
      rcases hk with (h | h) | h
      · exact ⟨h.1, h.2.1⟩
      · exact ⟨h.1, h.2.1⟩
      · exact ⟨h.1, h.2.1⟩)
  rw [hset.1, hset.2] at cO
  clear hset
  have hL : wantL c cap ux uy dx dy = items (ridX c) (ridY c) ++ items (landX c cap ux) (landX c cap uy) ++ items (landX c cap dx) (landX c cap dy) := rfl
  have l1 := items_len (ridX c) (ridY c)
  have l2 := items_len (landX c cap ux) (landX c cap uy)
  have l3 := items_len (landX c cap dx) (landX c cap dy)
  generalize items (ridX c) (ridY c) = L1 at *
  generalize items (landX c cap ux) (landX c cap uy) = L2 at *
  generalize items (landX c cap dx) (landX c cap dy) = L3 at *
  generalize wantL c cap ux uy dx dy = L at *
  generalize wantX c cap ux dx = r1 at *
  generalize wantY c cap uy dy = r2 at *
  have HL := Lib.hid hL
  clear hL
  unfold sv at *
  obtain ⟨p, d, m, l, wt, rs⟩ := c
  simp only at *
  have HR := Lib.hid hr
  have CR := Lib.hid cR
  have CU := Lib.hid cU
  have CD := Lib.hid cD
  have CO := Lib.hid cO
  clear hr cR cU cD cO hbd hc h1 h2 h3 h4
  go_enter Tryd.func38, Tryd.ntmps38
  go_wp2_with (first | ((with_reducible refine hold_list ?_ ?_); (· exact Eq.refl true)) | ((with_reducible refine hold_region ?_ ?_); (· exact Eq.refl true)) | (with_reducible refine hold_loop ?_))
  have k0 : Blk ((((w.alloc (.cells #[.int .i64 p, .int .i64 d, .int .i64 m, .int .i64 l, .bool wt, .slice A rs.length C] 47)).alloc (.cells #[.int .u64 (ux : Int), .int .u64 (uy : Int)] 24)).alloc (.cells #[.int .u64 (dx : Int), .int .u64 (dy : Int)] 24)).alloc (.cells #[.int .u64 0, .int .u64 0] 24)) (w.heap.size) 47 #[.int .i64 p, .int .i64 d, .int .i64 m, .int .i64 l, .bool wt, .slice A rs.length C] := (Blk.alloc (Blk.alloc (Blk.alloc (blk_at (by simp)) (.cells #[.int .u64 (ux : Int), .int .u64 (uy : Int)] 24)) (.cells #[.int .u64 (dx : Int), .int .u64 (dy : Int)] 24)) (.cells #[.int .u64 0, .int .u64 0] 24))
  have k1 : Blk ((((w.alloc (.cells #[.int .i64 p, .int .i64 d, .int .i64 m, .int .i64 l, .bool wt, .slice A rs.length C] 47)).alloc (.cells #[.int .u64 (ux : Int), .int .u64 (uy : Int)] 24)).alloc (.cells #[.int .u64 (dx : Int), .int .u64 (dy : Int)] 24)).alloc (.cells #[.int .u64 0, .int .u64 0] 24)) (w.heap.size + 1) 24 #[.int .u64 (ux : Int), .int .u64 (uy : Int)] := (Blk.alloc (Blk.alloc (blk_at (by simp)) (.cells #[.int .u64 (dx : Int), .int .u64 (dy : Int)] 24)) (.cells #[.int .u64 0, .int .u64 0] 24))
  have k2 : Blk ((((w.alloc (.cells #[.int .i64 p, .int .i64 d, .int .i64 m, .int .i64 l, .bool wt, .slice A rs.length C] 47)).alloc (.cells #[.int .u64 (ux : Int), .int .u64 (uy : Int)] 24)).alloc (.cells #[.int .u64 (dx : Int), .int .u64 (dy : Int)] 24)).alloc (.cells #[.int .u64 0, .int .u64 0] 24)) (w.heap.size + 2) 24 #[.int .u64 (dx : Int), .int .u64 (dy : Int)] := (Blk.alloc (blk_at (by simp)) (.cells #[.int .u64 0, .int .u64 0] 24))
  have k3 : Blk ((((w.alloc (.cells #[.int .i64 p, .int .i64 d, .int .i64 m, .int .i64 l, .bool wt, .slice A rs.length C] 47)).alloc (.cells #[.int .u64 (ux : Int), .int .u64 (uy : Int)] 24)).alloc (.cells #[.int .u64 (dx : Int), .int .u64 (dy : Int)] 24)).alloc (.cells #[.int .u64 0, .int .u64 0] 24)) (w.heap.size + 3) 24 #[.int .u64 0, .int .u64 0] := (blk_at (by simp))
  have hB : Below w.heap.size w ((((w.alloc (.cells #[.int .i64 p, .int .i64 d, .int .i64 m, .int .i64 l, .bool wt, .slice A rs.length C] 47)).alloc (.cells #[.int .u64 (ux : Int), .int .u64 (uy : Int)] 24)).alloc (.cells #[.int .u64 (dx : Int), .int .u64 (dy : Int)] 24)).alloc (.cells #[.int .u64 0, .int .u64 0] 24)) := (bel_at (bel_at (bel_at (bel_at (Below.refl _ _) (.cells #[.int .i64 p, .int .i64 d, .int .i64 m, .int .i64 l, .bool wt, .slice A rs.length C] 47)) (.cells #[.int .u64 (ux : Int), .int .u64 (uy : Int)] 24)) (.cells #[.int .u64 (dx : Int), .int .u64 (dy : Int)] 24)) (.cells #[.int .u64 0, .int .u64 0] 24))
  generalize ((((w.alloc (.cells #[.int .i64 p, .int .i64 d, .int .i64 m, .int .i64 l, .bool wt, .slice A rs.length C] 47)).alloc (.cells #[.int .u64 (ux : Int), .int .u64 (uy : Int)] 24)).alloc (.cells #[.int .u64 (dx : Int), .int .u64 (dy : Int)] 24)).alloc (.cells #[.int .u64 0, .int .u64 0] 24)) = w1 at *
  (try clear k0c k0f k0z); have k0c := fun i => Blk.cell k0 i; have k0f := fun i => Blk.free k0 i; have k0z := Blk.lt k0; (try clear k1c k1f k1z); have k1c := fun i => Blk.cell k1 i; have k1f := fun i => Blk.free k1 i; have k1z := Blk.lt k1; (try clear k2c k2f k2z); have k2c := fun i => Blk.cell k2 i; have k2f := fun i => Blk.free k2 i; have k2z := Blk.lt k2; (try clear k3c k3f k3z); have k3c := fun i => Blk.cell k3 i; have k3f := fun i => Blk.free k3 i; have k3z := Blk.lt k3
  unfold Hold
  have z0 := k0z
  have z1 := k1z
  have z2 := k2z
  have z3 := k3z
  have hW := hB
  go_wp2_with (go_at_call 32; refine (CR.out _ (HR.out.below hB)).mono ?_)
  rintro e w2 ⟨v1, rfl, o1, hb⟩
  have hQ := hb
  replace k0 := k0.below hb z0
  replace k1 := k1.below hb z1
  replace k2 := k2.below hb z2
  replace k3 := k3.below hb z3
  (try clear k0c k0f k0z); have k0c := fun i => Blk.cell k0 i; have k0f := fun i => Blk.free k0 i; have k0z := Blk.lt k0; (try clear k1c k1f k1z); have k1c := fun i => Blk.cell k1 i; have k1f := fun i => Blk.free k1 i; have k1z := Blk.lt k1; (try clear k2c k2f k2z); have k2c := fun i => Blk.cell k2 i; have k2f := fun i => Blk.free k2 i; have k2z := Blk.lt k2; (try clear k3c k3f k3z); have k3c := fun i => Blk.cell k3 i; have k3f := fun i => Blk.free k3 i; have k3z := Blk.lt k3
  clear hb hB
  go_wp2_with (go_at_call 36; refine (CU.out _).mono ?_)
  rintro e w3 ⟨v2, rfl, o2, hb⟩
  have hm := hb.mono hQ.size
  replace o1 := ownsRow_below o1 hb
  replace hQ := hQ.trans hm
  replace k0 := k0.below hm z0
  replace k1 := k1.below hm z1
  replace k2 := k2.below hm z2
  replace k3 := k3.below hm z3
  (try clear k0c k0f k0z); have k0c := fun i => Blk.cell k0 i; have k0f := fun i => Blk.free k0 i; have k0z := Blk.lt k0; (try clear k1c k1f k1z); have k1c := fun i => Blk.cell k1 i; have k1f := fun i => Blk.free k1 i; have k1z := Blk.lt k1; (try clear k2c k2f k2z); have k2c := fun i => Blk.cell k2 i; have k2f := fun i => Blk.free k2 i; have k2z := Blk.lt k2; (try clear k3c k3f k3z); have k3c := fun i => Blk.cell k3 i; have k3f := fun i => Blk.free k3 i; have k3z := Blk.lt k3
  clear hb hm
  go_wp2_with (first | ((with_reducible refine app_row _ _ v1 v2 L1.length (intV L1) L2 ?_ ?_ o1 o2 ?_ ?_ ?_); (· rfl); (· rfl); (· (try simp only [List.length_append]); omega); (· exact hQ.size)))
  intro v4 w4 o4 hb
  simp only [Act.put, List.setIfInBounds_toArray, List.set_cons_succ, List.set_cons_zero]
  replace hQ := hQ.trans hb
  replace k0 := k0.below hb z0
  replace k1 := k1.below hb z1
  replace k2 := k2.below hb z2
  replace k3 := k3.below hb z3
  (try clear k0c k0f k0z); have k0c := fun i => Blk.cell k0 i; have k0f := fun i => Blk.free k0 i; have k0z := Blk.lt k0; (try clear k1c k1f k1z); have k1c := fun i => Blk.cell k1 i; have k1f := fun i => Blk.free k1 i; have k1z := Blk.lt k1; (try clear k2c k2f k2z); have k2c := fun i => Blk.cell k2 i; have k2f := fun i => Blk.free k2 i; have k2z := Blk.lt k2; (try clear k3c k3f k3z); have k3c := fun i => Blk.cell k3 i; have k3f := fun i => Blk.free k3 i; have k3z := Blk.lt k3
  clear hb o1 o2
  have e12 : intV L1 ++ intV L2 = intV (L1 ++ L2) := by simp [intV]
  rw [e12] at o4
  go_wp2_with (go_at_call 36; refine (CD.out _).mono ?_)
  rintro e w5 ⟨v5, rfl, o5, hb⟩
  have hm := hb.mono hQ.size
  replace o4 := ownsRow_below o4 hb
  replace hQ := hQ.trans hm
  replace k0 := k0.below hm z0
  replace k1 := k1.below hm z1
  replace k2 := k2.below hm z2
  replace k3 := k3.below hm z3
  (try clear k0c k0f k0z); have k0c := fun i => Blk.cell k0 i; have k0f := fun i => Blk.free k0 i; have k0z := Blk.lt k0; (try clear k1c k1f k1z); have k1c := fun i => Blk.cell k1 i; have k1f := fun i => Blk.free k1 i; have k1z := Blk.lt k1; (try clear k2c k2f k2z); have k2c := fun i => Blk.cell k2 i; have k2f := fun i => Blk.free k2 i; have k2z := Blk.lt k2; (try clear k3c k3f k3z); have k3c := fun i => Blk.cell k3 i; have k3f := fun i => Blk.free k3 i; have k3z := Blk.lt k3
  clear hb hm
  go_wp2_with (first | ((with_reducible refine app_row _ _ v4 v5 (L1.length + L2.length) (intV (L1 ++ L2)) L3 ?_ ?_ o4 o5 ?_ ?_ ?_); (· rfl); (· rfl); (· (try simp only [List.length_append]); omega); (· exact hQ.size)))
  intro v6 w6 o6 hb
  simp only [Act.put, List.setIfInBounds_toArray, List.set_cons_succ, List.set_cons_zero]
  replace hQ := hQ.trans hb
  replace k0 := k0.below hb z0
  replace k1 := k1.below hb z1
  replace k2 := k2.below hb z2
  replace k3 := k3.below hb z3
  (try clear k0c k0f k0z); have k0c := fun i => Blk.cell k0 i; have k0f := fun i => Blk.free k0 i; have k0z := Blk.lt k0; (try clear k1c k1f k1z); have k1c := fun i => Blk.cell k1 i; have k1f := fun i => Blk.free k1 i; have k1z := Blk.lt k1; (try clear k2c k2f k2z); have k2c := fun i => Blk.cell k2 i; have k2f := fun i => Blk.free k2 i; have k2z := Blk.lt k2; (try clear k3c k3f k3z); have k3c := fun i => Blk.cell k3 i; have k3f := fun i => Blk.free k3 i; have k3z := Blk.lt k3
  clear hb o4 o5
  have e123 : intV (L1 ++ L2) ++ intV L3 = intV (L1 ++ L2 ++ L3) := by simp [intV]
  rw [e123, ← HL.out] at o6
  obtain ⟨A6, C6, rfl, hints⟩ := owns_ints_n o6 (by rw [HL.out]; simp only [List.length_append])
  have HI := Lib.hid hints
  clear hints o6
  go_wp2_with (go_at_call 13; refine (CO.out _ _ _ HI.out).mono ?_)
  rintro e w7 ⟨rfl, hb⟩
  have hm := hb.mono hQ.size
  replace hQ := hQ.trans hm
  replace k0 := k0.below hm z0
  replace k1 := k1.below hm z1
  replace k2 := k2.below hm z2
  replace k3 := k3.below hm z3
  (try clear k0c k0f k0z); have k0c := fun i => Blk.cell k0 i; have k0f := fun i => Blk.free k0 i; have k0z := Blk.lt k0; (try clear k1c k1f k1z); have k1c := fun i => Blk.cell k1 i; have k1f := fun i => Blk.free k1 i; have k1z := Blk.lt k1; (try clear k2c k2f k2z); have k2c := fun i => Blk.cell k2 i; have k2f := fun i => Blk.free k2 i; have k2z := Blk.lt k2; (try clear k3c k3f k3z); have k3c := fun i => Blk.cell k3 i; have k3f := fun i => Blk.free k3 i; have k3z := Blk.lt k3
  clear hb hm
  go_wp2
  refine bodyPost_ret (v := .agg #[.int .u64 (r1 : Int), .int .u64 (r2 : Int)]) (by simp [results, Tryd.results38, go_sem, k3c, k3f]) rfl ?_
  exact ⟨rfl, set2b (g := 3) (hW.trans (hQ.mono hW.size))⟩
end Go.Proofs.YtlcnhpjmmjmkcaaDoor
