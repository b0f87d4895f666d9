
/-
  The document's sets: hoistwayref03.Shift, Full. Condition: the number fits.
-/
import Derived.Test.YtlcnhpjmmjmkcaaDoorRef03e
import Derived.Test.YtlcnhpjmmjmkcaaDoorDoorS
set_option linter.unusedVariables false
set_option linter.unusedSimpArgs false
namespace Go.Proofs.YtlcnhpjmmjmkcaaDoor
open Go.Joins Go.ChangeShapes Go.WideShapes Go.ChangeAt Go.RowKit Go.Deep

theorem memL_of (L : List Int) (n : Int) (h0 : 0 ≤ n) (h1 : n < 128) : memB (ofX (at0 L) L.length) (ofY (at0 L) L.length) n = true ↔ n ∈ L := by
  rw [mem_of (at0 L) L.length n h0 h1, List.mem_iff_getElem?]
  constructor
  · rintro ⟨i, hi, e⟩
    refine ⟨i, ?_⟩
    rw [List.getElem?_eq_getElem hi]
    rw [← e]
    simp [at0, List.getD, List.getElem?_eq_getElem hi]
  · rintro ⟨i, e⟩
    have hi : i < L.length := (List.getElem?_eq_some_iff.1 e).1
    exact ⟨i, hi, by simp [at0, List.getD, e]⟩
theorem setL_of {L : List Int} {x y : Nat} (hx : Wd x) (hy : Wd y) (h : ∀ n : Int, 0 ≤ n → n < 128 → (n ∈ L ↔ memB x y n = true)) : ofX (at0 L) L.length = x ∧ ofY (at0 L) L.length = y :=
  set_ext (wd_of _ _).1 (wd_of _ _).2 hx hy fun n a b => by
    rw [Bool.eq_iff_iff, memL_of L n a b]
    exact h n a b
theorem itemL_len (x y : Nat) : (items x y).length ≤ 128 := pre_len x y 128
theorem at0_item (x y i : Nat) : 0 ≤ at0 (items x y) i ∧ at0 (items x y) i < 128 := by
  unfold at0
  by_cases hi : i < (items x y).length
  · have := List.getElem_mem hi
    rw [mem_items] at this
    simp [List.getD, List.getElem?_eq_getElem hi]
    omega
  · simp [List.getD, List.getElem?_eq_none (Nat.le_of_not_lt hi)]
/-- The first n numbers, moved. -/
def movL (x y : Nat) (k : Int) (n : Nat) : List Int := (List.range n).map fun i => at0 (items x y) i + k
theorem movL_succ (x y : Nat) (k : Int) (n : Nat) : movL x y k (n + 1) = movL x y k n ++ [at0 (items x y) n + k] := by unfold movL; rw [List.range_succ, List.map_append]; rfl
theorem movL_len (x y : Nat) (k : Int) (n : Nat) : (movL x y k n).length = n := by simp [movL]
theorem movL_mem (x y : Nat) (k n : Int) : n ∈ movL x y k (items x y).length ↔ n - k ∈ items x y := by
  unfold movL
  rw [List.mem_map]
  constructor
  · rintro ⟨i, hi, e⟩
    rw [List.mem_range] at hi
    have : at0 (items x y) i = (items x y)[i] := by simp [at0, List.getD, List.getElem?_eq_getElem hi]
    rw [← e, this, show (items x y)[i] + k - k = (items x y)[i] by omega]
    exact List.getElem_mem hi
  · intro h
    obtain ⟨i, hi, e⟩ := List.getElem_of_mem h
    refine ⟨i, List.mem_range.2 hi, ?_⟩
    simp [at0, List.getD, List.getElem?_eq_getElem hi, e]
theorem movL_set {x y : Nat} (k : Int) (hx : Wd x) (hy : Wd y) : ofX (at0 (movL x y k (items x y).length)) (movL x y k (items x y).length).length = shX x y k ∧ ofY (at0 (movL x y k (items x y).length)) (movL x y k (items x y).length).length = shY x y k :=
  setL_of (wd_sh k hx hy).1 (wd_sh k hx hy).2 fun n h0 h1 => by
    rw [movL_mem, mem_items, mem_sh k hx hy n h0 h1]
    constructor
    · exact fun h => h.2.2
    · intro h
      by_cases h2 : 0 ≤ n - k ∧ n - k < 128
      · exact ⟨h2.1, h2.2, h⟩
      · rw [mem_out (by omega)] at h; cases h
theorem movL_bd (x y : Nat) (k : Int) (n : Nat) (hk : -200 ≤ k ∧ k ≤ 200) : ∀ i, I64 (at0 (movL x y k n) i) := by
  intro i
  unfold I64
  unfold at0
  by_cases hi : i < (movL x y k n).length
  · have := List.getElem_mem hi
    unfold movL at this
    rw [List.mem_map] at this
    obtain ⟨j, _, e⟩ := this
    have hj := at0_item x y j
    simp [List.getD, List.getElem?_eq_getElem hi]
    unfold movL
    rw [← e]
    omega
  · simp [List.getD, List.getElem?_eq_none (Nat.le_of_not_lt hi)]
set_option maxRecDepth 20000 in
theorem ref03_Full (w : World) : Calls Tryd.prog 43 #[] w fun e w' => e = .returned (sv 18446744073709551615 18446744073709551615) ∧ Below w.heap.size w w' := by
  unfold sv
  go_enter Tryd.func43, Tryd.ntmps43
  go_wp2
  refine bodyPost_ret (v := .agg #[.int .u64 18446744073709551615, .int .u64 18446744073709551615]) (by simp [results, Tryd.results43, go_sem]) rfl ?_
  exact ⟨rfl, below_alloc1 _ _⟩
set_option maxRecDepth 20000 in
set_option maxHeartbeats 4000000 in
theorem ref03_Shift (x y : Nat) (k : Int) (w : World) (hx : Wd x) (hy : Wd y) (hk : I64 k) : Calls Tryd.prog 18 #[sv x y, .int .i64 k] w fun e w' => e = .returned (sv (shX x y k) (shY x y k)) ∧ Below w.heap.size w w' := by
  by_cases ho : 200 < k ∨ k < -200
  · have r1 : shX x y k = 0 := by unfold shX; rw [if_pos (by omega)]
    have r2 : shY x y k = 0 := by unfold shY; rw [if_pos (by omega)]
    rw [r1, r2]
    unfold sv
    clear r1 r2 hx hy
    by_cases h2 : 200 < k
    · have q1 : decide (200 < k) = true := decide_eq_true h2
      clear ho h2 hk
      go_enter Tryd.func18, Tryd.ntmps18
      go_wp2
      refine bodyPost_ret (v := .agg #[.int .u64 0, .int .u64 0]) (by simp [results, Tryd.results18, go_sem]) rfl ?_
      exact ⟨rfl, Joins.below_alloc2 _ _ _⟩
    · have q1 : decide (200 < k) = false := decide_eq_false h2
      have q2 : decide (k < -200) = true := decide_eq_true (by omega)
      clear ho h2 hk
      go_enter Tryd.func18, Tryd.ntmps18
      go_wp2
      refine bodyPost_ret (v := .agg #[.int .u64 0, .int .u64 0]) (by simp [results, Tryd.results18, go_sem]) rfl ?_
      exact ⟨rfl, Joins.below_alloc2 _ _ _⟩
  · have q1 : decide (200 < k) = false := decide_eq_false (by omega)
    have q2 : decide (k < -200) = false := decide_eq_false (by omega)
    obtain ⟨i0, hi, hz0, hz1, hz2⟩ := info_parts info_int
    have cI := fun w => ref03_Items x y w hx hy
    have hms := movL_set k hx hy
    have hln := itemL_len x y
    have cO := fun A C w hx => ref03_Of A C (movL x y k (items x y).length) w hx (by rw [movL_len]; omega) (movL_bd x y k _ (by omega))
    rw [hms.1, hms.2, movL_len] at cO
    have hadd : ∀ n, IntKind.i64.wrap (at0 (items x y) n + k) = at0 (items x y) n + k := fun n => IntWalk.i64_in _ (by have := at0_item x y n; omega)
    unfold sv at *
    generalize ((shX x y k : Nat) : Int) = r1 at *
    generalize ((shY x y k : Nat) : Int) = r2 at *
    have CI := Lib.hid cI
    have CO := Lib.hid cO
    have HADD := Lib.hid hadd
    clear cI cO hms hadd hx hy hk ho
    go_enter Tryd.func18, Tryd.ntmps18
    go_wp2_with (first | ((with_reducible refine hold_list ?_ ?_); (· exact Eq.refl true)) | ((with_reducible refine hold_region ?_ ?_); (· exact Eq.refl true)) | (with_reducible refine hold_loop ?_))
    have k0 : Blk ((w.alloc (.cells #[.int .u64 (x : Int), .int .u64 (y : Int)] 24)).alloc (.cells #[.int .u64 0, .int .u64 0] 24)) (w.heap.size) 24 #[.int .u64 (x : Int), .int .u64 (y : Int)] := (Blk.alloc (blk_at (by simp)) (.cells #[.int .u64 0, .int .u64 0] 24))
    have k1 : Blk ((w.alloc (.cells #[.int .u64 (x : Int), .int .u64 (y : Int)] 24)).alloc (.cells #[.int .u64 0, .int .u64 0] 24)) (w.heap.size + 1) 24 #[.int .u64 0, .int .u64 0] := (blk_at (by simp))
    have hB : Below w.heap.size w ((w.alloc (.cells #[.int .u64 (x : Int), .int .u64 (y : Int)] 24)).alloc (.cells #[.int .u64 0, .int .u64 0] 24)) := (bel_at (bel_at (Below.refl _ _) (.cells #[.int .u64 (x : Int), .int .u64 (y : Int)] 24)) (.cells #[.int .u64 0, .int .u64 0] 24))
    generalize ((w.alloc (.cells #[.int .u64 (x : Int), .int .u64 (y : Int)] 24)).alloc (.cells #[.int .u64 0, .int .u64 0] 24)) = w1 at *
    (try clear k0c k0f k0z); have k0c := fun i => Blk.cell k0 i; have k0f := fun i => Blk.free k0 i; have k0z := Blk.lt k0; (try clear k1c k1f k1z); have k1c := fun i => Blk.cell k1 i; have k1f := fun i => Blk.free k1 i; have k1z := Blk.lt k1
    unfold Hold
    go_wp2_with (go_at_call 30; refine (CI.out _).mono ?_)
    rintro e w2 hret
    obtain ⟨A, C, rfl, hint, hb⟩ := hret.ints
    replace hB := hB.trans (hb.mono hB.size)
    replace k1 := k1.below hb k1.lt
    clear k0 k0c k0f k0z k1c k1f k1z hret
    have HI := Lib.hid hint
    have K1 := Lib.hid k1
    have HB := Lib.hid hB
    clear hint k1 hB hb
    go_wp2_with (with_reducible refine hold_loop ?_)
    unfold Hold
    go_loopw [6, 7] (fun v i wr => ∃ n : Nat, n ≤ (items x y).length ∧ i = .int .i64 n ∧ wr.ownsRow w2.heap.size 3 1 v n (intV (movL x y k n)) ∧ Below w2.heap.size w2 wr) (fun _ i _ => (items x y).length - (intOf i).toNat)
    case atStart => exact ⟨0, by omega, rfl, World.ownsRow_nil _ _ _ _, Below.refl _ _⟩
    case round =>
      obtain ⟨n, hn, rfl, hown, hbq⟩ := hrel
      have hgs := hbq.size
      by_cases hlt : n < (items x y).length
      · obtain ⟨b, off, rfl, hbl, hce⟩ := (HI.out.below hbq) (by omega)
        have hcx := hce n hlt
        have ha := HADD.out n
        have HO := Lib.hid hown
        have HQ := Lib.hid hbq
        have hp : intV (movL x y k (n + 1)) = intV (movL x y k n) ++ [.int .i64 (at0 (items x y) n + k)] := by rw [movL_succ, intV_snoc]
        have HP := Lib.hid hp
        have ho := HO.out
        clear hown hbq hce hp
        generalize at0 (items x y) n = z at *
        go_wp2_with (at_builtin; refine wpList_append_own _ rfl _ _ 26 rfl w2.heap.size 3 i0 (.int .i64 0) 1 8 Tryd.underlying26 hi hz0 hz1 hz2 rfl (by decide) _ _ _ rfl (ho.alloc _) ⟨wr.heap.size, 0, none⟩ 1 1 [.int .i64 (z + k)] rfl rfl ?c1 ?c2 ?c3 ?c4 ?c5 ?_)
        case c1 => exact cell_one _ _ _
        case c2 => intro u hu; simp at hu; subst hu; rfl
        case c3 => unfold maxLen; omega
        case c4 => omega
        case c5 => simp; omega
        intro v' w4 hown' hgrow _
        rw [← HP.out] at hown'
        have hb4 : Below w2.heap.size w2 w4 := (HQ.out.alloc hgs _).grown hgrow (by simp; omega) (fun k hk => (ho.lt k hk).1)
        clear hgrow ho
        go_wp2
        go_roundw
        case rel => exact ⟨n + 1, by omega, by go_num, hown', hb4⟩
        case measure => simp [intOf]; try omega
      · obtain rfl : n = (items x y).length := by omega
        have hlm := movL_len x y k (items x y).length
        obtain ⟨A3, C3, hv, hi3⟩ := owns_ints_n hown hlm.symm
        rw [hlm] at hv
        subst hv
        have HO := Lib.hid hi3
        have HQ := Lib.hid hbq
        clear hown hi3 hlm hgs
        go_wp2_with (go_at_call 13; refine (CO.out _ _ _ HO.out).mono ?_)
        rintro e w4 ⟨rfl, hb4⟩
        have hB4 := (HB.out.trans (hbq.mono (by have := HB.out.size; omega))).trans (hb4.mono (by have := HB.out.size; have := hbq.size; omega))
        have k9 := (K1.out.below hbq K1.out.lt).below hb4 (by have := K1.out.lt; have := hbq.size; omega)
        (try clear k9c k9f k9z); have k9c := fun i => Blk.cell k9 i; have k9f := fun i => Blk.free k9 i; have k9z := Blk.lt k9
        clear HQ hbq HI
        go_wp2
        refine bodyPost_ret (v := .agg #[.int .u64 r1, .int .u64 r2]) (by simp [results, Tryd.results18, go_sem, k9c, k9f]) rfl ?_
        exact ⟨rfl, set2b (g := 1) hB4⟩
end Go.Proofs.YtlcnhpjmmjmkcaaDoor
