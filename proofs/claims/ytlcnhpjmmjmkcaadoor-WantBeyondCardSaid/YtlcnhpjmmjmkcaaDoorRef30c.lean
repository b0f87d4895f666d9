
/-
  The document's wants: hoistwayref30.Beyond. Conditions: the numbers fit.
-/
import Derived.Test.YtlcnhpjmmjmkcaaDoorRef30b
set_option linter.unusedVariables false
set_option linter.unusedSimpArgs false
namespace Go.Proofs.YtlcnhpjmmjmkcaaDoor
open Go.Joins Go.ChangeShapes Go.WideShapes Go.ChangeAt Go.RowKit Go.Deep

/-- Does a floor lie on? -/
def onP (f d x : Int) : Bool := decide (0 < d) && decide (f < x) || decide (d < 0) && decide (x < f)
/-- Those on, the nearest first. -/
def beyS (x y : Nat) (d : Int) : List Int := if d < 0 then (items x y).reverse else items x y
def beyL (x y : Nat) (f d : Int) : List Int := (beyS x y d).filter (onP f d)
def beyK (x y : Nat) (f d : Int) (k : Nat) : List Int := ((beyS x y d).take k).filter (onP f d)
theorem beyS_len (x y : Nat) (d : Int) : (beyS x y d).length = (items x y).length := by unfold beyS; split <;> simp
theorem beyK_yes {x y : Nat} {f d v : Int} {k : Nat} (h : (beyS x y d)[k]? = some v) (hp : onP f d v = true) : beyK x y f d (k + 1) = beyK x y f d k ++ [v] := by
  unfold beyK
  rw [List.take_add_one, h, List.filter_append]
  simp [hp]
theorem beyK_no {x y : Nat} {f d v : Int} {k : Nat} (h : (beyS x y d)[k]? = some v) (hp : onP f d v = false) : beyK x y f d (k + 1) = beyK x y f d k := by
  unfold beyK
  rw [List.take_add_one, h, List.filter_append]
  simp [hp]
theorem beyK_len (x y : Nat) (f d : Int) (k : Nat) : (beyK x y f d k).length ≤ k := by
  unfold beyK
  have := List.length_filter_le (onP f d) ((beyS x y d).take k)
  have h2 := List.length_take_le k (beyS x y d)
  omega
theorem beyK_all (x y : Nat) (f d : Int) : beyK x y f d (items x y).length = beyL x y f d := by
  unfold beyK beyL
  rw [← beyS_len x y d, List.take_length]
theorem beyS_at (x y : Nat) (d : Int) (k : Nat) (h : k < (items x y).length) : (beyS x y d)[k]? = some (if d < 0 then at0 (items x y) ((items x y).length - 1 - k) else at0 (items x y) k) := by
  unfold beyS at0
  split
  · rw [List.getElem?_reverse h]
    simp [List.getD, List.getElem?_eq_getElem (show (items x y).length - 1 - k < (items x y).length by omega)]
  · simp [List.getD, List.getElem?_eq_getElem h]
theorem bey_nil {s : Sgt} (hs : s.ok) (f d : Int) : (decide (0 < ((beyL s.wx s.wy f d).length : Int))) = beyB s f d := by
  rw [Bool.eq_iff_iff, decide_eq_true_eq, bey_iff hs]
  constructor
  · intro h
    obtain ⟨k, hk⟩ := List.exists_mem_of_length_pos (show 0 < (beyL s.wx s.wy f d).length by omega)
    unfold beyL at hk
    rw [List.mem_filter] at hk
    have hm : k ∈ items s.wx s.wy := by
      have := hk.1
      unfold beyS at this
      split at this
      · exact List.mem_reverse.1 this
      · exact this
    rw [mem_items] at hm
    refine ⟨k, hm.1, hm.2.1, hm.2.2, ?_⟩
    have := hk.2
    unfold onP at this
    simp only [Bool.or_eq_true, Bool.and_eq_true, decide_eq_true_eq] at this
    exact this
  · rintro ⟨k, h0, h1, hm, hp⟩
    have hk : k ∈ beyL s.wx s.wy f d := by
      unfold beyL
      rw [List.mem_filter]
      constructor
      · have : k ∈ items s.wx s.wy := (mem_items _ _ _).2 ⟨h0, h1, hm⟩
        unfold beyS
        split
        · exact List.mem_reverse.2 this
        · exact this
      · unfold onP
        simp only [Bool.or_eq_true, Bool.and_eq_true, decide_eq_true_eq]
        exact hp
    have := List.length_pos_of_mem hk
    omega
set_option maxRecDepth 20000 in
set_option maxHeartbeats 8000000 in
theorem ref30_Beyond (x y : Nat) (f d : Int) (w : World) (hx : Wd x) (hy : Wd y) (hf : I64 f) (hd : I64 d) :
    Calls Tryd.prog 9 #[sv x y, .int .i64 f, .int .i64 d] w (RetOwn (beyL x y f d) w) := by
  obtain ⟨i0, hi, hz0, hz1, hz2⟩ := info_parts info_int
  have cI := fun w => ref03_Items x y w hx hy
  have hlen := items_len x y
  have hall := beyK_all x y f d
  have hbd := items_bd 0 0 (items x y) fun k hk => by rw [mem_items] at hk; exact ⟨hk.1, hk.2.1⟩
  have hat := beyS_at x y d
  have hkl := beyK_len x y f d
  have hyes := fun k v => beyK_yes (x := x) (y := y) (f := f) (d := d) (k := k) (v := v)
  have hno := fun k v => beyK_no (x := x) (y := y) (f := f) (d := d) (k := k) (v := v)
  have h0 : beyK x y f d 0 = [] := by unfold beyK; simp
  unfold I64 at hf hd
  unfold sv at *
  have hneg : ∃ b, b = decide (d < 0) := ⟨_, rfl⟩
  have CI := Lib.hid cI
  clear cI hx hy
  generalize beyL x y f d = out at *
  generalize beyK x y f d = outK at *
  generalize beyS x y d = S at *
  generalize items x y = L at *
  subst hall
  have HAT := Lib.hid hat
  have HYES := Lib.hid hyes
  have HNO := Lib.hid hno
  have HBD := Lib.hid hbd
  have H0 := Lib.hid h0
  clear hat hyes hno hbd h0 hneg
  go_enter Tryd.func9, Tryd.ntmps9
  go_wp2_with (first | ((with_reducible refine hold_list ?_ ?_); (· exact Eq.refl true)) | ((with_reducible refine hold_region ?_ ?_); (· exact Eq.refl true)) | (with_reducible refine hold_loop ?_))
  have k0 : Blk (w.alloc (.cells #[.int .u64 (x : Int), .int .u64 (y : Int)] 24)) (w.heap.size) 24 #[.int .u64 (x : Int), .int .u64 (y : Int)] := (blk_at (by simp))
  have hB : Below w.heap.size w (w.alloc (.cells #[.int .u64 (x : Int), .int .u64 (y : Int)] 24)) := (bel_at (Below.refl _ _) (.cells #[.int .u64 (x : Int), .int .u64 (y : Int)] 24))
  generalize (w.alloc (.cells #[.int .u64 (x : Int), .int .u64 (y : Int)] 24)) = w1 at *
  (try clear k0c k0f k0z); have k0c := fun i => Blk.cell k0 i; have k0f := fun i => Blk.free k0 i; have k0z := Blk.lt k0
  unfold Hold
  go_wp2_with (go_at_call 30; refine (CI.out _).mono ?_)
  rintro e w2 ⟨v, rfl, ho, hb⟩
  obtain ⟨A, C, rfl, hints⟩ := owns_ints ho
  have HX := Lib.hid hints
  replace hB := hB.trans (hb.mono hB.size)
  have HB := Lib.hid hB
  have hz := hB.size
  clear ho hints hb hB k0 k0c k0f k0z CI
  go_wp2_with (with_reducible refine hold_loop ?_)
  unfold Hold
  go_loopw [8, 9, 10] (fun v i _ wr => ∃ k : Nat, k ≤ L.length ∧ i = .int .i64 k ∧ wr.ownsRow w2.heap.size 3 1 v (outK k).length (intV (outK k)) ∧ Below w2.heap.size w2 wr) (fun _ i _ _ => L.length - (intOf i).toNat)
  case atStart => exact ⟨0, by omega, rfl, by rw [H0.out]; exact World.ownsRow_nil _ _ _ _, Below.refl _ _⟩
  case round =>
    obtain ⟨k, hk, rfl, hown, hbq⟩ := hrel
    have hgs := hbq.size
    have HO := Lib.hid hown
    have HQ := Lib.hid hbq
    by_cases hlt : k < L.length
    · obtain ⟨b, off, rfl, hbl, hce⟩ := (HX.out.below hbq) (by omega)
      have hc1 := hce k hlt
      have hc2 := hce (L.length - 1 - k) (by omega)
      have hv := HAT.out k hlt
      have hb1 := HBD.out k
      have hb2 := HBD.out (L.length - 1 - k)
      have hkk := hkl k
      have ho := HO.out
      obtain ⟨j, hj⟩ : ∃ j, L.length - 1 - k = j := ⟨_, rfl⟩
      rw [hj] at hc2 hv hb2
      have ej : (L.length : Int) - 1 - (k : Int) = (j : Int) := by omega
      have ej1 : IntKind.i64.wrap ((L.length : Int) - 1) = (L.length : Int) - 1 := IntWalk.i64_in _ (by omega)
      have ej2 : IntKind.i64.wrap ((L.length : Int) - 1 - (k : Int)) = (j : Int) := by rw [ej]; exact IntWalk.i64_in _ (by omega)
      have hjl : j < L.length := by omega
      clear hce hown hbq hkl hj ej
      generalize at0 L k = a1 at *
      generalize at0 L j = a2 at *
      unfold I64 at hb1 hb2
      by_cases hn : d < 0
      · rw [if_pos hn] at hv
        have q1 : decide (d < 0) = true := decide_eq_true hn
        have q2 : decide (0 < d) = false := decide_eq_false (by omega)
        by_cases hp : a2 < f
        · have q3 : decide (a2 < f) = true := decide_eq_true hp
          have hs := HYES.out k a2 hv (by unfold onP; rw [q1, q2, q3]; rfl)
          have hs1 : intV (outK (k + 1)) = intV (outK k) ++ [.int .i64 a2] := by rw [hs, intV_snoc]
          have hs2 : (outK (k + 1)).length = (outK k).length + 1 := by rw [hs]; simp
          have HP := Lib.hid hs1
          have HP2 := Lib.hid hs2
          clear hs hs1 hs2 hv
          go_wp2_with (at_builtin; refine wpList_append_own _ rfl _ _ 26 rfl w2.heap.size 3 i0 (.int .i64 0) 1 8 Tryd.underlying26 hi hz0 hz1 hz2 rfl (by decide) _ _ _ rfl (ho.alloc _) ⟨wr.heap.size, 0, none⟩ 1 1 [.int .i64 a2] rfl rfl (cell_one _ _ _) (one_cell _) (by unfold maxLen; omega) (by omega) (by simp; omega) ?_)
          intro v' w4 hown' hgrow _
          rw [← HP.out] at hown'
          have hb4 : Below w2.heap.size w2 w4 := (HQ.out.alloc hgs _).grown hgrow (by simp; omega) (fun k hk => (ho.lt k hk).1)
          have hown2 : w4.ownsRow w2.heap.size 3 1 v' (outK (k + 1)).length (intV (outK (k + 1))) := by rw [HP2.out]; exact hown'
          clear hgrow ho hown'
          go_wp2
          go_roundw
          case rel => exact ⟨k + 1, by omega, by go_num, hown2, hb4⟩
          case measure => simp [intOf]; try omega
        · have q3 : decide (a2 < f) = false := decide_eq_false hp
          have hs := HNO.out k a2 hv (by unfold onP; rw [q1, q2, q3]; rfl)
          have HP := Lib.hid hs
          clear hs hv
          go_wp2
          go_roundw
          case rel => exact ⟨k + 1, by omega, by go_num, by rw [HP.out]; exact HO.out, HQ.out⟩
          case measure => simp [intOf]; try omega
      · rw [if_neg hn] at hv
        have q1 : decide (d < 0) = false := decide_eq_false hn
        by_cases hpos : 0 < d
        · have q2 : decide (0 < d) = true := decide_eq_true hpos
          by_cases hp : f < a1
          · have q3 : decide (f < a1) = true := decide_eq_true hp
            have hs := HYES.out k a1 hv (by unfold onP; rw [q1, q2, q3]; rfl)
            have hs1 : intV (outK (k + 1)) = intV (outK k) ++ [.int .i64 a1] := by rw [hs, intV_snoc]
            have hs2 : (outK (k + 1)).length = (outK k).length + 1 := by rw [hs]; simp
            have HP := Lib.hid hs1
            have HP2 := Lib.hid hs2
            clear hs hs1 hs2 hv
            go_wp2_with (at_builtin; refine wpList_append_own _ rfl _ _ 26 rfl w2.heap.size 3 i0 (.int .i64 0) 1 8 Tryd.underlying26 hi hz0 hz1 hz2 rfl (by decide) _ _ _ rfl (ho.alloc _) ⟨wr.heap.size, 0, none⟩ 1 1 [.int .i64 a1] rfl rfl (cell_one _ _ _) (one_cell _) (by unfold maxLen; omega) (by omega) (by simp; omega) ?_)
            intro v' w4 hown' hgrow _
            rw [← HP.out] at hown'
            have hb4 : Below w2.heap.size w2 w4 := (HQ.out.alloc hgs _).grown hgrow (by simp; omega) (fun k hk => (ho.lt k hk).1)
            have hown2 : w4.ownsRow w2.heap.size 3 1 v' (outK (k + 1)).length (intV (outK (k + 1))) := by rw [HP2.out]; exact hown'
            clear hgrow ho hown'
            go_wp2
            go_roundw
            case rel => exact ⟨k + 1, by omega, by go_num, hown2, hb4⟩
            case measure => simp [intOf]; try omega
          · have q3 : decide (f < a1) = false := decide_eq_false hp
            have hs := HNO.out k a1 hv (by unfold onP; rw [q1, q2, q3]; rfl)
            have HP := Lib.hid hs
            clear hs hv
            go_wp2
            go_roundw
            case rel => exact ⟨k + 1, by omega, by go_num, by rw [HP.out]; exact HO.out, HQ.out⟩
            case measure => simp [intOf]; try omega
        · have q2 : decide (0 < d) = false := decide_eq_false hpos
          have hs := HNO.out k a1 hv (by unfold onP; rw [q1, q2]; rfl)
          have HP := Lib.hid hs
          clear hs hv
          go_wp2
          go_roundw
          case rel => exact ⟨k + 1, by omega, by go_num, by rw [HP.out]; exact HO.out, HQ.out⟩
          case measure => simp [intOf]; try omega
    · obtain rfl : k = L.length := by omega
      clear hown hbq
      go_wp2
      go_ret
      exact ⟨_, rfl, owns_base HO.out (by omega), HB.out.trans (HQ.out.mono (by omega))⟩
end Go.Proofs.YtlcnhpjmmjmkcaaDoor
