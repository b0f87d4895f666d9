
/-
  The document's sets: hoistwayref03.Items: the numbers of a set, rising. No conditions beyond the kinds.
-/
import Derived.Test.YtlcnhpjmmjmkcaaDoorRef03b
import Derived.Test.YtlcnhpjmmjmkcaaDoorOwnI
set_option linter.unusedVariables false
set_option linter.unusedSimpArgs false
namespace Go.Proofs.YtlcnhpjmmjmkcaaDoor
open Go.Joins Go.ChangeShapes Go.WideShapes Go.ChangeAt Go.RowKit Go.Deep

/-- The numbers below n of a set, rising. -/
def preI (x y n : Nat) : List Int := ((List.range n).filter (bitsF x y)).map Int.ofNat
def items (x y : Nat) : List Int := preI x y 128
theorem pre_yes {x y n : Nat} (h : bitsF x y n = true) : preI x y (n + 1) = preI x y n ++ [(n : Int)] := by
  unfold preI
  rw [List.range_succ, List.filter_append, List.map_append]
  simp [h]
theorem pre_no {x y n : Nat} (h : bitsF x y n = false) : preI x y (n + 1) = preI x y n := by
  unfold preI
  rw [List.range_succ, List.filter_append, List.map_append]
  simp [h]
theorem pre_len (x y n : Nat) : (preI x y n).length ≤ n := by
  unfold preI
  rw [List.length_map]
  have := List.length_filter_le (bitsF x y) (List.range n)
  simpa using this
theorem mem_items (x y : Nat) (k : Int) : k ∈ items x y ↔ 0 ≤ k ∧ k < 128 ∧ memB x y k = true := by
  unfold items preI
  rw [List.mem_map]
  constructor
  · rintro ⟨n, hn, rfl⟩
    rw [List.mem_filter, List.mem_range] at hn
    exact ⟨by simp, by have := hn.1; simp; omega, hn.2⟩
  · rintro ⟨h0, h1, h2⟩
    refine ⟨k.toNat, List.mem_filter.2 ⟨List.mem_range.2 (by omega), ?_⟩, by simp; omega⟩
    unfold bitsF
    rwa [show ((k.toNat : Nat) : Int) = k by omega]
/-- A call that hands out numbers that it owns. -/
def RetOwn (ys : List Int) (w : World) (e : Ending) (w' : World) : Prop := ∃ v, e = .returned v ∧ w'.ownsRow w.heap.size 3 1 v ys.length (intV ys) ∧ Below w.heap.size w w'
theorem RetOwn.ints {ys : List Int} {w : World} {e : Ending} {w' : World} (h : RetOwn ys w e w') : RetInts ys w e w' := by
  obtain ⟨v, rfl, ho, hb⟩ := h
  obtain ⟨A, C, rfl, hi⟩ := owns_ints ho
  exact ⟨A, C, rfl, hi, hb⟩
theorem owns_base {w : World} {B B' n size : Nat} {e : TypeId} {v : Value} {xs : List Value} (h : w.ownsRow B e size v n xs) (hB : B' ≤ B) : w.ownsRow B' e size v n xs := by
  refine ⟨h.1, ?_⟩
  rcases h.2 with hn | ⟨g, cap, cur, rfl, hg, rest⟩
  · exact .inl hn
  · exact .inr ⟨g, cap, cur, rfl, by omega, rest⟩
set_option maxRecDepth 20000 in
set_option maxHeartbeats 4000000 in
theorem ref03_Items (x y : Nat) (w : World) (hx : Wd x) (hy : Wd y) : Calls Tryd.prog 30 #[sv x y] w (RetOwn (items x y) w) := by
  obtain ⟨i0, hi, hz0, hz1, hz2⟩ := info_parts info_int
  have cR := fun w => ref03_Row x y w hx hy
  unfold sv at *
  have CR := Lib.hid cR
  have z := row_zero
  clear cR hx hy
  go_enter Tryd.func30, Tryd.ntmps30
  go_wp2_with (first | ((with_reducible refine hold_list ?_ ?_); (· exact Eq.refl true)) | ((with_reducible refine hold_region ?_ ?_); (· exact Eq.refl true)) | (with_reducible refine hold_loop ?_))
  have k0 : Blk (w.alloc (.cells #[.int .u64 (x : Int), .int .u64 (y : Int)] 24)) (w.heap.size) 24 #[.int .u64 (x : Int), .int .u64 (y : Int)] := (blk_at (by simp))
  have hB : Below w.heap.size w (w.alloc (.cells #[.int .u64 (x : Int), .int .u64 (y : Int)] 24)) := (bel_at (Below.refl _ _) (.cells #[.int .u64 (x : Int), .int .u64 (y : Int)] 24))
  generalize (w.alloc (.cells #[.int .u64 (x : Int), .int .u64 (y : Int)] 24)) = w1 at *
  (try clear k0c k0f k0z); have k0c := fun i => Blk.cell k0 i; have k0f := fun i => Blk.free k0 i; have k0z := Blk.lt k0
  unfold Hold
  have hag := row_agg
  have hsz := row_sizeof
  have hS := fun w => run_row_new (fun _ => false) (bitsF x y) w
  go_wp2_with (first | (first | ((with_reducible refine wpList_here ?_ ?_); (· exact Eq.refl true); first | ((with_reducible refine wpList_grow 2 ?_ ?_); (· exact Eq.refl true))) | ((with_reducible refine wp_region_any_here ?_ ?_); (· exact Eq.refl true); first | ((with_reducible refine wp_region_drawn 2 ?_ ?_ ?_ ?_); (· exact Eq.refl true); (· kernel_rfl); (· kernel_rfl)) | refine wp_region_grow (by kernel_rfl) (by kernel_rfl) ?_)); (try simp only [List.take_succ_cons, List.take_zero, List.drop_succ_cons, List.drop_zero]); (repeat (go_big_quiet_step ((first | (go_at_call 50; with_reducible exact grow_of (CR.out _)))))); (first | (refine wpQuiet_nil ?_; intro w' hb; replace hB := Below.trans hB (Below.mono hb (Below.size hB)); replace k0 := Blk.below k0 hb (Blk.lt k0); (try clear k0c k0f k0z); have k0c := fun i => Blk.cell k0 i; have k0f := fun i => Blk.free k0 i; have k0z := Blk.lt k0) | skip) | (with_reducible refine hold_loop ?_))
  all_goals (try (go_wp2_with (first | (with_reducible refine hold_loop ?_))))
  clear hag hsz hS
  have k1 : Blk (w'.alloc (.cells (rowA (bitsF x y)) 61)) w'.heap.size 61 (rowA (bitsF x y)) := Blk.new _ _ _
  replace k0 := Blk.alloc k0 (.cells (rowA (bitsF x y)) 61)
  replace hB := bel_at hB (.cells (rowA (bitsF x y)) 61)
  generalize w'.alloc (.cells (rowA (bitsF x y)) 61) = w3 at *
  (try clear k0c k0f k0z); have k0c := fun i => Blk.cell k0 i; have k0f := fun i => Blk.free k0 i; have k0z := Blk.lt k0; (try clear k1c k1f k1z); have k1c := fun i => Blk.cell k1 i; have k1f := fun i => Blk.free k1 i; have k1z := Blk.lt k1
  generalize w'.heap.size = b1 at *
  clear k0c k0f k0z k1c k1f k1z hb k0
  have hz := hB.size
  unfold Hold
  have K1 := Lib.hid k1
  have HB := Lib.hid hB
  clear k1 hB
  go_loopw [4, 5] (fun v i wr => ∃ n : Nat, n ≤ 128 ∧ i = .int .i64 n ∧ wr.ownsRow w3.heap.size 3 1 v (preI x y n).length (intV (preI x y n)) ∧ Below w3.heap.size w3 wr) (fun _ i _ => 128 - (intOf i).toNat)
  case atStart => exact ⟨0, by omega, rfl, World.ownsRow_nil _ _ _ _, Below.refl _ _⟩
  case round =>
    obtain ⟨n, hn, rfl, hown, hbq⟩ := hrel
    have hlen := pre_len x y n
    by_cases hlt : n < 128
    · have kn : wr.cell? ⟨b1, n, none⟩ = some (.bool (bitsF x y n)) := by rw [(K1.out.below hbq K1.out.lt).cell]; exact row_get _ hlt
      have HO := Lib.hid hown
      have HQ := Lib.hid hbq
      have hgs := hbq.size
      clear hown hbq
      cases hb : bitsF x y n with
      | false =>
        rw [hb] at kn
        have hp := pre_no hb
        have HP := Lib.hid hp
        clear hp
        go_wp2
        go_roundw
        case rel => exact ⟨n + 1, by omega, by go_num, by rw [HP.out]; exact HO.out, HQ.out⟩
        case measure => simp [intOf]; try omega
      | true =>
        rw [hb] at kn
        have hp : intV (preI x y (n + 1)) = intV (preI x y n) ++ [.int .i64 (n : Int)] := by rw [pre_yes hb, intV_snoc]
        have hp2 : (preI x y (n + 1)).length = (preI x y n).length + 1 := by rw [pre_yes hb]; simp
        have HP := Lib.hid hp
        have HP2 := Lib.hid hp2
        have ho := HO.out
        clear hp hp2
        go_wp2_with (at_builtin; refine wpList_append_own _ rfl _ _ 26 rfl w3.heap.size 3 i0 (.int .i64 0) 1 8 Tryd.underlying26 hi hz0 hz1 hz2 rfl (by decide) _ _ _ rfl (ho.alloc _) ⟨wr.heap.size, 0, none⟩ 1 1 [.int .i64 (n : Int)] rfl rfl ?c1 ?c2 ?c3 ?c4 ?c5 ?_)
        case c1 => exact cell_one _ _ _
        case c2 => intro u hu; simp at hu; subst hu; rfl
        case c3 => unfold maxLen; omega
        case c4 => omega
        case c5 => simp; omega
        intro v' w4 hown' hgrow _
        rw [← HP.out] at hown'
        have hb4 : Below w3.heap.size w3 w4 := (HQ.out.alloc hgs _).grown hgrow (by simp; omega) (fun k hk => (ho.lt k hk).1)
        have hown2 : w4.ownsRow w3.heap.size 3 1 v' (preI x y (n + 1)).length (intV (preI x y (n + 1))) := by rw [HP2.out]; exact hown'
        clear hgrow ho hown'
        go_wp2
        go_roundw
        case rel => exact ⟨n + 1, by omega, by go_num, hown2, hb4⟩
        case measure => simp [intOf]; try omega
    · obtain rfl : n = 128 := by omega
      have HO := Lib.hid hown
      have HQ := Lib.hid hbq
      clear hown hbq
      go_wp2
      go_ret
      exact ⟨_, rfl, owns_base HO.out (by omega), HB.out.trans (HQ.out.mono (by omega))⟩
end Go.Proofs.YtlcnhpjmmjmkcaaDoor
