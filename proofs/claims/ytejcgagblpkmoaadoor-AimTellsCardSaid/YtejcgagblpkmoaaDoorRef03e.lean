/-
  Rows of 128 booleans by value: loads and stores of the whole row, single cells. No conditions. A slice of ints that a call makes by append; slices.Equal of slices that read as one list. No conditions. The document's sets: hoistwayref03.Row. No conditions beyond the kinds. The document's sets: hoistwayref03.Make. No conditions. The document's sets: hoistwayref03.Items: the numbers of a set, rising. No conditions beyond the kinds. The document's sets: hoistwayref03.Of, Has. Conditions: at most 1000000 numbers; the numbers fit. The document's sets: hoistwayref03.Has. Condition: the number fits.
-/
import Derived.Test.YtejcgagblpkmoaaDoorSetW2
import Derived.Test.YtejcgagblpkmoaaDoorSeq
import Derived.Deep.WholeRow
import Derived.Deep.AppendLies
import Derived.OwnWalk
set_option linter.unusedVariables false
set_option linter.unusedSimpArgs false
namespace Go.Proofs.YtejcgagblpkmoaaDoor
open Go.Joins Go.ChangeShapes Go.WideShapes Go.ChangeAt Go.RowKit Go.Deep

def rowA (f : Nat → Bool) : Array Value := ((List.range 128).map fun i => Value.bool (f i)).toArray
theorem row_size (f : Nat → Bool) : (rowA f).size = 128 := by simp [rowA]
theorem row_get (f : Nat → Bool) {i : Nat} (h : i < 128) : (rowA f)[i]? = some (.bool (f i)) := by
  unfold rowA
  simp [h]
theorem row_ext {f g : Nat → Bool} (h : ∀ i, i < 128 → f i = g i) : rowA f = rowA g := by
  unfold rowA
  congr 1
  apply List.map_congr_left
  intro i hi
  rw [h i (List.mem_range.1 hi)]
theorem row_set (f : Nat → Bool) (i : Nat) (b : Bool) : (rowA f).setIfInBounds i (.bool b) = rowA (fun j => if j = i then b else f j) := by
  unfold rowA
  simp only [List.setIfInBounds_toArray]
  congr 1
  apply List.ext_getElem?
  intro j
  rw [List.getElem?_set]
  simp only [List.length_map, List.length_range, List.getElem?_map]
  by_cases h : i = j
  · subst h
    by_cases hl : i < 128
    · simp [hl]
    · simp [hl]
  · rw [if_neg h]
    by_cases hl : j < 128
    · have h' : ¬ j = i := fun e => h e.symm
      simp [hl, h']
    · simp [hl]
theorem row_one (f : Nat → Bool) : (rowA f).all (·.oneCell') = true := by
  rw [Array.all_eq_true_iff_forall_mem]
  intro v hv
  simp [rowA] at hv
  obtain ⟨i, _, rfl⟩ := hv
  rfl
theorem row_info : (Tryd.prog.info? 57).map (fun i => (i.zero, i.size)) = some (some (.agg (rowA fun _ => false)), 128) := by kernel_rfl
theorem row_zero : ∀ w, (zeroValue 57).run Tryd.prog w = .ok (.agg (rowA fun _ => false)) w := (zero_of_info row_info).1
theorem row_infosize : (Tryd.prog.info? 57).map (·.size) = some 128 := (zero_of_info row_info).2
theorem row_agg : ∀ w, (isAgg 57).run Tryd.prog w = .ok true w := fun w => by
  unfold isAgg
  rw [Sem.run_bind, run_underlying Tryd.underlying57 w]
  rfl
theorem row_sizeof : ∀ w, (sizeOf 57).run Tryd.prog w = .ok 128 w := fun w => by
  have h := row_infosize
  cases hq : Tryd.prog.info? 57 with
  | none => simp [hq] at h
  | some i =>
    rw [hq] at h
    simp at h
    simp [sizeOf, typeInfo, hq, h]
theorem row_load {w : World} {b : Nat} {t : TypeId} {f : Nat → Bool} (h : Blk w b t (rowA f)) : (loadCellsFrom ⟨b, 0, none⟩ 0 128 #[]).run Tryd.prog w = .ok (rowA f) w := by
  have := run_loadCells_list (P := Tryd.prog) w ⟨b, 0, none⟩ (rowA f).toList (fun j v hv => by
    have hadd : (⟨b, 0, none⟩ : Addr).add j = ⟨b, j, none⟩ := by unfold Addr.add; split <;> simp_all
    rw [hadd, h.cell]
    simpa using hv)
  simpa [loadCells, row_size] using this
theorem row_store {w : World} {b : Nat} {t : TypeId} {f g : Nat → Bool} (h : Blk w b t (rowA f)) : (storeCells ⟨b, 0, none⟩ (rowA g).toList 0).run Tryd.prog w = .ok () (w.setRow b (rowA g)) := by
  have := run_storeCells_from (P := Tryd.prog) b t (rowA g).toList 0 (rowA f) w h (by simp [row_size]) (fun v hv => (Array.all_eq_true_iff_forall_mem.1 (row_one g)) v (by simpa using hv))
  simpa using this
theorem blk_row {w : World} {b : Nat} {t : TypeId} {c c' : Array Value} (h : Blk w b t c) : Blk (w.setRow b c') b t c' := setRow_heap w b c c' t _ h
theorem blk_rowfar {w : World} {b k : Nat} {t : TypeId} {c c' : Array Value} (h : Blk w k t c) (hk : k ≠ b) : Blk (w.setRow b c') k t c := (setRow_other w b k c' hk).trans h
theorem below_row {B : Nat} {a w : World} {b : Nat} {c' : Array Value} (h : Below B a w) (hb : B ≤ b) : Below B a (w.setRow b c') :=
  h.trans ⟨rfl, rfl, rfl, by simp, fun k hk => (setRow_other w b k c' (by omega))⟩
theorem row_load_step {ops : Array Oper} {rest : List Oper} {a : Act} {w : World} {Q : Exit → Act → World → Prop} {d k : Nat} {ty : TypeId} {pos : String} {af : Array Edge} {g : Nat} {t : TypeId} {f : Nat → Bool} (hx : a.eval (.tmp k) = .pointer (some ⟨g, 0, none⟩)) (hb : Blk w g t (rowA f))
    (h : wpList Tryd.prog ops Q rest (a.put (some d) (.agg (rowA f))) w) : wpList Tryd.prog ops Q ({ dst := some d, op := .load 57 (.tmp k), type := ty, pos := pos, after := af, guard := none } :: rest) a w :=
  wpList_load_row rfl _ _ rfl g hx t (rowA f) (0, 0) _ hb Tryd.underlying57 rfl (by rw [row_size]; exact row_infosize) h
theorem row_store_step {ops : Array Oper} {rest : List Oper} {a : Act} {w : World} {Q : Exit → Act → World → Prop} {k j : Nat} {ty : TypeId} {pos : String} {af : Array Edge} {g : Nat} {t : TypeId} {f f' : Nat → Bool} (hx : a.eval (.tmp k) = .pointer (some ⟨g, 0, none⟩)) (hy : a.eval (.tmp j) = .agg (rowA f')) (hb : Blk w g t (rowA f))
    (h : wpList Tryd.prog ops Q rest a (w.setRow g (rowA f'))) : wpList Tryd.prog ops Q ({ dst := none, op := .store 57 (.tmp k) (.tmp j), type := ty, pos := pos, after := af, guard := none } :: rest) a w :=
  wpList_store_row rfl _ _ _ rfl g (rowA f') hx hy t (rowA f) hb (by rw [row_size]; exact row_infosize) (by rw [row_size, row_size]) (row_one _) h
theorem row_store_new {ops : Array Oper} {rest : List Oper} {a : Act} {w : World} {Q : Exit → Act → World → Prop} {k j : Nat} {ty : TypeId} {pos : String} {af : Array Edge} {t : TypeId} {f f' : Nat → Bool} (hx : a.eval (.tmp k) = .pointer (some ⟨w.heap.size, 0, none⟩)) (hy : a.eval (.tmp j) = .agg (rowA f'))
    (h : wpList Tryd.prog ops Q rest a (w.alloc (.cells (rowA f') t))) : wpList Tryd.prog ops Q ({ dst := none, op := .store 57 (.tmp k) (.tmp j), type := ty, pos := pos, after := af, guard := none } :: rest) a (w.alloc (.cells (rowA f) t)) := by
  refine row_store_step hx hy (Blk.new w t (rowA f)) ?_
  rw [World.setRow_alloc_new]
  exact h
theorem run_row_new (f f' : Nat → Bool) (w : World) : (storeCells ⟨w.heap.size, 0, none⟩ (rowA f').toList 0).run Tryd.prog (w.alloc (.cells (rowA f) 57)) = .ok () (w.alloc (.cells (rowA f') 57)) := by
  rw [row_store (Blk.new w _ (rowA f)), World.setRow_alloc_new]
theorem row_result {fn : Func} {p : Tmp} (h : fn.results = #[.cell p 57]) {a : Act} {w : World} {g : Nat} {t : TypeId} {f : Nat → Bool} (hx : a.tmps.getD p undef = .pointer (some ⟨g, 0, none⟩)) (hb : Blk w g t (rowA f)) : (results fn a.tmps).run Tryd.prog w = .ok (.agg (rowA f)) w :=
  results_cell_row h a.tmps w g t (rowA f) (0, 0) _ hx hb Tryd.underlying57 rfl (by rw [row_size]; exact row_infosize)
end Go.Proofs.YtejcgagblpkmoaaDoor
set_option linter.unusedVariables false
set_option linter.unusedSimpArgs false
namespace Go.Proofs.YtejcgagblpkmoaaDoor
open Go.Joins Go.ChangeShapes Go.WideShapes Go.ChangeAt Go.RowKit Go.Deep

theorem info_int : (Tryd.prog.info? 3).map (fun i => (i.zero, i.size, i.bytes)) = some (some (.int .i64 0), 1, 8) := by kernel_rfl
/-- What a call owns stays its own while nothing that was there turns. -/
theorem ownsRow_below {w w' : World} {base size n : Nat} {e : TypeId} {v : Value} {xs : List Value} (h : w.ownsRow base e size v n xs) (hb : Below w.heap.size w w') : w'.ownsRow base e size v n xs := by
  refine ⟨h.1, ?_⟩
  rcases h.2 with hn | ⟨g, cap, cur, rfl, hg, hgg, rest⟩
  · exact .inl hn
  · exact .inr ⟨g, cap, cur, rfl, hg, (hb.block g (Array.getElem?_eq_some_iff.1 hgg).1).trans hgg, rest⟩
theorem cell_one (w : World) (x : Value) (t : TypeId) : ∀ j u, [x][j]? = some u → (w.alloc (.cells #[x] t)).cell? ((⟨w.heap.size, 0, none⟩ : Addr).add j) = some u := by
  intro j u hu
  match j, hu with
  | 0, hu =>
    simp at hu
    subst hu
    exact (Blk.new w t #[x]).cell 0
theorem one_cell {k : IntKind} (x : Int) : ∀ u ∈ [Value.int k x], u.oneCell' = true := by
  intro u hu
  simp at hu
  subst hu
  rfl
theorem held_mk {B : World} {w' : World} (h : Below B.heap.size B w') : Below B.heap.size B w' ∧ ∀ b o, b < B.heap.size → w'.cell? ⟨b, o, none⟩ = B.cell? ⟨b, o, none⟩ :=
  ⟨h, fun b o hlt => h.cell (p := ⟨b, o, none⟩) hlt⟩
/-- Numbers as values. -/
def intV (ys : List Int) : List Value := ys.map (Value.int .i64)
theorem intV_snoc (ys : List Int) (y : Int) : intV (ys ++ [y]) = intV ys ++ [.int .i64 y] := by simp [intV]
/-- What is owned, as a slice that reads as the list. -/
theorem owns_ints {w : World} {base : Nat} {e : TypeId} {v : Value} {ys : List Int} (h : w.ownsRow base e 1 v ys.length (intV ys)) : ∃ A C, v = .slice A ys.length C ∧ Ints w A ys := by
  rcases h.2 with ⟨rfl, hz⟩ | ⟨g, cap, cur, rfl, hbg, hg, hnc, hcm, hcs, htake⟩
  · exact ⟨none, 0, by rw [hz], fun hp => by omega⟩
  · refine ⟨_, _, rfl, fun hp => ⟨g, 0, rfl, (Array.getElem?_eq_some_iff.1 hg).1, fun i hi => ?_⟩⟩
    have := h.cellAt i (by omega)
    rw [Nat.zero_add, this]
    simp [intV, at0, List.getD, List.getElem?_eq_getElem hi]
theorem owns_ints_n {w : World} {base n : Nat} {e : TypeId} {v : Value} {ys : List Int} (h : w.ownsRow base e 1 v n (intV ys)) (hn : n = ys.length) : ∃ A C, v = .slice A ys.length C ∧ Ints w A ys := by
  subst hn
  exact owns_ints h
/-- The first k, each turned to a number. -/
def preM {α : Type} (f : α → Int) (ds : List α) (k : Nat) : List Int := (ds.take k).map f
theorem preM_zero {α : Type} (f : α → Int) (ds : List α) : preM f ds 0 = [] := by simp [preM]
theorem preM_succ {α : Type} (f : α → Int) {ds : List α} {k : Nat} {t : α} (h : ds[k]? = some t) : intV (preM f ds (k + 1)) = intV (preM f ds k) ++ [.int .i64 (f t)] := by
  rw [← intV_snoc]; simp [preM, List.take_add_one, h]
theorem preM_all {α : Type} (f : α → Int) (ds : List α) : preM f ds ds.length = ds.map f := by simp [preM]
/-- A call that hands out numbers in new memory, or none. -/
def RetInts (ys : List Int) (w : World) (e : Ending) (w' : World) : Prop := ∃ A C, e = .returned (.slice A ys.length C) ∧ Ints w' A ys ∧ Below w.heap.size w w'
end Go.Proofs.YtejcgagblpkmoaaDoor
set_option linter.unusedVariables false
set_option linter.unusedSimpArgs false
namespace Go.Proofs.YtejcgagblpkmoaaDoor
open Go.Joins Go.ChangeShapes Go.WideShapes Go.ChangeAt Go.RowKit Go.Deep

/-- The words while their bits are read off. -/
def hxN (x : Nat) : Nat → Nat
  | 0 => x
  | n + 1 => if n < 64 then hxN x n / 2 else hxN x n
def hyN (y : Nat) : Nat → Nat
  | 0 => y
  | n + 1 => if n < 64 then hyN y n else hyN y n / 2
theorem wd_hx {x : Nat} (h : Wd x) (n : Nat) : Wd (hxN x n) := by
  induction n with
  | zero => exact h
  | succ n ih => unfold hxN; split; (exact Nat.lt_of_le_of_lt (Nat.div_le_self _ _) ih); exact ih
theorem wd_hy {x : Nat} (h : Wd x) (n : Nat) : Wd (hyN x n) := by
  induction n with
  | zero => exact h
  | succ n ih => unfold hyN; split; exact ih; exact Nat.lt_of_le_of_lt (Nat.div_le_self _ _) ih
theorem hx_eq (x n : Nat) (h : n ≤ 64) : hxN x n = x / 2 ^ n := by
  induction n with
  | zero => simp [hxN]
  | succ n ih =>
    unfold hxN
    rw [if_pos (by omega), ih (by omega), Nat.div_div_eq_div_mul, Nat.pow_succ]
theorem hy_low (y n : Nat) (h : n ≤ 64) : hyN y n = y := by
  induction n with
  | zero => rfl
  | succ n ih =>
    unfold hyN
    rw [if_pos (by omega), ih (by omega)]
theorem hy_eq (y m : Nat) : hyN y (64 + m) = y / 2 ^ m := by
  induction m with
  | zero => rw [Nat.add_zero, hy_low y 64 (by omega)]; simp
  | succ m ih =>
    rw [show 64 + (m + 1) = (64 + m) + 1 by omega]
    unfold hyN
    rw [if_neg (by omega), ih, Nat.div_div_eq_div_mul, Nat.pow_succ]
theorem hx_bit (x y n : Nat) (h : n < 64) : (((hxN x n % 2 : Nat) : Int) == 1) = memB x y (n : Int) := by
  rw [hx_eq x n (by omega), bit_eq, mem_low h]
theorem hy_bit (x y n : Nat) (h : 64 ≤ n) (h2 : n < 128) : (((hyN y n % 2 : Nat) : Int) == 1) = memB x y (n : Int) := by
  obtain ⟨m, rfl⟩ : ∃ m, n = 64 + m := ⟨n - 64, by omega⟩
  rw [hy_eq y m, bit_eq]
  have := mem_high (x := x) (y := y) (m := m) (by omega)
  rw [← this]
  congr 1
  omega
def bitsF (x y : Nat) (i : Nat) : Bool := memB x y (i : Int)
def partF (x y n : Nat) (i : Nat) : Bool := decide (i < n) && bitsF x y i
theorem part_succ (x y n : Nat) : rowA (fun j => if j = n then memB x y (n : Int) else partF x y n j) = rowA (partF x y (n + 1)) := by
  apply row_ext
  intro i _
  unfold partF bitsF
  by_cases h : i = n
  · subst h; simp
  · rw [if_neg h]
    by_cases h2 : i < n
    · simp [h2]; omega
    · have : ¬ i < n + 1 := by omega
      simp [h2, this]
theorem part_full (x y : Nat) : rowA (partF x y 128) = rowA (bitsF x y) := row_ext fun i hi => by simp [partF, hi]
theorem tdiv64_low {n : Nat} (h : n < 64) : Int.tdiv (n : Int) 64 = 0 := by
  rw [Int.tdiv_eq_ediv_of_nonneg (by omega)]; omega
theorem tdiv64_high {n : Nat} (h : 64 ≤ n) (h2 : n < 128) : Int.tdiv (n : Int) 64 = 1 := by
  rw [Int.tdiv_eq_ediv_of_nonneg (by omega)]; omega
set_option maxRecDepth 20000 in
set_option maxHeartbeats 4000000 in
theorem ref03_Row (x y : Nat) (w : World) (hx : Wd x) (hy : Wd y) : Calls Tryd.prog 23 #[sv x y] w fun e w' => e = .returned (.agg (rowA (bitsF x y))) ∧ Below w.heap.size w w' := by
  unfold sv
  have z := row_zero
  go_enter Tryd.func23, Tryd.ntmps23
  go_wp2
  have k0 : Blk (((w.alloc (.cells #[.int .u64 (x : Int), .int .u64 (y : Int)] 38)).alloc (.cells (rowA fun _ => false) 57)).alloc (.cells (rowA fun _ => false) 57)) (w.heap.size) 38 #[.int .u64 (x : Int), .int .u64 (y : Int)] := (Blk.alloc (Blk.alloc (blk_at (by simp)) (.cells (rowA fun _ => false) 57)) (.cells (rowA fun _ => false) 57))
  have k1 : Blk (((w.alloc (.cells #[.int .u64 (x : Int), .int .u64 (y : Int)] 38)).alloc (.cells (rowA fun _ => false) 57)).alloc (.cells (rowA fun _ => false) 57)) (w.heap.size + 1) 57 (rowA fun _ => false) := (Blk.alloc (blk_at (by simp)) (.cells (rowA fun _ => false) 57))
  have k2 : Blk (((w.alloc (.cells #[.int .u64 (x : Int), .int .u64 (y : Int)] 38)).alloc (.cells (rowA fun _ => false) 57)).alloc (.cells (rowA fun _ => false) 57)) (w.heap.size + 2) 57 (rowA fun _ => false) := (blk_at (by simp))
  have hB : Below w.heap.size w (((w.alloc (.cells #[.int .u64 (x : Int), .int .u64 (y : Int)] 38)).alloc (.cells (rowA fun _ => false) 57)).alloc (.cells (rowA fun _ => false) 57)) := (bel_at (bel_at (bel_at (Below.refl _ _) (.cells #[.int .u64 (x : Int), .int .u64 (y : Int)] 38)) (.cells (rowA fun _ => false) 57)) (.cells (rowA fun _ => false) 57))
  generalize (((w.alloc (.cells #[.int .u64 (x : Int), .int .u64 (y : Int)] 38)).alloc (.cells (rowA fun _ => false) 57)).alloc (.cells (rowA fun _ => false) 57)) = w1 at *
  (try clear k0c k0f k0z); have k0c := fun i => Blk.cell k0 i; have k0f := fun i => Blk.free k0 i; have k0z := Blk.lt k0; (try clear k1c k1f k1z); have k1c := fun i => Blk.cell k1 i; have k1f := fun i => Blk.free k1 i; have k1z := Blk.lt k1; (try clear k2c k2f k2z); have k2c := fun i => Blk.cell k2 i; have k2f := fun i => Blk.free k2 i; have k2z := Blk.lt k2
  have hp0 : rowA (fun _ => false) = rowA (partF x y 0) := row_ext fun i _ => by simp [partF]
  rw [hp0] at k2
  have K1 := Lib.hid k1
  clear k0c k0f k0z k1c k1f k1z k2c k2f k2z k1
  go_loopw [4] (fun i wr => ∃ n : Nat, n ≤ 128 ∧ i = .int .i64 n ∧ Blk wr w.heap.size 38 #[.int .u64 (hxN x n : Nat), .int .u64 (hyN y n : Nat)] ∧ Blk wr (w.heap.size + 1) 57 (rowA fun _ => false) ∧ Blk wr (w.heap.size + 2) 57 (rowA (partF x y n)) ∧ Below w.heap.size w wr) (fun i _ => 128 - (intOf i).toNat)
  case atStart => exact ⟨0, by omega, rfl, k0, K1.out, k2, hB⟩
  case round =>
    obtain ⟨n, hn, rfl, b0, b1, b2, hb⟩ := hrel
    have k0c := fun i => Blk.cell b0 i
    have k0f := fun i => Blk.free b0 i
    have k2f := fun i => Blk.free b2 i
    by_cases hlt : n < 128
    · have k2n : wr.cell? ⟨w.heap.size + 2, n, none⟩ = some (.bool (partF x y n n)) := by rw [b2.cell]; exact row_get _ hlt
      have q1 : decide ((n : Int) < 128) = true := decide_eq_true (by omega)
      have B0 := Lib.hid b0
      have B1 := Lib.hid b1
      have B2 := Lib.hid b2
      clear b0 b1 b2
      have hs : (rowA (partF x y n)).setIfInBounds n (.bool (memB x y (n : Int))) = rowA (partF x y (n + 1)) := by rw [row_set, part_succ]
      rcases Nat.lt_or_ge n 64 with h64 | h64
      · have e1 := tdiv64_low h64
        have e4 : (((hxN x n : Nat) : Int) % 2 == 1) = memB x y (n : Int) := by rw [← hx_bit x y n h64]; rfl
        have e5 : hxN x (n + 1) = hxN x n / 2 := by show (if n < 64 then _ else _) = _; rw [if_pos h64]
        have e6 : hyN y (n + 1) = hyN y n := by show (if n < 64 then _ else _) = _; rw [if_pos h64]
        have e3 : IntKind.u64.wrap (((hxN x n : Nat) : Int) / 2) = ((hxN x (n + 1) : Nat) : Int) := by
          rw [e5, IntWalk.u64_in _ (by have := wd_hx hx n; unfold Wd at this; omega)]; rfl
        have RX := Lib.hid e6
        generalize memB x y (n : Int) = r at *
        obtain ⟨v, hv⟩ : ∃ v, v = hxN x (n + 1) := ⟨_, rfl⟩
        rw [← hv] at e3
        have HV := Lib.hid hv
        clear hv e5 e6
        go_wp2_with fail
        go_roundw
        case rel => exact ⟨n + 1, by omega, by go_num, by rw [← HV.out, RX.out]; exact (B0.out.far (p := ⟨w.heap.size + 2, n, none⟩) (by simp) _).set_ 0 _, (B1.out.far (p := ⟨w.heap.size + 2, n, none⟩) (by simp) _).far (p := ⟨w.heap.size, 0, none⟩) (by simp) _, by rw [← hs]; exact (B2.out.set_ n _).far (p := ⟨w.heap.size, 0, none⟩) (by simp) _, (hb.setCell (p := ⟨w.heap.size + 2, n, none⟩) (by simp) _).setCell (p := ⟨w.heap.size, 0, none⟩) (by simp) _⟩
        case measure => simp [intOf]; omega
      · have e1 := tdiv64_high h64 hlt
        have e4 : (((hyN y n : Nat) : Int) % 2 == 1) = memB x y (n : Int) := by rw [← hy_bit x y n h64 hlt]; rfl
        have e5 : hxN x (n + 1) = hxN x n := by show (if n < 64 then _ else _) = _; rw [if_neg (by omega)]
        have e6 : hyN y (n + 1) = hyN y n / 2 := by show (if n < 64 then _ else _) = _; rw [if_neg (by omega)]
        have e3 : IntKind.u64.wrap (((hyN y n : Nat) : Int) / 2) = ((hyN y (n + 1) : Nat) : Int) := by
          rw [e6, IntWalk.u64_in _ (by have := wd_hy hy n; unfold Wd at this; omega)]; rfl
        have RX := Lib.hid e5
        generalize memB x y (n : Int) = r at *
        obtain ⟨v, hv⟩ : ∃ v, v = hyN y (n + 1) := ⟨_, rfl⟩
        rw [← hv] at e3
        have HV := Lib.hid hv
        clear hv e5 e6
        go_wp2_with fail
        go_roundw
        case rel => exact ⟨n + 1, by omega, by go_num, by rw [← HV.out, RX.out]; exact (B0.out.far (p := ⟨w.heap.size + 2, n, none⟩) (by simp) _).set_ 1 _, (B1.out.far (p := ⟨w.heap.size + 2, n, none⟩) (by simp) _).far (p := ⟨w.heap.size, 1, none⟩) (by simp) _, by rw [← hs]; exact (B2.out.set_ n _).far (p := ⟨w.heap.size, 1, none⟩) (by simp) _, (hb.setCell (p := ⟨w.heap.size + 2, n, none⟩) (by simp) _).setCell (p := ⟨w.heap.size, 1, none⟩) (by simp) _⟩
        case measure => simp [intOf]; omega
    · obtain rfl : n = 128 := by omega
      rw [part_full] at b2
      have hB2 := below_row (b := w.heap.size + 1) (c' := rowA (bitsF x y)) hb (by omega)
      have B1 := blk_row (c' := rowA (bitsF x y)) b1
      clear k0c k0f k2f
      have S := row_store (g := bitsF x y) b1
      go_wp2_with (first | ((with_reducible refine row_load_step ?_ b2 ?_); (· rfl); simp only [Act.put, List.setIfInBounds_toArray, List.set_cons_succ, List.set_cons_zero]) | ((with_reducible refine row_store_step ?_ ?_ b1 ?_); (· rfl); (· rfl)))
      all_goals (try (go_wp2_with (first | ((with_reducible refine row_load_step ?_ b2 ?_); (· rfl); simp only [Act.put, List.setIfInBounds_toArray, List.set_cons_succ, List.set_cons_zero]) | ((with_reducible refine row_store_step ?_ ?_ b1 ?_); (· rfl); (· rfl)))))
      all_goals (try (go_wp2_with (first | ((with_reducible refine row_load_step ?_ b2 ?_); (· rfl); simp only [Act.put, List.setIfInBounds_toArray, List.set_cons_succ, List.set_cons_zero]) | ((with_reducible refine row_store_step ?_ ?_ b1 ?_); (· rfl); (· rfl)))))
      refine bodyPost_ret (v := .agg (rowA (bitsF x y))) (row_result Tryd.results23 rfl B1) rfl ⟨rfl, hB2⟩
end Go.Proofs.YtejcgagblpkmoaaDoor
set_option linter.unusedVariables false
set_option linter.unusedSimpArgs false
namespace Go.Proofs.YtejcgagblpkmoaaDoor
open Go.Joins Go.ChangeShapes Go.WideShapes Go.ChangeAt Go.RowKit Go.Deep

def b2n (b : Bool) : Nat := if b then 1 else 0
/-- The words behind the first m rounds. -/
def hiN (f : Nat → Bool) : Nat → Nat
  | 0 => 0
  | m + 1 => if m < 64 then 2 * hiN f m + b2n (f (127 - m)) else hiN f m
def loN (f : Nat → Bool) : Nat → Nat
  | 0 => 0
  | m + 1 => if m < 64 then loN f m else 2 * loN f m + b2n (f (127 - m))
theorem b2n_le (b : Bool) : b2n b ≤ 1 := by unfold b2n; split <;> omega
theorem hi_lt (f : Nat → Bool) (m : Nat) (h : m ≤ 64) : hiN f m < 2 ^ m := by
  induction m with
  | zero => simp [hiN]
  | succ m ih =>
    unfold hiN
    rw [if_pos (by omega), Nat.pow_succ]
    have := ih (by omega)
    have := b2n_le (f (127 - m))
    omega
theorem hi_top (f : Nat → Bool) (m : Nat) : hiN f (64 + m) = hiN f 64 := by
  induction m with
  | zero => rfl
  | succ m ih =>
    rw [show 64 + (m + 1) = (64 + m) + 1 by omega]
    show (if 64 + m < 64 then _ else _) = _
    rw [if_neg (by omega), ih]
theorem lo_zero (f : Nat → Bool) (m : Nat) (h : m ≤ 64) : loN f m = 0 := by
  induction m with
  | zero => rfl
  | succ m ih =>
    unfold loN
    rw [if_pos (by omega), ih (by omega)]
theorem lo_lt (f : Nat → Bool) (m : Nat) : loN f (64 + m) < 2 ^ m := by
  induction m with
  | zero => rw [lo_zero f _ (by omega)]; simp
  | succ m ih =>
    rw [show 64 + (m + 1) = (64 + m) + 1 by omega]
    show (if 64 + m < 64 then _ else _) < _
    rw [if_neg (by omega), Nat.pow_succ]
    have := b2n_le (f (127 - (64 + m)))
    omega
theorem wd_hi (f : Nat → Bool) (m : Nat) : Wd (hiN f m) := by
  rcases Nat.lt_or_ge m 64 with h | h
  · have := hi_lt f m (by omega)
    have h2 : 2 ^ m ≤ 2 ^ 64 := Nat.pow_le_pow_right (by omega) (by omega)
    show _ < 2 ^ 64
    omega
  · obtain ⟨k, rfl⟩ : ∃ k, m = 64 + k := ⟨m - 64, by omega⟩
    rw [hi_top]
    have := hi_lt f 64 (by omega)
    exact this
theorem wd_lo (f : Nat → Bool) (m : Nat) (hm : m ≤ 128) : Wd (loN f m) := by
  rcases Nat.lt_or_ge m 64 with h | h
  · rw [lo_zero f m (by omega)]; show 0 < 2 ^ 64; omega
  · obtain ⟨k, rfl⟩ : ∃ k, m = 64 + k := ⟨m - 64, by omega⟩
    have := lo_lt f k
    have h2 : 2 ^ k ≤ 2 ^ 64 := Nat.pow_le_pow_right (by omega) (by omega)
    show _ < 2 ^ 64
    omega
theorem bit_double (x j : Nat) (b : Bool) : (2 * x + b2n b).testBit j = if j = 0 then b else x.testBit (j - 1) := by
  cases j with
  | zero => cases b <;> simp [b2n, Nat.testBit_zero] <;> omega
  | succ j =>
    rw [if_neg (by omega), Nat.testBit_succ, show (2 * x + b2n b) / 2 = x by have := b2n_le b; omega]
    rfl
theorem hi_bit (f : Nat → Bool) (m : Nat) (h : m ≤ 64) (j : Nat) : (hiN f m).testBit j = (decide (j < m) && f (128 - m + j)) := by
  induction m generalizing j with
  | zero => simp [hiN]
  | succ m ih =>
    unfold hiN
    rw [if_pos (by omega), bit_double]
    cases j with
    | zero => rw [if_pos rfl]; simp; try (congr 1; omega)
    | succ j =>
      rw [if_neg (by omega), Nat.add_sub_cancel, ih (by omega) j]
      have e : 128 - m + j = 128 - (m + 1) + (j + 1) := by omega
      rw [e]
      congr 1
      by_cases hj : j < m
      · rw [decide_eq_true hj, decide_eq_true (by omega)]
      · rw [decide_eq_false hj, decide_eq_false (by omega)]
theorem lo_bit (f : Nat → Bool) (m : Nat) (h : m ≤ 64) (j : Nat) : (loN f (64 + m)).testBit j = (decide (j < m) && f (64 - m + j)) := by
  induction m generalizing j with
  | zero => rw [lo_zero f _ (by omega)]; simp
  | succ m ih =>
    rw [show 64 + (m + 1) = (64 + m) + 1 by omega]
    show (if 64 + m < 64 then loN f (64 + m) else 2 * loN f (64 + m) + b2n (f (127 - (64 + m)))).testBit j = _
    rw [if_neg (by omega), bit_double]
    cases j with
    | zero =>
      rw [if_pos rfl]; simp; try (congr 1; omega)
    | succ j =>
      rw [if_neg (by omega), Nat.add_sub_cancel, ih (by omega) j]
      have e : 64 - m + j = 64 - (m + 1) + (j + 1) := by omega
      rw [e]
      congr 1
      by_cases hj : j < m
      · rw [decide_eq_true hj, decide_eq_true (by omega)]
      · rw [decide_eq_false hj, decide_eq_false (by omega)]
/-- The words of a row. -/
def mkX (f : Nat → Bool) : Nat := loN f 128
def mkY (f : Nat → Bool) : Nat := hiN f 128
theorem wd_mk (f : Nat → Bool) : Wd (mkX f) ∧ Wd (mkY f) := ⟨wd_lo f 128 (by omega), wd_hi f 128⟩
theorem mem_mk (f : Nat → Bool) (n : Int) (h : 0 ≤ n) (h2 : n < 128) : memB (mkX f) (mkY f) n = f n.toNat := by
  unfold memB mkX mkY
  by_cases hn : n < 64
  · rw [if_pos ⟨h, hn⟩, show (128 : Nat) = 64 + 64 from rfl, lo_bit f 64 (by omega)]
    have : n.toNat < 64 := by omega
    simp [this]
  · rw [if_neg (by omega), if_pos (by omega), show (128 : Nat) = 64 + 64 from rfl, hi_top, hi_bit f 64 (by omega)]
    have : (n - 64).toNat < 64 := by omega
    simp [this]
    congr 1
    omega
theorem mem_mk_out (f : Nat → Bool) (n : Int) (h : n < 0 ∨ 128 ≤ n) : memB (mkX f) (mkY f) n = false := mem_out h
/-- A set is the words that Make makes of its row. -/
theorem mk_bits {x y : Nat} {f : Nat → Bool} (hx : Wd x) (hy : Wd y) (h : ∀ n, n < 128 → f n = memB x y (n : Int)) : mkX f = x ∧ mkY f = y :=
  set_ext (wd_mk f).1 (wd_mk f).2 hx hy fun n a b => by
    rw [mem_mk f n a b, h n.toNat (by omega)]
    congr 1
    omega
set_option maxRecDepth 20000 in
set_option maxHeartbeats 4000000 in
theorem ref03_Make (f : Nat → Bool) (w : World) : Calls Tryd.prog 24 #[.agg (rowA f)] w fun e w' => e = .returned (sv (mkX f) (mkY f)) ∧ Below w.heap.size w w' := by
  unfold sv mkX mkY
  go_enter Tryd.func24, Tryd.ntmps24
  go_wp2
  have k0 : Blk (((w.alloc (.cells (rowA f) 57)).alloc (.cells #[.int .u64 0, .int .u64 0] 38)).alloc (.cells #[.int .u64 0, .int .u64 0] 38)) (w.heap.size) 57 (rowA f) := (Blk.alloc (Blk.alloc (blk_at (by simp)) (.cells #[.int .u64 0, .int .u64 0] 38)) (.cells #[.int .u64 0, .int .u64 0] 38))
  have k1 : Blk (((w.alloc (.cells (rowA f) 57)).alloc (.cells #[.int .u64 0, .int .u64 0] 38)).alloc (.cells #[.int .u64 0, .int .u64 0] 38)) (w.heap.size + 1) 38 #[.int .u64 0, .int .u64 0] := (Blk.alloc (blk_at (by simp)) (.cells #[.int .u64 0, .int .u64 0] 38))
  have k2 : Blk (((w.alloc (.cells (rowA f) 57)).alloc (.cells #[.int .u64 0, .int .u64 0] 38)).alloc (.cells #[.int .u64 0, .int .u64 0] 38)) (w.heap.size + 2) 38 #[.int .u64 0, .int .u64 0] := (blk_at (by simp))
  have hB : Below w.heap.size w (((w.alloc (.cells (rowA f) 57)).alloc (.cells #[.int .u64 0, .int .u64 0] 38)).alloc (.cells #[.int .u64 0, .int .u64 0] 38)) := (bel_at (bel_at (bel_at (Below.refl _ _) (.cells (rowA f) 57)) (.cells #[.int .u64 0, .int .u64 0] 38)) (.cells #[.int .u64 0, .int .u64 0] 38))
  generalize (((w.alloc (.cells (rowA f) 57)).alloc (.cells #[.int .u64 0, .int .u64 0] 38)).alloc (.cells #[.int .u64 0, .int .u64 0] 38)) = w1 at *
  (try clear k0c k0f k0z); have k0c := fun i => Blk.cell k0 i; have k0f := fun i => Blk.free k0 i; have k0z := Blk.lt k0; (try clear k1c k1f k1z); have k1c := fun i => Blk.cell k1 i; have k1f := fun i => Blk.free k1 i; have k1z := Blk.lt k1; (try clear k2c k2f k2z); have k2c := fun i => Blk.cell k2 i; have k2f := fun i => Blk.free k2 i; have k2z := Blk.lt k2
  clear k0c k0f k0z k1c k1f k1z k2c k2f k2z
  go_loopw [4] (fun i wr => ∃ m : Nat, m ≤ 128 ∧ i = .int .i64 (127 - (m : Int)) ∧ Blk wr w.heap.size 57 (rowA f) ∧ Blk wr (w.heap.size + 1) 38 #[.int .u64 0, .int .u64 0] ∧ Blk wr (w.heap.size + 2) 38 #[.int .u64 (loN f m : Nat), .int .u64 (hiN f m : Nat)] ∧ Below w.heap.size w wr) (fun i _ => (intOf i + 1).toNat)
  case atStart => exact ⟨0, by omega, rfl, k0, k1, k2, hB⟩
  case round =>
    obtain ⟨m, hm, rfl, b0, b1, b2, hb⟩ := hrel
    have k2c := fun i => Blk.cell b2 i
    have k2f := fun i => Blk.free b2 i
    by_cases hlt : m < 128
    · obtain ⟨n, hn⟩ : ∃ n : Nat, (127 : Int) - (m : Int) = (n : Int) := ⟨127 - m, by omega⟩
      have hn2 : n = 127 - m := by omega
      have k0n : wr.cell? ⟨w.heap.size, n, none⟩ = some (.bool (f n)) := by rw [b0.cell]; exact row_get _ (by omega)
      have e7 : (127 : Int) - ((m + 1 : Nat) : Int) = (n : Int) - 1 := by omega
      have B0 := Lib.hid b0
      have B1 := Lib.hid b1
      have B2 := Lib.hid b2
      have E7 := Lib.hid e7
      clear b0 b1 b2 e7
      have hhi := hi_lt f m
      have hlo := wd_hi f m
      rcases Nat.lt_or_ge m 64 with h64 | h64
      · have e1 := tdiv64_high (n := n) (by omega) (by omega)
        have hh := hhi (by omega)
        have h2 : 2 ^ m ≤ 2 ^ 63 := Nat.pow_le_pow_right (by omega) (by omega)
        have h3 : hiN f m < 9223372036854775808 := by
          have : (2 : Nat) ^ 63 = 9223372036854775808 := rfl
          omega
        have e3 : IntKind.u64.wrap (2 * ((hiN f m : Nat) : Int)) = 2 * ((hiN f m : Nat) : Int) := IntWalk.u64_in _ (by omega)
        have e3b : IntKind.u64.wrap (2 * ((hiN f m : Nat) : Int) + 1) = 2 * ((hiN f m : Nat) : Int) + 1 := IntWalk.u64_in _ (by omega)
        have e5 : hiN f (m + 1) = 2 * hiN f m + b2n (f n) := by show (if m < 64 then _ else _) = _; rw [if_pos h64, hn2]
        have e6 : loN f (m + 1) = loN f m := by show (if m < 64 then _ else _) = _; rw [if_pos h64]
        have E5 := Lib.hid e5
        have E6 := Lib.hid e6
        have hn3 : n < 128 := by omega
        have hn4 : 64 ≤ n := by omega
        rw [hn] at *
        clear e5 e6 hhi hlo hh h2 hn2 hn
        cases hf : f n with
        | true =>
          rw [hf] at k0n E5
          go_wp2_with fail
          go_roundw
          case rel => exact ⟨m + 1, by omega, by rw [E7.out], (B0.out.far (p := ⟨w.heap.size + 2, 1, none⟩) (by simp) _).far (p := ⟨w.heap.size + 2, 1, none⟩) (by simp) _, (B1.out.far (p := ⟨w.heap.size + 2, 1, none⟩) (by simp) _).far (p := ⟨w.heap.size + 2, 1, none⟩) (by simp) _, by rw [E5.out, E6.out]; exact (B2.out.set_ 1 _).set_ 1 _, (hb.setCell (p := ⟨w.heap.size + 2, 1, none⟩) (by simp) _).setCell (p := ⟨w.heap.size + 2, 1, none⟩) (by simp) _⟩
          case measure => simp [intOf]; try omega
        | false =>
          rw [hf] at k0n E5
          go_wp2_with fail
          go_roundw
          case rel => exact ⟨m + 1, by omega, by rw [E7.out], (B0.out.far (p := ⟨w.heap.size + 2, 1, none⟩) (by simp) _), (B1.out.far (p := ⟨w.heap.size + 2, 1, none⟩) (by simp) _), by rw [E5.out, E6.out]; exact (B2.out.set_ 1 _), (hb.setCell (p := ⟨w.heap.size + 2, 1, none⟩) (by simp) _)⟩
          case measure => simp [intOf]; try omega
      · have e1 := tdiv64_low (n := n) (by omega)
        obtain ⟨k, hk⟩ : ∃ k, m = 64 + k := ⟨m - 64, by omega⟩
        have hh := lo_lt f k
        rw [← hk] at hh
        have h2 : 2 ^ k ≤ 2 ^ 63 := Nat.pow_le_pow_right (by omega) (by omega)
        have h3 : loN f m < 9223372036854775808 := by
          have : (2 : Nat) ^ 63 = 9223372036854775808 := rfl
          omega
        have e3 : IntKind.u64.wrap (2 * ((loN f m : Nat) : Int)) = 2 * ((loN f m : Nat) : Int) := IntWalk.u64_in _ (by omega)
        have e3b : IntKind.u64.wrap (2 * ((loN f m : Nat) : Int) + 1) = 2 * ((loN f m : Nat) : Int) + 1 := IntWalk.u64_in _ (by omega)
        have e5 : loN f (m + 1) = 2 * loN f m + b2n (f n) := by show (if m < 64 then _ else _) = _; rw [if_neg (by omega), hn2]
        have e6 : hiN f (m + 1) = hiN f m := by show (if m < 64 then _ else _) = _; rw [if_neg (by omega)]
        have E5 := Lib.hid e5
        have E6 := Lib.hid e6
        have hn3 : n < 64 := by omega
        rw [hn] at *
        clear e5 e6 hhi hlo hh h2 hn2 hn hk
        cases hf : f n with
        | true =>
          rw [hf] at k0n E5
          go_wp2_with fail
          go_roundw
          case rel => exact ⟨m + 1, by omega, by rw [E7.out], (B0.out.far (p := ⟨w.heap.size + 2, 0, none⟩) (by simp) _).far (p := ⟨w.heap.size + 2, 0, none⟩) (by simp) _, (B1.out.far (p := ⟨w.heap.size + 2, 0, none⟩) (by simp) _).far (p := ⟨w.heap.size + 2, 0, none⟩) (by simp) _, by rw [E5.out, E6.out]; exact (B2.out.set_ 0 _).set_ 0 _, (hb.setCell (p := ⟨w.heap.size + 2, 0, none⟩) (by simp) _).setCell (p := ⟨w.heap.size + 2, 0, none⟩) (by simp) _⟩
          case measure => simp [intOf]; try omega
        | false =>
          rw [hf] at k0n E5
          go_wp2_with fail
          go_roundw
          case rel => exact ⟨m + 1, by omega, by rw [E7.out], (B0.out.far (p := ⟨w.heap.size + 2, 0, none⟩) (by simp) _), (B1.out.far (p := ⟨w.heap.size + 2, 0, none⟩) (by simp) _), by rw [E5.out, E6.out]; exact (B2.out.set_ 0 _), (hb.setCell (p := ⟨w.heap.size + 2, 0, none⟩) (by simp) _)⟩
          case measure => simp [intOf]; try omega
    · obtain rfl : m = 128 := by omega
      have k1c := fun i => Blk.cell b1 i
      have k1f := fun i => Blk.free b1 i
      obtain ⟨r1, hr1⟩ : ∃ r, r = ((loN f 128 : Nat) : Int) := ⟨_, rfl⟩
      obtain ⟨r2, hr2⟩ : ∃ r, r = ((hiN f 128 : Nat) : Int) := ⟨_, rfl⟩
      rw [← hr1, ← hr2] at k2c
      have R1 := Lib.hid hr1
      have R2 := Lib.hid hr2
      clear hr1 hr2 b0 b1 b2
      go_wp2
      refine bodyPost_ret (v := .agg #[.int .u64 r1, .int .u64 r2]) (by simp [results, Tryd.results24, go_sem, k1c, k1f]) rfl ?_
      exact ⟨by rw [R1.out, R2.out], set2b hb⟩
end Go.Proofs.YtejcgagblpkmoaaDoor
set_option linter.unusedVariables false
set_option linter.unusedSimpArgs false
namespace Go.Proofs.YtejcgagblpkmoaaDoor
open Go.Joins Go.ChangeShapes Go.WideShapes Go.ChangeAt Go.RowKit Go.Deep

/-- The numbers below n of a set, rising. -/
def preI (x y n : Nat) : List Int := ((List.range n).filter (bitsF x y)).map Int.ofNat
def items (x y : Nat) : List Int := preI x y 128
theorem pre_yes {x y n : Nat} (h : bitsF x y n = true) : preI x y (n + 1) = preI x y n ++ [(n : Int)] := by
  unfold preI
  rw [List.range_succ, List.filter_append, List.map_append]
  simp [h]
theorem pre_no {x y n : Nat} (h : bitsF x y n = false) : preI x y (n + 1) = preI x y n := by
  unfold preI
  rw [List.range_succ, List.filter_append, List.map_append]
  simp [h]
theorem pre_len (x y n : Nat) : (preI x y n).length ≤ n := by
  unfold preI
  rw [List.length_map]
  have := List.length_filter_le (bitsF x y) (List.range n)
  simpa using this
theorem mem_items (x y : Nat) (k : Int) : k ∈ items x y ↔ 0 ≤ k ∧ k < 128 ∧ memB x y k = true := by
  unfold items preI
  rw [List.mem_map]
  constructor
  · rintro ⟨n, hn, rfl⟩
    rw [List.mem_filter, List.mem_range] at hn
    exact ⟨by simp, by have := hn.1; simp; omega, hn.2⟩
  · rintro ⟨h0, h1, h2⟩
    refine ⟨k.toNat, List.mem_filter.2 ⟨List.mem_range.2 (by omega), ?_⟩, by simp; omega⟩
    unfold bitsF
    rwa [show ((k.toNat : Nat) : Int) = k by omega]
/-- A call that hands out numbers that it owns. -/
def RetOwn (ys : List Int) (w : World) (e : Ending) (w' : World) : Prop := ∃ v, e = .returned v ∧ w'.ownsRow w.heap.size 3 1 v ys.length (intV ys) ∧ Below w.heap.size w w'
theorem RetOwn.ints {ys : List Int} {w : World} {e : Ending} {w' : World} (h : RetOwn ys w e w') : RetInts ys w e w' := by
  obtain ⟨v, rfl, ho, hb⟩ := h
  obtain ⟨A, C, rfl, hi⟩ := owns_ints ho
  exact ⟨A, C, rfl, hi, hb⟩
theorem owns_base {w : World} {B B' n size : Nat} {e : TypeId} {v : Value} {xs : List Value} (h : w.ownsRow B e size v n xs) (hB : B' ≤ B) : w.ownsRow B' e size v n xs := by
  refine ⟨h.1, ?_⟩
  rcases h.2 with hn | ⟨g, cap, cur, rfl, hg, rest⟩
  · exact .inl hn
  · exact .inr ⟨g, cap, cur, rfl, by omega, rest⟩
set_option maxRecDepth 20000 in
set_option maxHeartbeats 4000000 in
theorem ref03_Items (x y : Nat) (w : World) (hx : Wd x) (hy : Wd y) : Calls Tryd.prog 33 #[sv x y] w (RetOwn (items x y) w) := by
  obtain ⟨i0, hi, hz0, hz1, hz2⟩ := info_parts info_int
  have cR := fun w => ref03_Row x y w hx hy
  unfold sv at *
  have CR := Lib.hid cR
  have z := row_zero
  clear cR hx hy
  go_enter Tryd.func33, Tryd.ntmps33
  go_wp2_with (first | ((with_reducible refine hold_list ?_ ?_); (· exact Eq.refl true)) | ((with_reducible refine hold_region ?_ ?_); (· exact Eq.refl true)) | (with_reducible refine hold_loop ?_))
  have k0 : Blk (w.alloc (.cells #[.int .u64 (x : Int), .int .u64 (y : Int)] 38)) (w.heap.size) 38 #[.int .u64 (x : Int), .int .u64 (y : Int)] := (blk_at (by simp))
  have hB : Below w.heap.size w (w.alloc (.cells #[.int .u64 (x : Int), .int .u64 (y : Int)] 38)) := (bel_at (Below.refl _ _) (.cells #[.int .u64 (x : Int), .int .u64 (y : Int)] 38))
  generalize (w.alloc (.cells #[.int .u64 (x : Int), .int .u64 (y : Int)] 38)) = w1 at *
  (try clear k0c k0f k0z); have k0c := fun i => Blk.cell k0 i; have k0f := fun i => Blk.free k0 i; have k0z := Blk.lt k0
  unfold Hold
  have hag := row_agg
  have hsz := row_sizeof
  have hS := fun w => run_row_new (fun _ => false) (bitsF x y) w
  go_wp2_with (first | (first | ((with_reducible refine wpList_here ?_ ?_); (· exact Eq.refl true); first | ((with_reducible refine wpList_grow 2 ?_ ?_); (· exact Eq.refl true))) | ((with_reducible refine wp_region_any_here ?_ ?_); (· exact Eq.refl true); first | ((with_reducible refine wp_region_drawn 2 ?_ ?_ ?_ ?_); (· exact Eq.refl true); (· kernel_rfl); (· kernel_rfl)) | refine wp_region_grow (by kernel_rfl) (by kernel_rfl) ?_)); (try simp only [List.take_succ_cons, List.take_zero, List.drop_succ_cons, List.drop_zero]); (repeat (go_big_quiet_step ((first | (go_at_call 23; with_reducible exact grow_of (CR.out _)))))); (first | (refine wpQuiet_nil ?_; intro w' hb; replace hB := Below.trans hB (Below.mono hb (Below.size hB)); replace k0 := Blk.below k0 hb (Blk.lt k0); (try clear k0c k0f k0z); have k0c := fun i => Blk.cell k0 i; have k0f := fun i => Blk.free k0 i; have k0z := Blk.lt k0) | skip) | (with_reducible refine hold_loop ?_))
  all_goals (try (go_wp2_with (first | (with_reducible refine hold_loop ?_))))
  clear hag hsz hS
  have k1 : Blk (w'.alloc (.cells (rowA (bitsF x y)) 57)) w'.heap.size 57 (rowA (bitsF x y)) := Blk.new _ _ _
  replace k0 := Blk.alloc k0 (.cells (rowA (bitsF x y)) 57)
  replace hB := bel_at hB (.cells (rowA (bitsF x y)) 57)
  generalize w'.alloc (.cells (rowA (bitsF x y)) 57) = w3 at *
  (try clear k0c k0f k0z); have k0c := fun i => Blk.cell k0 i; have k0f := fun i => Blk.free k0 i; have k0z := Blk.lt k0; (try clear k1c k1f k1z); have k1c := fun i => Blk.cell k1 i; have k1f := fun i => Blk.free k1 i; have k1z := Blk.lt k1
  generalize w'.heap.size = b1 at *
  clear k0c k0f k0z k1c k1f k1z hb k0
  have hz := hB.size
  unfold Hold
  have K1 := Lib.hid k1
  have HB := Lib.hid hB
  clear k1 hB
  go_loopw [4, 5] (fun v i wr => ∃ n : Nat, n ≤ 128 ∧ i = .int .i64 n ∧ wr.ownsRow w3.heap.size 3 1 v (preI x y n).length (intV (preI x y n)) ∧ Below w3.heap.size w3 wr) (fun _ i _ => 128 - (intOf i).toNat)
  case atStart => exact ⟨0, by omega, rfl, World.ownsRow_nil _ _ _ _, Below.refl _ _⟩
  case round =>
    obtain ⟨n, hn, rfl, hown, hbq⟩ := hrel
    have hlen := pre_len x y n
    by_cases hlt : n < 128
    · have kn : wr.cell? ⟨b1, n, none⟩ = some (.bool (bitsF x y n)) := by rw [(K1.out.below hbq K1.out.lt).cell]; exact row_get _ hlt
      have HO := Lib.hid hown
      have HQ := Lib.hid hbq
      have hgs := hbq.size
      clear hown hbq
      cases hb : bitsF x y n with
      | false =>
        rw [hb] at kn
        have hp := pre_no hb
        have HP := Lib.hid hp
        clear hp
        go_wp2
        go_roundw
        case rel => exact ⟨n + 1, by omega, by go_num, by rw [HP.out]; exact HO.out, HQ.out⟩
        case measure => simp [intOf]; try omega
      | true =>
        rw [hb] at kn
        have hp : intV (preI x y (n + 1)) = intV (preI x y n) ++ [.int .i64 (n : Int)] := by rw [pre_yes hb, intV_snoc]
        have hp2 : (preI x y (n + 1)).length = (preI x y n).length + 1 := by rw [pre_yes hb]; simp
        have HP := Lib.hid hp
        have HP2 := Lib.hid hp2
        have ho := HO.out
        clear hp hp2
        go_wp2_with (at_builtin; refine wpList_append_own _ rfl _ _ 50 rfl w3.heap.size 3 i0 (.int .i64 0) 1 8 Tryd.underlying50 hi hz0 hz1 hz2 rfl (by decide) _ _ _ rfl (ho.alloc _) ⟨wr.heap.size, 0, none⟩ 1 1 [.int .i64 (n : Int)] rfl rfl ?c1 ?c2 ?c3 ?c4 ?c5 ?_)
        case c1 => exact cell_one _ _ _
        case c2 => intro u hu; simp at hu; subst hu; rfl
        case c3 => unfold maxLen; omega
        case c4 => omega
        case c5 => simp; omega
        intro v' w4 hown' hgrow _
        rw [← HP.out] at hown'
        have hb4 : Below w3.heap.size w3 w4 := (HQ.out.alloc hgs _).grown hgrow (by simp; omega) (fun k hk => (ho.lt k hk).1)
        have hown2 : w4.ownsRow w3.heap.size 3 1 v' (preI x y (n + 1)).length (intV (preI x y (n + 1))) := by rw [HP2.out]; exact hown'
        clear hgrow ho hown'
        go_wp2
        go_roundw
        case rel => exact ⟨n + 1, by omega, by go_num, hown2, hb4⟩
        case measure => simp [intOf]; try omega
    · obtain rfl : n = 128 := by omega
      have HO := Lib.hid hown
      have HQ := Lib.hid hbq
      clear hown hbq
      go_wp2
      go_ret
      exact ⟨_, rfl, owns_base HO.out (by omega), HB.out.trans (HQ.out.mono (by omega))⟩
end Go.Proofs.YtejcgagblpkmoaaDoor
set_option linter.unusedVariables false
set_option linter.unusedSimpArgs false
namespace Go.Proofs.YtejcgagblpkmoaaDoor
open Go.Joins Go.ChangeShapes Go.WideShapes Go.ChangeAt Go.RowKit Go.Deep

theorem of_step (f : Nat → Int) (k n : Nat) (h : f k = (n : Int)) (hn : n < 128) : rowA (fun j => if j = n then true else bitsF (ofX f k) (ofY f k) j) = rowA (bitsF (ofX f (k + 1)) (ofY f (k + 1))) := by
  apply row_ext
  intro i hi
  unfold bitsF
  simp only [ofX, ofY]
  rw [mem_with, h]
  by_cases e : i = n
  · subst e
    rw [if_pos rfl, decide_eq_true (show (0:Int) ≤ (i : Int) ∧ (i : Int) < 128 by omega), decide_eq_true rfl]
    simp
  · rw [if_neg e, decide_eq_false (show ¬ (n : Int) = (i : Int) by omega)]
    simp
theorem of_skip (f : Nat → Int) (k : Nat) (h : f k < 0 ∨ 128 ≤ f k) : ofX f (k + 1) = ofX f k ∧ ofY f (k + 1) = ofY f k := by
  simp only [ofX, ofY]
  unfold withX withY
  rw [if_neg (by omega), if_neg (by omega)]
  exact ⟨rfl, rfl⟩
end Go.Proofs.YtejcgagblpkmoaaDoor
set_option linter.unusedVariables false
set_option linter.unusedSimpArgs false
namespace Go.Proofs.YtejcgagblpkmoaaDoor
open Go.Joins Go.ChangeShapes Go.WideShapes Go.ChangeAt Go.RowKit Go.Deep

set_option maxRecDepth 20000 in
set_option maxHeartbeats 4000000 in
theorem ref03_Has (x y : Nat) (n : Int) (w : World) (hx : Wd x) (hy : Wd y) (hn : I64 n) : Calls Tryd.prog 40 #[sv x y, .int .i64 n] w fun e w' => e = .returned (.bool (memB x y n)) ∧ Below w.heap.size w w' := by
  unfold sv
  unfold I64 at hn
  by_cases hu : n < 0 ∨ 127 < n
  · rw [mem_out (by omega)]
    rcases hu with hu | hu
    · have q1 : decide (n < 0) = true := decide_eq_true hu
      go_enter Tryd.func40, Tryd.ntmps40
      go_wp2
      go_ret
      exact ⟨rfl, box_below _ _⟩
    · have q1 : decide (n < 0) = false := decide_eq_false (by omega)
      have q2 : decide (127 < n) = true := decide_eq_true hu
      go_enter Tryd.func40, Tryd.ntmps40
      go_wp2
      go_ret
      exact ⟨rfl, box_below _ _⟩
  · have q1 : decide (n < 0) = false := decide_eq_false (by omega)
    have q2 : decide (127 < n) = false := decide_eq_false (by omega)
    obtain ⟨n, rfl⟩ := Int.eq_ofNat_of_zero_le (show 0 ≤ n by omega)
    rcases Nat.lt_or_ge n 64 with h64 | h64
    · obtain ⟨m, hm, hmn⟩ : ∃ m, m < 64 ∧ n = m := ⟨n, by omega, by omega⟩
      have e1 : (n : Int) / 64 = 0 := by omega
      have e2 : (n : Int) % 64 = (m : Int) := by omega
      have e3 := tdiv64_low (n := n) (by omega)
      have e3b : Int.tmod (n : Int) 64 = (m : Int) := by rw [Int.tmod_eq_emod_of_nonneg (by omega)]; exact e2
      have hmem : memB x y (n : Int) = x.testBit m := by
        rw [hmn]; exact mem_low hm
      rw [hmem]
      have E9 : Hid ((((x / 2 ^ m : Nat) : Int) % 2 == 1) = x.testBit m) := Lib.hid (by rw [← bit_eq x m]; rfl)
      clear hmem
      have hmn2 : (n : Int) < 128 := by omega
      clear hmn
      go_enter Tryd.func40, Tryd.ntmps40
      go_wp2
      have k0 : Blk (w.alloc (.cells #[.int .u64 (x : Int), .int .u64 (y : Int)] 38)) (w.heap.size) 38 #[.int .u64 (x : Int), .int .u64 (y : Int)] := (blk_at (by simp))
      have hB : Below w.heap.size w (w.alloc (.cells #[.int .u64 (x : Int), .int .u64 (y : Int)] 38)) := (bel_at (Below.refl _ _) (.cells #[.int .u64 (x : Int), .int .u64 (y : Int)] 38))
      generalize (w.alloc (.cells #[.int .u64 (x : Int), .int .u64 (y : Int)] 38)) = w1 at *
      (try clear k0c k0f k0z); have k0c := fun i => Blk.cell k0 i; have k0f := fun i => Blk.free k0 i; have k0z := Blk.lt k0
      go_loop [5, 6] (fun v i => ∃ k : Nat, k ≤ m ∧ i = .int .i64 k ∧ v = .int .u64 ((x / 2 ^ k : Nat) : Int)) (fun _ i => m - (intOf i).toNat)
      case atStart => exact ⟨0, by omega, rfl, by simp⟩
      case round =>
        obtain ⟨k, hk, rfl, rfl⟩ := hrel
        by_cases hlt : k < m
        · have q3 : decide ((k : Int) < (m : Int)) = true := decide_eq_true (by omega)
          have e5 : x / 2 ^ (k + 1) = x / 2 ^ k / 2 := by rw [Nat.div_div_eq_div_mul, Nat.pow_succ]
          have e6 : x / 2 ^ k < 18446744073709551616 := Nat.lt_of_le_of_lt (Nat.div_le_self _ _) hx
          have E5 := Lib.hid e5
          clear e5
          generalize x / 2 ^ k = t at *
          have e7 : IntKind.u64.wrap ((t : Int) / 2) = (t : Int) / 2 := IntWalk.u64_in _ (by omega)
          go_wp2
          go_round
          case rel => exact ⟨k + 1, by omega, by go_num, by rw [E5.out]; simp⟩
          case measure => simp [intOf]; try omega
        · obtain rfl : k = m := by omega
          have e9 := E9.out
          obtain ⟨res, hres⟩ : ∃ r, r = x.testBit k := ⟨_, rfl⟩
          rw [← hres] at e9
          have HRES := Lib.hid hres
          clear hres
          generalize x / 2 ^ k = t at *
          have e9b : ((t : Int) % 2 == 1) = res := e9
          clear e9
          go_wp2
          go_ret
          exact ⟨congrArg (fun b => Ending.returned (.bool b)) HRES.out, hB⟩
    · obtain ⟨m, hm, hmn⟩ : ∃ m, m < 64 ∧ n = m + 64 := ⟨n - 64, by omega, by omega⟩
      have e1 : (n : Int) / 64 = 1 := by omega
      have e2 : (n : Int) % 64 = (m : Int) := by omega
      have e3 := tdiv64_high (n := n) (by omega) (by omega)
      have e3b : Int.tmod (n : Int) 64 = (m : Int) := by rw [Int.tmod_eq_emod_of_nonneg (by omega)]; exact e2
      have hmem : memB x y (n : Int) = y.testBit m := by
        rw [hmn, ← mem_high (x := x) (y := y) hm]; congr 1
      rw [hmem]
      have E9 : Hid ((((y / 2 ^ m : Nat) : Int) % 2 == 1) = y.testBit m) := Lib.hid (by rw [← bit_eq y m]; rfl)
      clear hmem
      have hmn2 : (n : Int) < 128 := by omega
      clear hmn
      go_enter Tryd.func40, Tryd.ntmps40
      go_wp2
      have k0 : Blk (w.alloc (.cells #[.int .u64 (x : Int), .int .u64 (y : Int)] 38)) (w.heap.size) 38 #[.int .u64 (x : Int), .int .u64 (y : Int)] := (blk_at (by simp))
      have hB : Below w.heap.size w (w.alloc (.cells #[.int .u64 (x : Int), .int .u64 (y : Int)] 38)) := (bel_at (Below.refl _ _) (.cells #[.int .u64 (x : Int), .int .u64 (y : Int)] 38))
      generalize (w.alloc (.cells #[.int .u64 (x : Int), .int .u64 (y : Int)] 38)) = w1 at *
      (try clear k0c k0f k0z); have k0c := fun i => Blk.cell k0 i; have k0f := fun i => Blk.free k0 i; have k0z := Blk.lt k0
      go_loop [5, 6] (fun v i => ∃ k : Nat, k ≤ m ∧ i = .int .i64 k ∧ v = .int .u64 ((y / 2 ^ k : Nat) : Int)) (fun _ i => m - (intOf i).toNat)
      case atStart => exact ⟨0, by omega, rfl, by simp⟩
      case round =>
        obtain ⟨k, hk, rfl, rfl⟩ := hrel
        by_cases hlt : k < m
        · have q3 : decide ((k : Int) < (m : Int)) = true := decide_eq_true (by omega)
          have e5 : y / 2 ^ (k + 1) = y / 2 ^ k / 2 := by rw [Nat.div_div_eq_div_mul, Nat.pow_succ]
          have e6 : y / 2 ^ k < 18446744073709551616 := Nat.lt_of_le_of_lt (Nat.div_le_self _ _) hy
          have E5 := Lib.hid e5
          clear e5
          generalize y / 2 ^ k = t at *
          have e7 : IntKind.u64.wrap ((t : Int) / 2) = (t : Int) / 2 := IntWalk.u64_in _ (by omega)
          go_wp2
          go_round
          case rel => exact ⟨k + 1, by omega, by go_num, by rw [E5.out]; simp⟩
          case measure => simp [intOf]; try omega
        · obtain rfl : k = m := by omega
          have e9 := E9.out
          obtain ⟨res, hres⟩ : ∃ r, r = y.testBit k := ⟨_, rfl⟩
          rw [← hres] at e9
          have HRES := Lib.hid hres
          clear hres
          generalize y / 2 ^ k = t at *
          have e9b : ((t : Int) % 2 == 1) = res := e9
          clear e9
          go_wp2
          go_ret
          exact ⟨congrArg (fun b => Ending.returned (.bool b)) HRES.out, hB⟩
end Go.Proofs.YtejcgagblpkmoaaDoor
