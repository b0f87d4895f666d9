/-
  Sheets of trips, as lists of bytes: written, read, and read loosely. No program in sight. A trip as a row of texts: sheet.Head, sheet.row. No conditions. Trips as a sheet: sheet.Text. Condition: there are at most 300 trips, whose numbers fit their kinds.
-/
import Derived.Test.YtgfhgopfhcakhaaDoorCsvP
import Derived.Test.YtgfhgopfhcakhaaDoorCmpPF
import Derived.Test.YtgfhgopfhcakhaaDoorDataT
import Derived.Test.YtgfhgopfhcakhaaDoorCsvM
import Derived.Test.YtgfhgopfhcakhaaDoorDecT
import Derived.Test.YtgfhgopfhcakhaaDoorCsvT
import Derived.Test.YtgfhgopfhcakhaaDoorCsvF
set_option linter.unusedVariables false
set_option linter.unusedSimpArgs false
namespace Go.Proofs.YtgfhgopfhcakhaaDoor

/-- The names of the columns. -/
def headR : List Byt := [[105, 100], [97, 114, 114, 105, 118, 101], [102, 114, 111, 109], [116, 111], [99, 97, 114], [98, 111, 97, 114, 100], [97, 108, 105, 103, 104, 116]]
/-- A number as a text, or an empty one. -/
def cellI (may : Bool) (n : Int) : Byt := if may = true ∧ n = -1 then [] else decI n
def fldL (t : Trip) : List Int := [t.id, t.arrive, t.from_, t.dest, t.car, t.board, t.alight]
def rowI (t : Trip) : List Byt := [decI t.id, decI t.arrive, decI t.from_, decI t.dest, cellI true t.car, cellI true t.board, cellI true t.alight]
def sheetRows (l : List Trip) : List (List Byt) := headR :: l.map rowI
def sheetT (l : List Trip) : Byt := rowsT (sheetRows l)
/-- A text as a number; an empty one is -1. -/
def numL (s : Byt) : Int := if s = [] then -1 else readV s
/-- Is it one, at this place? -/
def goodS (k : Nat) (s : Byt) : Bool := if 4 ≤ k ∧ s = [] then true else decide (readE s = 0) && !(decide (4 ≤ k) && decide (readV s = -1))
def cel (r : List Byt) (i : Nat) : Byt := r.getD i []
def tripL (r : List Byt) : Trip := ⟨numL (cel r 0), numL (cel r 1), numL (cel r 2), numL (cel r 3), numL (cel r 4), numL (cel r 5), numL (cel r 6)⟩
def goodR (r : List Byt) : Prop := r.length = 7 ∧ ∀ i, i < 7 → goodS i (cel r i) = true
instance (r : List Byt) : Decidable (goodR r) := by unfold goodR; infer_instance
def sheetR (rs : List (List Byt)) : Option (List Trip) := match rs with
  | [] => none
  | h :: rs => if rowT h = rowT headR ∧ ∀ r ∈ rs, goodR r then some (rs.map tripL) else none
def sheetS (l : Byt) : Option (List Trip) := match readS l.length l [] [] with
  | none => none
  | some rs => sheetR rs
def refS (l : Byt) : Option (List Trip) :=
  if rowsT (looseS l [] [] [] false) = l ∧ (∀ r ∈ (looseS l [] [] [] false).tail, r.length = 7) ∧ sheetT ((looseS l [] [] [] false).tail.map tripL) = l then some ((looseS l [] [] [] false).tail.map tripL) else none

theorem decI_ne (n : Int) : decI n ≠ [] := by
  unfold decI
  split
  · simp
  · exact dec_ne _
theorem readE_nil : readE [] = 20 := by decide
theorem numL_fit (s : Byt) : I64 (numL s) := by
  unfold numL
  split
  · unfold I64; omega
  · unfold readV
    split
    · rcases fit_cases (valI s) with ⟨_, h⟩ | ⟨_, h, h2⟩
      · rw [h]; unfold I64; omega
      · rw [h]; exact h2
    · unfold I64; omega
theorem tripL_ok (r : List Byt) : (tripL r).ok := by
  have h := fun i => numL_fit (cel r i)
  unfold I64 at h
  exact ⟨h 0, h 1, h 2, h 3, h 4, h 5, h 6⟩
theorem good_low {k : Nat} {s : Byt} (hk : k < 4) (h : goodS k s = true) : decI (numL s) = s := by
  unfold goodS at h
  rw [if_neg (by omega)] at h
  simp only [Bool.and_eq_true, decide_eq_true_eq] at h
  have hn : s ≠ [] := fun e => by rw [e, readE_nil] at h; exact absurd h.1 (by decide)
  unfold numL
  rw [if_neg hn]
  exact decI_read h.1
theorem good_high {k : Nat} {s : Byt} (hk : 4 ≤ k) (h : goodS k s = true) : cellI true (numL s) = s := by
  unfold goodS at h
  by_cases hn : s = []
  · rw [hn]; rfl
  · rw [if_neg (fun e => hn e.2)] at h
    simp only [Bool.and_eq_true, decide_eq_true_eq, Bool.not_eq_true', hk, decide_true, Bool.true_and, decide_eq_false_iff_not] at h
    unfold numL cellI
    rw [if_neg hn, if_neg (fun e => h.2 e.2)]
    exact decI_read h.1
theorem low_good {k : Nat} {n : Int} (hk : k < 4) (h : I64 n) : goodS k (decI n) = true ∧ numL (decI n) = n := by
  obtain ⟨h1, h2⟩ := read_decI h
  unfold goodS numL
  rw [if_neg (by omega), if_neg (decI_ne n), h1, h2]
  have : decide (4 ≤ k) = false := decide_eq_false (by omega)
  exact ⟨by rw [this]; rfl, rfl⟩
theorem high_good {k : Nat} {n : Int} (hk : 4 ≤ k) (h : I64 n) : goodS k (cellI true n) = true ∧ numL (cellI true n) = n := by
  obtain ⟨h1, h2⟩ := read_decI h
  unfold cellI
  by_cases hn : n = -1
  · rw [if_pos ⟨rfl, hn⟩]
    exact ⟨by unfold goodS; rw [if_pos ⟨hk, rfl⟩], by rw [hn]; rfl⟩
  · rw [if_neg (fun e => hn e.2)]
    unfold goodS numL
    rw [if_neg (fun e => decI_ne n e.2), if_neg (decI_ne n), h1, h2]
    exact ⟨by simp [hn], rfl⟩
theorem list7 {α : Type} {r : List α} (h : r.length = 7) : ∃ a b c d e f g, r = [a, b, c, d, e, f, g] := by
  match r, h with
  | [a, b, c, d, e, f, g], _ => exact ⟨a, b, c, d, e, f, g, rfl⟩
theorem good_row {r : List Byt} (h : goodR r) : rowI (tripL r) = r := by
  obtain ⟨h1, h2⟩ := h
  obtain ⟨a, b, c, d, e, f, g, rfl⟩ := list7 h1
  have g0 := good_low (by omega) (h2 0 (by omega))
  have g1 := good_low (by omega) (h2 1 (by omega))
  have g2 := good_low (by omega) (h2 2 (by omega))
  have g3 := good_low (by omega) (h2 3 (by omega))
  have g4 := good_high (by omega) (h2 4 (by omega))
  have g5 := good_high (by omega) (h2 5 (by omega))
  have g6 := good_high (by omega) (h2 6 (by omega))
  unfold rowI tripL
  simp only [g0, g1, g2, g3, g4, g5, g6]
  rfl
theorem row_good {t : Trip} (h : t.ok) : goodR (rowI t) ∧ tripL (rowI t) = t := by
  obtain ⟨t0, t1, t2, t3, t4, t5, t6⟩ := t
  obtain ⟨h0, h1, h2, h3, h4, h5, h6⟩ := h
  have g0 := low_good (k := 0) (by omega) (show I64 t0 from h0)
  have g1 := low_good (k := 1) (by omega) (show I64 t1 from h1)
  have g2 := low_good (k := 2) (by omega) (show I64 t2 from h2)
  have g3 := low_good (k := 3) (by omega) (show I64 t3 from h3)
  have g4 := high_good (k := 4) (by omega) (show I64 t4 from h4)
  have g5 := high_good (k := 5) (by omega) (show I64 t5 from h5)
  have g6 := high_good (k := 6) (by omega) (show I64 t6 from h6)
  refine ⟨⟨rfl, fun i hi => ?_⟩, ?_⟩
  · match i, hi with
    | 0, _ => exact g0.1
    | 1, _ => exact g1.1
    | 2, _ => exact g2.1
    | 3, _ => exact g3.1
    | 4, _ => exact g4.1
    | 5, _ => exact g5.1
    | 6, _ => exact g6.1
  · unfold tripL
    show (⟨numL (decI t0), numL (decI t1), numL (decI t2), numL (decI t3), numL (cellI true t4), numL (cellI true t5), numL (cellI true t6)⟩ : Trip) = _
    rw [g0.2, g1.2, g2.2, g3.2, g4.2, g5.2, g6.2]
theorem rows_inj {a b : List (List Byt)} (ha : ∀ r ∈ a, r ≠ []) (hb : ∀ r ∈ b, r ≠ []) (h : rowsT a = rowsT b) : a = b := by
  have h1 := loose_rows a ha []
  have h2 := loose_rows b hb []
  rw [h, h2] at h1
  simpa using h1.symm
theorem headR_ne : headR ≠ [] := by decide
theorem sheetRows_ne (l : List Trip) : ∀ r ∈ sheetRows l, r ≠ [] := by
  intro r hr
  rcases List.mem_cons.1 hr with e | e
  · rw [e]; exact headR_ne
  · obtain ⟨t, _, rfl⟩ := List.mem_map.1 e
    intro e; cases e
theorem row_inj {a b : List Byt} (ha : a ≠ []) (hb : b ≠ []) (h : rowT a = rowT b) : a = b := by
  have := rows_inj (a := [a]) (b := [b]) (by simpa using ha) (by simpa using hb) (by simp [rowsT, h])
  simpa using this
theorem map_same {rs : List (List Byt)} (h : ∀ r ∈ rs, goodR r) : (rs.map tripL).map rowI = rs := by
  induction rs with
  | nil => rfl
  | cons r rs ih =>
    rw [List.map_cons, List.map_cons, good_row (h r (List.mem_cons_self ..)), ih (fun r hr => h r (List.mem_cons_of_mem _ hr))]
/-- Read as it is by the document. -/
theorem sheet_ref (l : Byt) : sheetS l = refS l := by
  unfold sheetS refS
  rw [read_iff]
  have hne := loose_ne l [] [] [] false (by simp)
  by_cases h : rowsT (looseS l [] [] [] false) = l
  · rw [if_pos h]
    generalize looseS l [] [] [] false = R at *
    show sheetR R = _
    unfold sheetR
    cases R with
    | nil =>
      rw [if_neg]
      rintro ⟨_, _, h3⟩
      rw [← h] at h3
      have := rows_inj (sheetRows_ne _) (by simp) h3
      cases this
    | cons hd rs =>
      have hh := hne hd (List.mem_cons_self ..)
      have hr := fun r hr => hne r (List.mem_cons_of_mem _ hr)
      by_cases hc : rowT hd = rowT headR ∧ ∀ r ∈ rs, goodR r
      · have h3 : sheetT (rs.map tripL) = l := by
          unfold sheetT sheetRows
          rw [map_same hc.2, ← row_inj hh headR_ne hc.1]
          exact h
        have h2 : ∀ r ∈ (hd :: rs).tail, r.length = 7 := fun r hr => (hc.2 r hr).1
        exact (if_pos hc).trans (Eq.symm (if_pos ⟨h, h2, h3⟩))
      · refine (if_neg hc).trans (Eq.symm (if_neg ?_))
        rintro ⟨_, h2, h3⟩
        replace h3 : sheetT (rs.map tripL) = l := h3
        apply hc
        rw [← h] at h3
        have he := rows_inj (sheetRows_ne _) hne h3
        unfold sheetRows at he
        injection he with e1 e2
        refine ⟨by rw [e1], fun r hr => ?_⟩
        rw [← e2] at hr
        simp only [List.mem_map] at hr
        obtain ⟨t, ⟨r', _, rfl⟩, rfl⟩ := hr
        exact (row_good (tripL_ok r')).1
  · rw [if_neg h, if_neg (fun e => h e.1)]
/-- What was written is read as it was. -/
theorem sheet_back {l : List Trip} (h : ∀ t ∈ l, t.ok) : sheetS (sheetT l) = some l := by
  have hn := sheetRows_ne l
  have hle := cells_le _ hn
  have hr := read_rows (sheetRows l) hn ((sheetT l).length - cellsN (sheetRows l)) []
  rw [show (sheetT l).length - cellsN (sheetRows l) + cellsN (sheetRows l) = (sheetT l).length by unfold sheetT; omega] at hr
  unfold sheetS
  rw [show readS (sheetT l).length (sheetT l) [] [] = some (sheetRows l) from by rw [List.nil_append] at hr; exact hr]
  show sheetR (headR :: l.map rowI) = _
  unfold sheetR
  simp only
  rw [if_pos ⟨trivial, fun r hr => by
    obtain ⟨t, ht, rfl⟩ := List.mem_map.1 hr
    exact (row_good (h t ht)).1⟩, List.map_map]
  congr 1
  have : ∀ m : List Trip, (∀ t ∈ m, t.ok) → m.map (tripL ∘ rowI) = m := fun m hm => by
    induction m with
    | nil => rfl
    | cons t m ih => rw [List.map_cons, ih (fun t ht => hm t (List.mem_cons_of_mem _ ht))]; show tripL (rowI t) :: m = _; rw [(row_good (hm t (List.mem_cons_self ..))).2]
  exact this l h
theorem row_at {t : Trip} {k : Nat} {n : Int} (h : (fldL t)[k]? = some n) : (rowI t)[k]? = some (cellI (decide (4 ≤ k)) n) := by
  match k, h with
  | 0, h => injection h with h; subst h; rfl
  | 1, h => injection h with h; subst h; rfl
  | 2, h => injection h with h; subst h; rfl
  | 3, h => injection h with h; subst h; rfl
  | 4, h => injection h with h; subst h; rfl
  | 5, h => injection h with h; subst h; rfl
  | 6, h => injection h with h; subst h; rfl
  | k + 7, h => cases h
theorem cellI_len (b : Bool) (n : Int) : (cellI b n).length ≤ 21 := by
  unfold cellI
  split
  · simp
  · exact decI_len n
end Go.Proofs.YtgfhgopfhcakhaaDoor
set_option linter.unusedVariables false
set_option linter.unusedSimpArgs false
namespace Go.Proofs.YtgfhgopfhcakhaaDoor
open Go Go.Joins Go.ChangeShapes Go.WideShapes Go.ChangeAt Go.RowKit Go.Deep

/-- A row of texts that a call hands out, in memory of its own. -/
def RowNew (xs : List Byt) (w : World) (e : Ending) (w' : World) : Prop := ∃ v, e = .returned v ∧ w'.ownsRow w.heap.size 9 1 v xs.length (xs.map strV) ∧ Below w.heap.size w w'
theorem sheet_Head (w : World) : Calls Tryd.prog 30 #[] w (RowNew headR w) := by
  have hk := (Blk.new w 9 (headR.map strV).toArray)
  have hb := (Below.refl w.heap.size w).alloc (Nat.le_refl _) (.cells (headR.map strV).toArray 9)
  have HK := Lib.hid hk
  have HB := Lib.hid hb
  clear hk hb
  go_enter Tryd.func30, Tryd.ntmps30
  go_wp2
  go_ret
  refine ⟨_, rfl, ?_, HB.out⟩
  exact World.ownsRow_lit (base := w.heap.size) w (headR.map strV).toArray 7 (Nat.le_refl _) (by decide) rfl
theorem fld_at {t : Trip} {k : Nat} {n : Int} (h : (fldL t)[k]? = some n) (w : World) : (Instr.index 65 (.agg #[.int .i64 t.id, .int .i64 t.arrive, .int .i64 t.from_, .int .i64 t.dest, .int .i64 t.car, .int .i64 t.board, .int .i64 t.alight]) (.int .i64 (k : Int))).run Tryd.prog w = .ok (.int .i64 n) w := by
  match k, h with
  | 0, h => injection h with h; subst h; rfl
  | 1, h => injection h with h; subst h; rfl
  | 2, h => injection h with h; subst h; rfl
  | 3, h => injection h with h; subst h; rfl
  | 4, h => injection h with h; subst h; rfl
  | 5, h => injection h with h; subst h; rfl
  | 6, h => injection h with h; subst h; rfl
  | k + 7, h => cases h
set_option maxRecDepth 20000 in
set_option maxHeartbeats 4000000 in
theorem sheet_row (t : Trip) (w : World) (ht : t.ok) : Calls Tryd.prog 31 #[t.val] w (RowNew (rowI t) w) := by
  obtain ⟨i0, hi, hz0, hz1, hz2⟩ := info_parts info_str1
  have hfl : ∀ (k : Nat) (n : Int), (fldL t)[k]? = some n → I64 n := fun k n h => by
    obtain ⟨h0, h1, h2, h3, h4, h5, h6⟩ := ht
    match k, h with
    | 0, h => injection h with h; subst h; exact h0
    | 1, h => injection h with h; subst h; exact h1
    | 2, h => injection h with h; subst h; exact h2
    | 3, h => injection h with h; subst h; exact h3
    | 4, h => injection h with h; subst h; exact h4
    | 5, h => injection h with h; subst h; exact h5
    | 6, h => injection h with h; subst h; exact h6
    | k + 7, h => cases h
  have HFL := Lib.hid hfl
  have HFA := Lib.hid (fun k n h => @fld_at t k n h)
  have HRA := Lib.hid (fun k n h => @row_at t k n h)
  have hlen : (rowI t).length = 7 := rfl
  have hlf : (fldL t).length = 7 := rfl
  generalize hR : rowI t = R at *
  generalize hF : fldL t = F at *
  clear hfl ht hR hF
  go_enter Tryd.func31, Tryd.ntmps31
  go_wp2
  obtain ⟨hBw1, hcw1, hzw1⟩ := box w 43 (Trip.cells t).toArray
  change Code.wp _ _ _ _ (w.alloc (.cells (Trip.cells t).toArray 43))
  generalize (w.alloc (.cells (Trip.cells t).toArray 43)) = w1 at *
  have HB1 := Lib.hid hBw1
  clear hBw1 hcw1
  go_loopw [3, 21] (fun v i wr => ∃ k : Nat, k ≤ 7 ∧ i = .int .i64 (k : Int) ∧ Hid (wr.ownsRow w.heap.size 9 1 v k ((R.map strV).take k)) ∧ Hid (Below w.heap.size w wr)) (fun _ i _ => 7 - (intOf i).toNat)
  case atStart => exact ⟨0, by omega, rfl, World.ownsRow_nil _ _ _ _, HB1⟩
  case round =>
    obtain ⟨k, hk, rfl, hown, hb⟩ := hrel
    have hsw := hb.out.size
    obtain ⟨AA, cap0, rfl⟩ := own_formQ hown.out
    by_cases hlt : k < 7
    · obtain ⟨n, hn⟩ : ∃ n, F[k]? = some n := ⟨_, List.getElem?_eq_getElem (by omega)⟩
      have hix := HFA.out k n hn
      have hra := HRA.out k n hn
      have hin := HFL.out k n hn
      have hts := take_snoc hra
      by_cases h4 : 4 ≤ k
      · rw [decide_eq_true h4] at hra hts
        have h4i : decide ((4 : Int) ≤ (k : Int)) = true := decide_eq_true (by omega)
        by_cases hm1 : n = -1
        · subst hm1
          have HT2 := Lib.hid (show (R.map strV).take (k + 1) = (R.map strV).take k ++ [.string (txt [])] by rw [← List.map_take, ← List.map_take, hts, List.map_append]; simp [cellI, strV])
          have ST := Lib.hid (ownsRow_below hown.out ((Below.refl wr.heap.size wr).alloc (Nat.le_refl _) (.cells #[.string (txt [])] 9)))
          have HB3 := Lib.hid (hb.out.alloc hsw (.cells #[.string (txt [])] 9))
          clear hra hts hn hin
          go_wp2_with (at_builtin; refine wpList_append_lies _ rfl _ _ 27 rfl w.heap.size 9 i0 (.string ⟨#[]⟩) 1 16 Tryd.underlying27 hi hz0 hz1 hz2 rfl (by decide) _ _ _ rfl ST.out _ 1 1 [.string (txt [])] rfl rfl ?c1 ?c2 (by decide) ?c3 ?c4 ?c5 (wr.heap.size + 1) ?c6 ?_)
          try (case c1 => exact cell_at (by simp) _ _)
          case c2 => first | (intro u hu; simp at hu; subst hu; rfl) | rfl
          case c3 => unfold maxLen; omega
          case c4 => omega
          case c5 => simp; omega
          try (case c6 => simp)
          intro g cap w4 hown4 hgrow hat hg4
          have hb4 := Lib.hid (HB3.out.grown hgrow (by simp; omega) (fun i hi => (ST.out.lt i hi).1))
          have HO4 := Lib.hid hown4
          clear hgrow hat hown4
          go_wp2
          go_roundw
          case rel => exact ⟨k + 1, by omega, by go_num, by rw [HT2.out]; exact HO4, hb4⟩
          case measure => simp [intOf]; omega
        · have hn1 : (n == -1) = false := by simpa using hm1
          have HT2 := Lib.hid (show (R.map strV).take (k + 1) = (R.map strV).take k ++ [.string (txt (decI n))] by rw [← List.map_take, ← List.map_take, hts, List.map_append]; simp [cellI, strV, hm1])
          have cO := digits_Of n wr hin
          clear hra hts hn hin
          go_wp2_with fail
          refine cO.mono ?_
          rintro e w2 ⟨rfl, hb2⟩
          have hb2' := hb.out.trans (hb2.mono hsw)
          have hs2 := hb2'.size
          have ST := Lib.hid (ownsRow_below (ownsRow_below hown.out hb2) ((Below.refl w2.heap.size w2).alloc (Nat.le_refl _) (.cells #[.string (txt (decI n))] 9)))
          have HB3 := Lib.hid (hb2'.alloc hs2 (.cells #[.string (txt (decI n))] 9))
          clear hb2 hb2'
          go_wp2_with (at_builtin; refine wpList_append_lies _ rfl _ _ 27 rfl w.heap.size 9 i0 (.string ⟨#[]⟩) 1 16 Tryd.underlying27 hi hz0 hz1 hz2 rfl (by decide) _ _ _ rfl ST.out _ 1 1 [.string (txt (decI n))] rfl rfl ?c1 ?c2 (by decide) ?c3 ?c4 ?c5 (w2.heap.size + 1) ?c6 ?_)
          try (case c1 => exact cell_at (by simp) _ _)
          case c2 => first | (intro u hu; simp at hu; subst hu; rfl) | rfl
          case c3 => unfold maxLen; omega
          case c4 => omega
          case c5 => simp; omega
          try (case c6 => simp)
          intro g cap w4 hown4 hgrow hat hg4
          have hb4 := Lib.hid (HB3.out.grown hgrow (by simp; omega) (fun i hi => (ST.out.lt i hi).1))
          have HO4 := Lib.hid hown4
          clear hgrow hat hown4
          go_wp2
          go_roundw
          case rel => exact ⟨k + 1, by omega, by go_num, by rw [HT2.out]; exact HO4, hb4⟩
          case measure => simp [intOf]; omega
      · rw [decide_eq_false h4] at hra hts
        have h4i : decide ((4 : Int) ≤ (k : Int)) = false := decide_eq_false (by omega)
        have HT2 := Lib.hid (show (R.map strV).take (k + 1) = (R.map strV).take k ++ [.string (txt (decI n))] by rw [← List.map_take, ← List.map_take, hts, List.map_append]; simp [cellI, strV])
        have cO := digits_Of n wr hin
        clear hra hts hn hin
        go_wp2_with fail
        refine cO.mono ?_
        rintro e w2 ⟨rfl, hb2⟩
        have hb2' := hb.out.trans (hb2.mono hsw)
        have hs2 := hb2'.size
        have ST := Lib.hid (ownsRow_below (ownsRow_below hown.out hb2) ((Below.refl w2.heap.size w2).alloc (Nat.le_refl _) (.cells #[.string (txt (decI n))] 9)))
        have HB3 := Lib.hid (hb2'.alloc hs2 (.cells #[.string (txt (decI n))] 9))
        clear hb2 hb2'
        go_wp2_with (at_builtin; refine wpList_append_lies _ rfl _ _ 27 rfl w.heap.size 9 i0 (.string ⟨#[]⟩) 1 16 Tryd.underlying27 hi hz0 hz1 hz2 rfl (by decide) _ _ _ rfl ST.out _ 1 1 [.string (txt (decI n))] rfl rfl ?c1 ?c2 (by decide) ?c3 ?c4 ?c5 (w2.heap.size + 1) ?c6 ?_)
        try (case c1 => exact cell_at (by simp) _ _)
        case c2 => first | (intro u hu; simp at hu; subst hu; rfl) | rfl
        case c3 => unfold maxLen; omega
        case c4 => omega
        case c5 => simp; omega
        try (case c6 => simp)
        intro g cap w4 hown4 hgrow hat hg4
        have hb4 := Lib.hid (HB3.out.grown hgrow (by simp; omega) (fun i hi => (ST.out.lt i hi).1))
        have HO4 := Lib.hid hown4
        clear hgrow hat hown4
        go_wp2
        go_roundw
        case rel => exact ⟨k + 1, by omega, by go_num, by rw [HT2.out]; exact HO4, hb4⟩
        case measure => simp [intOf]; omega
    · obtain rfl : k = 7 := by omega
      have ho := hown.out
      rw [List.take_of_length_le (by rw [List.length_map]; omega)] at ho
      have HO := Lib.hid ho
      clear ho
      go_wp2
      go_ret
      exact ⟨_, rfl, by rw [hlen]; exact HO.out, hb.out⟩
end Go.Proofs.YtgfhgopfhcakhaaDoor
set_option linter.unusedVariables false
set_option linter.unusedSimpArgs false
namespace Go.Proofs.YtgfhgopfhcakhaaDoor
open Go Go.Joins Go.ChangeShapes Go.WideShapes Go.ChangeAt Go.RowKit Go.Deep

theorem own_mono {w : World} {base base' : Nat} {e : TypeId} {size : Nat} {v : Value} {n : Nat} {xs : List Value} (h : w.ownsRow base e size v n xs) (hb : base' ≤ base) : w.ownsRow base' e size v n xs :=
  ⟨h.1, h.2.imp id (fun ⟨g, cap, cur, e1, e2, r⟩ => ⟨g, cap, cur, e1, Nat.le_trans hb e2, r⟩)⟩
/-- Rows that a call makes, one behind the other. -/
structure RowsIn (w : World) (base : Nat) (vo : Value) (vs : List Value) (out : List (List Byt)) : Prop where
  rows : w.ownsRow base 27 1 vo vs.length vs
  lies : rowsN w none vo.ownBlock vs out
theorem RowsIn.below {w w' : World} {base : Nat} {vo : Value} {vs : List Value} {out : List (List Byt)} (h : RowsIn w base vo vs out) (hb : Below w.heap.size w w') : RowsIn w' base vo vs out := ⟨ownsRow_below h.rows hb, h.lies.below hb⟩
theorem RowsIn.put {w w2 w4 : World} {base : Nat} {vo : Value} {A : Option Addr} {C : Nat} {row : List Byt} {vs : List Value} {out : List (List Byt)} {g cap : Nat} (h : RowsIn w base vo vs out) (hb : Below w.heap.size w w2)
    (hr : w2.ownsRow w.heap.size 9 1 (.slice A row.length C) row.length (row.map strV)) (hown : w4.ownsRow base 27 1 (.slice (some ⟨g, 0, none⟩) (vs.length + 1) cap) (vs.length + 1) (vs ++ [.slice A row.length C]))
    (hg : w2.grownBy w4 vo.ownBlock) (hat : vo.ownBlock = some g ∨ g = w2.heap.size) :
    RowsIn w4 base (.slice (some ⟨g, 0, none⟩) (vs.length + 1) cap) (vs ++ [.slice A row.length C]) (out ++ [row]) := by
  obtain ⟨A', C', e, hr'⟩ := txtsN_own (o2 := vo.ownBlock) hr (fun k hk e => by
    have h1 := (hr.lt k hk).1
    have h2 := (h.rows.lt k e).2
    omega)
  injection e with e1 e2 e3
  subst e1 e3
  exact ⟨by rw [List.length_append]; exact hown, ((h.lies.below hb).step2 hg hat).push (hr'.step2 hg hat)⟩
/-- The first row. -/
theorem RowsIn.one {w w2 : World} {A : Option Addr} {C : Nat} {row : List Byt} (hs : w.heap.size ≤ w2.heap.size) (hr : w2.ownsRow w.heap.size 9 1 (.slice A row.length C) row.length (row.map strV)) :
    RowsIn (w2.alloc (.cells #[.slice A row.length C] 27)) w.heap.size (.slice (some ⟨w2.heap.size, 0, none⟩) 1 1) [.slice A row.length C] [row] := by
  refine ⟨World.ownsRow_lit (base := w.heap.size) w2 #[.slice A row.length C] 1 hs (by decide) rfl, ?_⟩
  obtain ⟨A', C', e, hr'⟩ := txtsN_own (o2 := some w2.heap.size) hr (fun k hk e => by
    have h1 := (hr.lt k hk).2
    injection e with e
    omega)
  injection e with e1 e2 e3
  subst e1 e3
  have hr2 := hr'.below ((Below.refl w2.heap.size w2).alloc (Nat.le_refl _) (.cells #[.slice A row.length C] 27))
  refine ⟨rfl, fun i xs hi => ?_⟩
  match i, hi with
  | 0, hi =>
    simp at hi
    subst hi
    exact ⟨A, C, rfl, hr2⟩

theorem body_low (r : List Byt) (h : ∀ x ∈ r, x.length ≤ 21) : (bodyT r).length ≤ 45 * r.length := by
  induction r with
  | nil => simp [bodyT]
  | cons x r ih =>
    have hx := h x (List.mem_cons_self ..)
    have h2 := ih (fun y hy => h y (List.mem_cons_of_mem _ hy))
    have h3 := cell_len x
    cases r with
    | nil => simp [bodyT] at *; omega
    | cons y r =>
      rw [bodyT_cons x (y :: r) (by simp)]
      simp only [List.length_append, List.length_cons] at *
      omega
theorem rowI_low (t : Trip) : ∀ x ∈ rowI t, x.length ≤ 21 := by
  intro x hx
  simp only [rowI, List.mem_cons, List.not_mem_nil, or_false] at hx
  rcases hx with rfl | rfl | rfl | rfl | rfl | rfl | rfl
  all_goals first | exact decI_len _ | exact cellI_len _ _
theorem headR_low : ∀ x ∈ headR, x.length ≤ 21 := by decide
theorem sheet_low (l : List Trip) : ∀ r ∈ sheetRows l, r.length = 7 ∧ (rowT r).length ≤ 316 ∧ ∀ x ∈ r, x.length ≤ 21 := by
  intro r hr
  have h : r.length = 7 ∧ ∀ x ∈ r, x.length ≤ 21 := by
    rcases List.mem_cons.1 hr with e | e
    · rw [e]; exact ⟨rfl, headR_low⟩
    · obtain ⟨t, _, rfl⟩ := List.mem_map.1 e
      exact ⟨rfl, rowI_low t⟩
  refine ⟨h.1, ?_, h.2⟩
  have := body_low r h.2
  rw [h.1] at this
  rw [rowT, List.length_append]
  simp only [List.length_cons, List.length_nil]
  omega
theorem rows_low (rs : List (List Byt)) (h : ∀ r ∈ rs, (rowT r).length ≤ 316) : (rowsT rs).length ≤ 316 * rs.length := by
  induction rs with
  | nil => simp [rowsT]
  | cons r rs ih =>
    have h1 := h r (List.mem_cons_self ..)
    have h2 := ih (fun y hy => h y (List.mem_cons_of_mem _ hy))
    rw [rowsT, List.length_append, List.length_cons]
    omega
theorem sheet_len (l : List Trip) : (sheetRows l).length = l.length + 1 := by simp [sheetRows]
theorem sheet_ok {l : List Trip} (hl : l.length ≤ 300) : RowsOk (sheetRows l) := by
  have h := sheet_low l
  have h2 := rows_low (sheetRows l) (fun r hr => (h r hr).2.1)
  have h3 := sheet_len l
  refine ⟨by omega, by omega, fun i xs hi => ?_⟩
  obtain ⟨h4, h5, h6⟩ := h xs (List.mem_of_getElem? hi)
  refine ⟨by omega, by omega, fun j x hj => ?_⟩
  have := h6 x (List.mem_of_getElem? hj)
  omega
theorem sheetRows_snoc {l : List Trip} {k : Nat} {t : Trip} (h : l[k]? = some t) : sheetRows (l.take (k + 1)) = sheetRows (l.take k) ++ [rowI t] := by
  rw [take_snoc h]
  simp [sheetRows]
abbrev Trips (w : World) (A : Option Addr) (xs : List Trip) : Prop := Elems 7 Trip.cells w A xs
set_option maxRecDepth 20000 in
set_option maxHeartbeats 4000000 in
theorem sheet_Text (m : Int) (A : Option Addr) (C : Nat) (xs : List Trip) (w : World) (hm : Mx m w) (hx : Trips w A xs) (hl : xs.length ≤ 300) (hok : ∀ (i : Nat) (t : Trip), xs[i]? = some t → t.ok) :
    Calls Tryd.prog 17 #[.slice A xs.length C] w fun e w' => e = .returned (.string (txt (sheetT xs))) ∧ Below w.heap.size w w' := by
  obtain ⟨i1, hj, hy0, hy1, hy2⟩ := info_parts info_strs
  have HX := Lib.hid hx
  have HM := Lib.hid hm
  have HOK := Lib.hid hok
  have hro := sheet_ok hl
  have HRO := Lib.hid hro
  clear hx hm hok hro
  go_enter Tryd.func17, Tryd.ntmps17
  go_wp2_with fail
  refine (sheet_Head w).mono ?_
  rintro e w2 ⟨v, rfl, hown, hb⟩
  obtain ⟨A0, C0, rfl⟩ := own_formQ hown
  have hs := hb.size
  have hin := Lib.hid (RowsIn.one hs hown)
  have HB := Lib.hid (hb.alloc hs (.cells #[.slice A0 headR.length C0] 27))
  clear hown hb
  go_wp2
  go_loopw [3, 10] (fun vo i wr => ∃ (k : Nat) (vs : List Value), k ≤ xs.length ∧ vs.length ≤ k + 1 ∧ i = .int .i64 (k : Int) ∧ Hid (RowsIn wr w.heap.size vo vs (sheetRows (xs.take k))) ∧ Hid (Below w.heap.size w wr)) (fun _ i _ => xs.length - (intOf i).toNat)
  case atStart => exact ⟨0, _, by omega, Nat.le_refl _, val_int (by omega), hin, HB⟩
  case round =>
    obtain ⟨k, vs, hk, hvs, rfl, hst, hb⟩ := hrel
    have hsw := hb.out.size
    obtain ⟨AA, cap0, rfl⟩ := own_formQ hst.out.rows
    by_cases hlt : k < xs.length
    · obtain ⟨b, off, rfl, hbl, hce⟩ := HX.out (by omega)
      obtain ⟨t, ht⟩ := at_some hlt
      have z := fun j u h => (hb.out.cell (p := ⟨b, off + k * 7 + j, none⟩) hbl).trans (hce k t ht j u h)
      have z0 := z 0 _ rfl
      have z1 := z 1 _ rfl
      have z2 := z 2 _ rfl
      have z3 := z 3 _ rfl
      have z4 := z 4 _ rfl
      have z5 := z 5 _ rfl
      have z6 := z 6 _ rfl
      simp only [Nat.add_zero] at z0
      have hne : b ≠ wr.heap.size := by omega
      have HSN := Lib.hid (sheetRows_snoc ht)
      have htok := HOK.out k t ht
      clear z hce ht
      have cR := fun w => sheet_row t w htok
      have hal := (Below.refl wr.heap.size wr).alloc (Nat.le_refl _) (.cells t.cells.toArray 43)
      have hasz : (wr.alloc (.cells t.cells.toArray 43)).heap.size = wr.heap.size + 1 := by simp
      have CR := Lib.hid cR
      have HAL := Lib.hid hal
      clear cR htok hal
      generalize hR : rowI t = R at *
      clear hR
      obtain ⟨a0, a1, a2, a3, a4, a5, a6⟩ := t
      simp only [Trip.cells] at *
      go_wp2_with fail
      refine (CR.out _).mono ?_
      rintro e w2 ⟨v, rfl, hown, hb2⟩
      obtain ⟨AR, CR2, rfl⟩ := own_formQ hown
      have hb2' : Below wr.heap.size wr w2 := HAL.out.trans (hb2.mono HAL.out.size)
      have hown2 : w2.ownsRow wr.heap.size 9 1 (.slice AR R.length CR2) R.length (R.map strV) := own_mono hown (by rw [hasz]; omega)
      have hb3 := hb2'.alloc hb2'.size (.cells #[.slice AR R.length CR2] 27)
      have hs2 := hb2'.size
      have ST := Lib.hid (hst.out.below hb3)
      have HRW := Lib.hid (ownsRow_below hown2 ((Below.refl w2.heap.size w2).alloc (Nat.le_refl _) (.cells #[.slice AR R.length CR2] 27)))
      have HB3 := Lib.hid (hb.out.trans (hb3.mono hsw))
      have HB3' := Lib.hid hb3
      clear hown hown2 hb2 hb2' hb3
      go_wp2_with (at_builtin; refine wpList_append_lies _ rfl _ _ 22 rfl w.heap.size 27 i1 (.slice none 0 0) 1 24 Tryd.underlying22 hj hy0 hy1 hy2 rfl (by decide) _ _ _ rfl ST.out.rows _ 1 1 [.slice AR R.length CR2] rfl rfl ?c1 ?c2 (by decide) ?c3 ?c4 ?c5 (w2.heap.size + 1) ?c6 ?_)
      try (case c1 => exact cell_at (by simp) _ _)
      case c2 => first | (intro u hu; simp at hu; subst hu; rfl) | rfl
      case c3 => unfold maxLen; omega
      case c4 => omega
      case c5 => simp; omega
      try (case c6 => simp)
      intro g2 cap2 w6 hown6 hgrow hat hg6
      have hat2 : _ ∨ g2 = (w2.alloc (.cells #[.slice AR R.length CR2] 27)).heap.size := hat.imp id (fun e => by rw [e]; simp)
      have st6 := Lib.hid (hst.out.put HB3'.out HRW.out hown6 hgrow hat2)
      have hb6 := Lib.hid (HB3.out.grown hgrow (by simp; omega) (fun i hi => (ST.out.rows.lt i hi).1))
      clear hgrow hat hat2 hown6
      go_wp2
      go_roundw
      case rel => exact ⟨k + 1, vs ++ [.slice AR R.length CR2], by omega, by rw [List.length_append, List.length_singleton]; omega, by go_num, by rw [HSN.out]; exact st6, hb6⟩
      case measure => simp [intOf]; omega
    · obtain rfl : k = xs.length := by omega
      obtain ⟨AB, capB, e, hrows⟩ := rowsN_out hst.out.rows hst.out.lies
      rw [List.take_length] at hrows e
      injection e with e1 e2 e3
      subst e1 e3
      rw [e2]
      have cT := Lib.hid (csv_Text m AA cap0 (sheetRows xs) wr (HM.out.below hb.out HM.out.pos) hrows HRO.out)
      clear hrows hst
      go_wp2_with fail
      refine cT.out.mono ?_
      rintro e w2 ⟨rfl, hb2⟩
      go_wp2
      go_ret
      exact ⟨rfl, hb.out.trans (hb2.mono hsw)⟩
end Go.Proofs.YtgfhgopfhcakhaaDoor
