
/-
  Rows of texts with commas between, as lists of bytes: written, read strictly, read loosely. No program in sight.
-/
import Derived.Test.YtgfhgopfhcakhaaDoorDecP
set_option linter.unusedVariables false
set_option linter.unusedSimpArgs false
namespace Go.Proofs.YtgfhgopfhcakhaaDoor

abbrev Byt := List UInt8
/-- May a byte not stand as it is? -/
def spec (c : UInt8) : Bool := c == 44 || c == 34 || c == 10 || c == 13
/-- May a text stand as it is? -/
def plainT (s : Byt) : Bool := s.all (fun c => !spec c) && !s.isEmpty
/-- Each quotation mark twice. -/
def dbl : Byt → Byt
  | [] => []
  | c :: r => if c = 34 then 34 :: 34 :: dbl r else c :: dbl r
def cellT (s : Byt) : Byt := if plainT s = true then s else 34 :: (dbl s ++ [34])
/-- A row's texts with commas between. -/
def bodyT : List Byt → Byt
  | [] => []
  | [x] => cellT x
  | x :: y :: r => cellT x ++ 44 :: bodyT (y :: r)
def rowT (r : List Byt) : Byt := bodyT r ++ [10]
def rowsT : List (List Byt) → Byt
  | [] => []
  | r :: rs => rowT r ++ rowsT rs
/-- What stands behind an opening quotation mark, up to its end: the text, and how many bytes. -/
def quotS : Byt → Option (Byt × Nat)
  | [] => none
  | [c] => if c = 34 then some ([], 1) else none
  | c :: d :: r => if c = 34 then (if d = 34 then (quotS r).map (fun p => (34 :: p.1, p.2 + 2)) else some ([], 1)) else (quotS (d :: r)).map (fun p => (c :: p.1, p.2 + 1))
def stopB (c : UInt8) : Bool := c == 44 || c == 10
/-- The text at the head: the text, how many bytes, is it one? -/
def cellS (l : Byt) : Byt × Nat × Bool :=
  if l.head? = some 34 then (match quotS l.tail with
    | some (t, n) => (t, n + 1, !plainT t)
    | none => ([], 0, false))
  else (l.takeWhile (fun c => !stopB c), (l.takeWhile (fun c => !stopB c)).length, plainT (l.takeWhile (fun c => !stopB c)))
/-- Read strictly. -/
def readS : Nat → Byt → List Byt → List (List Byt) → Option (List (List Byt))
  | 0, l, row, out => if l.isEmpty = true then (if row.isEmpty = true then some out else none) else none
  | f + 1, l, row, out => if l.isEmpty = true then (if row.isEmpty = true then some out else none) else
      (if (cellS l).2.2 = true then (match l.drop (cellS l).2.1 with
        | [] => none
        | c :: r => if c = 44 then readS f r (row ++ [(cellS l).1]) out else if c = 10 then readS f r [] (out ++ [row ++ [(cellS l).1]]) else none)
      else none)
/-- Read loosely: the rows, the row, the word, within quotation marks? -/
def looseS : Byt → List (List Byt) → List Byt → Byt → Bool → List (List Byt)
  | [], rows, _, _, _ => rows
  | [c], rows, row, word, b => if c = 34 then rows else if b = false ∧ c = 44 then rows else if b = false ∧ c = 10 then rows ++ [row ++ [word]] else rows
  | c :: d :: r, rows, row, word, b =>
    if b = true ∧ c = 34 ∧ d = 34 then looseS r rows row (word ++ [34]) b
    else if c = 34 then looseS (d :: r) rows row word (!b)
    else if b = false ∧ c = 44 then looseS (d :: r) rows (row ++ [word]) [] b
    else if b = false ∧ c = 10 then looseS (d :: r) (rows ++ [row ++ [word]]) [] [] b
    else looseS (d :: r) rows row (word ++ [c]) b

theorem plain_iff {s : Byt} : plainT s = true ↔ s ≠ [] ∧ ∀ c ∈ s, spec c = false := by
  unfold plainT
  rw [Bool.and_eq_true, List.all_eq_true]
  constructor
  · rintro ⟨h1, h2⟩
    exact ⟨fun e => by rw [e] at h2; simp at h2, fun c hc => by simpa using h1 c hc⟩
  · rintro ⟨h1, h2⟩
    exact ⟨fun c hc => by simpa using h2 c hc, by cases s with | nil => exact absurd rfl h1 | cons a s => rfl⟩
theorem spec_no {c : UInt8} (h : spec c = false) : c ≠ 44 ∧ c ≠ 34 ∧ c ≠ 10 ∧ c ≠ 13 := by
  unfold spec at h
  simp at h
  exact ⟨h.1.1.1, h.1.1.2, h.1.2, h.2⟩
theorem stop_no {c : UInt8} (h : spec c = false) : stopB c = false := by
  obtain ⟨h1, _, h2, _⟩ := spec_no h
  unfold stopB
  simp [h1, h2]
/-- What was doubled is read as it was. -/
theorem quot_dbl (x : Byt) (c : UInt8) (hc : c ≠ 34) (rest : Byt) : quotS (dbl x ++ 34 :: c :: rest) = some (x, (dbl x).length + 1) := by
  induction x with
  | nil => simp [dbl, quotS, hc]
  | cons a x ih =>
    unfold dbl
    by_cases h : a = 34
    · subst h
      rw [if_pos rfl]
      show quotS (34 :: 34 :: (dbl x ++ 34 :: c :: rest)) = _
      simp only [quotS]
      rw [ih]
      simp
    · rw [if_neg h]
      show quotS (a :: (dbl x ++ 34 :: c :: rest)) = _
      obtain ⟨d, r, e⟩ : ∃ d r, dbl x ++ 34 :: c :: rest = d :: r := by
        cases dbl x with
        | nil => exact ⟨_, _, rfl⟩
        | cons d r => exact ⟨_, _, rfl⟩
      rw [e] at ih ⊢
      simp only [quotS]
      rw [if_neg h, ih]
      simp
theorem take_plain {x : Byt} (h : ∀ c ∈ x, spec c = false) (c : UInt8) (hc : stopB c = true) (rest : Byt) : (x ++ c :: rest).takeWhile (fun c => !stopB c) = x := by
  induction x with
  | nil => simp [hc]
  | cons a x ih =>
    rw [List.cons_append, List.takeWhile_cons, stop_no (h a (List.mem_cons_self ..))]
    simp only [Bool.not_false, if_true]
    rw [ih (fun c hc => h c (List.mem_cons_of_mem _ hc))]
/-- A text that was written is read as it was. -/
theorem cell_back (x : Byt) (c : UInt8) (hc : stopB c = true) (rest : Byt) : cellS (cellT x ++ c :: rest) = (x, (cellT x).length, true) := by
  have hc34 : c ≠ 34 := fun e => by rw [e] at hc; exact absurd hc (by decide)
  unfold cellT
  by_cases hp : plainT x = true
  · rw [if_pos hp]
    obtain ⟨h1, h2⟩ := plain_iff.1 hp
    have ht := take_plain h2 c hc rest
    have hh : (x ++ c :: rest).head? ≠ some 34 := by
      cases x with
      | nil => exact absurd rfl h1
      | cons a x =>
        intro e
        simp at e
        exact (spec_no (h2 a (List.mem_cons_self ..))).2.1 e
    unfold cellS
    rw [if_neg hh, ht, hp]
  · rw [if_neg hp]
    have e : (34 :: (dbl x ++ [34])) ++ c :: rest = 34 :: (dbl x ++ 34 :: c :: rest) := by simp
    rw [e]
    have hh : (34 :: (dbl x ++ 34 :: c :: rest)).head? = some 34 := rfl
    unfold cellS
    rw [if_pos hh]
    simp only [List.tail_cons]
    rw [quot_dbl x c hc34 rest]
    have hpf : plainT x = false := by simpa using hp
    simp only
    rw [hpf]
    simp
theorem cellT_ne (x : Byt) : cellT x ≠ [] := by
  unfold cellT
  by_cases hp : plainT x = true
  · rw [if_pos hp]; exact (plain_iff.1 hp).1
  · rw [if_neg hp]; simp
/-- A text behind which a row goes on, or ends. -/
theorem read_cell (f : Nat) (x : Byt) (c : UInt8) (hc : stopB c = true) (rest : Byt) (row : List Byt) (out : List (List Byt)) :
    readS (f + 1) (cellT x ++ c :: rest) row out = if c = 44 then readS f rest (row ++ [x]) out else readS f rest [] (out ++ [row ++ [x]]) := by
  have hb := cell_back x c hc rest
  have hne : (cellT x ++ c :: rest).isEmpty = false := by
    have := cellT_ne x
    cases h : cellT x with
    | nil => exact absurd h this
    | cons a l => rfl
  simp only [readS]
  rw [hne, hb]
  simp only [Bool.false_eq_true, if_false, if_true]
  rw [show (cellT x ++ c :: rest).drop (cellT x).length = c :: rest by simp]
  simp only
  by_cases h : c = 44
  · rw [if_pos h, if_pos h]
  · rw [if_neg h, if_neg h, if_pos]
    unfold stopB at hc
    simpa [h] using hc
theorem read_body : ∀ (r : List Byt) (f : Nat) (rest : Byt) (row : List Byt) (out : List (List Byt)), r ≠ [] → readS (f + r.length) (bodyT r ++ 10 :: rest) row out = readS f rest [] (out ++ [row ++ r])
  | [], _, _, _, _, h => absurd rfl h
  | [x], f, rest, row, out, _ => by
    show readS (f + 1) (cellT x ++ 10 :: rest) row out = _
    rw [read_cell f x 10 (by decide) rest row out, if_neg (by decide)]
  | x :: y :: r, f, rest, row, out, _ => by
    show readS (f + (r.length + 1) + 1) ((cellT x ++ 44 :: bodyT (y :: r)) ++ 10 :: rest) row out = _
    rw [List.append_assoc, List.cons_append, read_cell _ x 44 (by decide) _ row out, if_pos rfl]
    have := read_body (y :: r) f rest (row ++ [x]) out (by simp)
    rw [show f + (r.length + 1) = f + (y :: r).length from rfl, this]
    simp
/-- How many texts. -/
def cellsN : List (List Byt) → Nat
  | [] => 0
  | r :: rs => r.length + cellsN rs
theorem read_rows (rs : List (List Byt)) (h : ∀ r ∈ rs, r ≠ []) (f : Nat) (out : List (List Byt)) : readS (f + cellsN rs) (rowsT rs) [] out = some (out ++ rs) := by
  induction rs generalizing out with
  | nil => cases f <;> simp [rowsT, readS, cellsN]
  | cons r rs ih =>
    have hr := h r (List.mem_cons_self ..)
    show readS (f + (r.length + cellsN rs)) ((bodyT r ++ [10]) ++ rowsT rs) [] out = _
    rw [show (bodyT r ++ [10]) ++ rowsT rs = bodyT r ++ 10 :: rowsT rs by simp, show f + (r.length + cellsN rs) = (f + cellsN rs) + r.length by omega, read_body r _ _ _ _ hr]
    rw [ih (fun r hr => h r (List.mem_cons_of_mem _ hr))]
    simp

/-- What is read in quotation marks stood there doubled. -/
theorem quot_of : ∀ (l t : Byt) (n : Nat), quotS l = some (t, n) → l.take n = dbl t ++ [34] ∧ n = (dbl t).length + 1 ∧ n ≤ l.length
  | [], t, n, h => by simp [quotS] at h
  | [c], t, n, h => by
    simp only [quotS] at h
    by_cases e : c = 34
    · rw [if_pos e] at h
      injection h with h
      injection h with h1 h2
      subst h1 h2
      subst e
      exact ⟨rfl, rfl, by simp⟩
    · rw [if_neg e] at h; cases h
  | c :: d :: r, t, n, h => by
    simp only [quotS] at h
    by_cases e : c = 34
    · rw [if_pos e] at h
      by_cases e2 : d = 34
      · rw [if_pos e2] at h
        cases hq : quotS r with
        | none => rw [hq] at h; cases h
        | some p =>
          obtain ⟨t', n'⟩ := p
          rw [hq] at h
          simp at h
          obtain ⟨h1, h2⟩ := h
          obtain ⟨i1, i2, i3⟩ := quot_of r t' n' hq
          subst h1 h2 e e2
          refine ⟨?_, ?_, by simp; omega⟩
          · simp [dbl, i1]
          · simp [dbl, i2]
      · rw [if_neg e2] at h
        injection h with h
        injection h with h1 h2
        subst h1 h2 e
        exact ⟨rfl, rfl, by simp⟩
    · rw [if_neg e] at h
      cases hq : quotS (d :: r) with
      | none => rw [hq] at h; cases h
      | some p =>
        obtain ⟨t', n'⟩ := p
        rw [hq] at h
        simp at h
        obtain ⟨h1, h2⟩ := h
        obtain ⟨i1, i2, i3⟩ := quot_of (d :: r) t' n' hq
        subst h1 h2
        refine ⟨?_, ?_, by simp at i3 ⊢; omega⟩
        · simp only [dbl]
          rw [if_neg e, List.take_succ_cons, i1]
          rfl
        · simp only [dbl]
          rw [if_neg e]
          simp [i2]
theorem take_while_take (p : UInt8 → Bool) (l : Byt) : l.take (l.takeWhile p).length = l.takeWhile p := by
  induction l with
  | nil => rfl
  | cons a l ih =>
    rw [List.takeWhile_cons]
    split
    · simp [ih]
    · rfl
/-- What is read as a text stood there as it is written. -/
theorem cell_of {l : Byt} (h : (cellS l).2.2 = true) : l.take (cellS l).2.1 = cellT (cellS l).1 ∧ (cellS l).2.1 ≤ l.length := by
  unfold cellS at h ⊢
  by_cases hh : l.head? = some 34
  · rw [if_pos hh] at h ⊢
    cases l with
    | nil => cases hh
    | cons a r =>
      simp at hh
      subst hh
      simp only [List.tail_cons] at h ⊢
      cases hq : quotS r with
      | none => rw [hq] at h; cases h
      | some p =>
        obtain ⟨t, n⟩ := p
        rw [hq] at h
        simp only at h ⊢
        obtain ⟨i1, i2, i3⟩ := quot_of r t n hq
        refine ⟨?_, by simp; omega⟩
        rw [List.take_succ_cons, i1]
        unfold cellT
        have : plainT t = false := by simpa using h
        rw [this]
        rfl
  · rw [if_neg hh] at h ⊢
    simp only at h ⊢
    refine ⟨?_, ?_⟩
    · rw [take_while_take]
      unfold cellT
      rw [if_pos h]
    · exact List.Sublist.length_le (List.takeWhile_sublist _)
theorem bodyT_cons (x : Byt) (r : List Byt) (h : r ≠ []) : bodyT (x :: r) = cellT x ++ 44 :: bodyT r := by
  cases r with
  | nil => exact absurd rfl h
  | cons y r => rfl
/-- What was read strictly is what the rows write. -/
theorem read_of : ∀ (f : Nat) (l : Byt) (row : List Byt) (out res : List (List Byt)), readS f l row out = some res →
    (l = [] ∧ row = [] ∧ res = out) ∨ ∃ (cs : List Byt) (rs : List (List Byt)), cs ≠ [] ∧ l = bodyT cs ++ 10 :: rowsT rs ∧ (∀ r ∈ rs, r ≠ []) ∧ res = out ++ (row ++ cs) :: rs := by
  intro f
  induction f with
  | zero =>
    intro l row out res h
    simp only [readS] at h
    by_cases hl : l.isEmpty = true
    · rw [if_pos hl] at h
      by_cases hr : row.isEmpty = true
      · rw [if_pos hr] at h
        injection h with h
        exact .inl ⟨by simpa using hl, by simpa using hr, h.symm⟩
      · rw [if_neg hr] at h; cases h
    · rw [if_neg hl] at h; cases h
  | succ f ih =>
    intro l row out res h
    simp only [readS] at h
    by_cases hl : l.isEmpty = true
    · rw [if_pos hl] at h
      by_cases hr : row.isEmpty = true
      · rw [if_pos hr] at h
        injection h with h
        exact .inl ⟨by simpa using hl, by simpa using hr, h.symm⟩
      · rw [if_neg hr] at h; cases h
    · rw [if_neg hl] at h
      by_cases hc : (cellS l).2.2 = true
      · rw [if_pos hc] at h
        obtain ⟨c1, c2⟩ := cell_of hc
        have hsplit := List.take_append_drop (cellS l).2.1 l
        rw [c1] at hsplit
        cases hd : l.drop (cellS l).2.1 with
        | nil => rw [hd] at h; cases h
        | cons c r =>
          rw [hd] at h hsplit
          simp only at h
          clear c1 c2 hd hc
          generalize (cellS l).1 = t at hsplit h ⊢
          by_cases e1 : c = 44
          · rw [if_pos e1] at h
            rcases ih _ _ _ _ h with ⟨_, h2, _⟩ | ⟨cs, rs, h1, h2, h3, h4⟩
            · simp at h2
            · refine .inr ⟨t :: cs, rs, by simp, ?_, h3, by rw [h4]; simp⟩
              rw [bodyT_cons _ _ h1, ← hsplit, e1, h2]
              simp
          · rw [if_neg e1] at h
            by_cases e2 : c = 10
            · rw [if_pos e2] at h
              rcases ih _ _ _ _ h with ⟨h1, _, h3⟩ | ⟨cs, rs, h1, h2, h3, h4⟩
              · refine .inr ⟨[t], [], by simp, ?_, by simp, by rw [h3]⟩
                rw [← hsplit, e2, h1]
                rfl
              · refine .inr ⟨[t], cs :: rs, by simp, ?_, ?_, by rw [h4]; simp⟩
                · rw [← hsplit, e2, h2]
                  simp [bodyT, rowsT, rowT]
                · intro r' hr'
                  rcases List.mem_cons.1 hr' with e | e
                  · rw [e]; exact h1
                  · exact h3 r' e
            · rw [if_neg e2] at h; cases h
      · rw [if_neg hc] at h; cases h
theorem read_sound {f : Nat} {l : Byt} {res : List (List Byt)} (h : readS f l [] [] = some res) : rowsT res = l ∧ ∀ r ∈ res, r ≠ [] := by
  rcases read_of f l [] [] res h with ⟨h1, _, h3⟩ | ⟨cs, rs, h1, h2, h3, h4⟩
  · rw [h1, h3]; exact ⟨rfl, by simp⟩
  · rw [h4, h2]
    refine ⟨by simp [rowsT, rowT], ?_⟩
    intro r hr
    simp at hr
    rcases hr with e | e
    · rw [e]; exact h1
    · exact h3 r e

/-- A text within quotation marks, read loosely. -/
theorem loose_dbl (x : Byt) (c : UInt8) (hc : c ≠ 34) (rest : Byt) (rows : List (List Byt)) (row : List Byt) (word : Byt) :
    looseS (dbl x ++ 34 :: c :: rest) rows row word true = looseS (c :: rest) rows row (word ++ x) false := by
  induction x generalizing word with
  | nil =>
    show looseS (34 :: c :: rest) rows row word true = _
    simp only [looseS]
    rw [if_neg (fun h => hc h.2.2), if_pos trivial]
    simp
  | cons a x ih =>
    unfold dbl
    by_cases h : a = 34
    · rw [if_pos h]
      show looseS (34 :: 34 :: (dbl x ++ 34 :: c :: rest)) rows row word true = _
      simp only [looseS]
      rw [if_pos ⟨trivial, trivial, trivial⟩, ih, h]
      simp
    · rw [if_neg h]
      show looseS (a :: (dbl x ++ 34 :: c :: rest)) rows row word true = _
      have ih := ih (word ++ [a])
      obtain ⟨d, r, e⟩ : ∃ d r, dbl x ++ 34 :: c :: rest = d :: r := by
        cases dbl x with
        | nil => exact ⟨_, _, rfl⟩
        | cons d r => exact ⟨_, _, rfl⟩
      rw [e] at ih ⊢
      simp only [looseS]
      rw [if_neg (fun hh => h hh.2.1), if_neg h, if_neg (fun hh => by cases hh.1), if_neg (fun hh => by cases hh.1), ih]
      simp
theorem loose_plain (x : Byt) (hx : ∀ c ∈ x, spec c = false) (c : UInt8) (rest : Byt) (rows : List (List Byt)) (row : List Byt) (word : Byt) :
    looseS (x ++ c :: rest) rows row word false = looseS (c :: rest) rows row (word ++ x) false := by
  induction x generalizing word with
  | nil => simp
  | cons a x ih =>
    obtain ⟨h1, h2, h3, _⟩ := spec_no (hx a (List.mem_cons_self ..))
    have ih := ih (fun c hc => hx c (List.mem_cons_of_mem _ hc)) (word ++ [a])
    show looseS (a :: (x ++ c :: rest)) rows row word false = _
    obtain ⟨d, r, e⟩ : ∃ d r, x ++ c :: rest = d :: r := by
      cases x with
      | nil => exact ⟨_, _, rfl⟩
      | cons d r => exact ⟨_, _, rfl⟩
    rw [e] at ih ⊢
    simp only [looseS]
    rw [if_neg (fun hh => by cases hh.1), if_neg h2, if_neg (fun hh => h1 hh.2), if_neg (fun hh => h3 hh.2), ih]
    simp
theorem loose_cell (x : Byt) (c : UInt8) (hc : stopB c = true) (rest : Byt) (rows : List (List Byt)) (row : List Byt) :
    looseS (cellT x ++ c :: rest) rows row [] false = looseS (c :: rest) rows row x false := by
  have hc34 : c ≠ 34 := fun e => by rw [e] at hc; exact absurd hc (by decide)
  unfold cellT
  by_cases hp : plainT x = true
  · rw [if_pos hp, loose_plain x (plain_iff.1 hp).2]
    simp
  · rw [if_neg hp]
    show looseS (34 :: ((dbl x ++ [34]) ++ c :: rest)) rows row [] false = _
    have e0 : (dbl x ++ [34]) ++ c :: rest = dbl x ++ 34 :: c :: rest := by simp
    rw [e0]
    have h := loose_dbl x c hc34 rest rows row []
    obtain ⟨d, r, e⟩ : ∃ d r, dbl x ++ 34 :: c :: rest = d :: r := by
      cases dbl x with
      | nil => exact ⟨_, _, rfl⟩
      | cons d r => exact ⟨_, _, rfl⟩
    rw [e] at h ⊢
    simp only [looseS]
    rw [if_neg (fun hh => by cases hh.1), if_pos trivial]
    simpa using h
/-- A row's end, or its next text. -/
theorem loose_stop44 (d : UInt8) (rest : Byt) (rows : List (List Byt)) (row : List Byt) (word : Byt) : looseS (44 :: d :: rest) rows row word false = looseS (d :: rest) rows (row ++ [word]) [] false := by
  simp only [looseS]
  rw [if_neg (fun hh => by cases hh.1), if_neg (by decide), if_pos ⟨trivial, trivial⟩]
theorem loose_stop10 (rest : Byt) (rows : List (List Byt)) (row : List Byt) (word : Byt) : looseS (10 :: rest) rows row word false = looseS rest (rows ++ [row ++ [word]]) [] [] false := by
  cases rest with
  | nil =>
    simp only [looseS]
    rw [if_neg (by decide), if_neg (fun hh => by have := hh.2; exact absurd this (by decide)), if_pos ⟨trivial, trivial⟩]
  | cons d rest =>
    simp only [looseS]
    rw [if_neg (fun hh => by cases hh.1), if_neg (by decide), if_neg (fun hh => by have := hh.2; exact absurd this (by decide)), if_pos ⟨trivial, trivial⟩]
theorem bodyT_ne (r : List Byt) (h : r ≠ []) : ∃ d l, bodyT r = d :: l := by
  match r, h with
  | [x], _ =>
    cases hx : cellT x with
    | nil => exact absurd hx (cellT_ne x)
    | cons d l => exact ⟨d, l, hx⟩
  | x :: y :: r, _ =>
    cases hx : cellT x with
    | nil => exact absurd hx (cellT_ne x)
    | cons d l => exact ⟨d, l ++ 44 :: bodyT (y :: r), by show cellT x ++ _ = _; rw [hx]; rfl⟩
theorem loose_body : ∀ (r : List Byt) (rest : Byt) (rows : List (List Byt)) (row : List Byt), r ≠ [] → looseS (bodyT r ++ 10 :: rest) rows row [] false = looseS rest (rows ++ [row ++ r]) [] [] false
  | [], _, _, _, h => absurd rfl h
  | [x], rest, rows, row, _ => by
    show looseS (cellT x ++ 10 :: rest) rows row [] false = _
    rw [loose_cell x 10 (by decide), loose_stop10]
  | x :: y :: r, rest, rows, row, _ => by
    show looseS ((cellT x ++ 44 :: bodyT (y :: r)) ++ 10 :: rest) rows row [] false = _
    rw [List.append_assoc, List.cons_append, loose_cell x 44 (by decide)]
    obtain ⟨d, l, e⟩ := bodyT_ne (y :: r) (by simp)
    have h := loose_body (y :: r) rest rows (row ++ [x]) (by simp)
    rw [e] at h ⊢
    rw [List.cons_append] at h ⊢
    rw [loose_stop44, h]
    simp
theorem loose_rows (rs : List (List Byt)) (h : ∀ r ∈ rs, r ≠ []) (rows : List (List Byt)) : looseS (rowsT rs) rows [] [] false = rows ++ rs := by
  induction rs generalizing rows with
  | nil => simp [rowsT, looseS]
  | cons r rs ih =>
    show looseS ((bodyT r ++ [10]) ++ rowsT rs) rows [] [] false = _
    rw [show (bodyT r ++ [10]) ++ rowsT rs = bodyT r ++ 10 :: rowsT rs by simp, loose_body r _ _ _ (h r (List.mem_cons_self ..)), ih (fun r hr => h r (List.mem_cons_of_mem _ hr))]
    simp
/-- Rows that are read loosely are not empty. -/
theorem loose_ne : ∀ (l : Byt) (rows : List (List Byt)) (row : List Byt) (word : Byt) (b : Bool), (∀ r ∈ rows, r ≠ []) → ∀ r ∈ looseS l rows row word b, r ≠ []
  | [], rows, row, word, b, h => by simpa [looseS] using h
  | [c], rows, row, word, b, h => by
    have h2 : ∀ r ∈ rows ++ [row ++ [word]], r ≠ [] := fun r hr => by
      rcases List.mem_append.1 hr with e | e
      · exact h r e
      · simp at e; rw [e]; simp
    simp only [looseS]
    split
    · exact h
    · split
      · exact h
      · split
        · exact h2
        · exact h
  | c :: d :: r, rows, row, word, b, h => by
    have h2 : ∀ r ∈ rows ++ [row ++ [word]], r ≠ [] := fun r hr => by
      rcases List.mem_append.1 hr with e | e
      · exact h r e
      · simp at e; rw [e]; simp
    simp only [looseS]
    split
    · exact loose_ne r _ _ _ _ h
    · split
      · exact loose_ne (d :: r) _ _ _ _ h
      · split
        · exact loose_ne (d :: r) _ _ _ _ h
        · split
          · exact loose_ne (d :: r) _ _ _ _ h2
          · exact loose_ne (d :: r) _ _ _ _ h
theorem cells_le (rs : List (List Byt)) (h : ∀ r ∈ rs, r ≠ []) : cellsN rs ≤ (rowsT rs).length := by
  have hb : ∀ r : List Byt, r.length ≤ (bodyT r).length := fun r => by
    induction r with
    | nil => simp [bodyT]
    | cons x r ih =>
      have hx : 0 < (cellT x).length := List.length_pos_iff.2 (cellT_ne x)
      cases r with
      | nil => simp [bodyT]; omega
      | cons y r => rw [bodyT_cons x (y :: r) (by simp)]; simp only [List.length_append, List.length_cons] at ih ⊢; omega
  induction rs with
  | nil => simp [cellsN, rowsT]
  | cons r rs ih =>
    have h1 := hb r
    have h2 := ih (fun r hr => h r (List.mem_cons_of_mem _ hr))
    simp only [cellsN, rowsT, rowT, List.length_append, List.length_cons, List.length_nil]
    omega
/-- Read strictly, with as much fuel as there are bytes: just what is written. -/
theorem read_iff (l : Byt) : readS l.length l [] [] = if rowsT (looseS l [] [] [] false) = l then some (looseS l [] [] [] false) else none := by
  cases h : readS l.length l [] [] with
  | some res =>
    obtain ⟨h1, h2⟩ := read_sound h
    have h3 := loose_rows res h2 []
    rw [h1] at h3
    rw [h3, List.nil_append, if_pos h1]
  | none =>
    rw [if_neg]
    intro he
    have hn := loose_ne l [] [] [] false (by simp)
    have hr := read_rows (looseS l [] [] [] false) hn (l.length - cellsN (looseS l [] [] [] false)) []
    have hle := cells_le (looseS l [] [] [] false) hn
    rw [he] at hle hr
    rw [show l.length - cellsN (looseS l [] [] [] false) + cellsN (looseS l [] [] [] false) = l.length by omega] at hr
    rw [hr] at h
    cases h
end Go.Proofs.YtgfhgopfhcakhaaDoor
