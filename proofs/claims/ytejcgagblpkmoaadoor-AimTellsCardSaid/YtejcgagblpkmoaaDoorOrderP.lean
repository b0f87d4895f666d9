
/-
  The numbers of a set next to a number: the least that is not below, the greatest that is not above; by the row of its numbers, and by the words' bits.
-/
import Derived.Test.YtejcgagblpkmoaaDoorDoorS
import Derived.Test.YtejcgagblpkmoaaDoorRef03h
import Derived.Test.YtejcgagblpkmoaaDoorRef03f
set_option linter.unusedVariables false
set_option linter.unusedSimpArgs false
namespace Go.Proofs.YtejcgagblpkmoaaDoor
open Go.Joins Go.ChangeShapes Go.WideShapes Go.ChangeAt Go.RowKit Go.Deep

/-- The first of a row that is not below n. -/
def geL (n : Int) (r : Int × Bool) (l : List Int) : Int × Bool := l.foldr (fun a acc => if n ≤ a then (a, true) else acc) r
/-- The last of a row that is not above n. -/
def leL (n : Int) (l : List Int) : Int × Bool := l.foldl (fun acc a => if a ≤ n then (a, true) else acc) (0, false)
theorem geL_snoc (n : Int) (r : Int × Bool) (l : List Int) (a : Int) : geL n r (l ++ [a]) = geL n (if n ≤ a then (a, true) else r) l := by simp [geL]
theorem leL_snoc (n : Int) (l : List Int) (a : Int) : leL n (l ++ [a]) = if a ≤ n then (a, true) else leL n l := by simp [leL]
theorem geL_drop (n : Int) (l : List Int) (i : Nat) (hi : i < l.length) : geL n (0, false) (l.drop i) = if n ≤ at0 l i then (at0 l i, true) else geL n (0, false) (l.drop (i + 1)) := by
  rw [List.drop_eq_getElem_cons hi]
  have : at0 l i = l[i] := by unfold at0; simp [List.getD, List.getElem?_eq_getElem hi]
  rw [this]
  simp only [geL, List.foldr_cons]
theorem leL_take (n : Int) (l : List Int) (i : Nat) (hi : i < l.length) : leL n (l.take (i + 1)) = if at0 l i ≤ n then (at0 l i, true) else leL n (l.take i) := by
  have : at0 l i = l[i] := by unfold at0; simp [List.getD, List.getElem?_eq_getElem hi]
  rw [List.take_succ_eq_append_getElem hi, leL_snoc, this]
theorem geL_none (x y : Nat) (n : Int) (r : Int × Bool) : ∀ k : Nat, (∀ j : Nat, j < k → memB x y (j : Int) = true → ¬ n ≤ (j : Int)) → geL n r (preI x y k) = r
  | 0, _ => by simp [geL, preI]
  | k + 1, h => by
    cases hb : bitsF x y k with
    | true =>
      rw [pre_yes hb, geL_snoc, if_neg (h k (by omega) hb)]
      exact geL_none x y n r k fun j hj => h j (by omega)
    | false =>
      rw [pre_no hb]
      exact geL_none x y n r k fun j hj => h j (by omega)
theorem geL_some (x y : Nat) (n : Int) (m : Nat) (hm : memB x y (m : Int) = true) (hn : n ≤ (m : Int)) (hl : ∀ j : Nat, j < m → memB x y (j : Int) = true → ¬ n ≤ (j : Int)) : ∀ (k : Nat) (r : Int × Bool), m < k → geL n r (preI x y k) = ((m : Int), true)
  | 0, _, h => by omega
  | k + 1, r, h => by
    by_cases e : m = k
    · subst e
      rw [pre_yes hm, geL_snoc, if_pos hn]
      exact geL_none x y n _ m hl
    · cases hb : bitsF x y k with
      | true =>
        rw [pre_yes hb, geL_snoc]
        exact geL_some x y n m hm hn hl k _ (by omega)
      | false =>
        rw [pre_no hb]
        exact geL_some x y n m hm hn hl k _ (by omega)
theorem leL_none (x y : Nat) (n : Int) : ∀ k : Nat, (∀ j : Nat, j < k → memB x y (j : Int) = true → ¬ (j : Int) ≤ n) → leL n (preI x y k) = (0, false)
  | 0, _ => by simp [leL, preI]
  | k + 1, h => by
    cases hb : bitsF x y k with
    | true =>
      rw [pre_yes hb, leL_snoc, if_neg (h k (by omega) hb)]
      exact leL_none x y n k fun j hj => h j (by omega)
    | false =>
      rw [pre_no hb]
      exact leL_none x y n k fun j hj => h j (by omega)
theorem leL_some (x y : Nat) (n : Int) (m : Nat) (hm : memB x y (m : Int) = true) (hn : (m : Int) ≤ n) : ∀ k : Nat, m < k → (∀ j : Nat, j < k → m < j → memB x y (j : Int) = true → ¬ (j : Int) ≤ n) → leL n (preI x y k) = ((m : Int), true)
  | 0, h, _ => by omega
  | k + 1, h, hl => by
    by_cases e : m = k
    · subst e
      rw [pre_yes hm, leL_snoc, if_pos hn]
    · cases hb : bitsF x y k with
      | true =>
        rw [pre_yes hb, leL_snoc, if_neg (hl k (by omega) (by omega) hb)]
        exact leL_some x y n m hm hn k (by omega) fun j hj => hl j (by omega)
      | false =>
        rw [pre_no hb]
        exact leL_some x y n m hm hn k (by omega) fun j hj => hl j (by omega)
theorem tz_bit {x : Nat} (hx : Wd x) (h0 : x ≠ 0) : x.testBit (Lib.ctz 64 x) = true ∧ (∀ j, j < Lib.ctz 64 x → x.testBit j = false) ∧ Lib.ctz 64 x < 64 := by
  obtain ⟨m, hm, hk⟩ := Lib.ctzFrom_spec 64 x (by omega) hx
  have e : Lib.ctz 64 x = Lib.ctzFrom 64 x := by simp [Lib.ctz, h0]
  rw [e]
  generalize Lib.ctzFrom 64 x = c at *
  subst hm
  refine ⟨?_, ?_, hk⟩
  · rw [Nat.testBit_two_pow_mul]; simp
  · intro j hj
    rw [Nat.testBit_two_pow_mul]; simp; omega
theorem bl_bit {x : Nat} (hx : Wd x) (h0 : x ≠ 0) : ∃ k, Lib.bitLen x = k + 1 ∧ k < 64 ∧ x.testBit k = true ∧ ∀ j, k < j → x.testBit j = false := by
  obtain ⟨k, e, h1, h2⟩ := bl_spec hx h0
  refine ⟨k, e, ?_, ?_, ?_⟩
  · have := bl_le x hx; omega
  · have hp : 2 ^ (k + 1) = 2 ^ k + 2 ^ k := by rw [Nat.pow_succ]; omega
    rw [Nat.testBit_eq_decide_div_mod_eq]
    have : x / 2 ^ k = 1 := by
      apply Nat.div_eq_of_lt_le <;> omega
    rw [this]; rfl
  · intro j hj
    exact Nat.testBit_lt_two_pow (Nat.lt_of_lt_of_le h2 (Nat.pow_le_pow_right (by omega) hj))
theorem next_of (x y : Nat) (n : Int) (hx : Wd x) (hy : Wd y) : geL n (0, false) (items x y) = (nextI (fromX x n) (fromY y n), nextB (fromX x n) (fromY y n)) := by
  have hf := wd_from n hx hy
  have hm := fun j : Nat => mem_from hx hy n (j : Int)
  generalize fromX x n = a at *
  generalize fromY y n = b at *
  have out : ∀ j : Nat, j < 128 → memB a b (j : Int) = false → memB x y (j : Int) = true → ¬ n ≤ (j : Int) := fun j _ h1 h2 h3 => by
    have := hm j
    rw [h1, h2] at this
    simp at this
    omega
  have ins : ∀ j : Nat, memB a b (j : Int) = true → memB x y (j : Int) = true ∧ n ≤ (j : Int) := fun j h1 => by
    have := hm j
    rw [h1] at this
    simpa using this.symm
  by_cases ha : a = 0
  · subst ha
    by_cases hb : b = 0
    · subst hb
      rw [show (nextI 0 0, nextB 0 0) = ((0 : Int), false) from rfl]
      exact geL_none x y n _ 128 fun j hj => out j hj (mem_zero _)
    · obtain ⟨t1, t2, t3⟩ := tz_bit hf.2 hb
      rw [show nextI 0 b = ((64 + Lib.ctz 64 b : Nat) : Int) by unfold nextI; rw [if_neg (by simp), if_pos hb]; omega, show nextB 0 b = true by unfold nextB; simp [hb]]
      have hmm : memB 0 b ((64 + Lib.ctz 64 b : Nat) : Int) = true := by rw [mem_nat, if_neg (by omega), if_pos (by omega), show 64 + Lib.ctz 64 b - 64 = Lib.ctz 64 b by omega]; exact t1
      refine geL_some x y n _ (ins _ hmm).1 (ins _ hmm).2 (fun j hj => out j (by omega) ?_) 128 _ (by omega)
      rw [mem_nat]
      by_cases h64 : j < 64
      · rw [if_pos h64]; simp
      · rw [if_neg h64, if_pos (by omega)]; exact t2 _ (by omega)
  · obtain ⟨t1, t2, t3⟩ := tz_bit hf.1 ha
    rw [show nextI a b = ((Lib.ctz 64 a : Nat) : Int) by unfold nextI; rw [if_pos ha], show nextB a b = true by unfold nextB; simp [ha]]
    have hmm : memB a b ((Lib.ctz 64 a : Nat) : Int) = true := by rw [mem_nat, if_pos t3]; exact t1
    refine geL_some x y n _ (ins _ hmm).1 (ins _ hmm).2 (fun j hj => out j (by omega) ?_) 128 _ (by omega)
    rw [mem_nat, if_pos (by omega)]; exact t2 _ hj
theorem prev_neg (x y : Nat) (n : Int) (hn : n < 0) : leL n (items x y) = (0, false) := leL_none x y n 128 fun j _ _ => by omega
theorem prev_of (x y : Nat) (n : Int) (hx : Wd x) (hy : Wd y) (hn : 0 ≤ n) : leL n (items x y) = (prevI (prevX x n) (prevY y n), nextB (prevX x n) (prevY y n)) := by
  have hf : Wd (prevX x n) ∧ Wd (prevY y n) := ⟨wd_belX _ hx, wd_belY _ hy⟩
  have hm : ∀ j : Nat, memB (prevX x n) (prevY y n) (j : Int) = (memB x y j && decide ((j : Int) < upto n)) := fun j => mem_bel (upto n) (j : Int)
  generalize prevX x n = a at *
  generalize prevY y n = b at *
  have out : ∀ j : Nat, j < 128 → memB a b (j : Int) = false → memB x y (j : Int) = true → ¬ (j : Int) ≤ n := fun j hj h1 h2 h3 => by
    have := hm j
    rw [h1, h2] at this
    simp at this
    unfold upto at this
    omega
  have ins : ∀ j : Nat, memB a b (j : Int) = true → memB x y (j : Int) = true ∧ (j : Int) ≤ n := fun j h1 => by
    have := hm j
    rw [h1] at this
    have h2 : memB x y (j : Int) = true ∧ (j : Int) < upto n := by simpa using this.symm
    refine ⟨h2.1, ?_⟩
    have h3 : (j : Int) < 128 := by
      apply Decidable.byContradiction
      intro h
      rw [mem_out (.inr (by omega))] at h2
      exact absurd h2.1 (by simp)
    have := h2.2
    unfold upto at this
    omega
  by_cases hb : b = 0
  · subst hb
    by_cases ha : a = 0
    · subst ha
      rw [show (prevI 0 0, nextB 0 0) = ((0 : Int), false) from rfl]
      exact leL_none x y n 128 fun j hj => out j hj (mem_zero _)
    · obtain ⟨k, e, t3, t1, t2⟩ := bl_bit hf.1 ha
      rw [show prevI a 0 = ((k : Nat) : Int) by unfold prevI; rw [if_neg (by simp), if_pos ha, e]; omega, show nextB a 0 = true by unfold nextB; simp [ha]]
      have hmm : memB a 0 ((k : Nat) : Int) = true := by rw [mem_nat, if_pos t3]; exact t1
      refine leL_some x y n _ (ins _ hmm).1 (ins _ hmm).2 128 (by omega) (fun j hj hk => out j (by omega) ?_)
      rw [mem_nat]
      by_cases h64 : j < 64
      · rw [if_pos h64]; exact t2 _ hk
      · rw [if_neg h64, if_pos (by omega)]; simp
  · obtain ⟨k, e, t3, t1, t2⟩ := bl_bit hf.2 hb
    rw [show prevI a b = ((64 + k : Nat) : Int) by unfold prevI; rw [if_pos hb, e]; omega, show nextB a b = true by unfold nextB; simp [hb]]
    have hmm : memB a b ((64 + k : Nat) : Int) = true := by rw [mem_nat, if_neg (by omega), if_pos (by omega), show 64 + k - 64 = k by omega]; exact t1
    refine leL_some x y n _ (ins _ hmm).1 (ins _ hmm).2 128 (by omega) (fun j hj hk => out j (by omega) ?_)
    rw [mem_nat, if_neg (by omega), if_pos (by omega)]
    exact t2 _ (by omega)
/-- What lies in a range, two ways. -/
theorem rng_from {x y : Nat} (hx : Wd x) (hy : Wd y) (a b : Int) : mkX (rngF x y a b) = fromX (belX x b) a ∧ mkY (rngF x y a b) = fromY (belY y b) a :=
  mk_bits (wd_from a (wd_belX b hx) (wd_belY b hy)).1 (wd_from a (wd_belX b hx) (wd_belY b hy)).2 fun m hm => by
    rw [mem_from (wd_belX b hx) (wd_belY b hy), mem_bel]
    unfold rngF bitsF
    cases memB x y (m : Int) <;> simp [Bool.and_comm]
theorem rng_bel {x y : Nat} (hx : Wd x) (hy : Wd y) (b : Int) : mkX (rngF x y 0 b) = belX x b ∧ mkY (rngF x y 0 b) = belY y b :=
  mk_bits (wd_belX b hx) (wd_belY b hy) fun m hm => by
    rw [mem_bel]
    unfold rngF bitsF
    cases memB x y (m : Int) <;> simp
theorem rng_fr {x y : Nat} (hx : Wd x) (hy : Wd y) (a : Int) : mkX (rngF x y a 128) = fromX x a ∧ mkY (rngF x y a 128) = fromY y a :=
  mk_bits (wd_from a hx hy).1 (wd_from a hx hy).2 fun m hm => by
    rw [mem_from hx hy]
    unfold rngF bitsF
    cases memB x y (m : Int) <;> simp <;> omega
end Go.Proofs.YtejcgagblpkmoaaDoor
