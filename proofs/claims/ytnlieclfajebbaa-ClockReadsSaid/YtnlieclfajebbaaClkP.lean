
/-
  A text as a time of day, and why it is none: lists of bytes alone. No program in sight; no conditions.
-/
import Derived.Test.YtnlieclfajebbaaPart
import Derived.Test.YtnlieclfajebbaaClockT
import Derived.Test.YtnlieclfajebbaaCmpP
set_option linter.unusedVariables false
set_option linter.unusedSimpArgs false
namespace Go.Proofs.Ytnlieclfajebbaa

def cutD : List UInt8 → Option (List UInt8 × List UInt8)
  | [] => none
  | c :: l => if c = 100 then some ([], l) else (cutD l).map fun (x : List UInt8 × List UInt8) => (c :: x.1, x.2)
theorem cutD_none {l : List UInt8} (h : cutD l = none) : ∀ c ∈ l, c ≠ 100 := by
  induction l with
  | nil => simp
  | cons a l ih =>
    unfold cutD at h
    by_cases ha : a = 100
    · rw [if_pos ha] at h; cases h
    · rw [if_neg ha] at h
      have := ih (by simpa using h)
      intro c hc
      rcases List.mem_cons.1 hc with rfl | hc
      · exact ha
      · exact this c hc
theorem cutD_some {l p q : List UInt8} (h : cutD l = some (p, q)) : l = p ++ 100 :: q ∧ ∀ c ∈ p, c ≠ 100 := by
  induction l generalizing p with
  | nil => cases h
  | cons a l ih =>
    unfold cutD at h
    by_cases ha : a = 100
    · rw [if_pos ha] at h
      injection h with h
      injection h with h1 h2
      subst h1 h2 ha
      exact ⟨rfl, by simp⟩
    · rw [if_neg ha] at h
      rcases hc : cutD l with _ | ⟨x, y⟩
      · rw [hc] at h; cases h
      · rw [hc] at h
        injection h with h
        injection h with h1 h2
        dsimp only at h1 h2
        subst h1 h2
        obtain ⟨i1, i2⟩ := ih hc
        refine ⟨by rw [i1]; rfl, ?_⟩
        intro c hc
        rcases List.mem_cons.1 hc with rfl | hc
        · exact ha
        · exact i2 c hc
theorem cutD_of {p q : List UInt8} (h : ∀ c ∈ p, c ≠ 100) : cutD (p ++ 100 :: q) = some (p, q) := by
  induction p with
  | nil => unfold cutD; rw [List.nil_append]; dsimp only; rw [if_pos rfl]
  | cons a p ih =>
    rw [List.cons_append]
    unfold cutD
    rw [if_neg (h a (by simp)), ih (fun c hc => h c (by simp [hc]))]
    rfl
theorem cutD_no {p : List UInt8} (h : ∀ c ∈ p, c ≠ 100) : cutD p = none := by
  rcases hc : cutD p with _ | ⟨x, y⟩
  · rfl
  · have := (cutD_some hc).1
    exact absurd rfl (h 100 (by rw [this]; simp))
/-- Has a time of day its form? -/
def dayOK (q : List UInt8) : Prop := q.length = 8 ∧ q[2]? = some 58 ∧ q[5]? = some 58 ∧ 0 ≤ partV q 0 24 ∧ 0 ≤ partV q 3 60 ∧ 0 ≤ partV q 6 60
instance (q : List UInt8) : Decidable (dayOK q) := by unfold dayOK; infer_instance
def restD (q : List UInt8) : Int := partV q 0 24 * 3600 + partV q 3 60 * 60 + partV q 6 60
def tailV (D : Int) (q : List UInt8) : Int := if dayOK q then (if D = 1099511627776 then 0 else if 1099511627776 < D * 86400 + restD q then 0 else D * 86400 + restD q) else 0
def tailE (D : Int) (q : List UInt8) : Int := if dayOK q then (if D = 1099511627776 then 10 else if 1099511627776 < D * 86400 + restD q then 10 else 0) else 20
def badD (p : List UInt8) : Prop := readE p = 20 ∨ p.head? = some 45 ∨ (readE p = 0 ∧ readV p = 0)
instance (q : List UInt8) : Decidable (badD q) := by unfold badD; infer_instance
def dayN (p : List UInt8) : Int := if readE p ≠ 0 ∨ 12725829 < readV p then 1099511627776 else readV p
def clkRV (l : List UInt8) : Int := match cutD l with
  | none => tailV 0 l
  | some (p, q) => if badD p then 0 else tailV (dayN p) q
def clkRE (l : List UInt8) : Int := match cutD l with
  | none => tailE 0 l
  | some (p, q) => if badD p then 20 else tailE (dayN p) q
theorem twoN_pos {a b : UInt8} {lim : Int} (h : 0 ≤ twoN a b lim) : isD a = true ∧ isD b = true ∧ twoN a b lim = ((a.toNat : Int) - 48) * 10 + ((b.toNat : Int) - 48) ∧ twoN a b lim < lim := by
  unfold twoN at *
  split at h
  · rename_i hh
    rw [if_pos hh]
    exact ⟨hh.1, hh.2.1, rfl, hh.2.2⟩
  · omega
theorem rest_bd {q : List UInt8} (h : dayOK q) : 0 ≤ restD q ∧ restD q < 86400 := by
  obtain ⟨h1, h2, h3, h4, h5, h6⟩ := h
  have b1 : partV q 0 24 ≤ 23 ∧ partV q 3 60 ≤ 59 ∧ partV q 6 60 ≤ 59 := by
    match q, h1 with
    | [c0, c1, c2, c3, c4, c5, c6, c7], _ =>
      exact ⟨by have := (twoN_pos h4).2.2.2; show twoN c0 c1 24 ≤ 23; omega, by have := (twoN_pos h5).2.2.2; show twoN c3 c4 60 ≤ 59; omega, by have := (twoN_pos h6).2.2.2; show twoN c6 c7 60 ≤ 59; omega⟩
  unfold restD
  omega
/-- The number of the signs at the places of digits: what the document reckons. -/
def nk (q : List UInt8) : Nat → Int
  | 0 => 0
  | k + 1 => if k % 3 = 2 then nk q k else 10 * nk q k + ((q[k]?.getD 0).toNat : Int) - 48
theorem nk_bd (q : List UInt8) (k : Nat) : -30 * 10 ^ k + 30 ≤ nk q k ∧ nk q k ≤ 30 * 10 ^ k - 30 := by
  induction k with
  | zero => simp [nk]
  | succ k ih =>
    have hp : (1 : Int) ≤ 10 ^ k := by have := Nat.pow_pos (n := k) (show 0 < 10 by omega); have h2 : ((10 ^ k : Nat) : Int) = 10 ^ k := by push_cast; rfl
                                       omega
    have hb : ((q[k]?.getD 0).toNat : Int) ≤ 255 := by have := (q[k]?.getD 0).toNat_lt; omega
    unfold nk
    rw [Int.pow_succ]
    split <;> omega
def restI (n : Int) : Int := Int.tdiv n 10000 * 3600 + Int.tmod (Int.tdiv n 100) 100 * 60 + Int.tmod n 100
theorem tdiv_abs (n : Int) {b : Int} (hb : 0 < b) (h : -30000000000 ≤ n ∧ n ≤ 30000000000) : -30000000000 ≤ Int.tdiv n b ∧ Int.tdiv n b ≤ 30000000000 := by
  rcases Int.le_total 0 n with h0 | h0
  · rw [Int.tdiv_eq_ediv_of_nonneg h0]
    have := Int.ediv_nonneg h0 (Int.le_of_lt hb)
    have := Int.ediv_le_self b h0
    omega
  · have e : n = -(-n) := by omega
    rw [e, Int.neg_tdiv, Int.tdiv_eq_ediv_of_nonneg (by omega)]
    have := Int.ediv_nonneg (show 0 ≤ -n by omega) (Int.le_of_lt hb)
    have := Int.ediv_le_self b (show 0 ≤ -n by omega)
    omega
theorem tmod_abs (n : Int) : -100 < Int.tmod n 100 ∧ Int.tmod n 100 < 100 := by
  rcases Int.le_total 0 n with h0 | h0
  · rw [Int.tmod_eq_emod_of_nonneg h0]; omega
  · have e : n = -(-n) := by omega
    rw [e, Int.neg_tmod, Int.tmod_eq_emod_of_nonneg (by omega)]
    omega
theorem restI_nonneg {n : Int} (h : 0 ≤ n) : restI n = n / 10000 * 3600 + n / 100 % 100 * 60 + n % 100 := by
  unfold restI
  rw [Int.tdiv_eq_ediv_of_nonneg h, Int.tdiv_eq_ediv_of_nonneg h, Int.tmod_eq_emod_of_nonneg (Int.ediv_nonneg h (by omega)), Int.tmod_eq_emod_of_nonneg h]
/-- The document's way to say it, and the code's. -/
theorem day_iff {q : List UInt8} (h8 : q.length = 8) : dayOK q ↔ 0 ≤ restI (nk q 8) ∧ restI (nk q 8) < 86400 ∧ hmsL (restI (nk q 8)).toNat = q := by
  match q, h8 with
  | [c0, c1, c2, c3, c4, c5, c6, c7], _ =>
    have hn : nk [c0, c1, c2, c3, c4, c5, c6, c7] 8 = ((((((((c0.toNat : Int) - 48) * 10 + ((c1.toNat : Int) - 48)) * 10 + ((c3.toNat : Int) - 48)) * 10 + ((c4.toNat : Int) - 48)) * 10 + ((c6.toNat : Int) - 48))) * 10 + ((c7.toNat : Int) - 48)) := by
      simp [nk]; omega
    constructor
    · rintro ⟨h1, h2, h3, h4, h5, h6⟩
      obtain ⟨a0, a1, a2, a3⟩ := twoN_pos (show 0 ≤ twoN c0 c1 24 from h4)
      obtain ⟨b0, b1, b2, b3⟩ := twoN_pos (show 0 ≤ twoN c3 c4 60 from h5)
      obtain ⟨d0, d1, d2, d3⟩ := twoN_pos (show 0 ≤ twoN c6 c7 60 from h6)
      rw [isD_iff] at a0 a1 b0 b1 d0 d1
      have e2 : c2 = 58 := by simpa using h2
      have e5 : c5 = 58 := by simpa using h3
      subst e2 e5
      rw [hn]
      have hnn : 0 ≤ ((((((((c0.toNat : Int) - 48) * 10 + ((c1.toNat : Int) - 48)) * 10 + ((c3.toNat : Int) - 48)) * 10 + ((c4.toNat : Int) - 48)) * 10 + ((c6.toNat : Int) - 48))) * 10 + ((c7.toNat : Int) - 48)) := by omega
      rw [restI_nonneg hnn]
      generalize hN : ((((((((c0.toNat : Int) - 48) * 10 + ((c1.toNat : Int) - 48)) * 10 + ((c3.toNat : Int) - 48)) * 10 + ((c4.toNat : Int) - 48)) * 10 + ((c6.toNat : Int) - 48))) * 10 + ((c7.toNat : Int) - 48)) = N at *
      have n1 : N / 10000 = ((c0.toNat : Int) - 48) * 10 + ((c1.toNat : Int) - 48) := by omega
      have n2 : N / 100 % 100 = ((c3.toNat : Int) - 48) * 10 + ((c4.toNat : Int) - 48) := by omega
      have n3 : N % 100 = ((c6.toNat : Int) - 48) * 10 + ((c7.toNat : Int) - 48) := by omega
      rw [n1, n2, n3]
      refine ⟨by omega, by omega, ?_⟩
      generalize hT : ((((c0.toNat : Int) - 48) * 10 + ((c1.toNat : Int) - 48)) * 3600 + (((c3.toNat : Int) - 48) * 10 + ((c4.toNat : Int) - 48)) * 60 + (((c6.toNat : Int) - 48) * 10 + ((c7.toNat : Int) - 48))).toNat = T
      have f0 : dg (T / 3600 % 24 / 10) = c0 := UInt8.toNat.inj (by rw [dg_toNat]; omega)
      have f1 : dg (T / 3600 % 24) = c1 := UInt8.toNat.inj (by rw [dg_toNat]; omega)
      have f3 : dg (T / 60 % 60 / 10) = c3 := UInt8.toNat.inj (by rw [dg_toNat]; omega)
      have f4 : dg (T / 60 % 60) = c4 := UInt8.toNat.inj (by rw [dg_toNat]; omega)
      have f6 : dg (T % 60 / 10) = c6 := UInt8.toNat.inj (by rw [dg_toNat]; omega)
      have f7 : dg (T % 60) = c7 := UInt8.toNat.inj (by rw [dg_toNat]; omega)
      simp only [hmsL, twoL, f0, f1, f3, f4, f6, f7]
      rfl
    · rintro ⟨h1, h2, h3⟩
      generalize hT : (restI (nk [c0, c1, c2, c3, c4, c5, c6, c7] 8)).toNat = T at *
      have hT2 : T < 86400 := by omega
      simp only [hmsL, twoL, List.cons_append, List.nil_append, List.append_assoc, List.cons.injEq, and_true] at h3
      obtain ⟨f0, f1, f2, f3, f4, f5, f6, f7⟩ := h3
      have g : ∀ (x : Nat) (c : UInt8), dg x = c → c.toNat = 48 + x % 10 := fun x c h => by rw [← h, dg_toNat]
      have g0 := g _ _ f0
      have g1 := g _ _ f1
      have g3 := g _ _ f3
      have g4 := g _ _ f4
      have g6 := g _ _ f6
      have g7 := g _ _ f7
      refine ⟨rfl, by rw [← f2]; rfl, by rw [← f5]; rfl, ?_, ?_, ?_⟩
      · show 0 ≤ twoN c0 c1 24
        unfold twoN
        rw [if_pos ⟨(isD_iff _).2 (by omega), (isD_iff _).2 (by omega), by omega⟩]
        omega
      · show 0 ≤ twoN c3 c4 60
        unfold twoN
        rw [if_pos ⟨(isD_iff _).2 (by omega), (isD_iff _).2 (by omega), by omega⟩]
        omega
      · show 0 ≤ twoN c6 c7 60
        unfold twoN
        rw [if_pos ⟨(isD_iff _).2 (by omega), (isD_iff _).2 (by omega), by omega⟩]
        omega
theorem day_rest {q : List UInt8} (h : dayOK q) : restI (nk q 8) = restD q := by
  have h8 := h.1
  match q, h8 with
  | [c0, c1, c2, c3, c4, c5, c6, c7], _ =>
    obtain ⟨h1, h2, h3, h4, h5, h6⟩ := h
    have hn : nk [c0, c1, c2, c3, c4, c5, c6, c7] 8 = ((((((((c0.toNat : Int) - 48) * 10 + ((c1.toNat : Int) - 48)) * 10 + ((c3.toNat : Int) - 48)) * 10 + ((c4.toNat : Int) - 48)) * 10 + ((c6.toNat : Int) - 48))) * 10 + ((c7.toNat : Int) - 48)) := by
      simp [nk]; omega
    obtain ⟨a0, a1, a2, a3⟩ := twoN_pos (show 0 ≤ twoN c0 c1 24 from h4)
    obtain ⟨b0, b1, b2, b3⟩ := twoN_pos (show 0 ≤ twoN c3 c4 60 from h5)
    obtain ⟨d0, d1, d2, d3⟩ := twoN_pos (show 0 ≤ twoN c6 c7 60 from h6)
    rw [isD_iff] at a0 a1 b0 b1 d0 d1
    have hr : restD [c0, c1, c2, c3, c4, c5, c6, c7] = twoN c0 c1 24 * 3600 + twoN c3 c4 60 * 60 + twoN c6 c7 60 := rfl
    rw [hr, a2, b2, d2, hn, restI_nonneg (by omega)]
    omega
theorem hms_ok (t : Nat) (h : t < 86400) : dayOK (hmsL t) ∧ restD (hmsL t) = t := by
  have h8 : (hmsL t).length = 8 := rfl
  have key : dayOK (hmsL t) := by
    have g : ∀ x : Nat, (dg x).toNat = 48 + x % 10 := dg_toNat
    have z : ∀ (a b : Nat) (lim : Int), (10 * (a % 10) + b % 10 : Int) < lim → 0 ≤ twoN (dg a) (dg b) lim := by
      intro a b lim hl
      unfold twoN
      have ga := g a
      have gb := g b
      rw [if_pos ⟨(isD_iff _).2 (by omega), (isD_iff _).2 (by omega), by omega⟩]
      omega
    refine ⟨h8, rfl, rfl, ?_, ?_, ?_⟩
    · exact z (t / 3600 % 24 / 10) (t / 3600 % 24) 24 (by omega)
    · exact z (t / 60 % 60 / 10) (t / 60 % 60) 60 (by omega)
    · exact z (t % 60 / 10) (t % 60) 60 (by omega)
  refine ⟨key, ?_⟩
  obtain ⟨h0, h1, h2⟩ := (day_iff h8).1 key
  rw [← day_rest key]
  have b := rest_bd key
  rw [← day_rest key] at b
  have inj : ∀ a c : Nat, a < 86400 → c < 86400 → hmsL a = hmsL c → a = c := by
    intro a c ha hc he
    simp only [hmsL, twoL, List.cons_append, List.nil_append, List.append_assoc, List.cons.injEq, and_true] at he
    obtain ⟨f0, f1, f2, f3, f4, f5, f6, f7⟩ := he
    have g : ∀ x y : Nat, dg x = dg y → x % 10 = y % 10 := by
      intro x y hxy
      have := congrArg UInt8.toNat hxy
      rw [dg_toNat, dg_toNat] at this
      omega
    have g0 := g _ _ f0
    have g1 := g _ _ f1
    have g3 := g _ _ f3
    have g4 := g _ _ f4
    have g6 := g _ _ f6
    have g7 := g _ _ f7
    omega
  have := inj _ _ (by omega) h h2
  omega
/-- What the clock writes is read as it was. -/
theorem clk_back (t : Nat) (h : t ≤ 1099511627776) : clkRV (clkN t) = t ∧ clkRE (clkN t) = 0 := by
  have nod : ∀ s : Nat, ∀ c ∈ hmsL s, c ≠ 100 := by
    intro s c hc
    have hd : ∀ x : Nat, dg x ≠ 100 := by
      intro x e
      have := congrArg UInt8.toNat e
      rw [dg_toNat] at this
      have e2 : (100 : UInt8).toNat = 100 := rfl
      omega
    simp only [hmsL, twoL, List.cons_append, List.nil_append, List.append_assoc, List.mem_cons, List.not_mem_nil, or_false] at hc
    rcases hc with rfl | rfl | rfl | rfl | rfl | rfl | rfl | rfl
    all_goals first | exact hd _ | decide
  have hm : hmsL t = hmsL (t % 86400) := by
    unfold hmsL
    rw [show t % 86400 / 3600 % 24 = t / 3600 % 24 by omega, show t % 86400 / 60 % 60 = t / 60 % 60 by omega, show t % 86400 % 60 = t % 60 by omega]
  obtain ⟨k1, k2⟩ := hms_ok (t % 86400) (by omega)
  rw [← hm] at k1 k2
  unfold clkN
  by_cases h0 : 86400 ≤ t
  · rw [if_pos h0, List.append_assoc]
    have hnp : ∀ c ∈ dec (t / 86400), c ≠ 100 := by
      intro c hc e
      have := dec_digit _ c hc
      rw [e] at this
      revert this; decide
    have hc : cutD (dec (t / 86400) ++ ([100] ++ hmsL t)) = some (dec (t / 86400), hmsL t) := cutD_of hnp
    obtain ⟨r1, r2⟩ := read_decI (a := ((t / 86400 : Nat) : Int)) ⟨by omega, by omega⟩
    rw [decI_nat] at r1 r2
    have hh : (dec (t / 86400)).head? ≠ some 45 := by
      obtain ⟨c, m, hc, hne⟩ := dec_head (n := t / 86400) (by omega) (by omega)
      rw [hc]
      intro e
      injection e with e
      have := dec_digit (t / 86400) c (by rw [hc]; simp)
      rw [e] at this
      revert this; decide
    have hb : ¬ badD (dec (t / 86400)) := by
      unfold badD
      rw [r1, r2]
      rintro (h1 | h1 | h1)
      · omega
      · exact hh h1
      · omega
    have hd : dayN (dec (t / 86400)) = ((t / 86400 : Nat) : Int) := by
      unfold dayN
      rw [r1, r2, if_neg (by omega)]
    unfold clkRV clkRE
    rw [hc]
    dsimp only
    rw [if_neg hb, if_neg hb, hd]
    unfold tailV tailE
    rw [if_pos k1, if_pos k1, if_neg (by omega), if_neg (by omega), k2, if_neg (by omega), if_neg (by omega)]
    omega
  · rw [if_neg h0]
    unfold clkRV clkRE
    rw [cutD_no (nod t)]
    dsimp only
    unfold tailV tailE
    rw [if_pos k1, if_pos k1, if_neg (by omega), if_neg (by omega), k2, if_neg (by omega), if_neg (by omega)]
    omega
end Go.Proofs.Ytnlieclfajebbaa
