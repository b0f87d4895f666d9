
/-
  Where cars are, column by column: the plain words of the chart. No program in sight.
-/
import Derived.Test.YtnegolclofgboaaTrack
import Derived.Test.YtnegolclofgboaaPad
import Derived.Test.YtnegolclofgboaaDecT
set_option linter.unusedVariables false
set_option linter.unusedSimpArgs false
namespace Go.Proofs.Ytnegolclofgboaa

theorem wayP_bd {ls : List Leg} (hf : fineLs ls) {t : Int} (ht : 0 ≤ t ∧ t ≤ 300) : -4294967296 ≤ wayP ls t ∧ wayP ls t ≤ 4294967296 := by
  unfold wayP
  split
  · rename_i h0
    have hk := legK_le ls t ls.length
    have hfl := hf.2.1 (legK ls t ls.length - 1) (by omega)
    rw [show legAt ls (legK ls t ls.length - 1) = wayG ls t from rfl] at hfl
    obtain ⟨⟨f1, f1'⟩, ⟨f2, f3⟩, f4, f5⟩ := hfl
    have : (wayG ls t).dir = -1 ∨ (wayG ls t).dir = 0 ∨ (wayG ls t).dir = 1 := by omega
    rcases this with e | e | e <;> rw [e] <;> omega
  · omega
/-- The floor of a car; -1: it isn't there. -/
def flAt (gap : Int) (ls : List Leg) (t : Int) : Int := if wayB ls t = true then wayP ls t / gap else -1
def rowD (xss : List (List Leg)) (i : Nat) : List Leg := xss.getD i []
theorem rowD_of {xss : List (List Leg)} {k : Nat} {t : List Leg} (h : xss[k]? = some t) : rowD xss k = t := by simp [rowD, List.getD, h]
def hitB (xss : List (List Leg)) (gap t f : Int) (i : Nat) : Bool := flAt gap (rowD xss i) t == f
def manyN (p : Nat → Bool) : Nat → Nat
  | 0 => 0
  | k + 1 => if p k = true then manyN p k + 1 else manyN p k
def firstN (p : Nat → Bool) : Nat → Nat
  | 0 => 0
  | k + 1 => if p k = true ∧ manyN p k = 0 then k else firstN p k
theorem manyN_le (p : Nat → Bool) (k : Nat) : manyN p k ≤ k := by
  induction k with
  | zero => simp [manyN]
  | succ k ih => simp only [manyN]; split <;> omega
theorem firstN_le (p : Nat → Bool) (k : Nat) : firstN p k ≤ k := by
  induction k with
  | zero => simp [firstN]
  | succ k ih => simp only [firstN]; split <;> omega
/-- What stands for so many cars, the first of them. -/
def markC (many first : Nat) : UInt8 := if many = 0 then 46 else if 1 < many then 42 else if first < 10 then UInt8.ofNat (48 + first) else UInt8.ofNat (87 + first)
def colT (cols h : Int) (c : Nat) : Int := (c : Int) * h / cols
theorem colT_bd {cols h : Int} {c : Nat} (h1 : 1 ≤ h) (hc : (c : Int) < cols) : 0 ≤ colT cols h c ∧ colT cols h c < h := by
  unfold colT
  have h0 : 0 ≤ (c : Int) * h := Int.mul_nonneg (by omega) (by omega)
  refine ⟨Int.ediv_nonneg h0 (by omega), Int.ediv_lt_of_lt_mul (by omega) ?_⟩
  rw [Int.mul_comm h cols]
  exact Int.mul_lt_mul_of_pos_right hc (by omega)
/-- What stands at a floor in a column. -/
def markAt (xss : List (List Leg)) (gap f t : Int) : UInt8 := markC (manyN (hitB xss gap t f) xss.length) (firstN (hitB xss gap t f) xss.length)
def rowL (xss : List (List Leg)) (gap h cols f : Int) (c : Nat) : List UInt8 := (List.range c).map fun i => markAt xss gap f (colT cols h i)
theorem rowL_len (xss : List (List Leg)) (gap h cols f : Int) (c : Nat) : (rowL xss gap h cols f c).length = c := by simp [rowL]
theorem rowL_succ (xss : List (List Leg)) (gap h cols f : Int) (c : Nat) : rowL xss gap h cols f (c + 1) = rowL xss gap h cols f c ++ [markAt xss gap f (colT cols h c)] := by simp [rowL, List.range_succ]
def lineL (xss : List (List Leg)) (gap h cols f : Int) : List UInt8 := padL (decI f) 3 ++ [32] ++ rowL xss gap h cols f cols.toNat ++ [10]
/-- The first k lines. -/
def chartL (xss : List (List Leg)) (gap h cols floors : Int) : Nat → List UInt8
  | 0 => []
  | k + 1 => chartL xss gap h cols floors k ++ lineL xss gap h cols (floors - 1 - k)
theorem lineL_len (xss : List (List Leg)) (gap h cols f : Int) : (lineL xss gap h cols f).length ≤ 23 + cols.toNat := by
  have := decI_len f
  unfold lineL
  simp only [List.length_append, pad_len, rowL_len, List.length_cons, List.length_nil]
  omega
theorem chartL_len (xss : List (List Leg)) (gap h cols floors : Int) (k : Nat) : (chartL xss gap h cols floors k).length ≤ k * (23 + cols.toNat) := by
  induction k with
  | zero => simp [chartL]
  | succ k ih =>
    simp only [chartL, List.length_append]
    have := lineL_len xss gap h cols (floors - 1 - k)
    rw [Nat.add_mul]
    omega
/-- By the document: is a car at a floor? -/
def hitR (xss : List (List Leg)) (gap t f : Int) (i : Nat) : Bool := wayB (rowD xss i) t && decide (f * gap ≤ wayP (rowD xss i) t) && decide (wayP (rowD xss i) t < f * gap + gap)
theorem hitR_eq {xss : List (List Leg)} {gap t f : Int} {i : Nat} (hg : 1 ≤ gap) (hf : 0 ≤ f) : hitR xss gap t f i = hitB xss gap t f i := by
  unfold hitR hitB flAt
  cases wayB (rowD xss i) t
  · have : ((-1 : Int) == f) = false := by simp; omega
    simp [this]
  · simp only [if_true, Bool.true_and]
    rw [Bool.eq_iff_iff]
    simp only [Bool.and_eq_true, decide_eq_true_eq, beq_iff_eq]
    constructor
    · rintro ⟨h1, h2⟩
      have e1 := Int.mul_ediv_add_emod (wayP (rowD xss i) t) gap
      exact Int.le_antisymm (Int.lt_add_one_iff.1 (Int.ediv_lt_of_lt_mul (by omega) (by rw [Int.add_mul]; omega))) ((Int.le_ediv_iff_mul_le (by omega)).2 h1)
    · intro h
      have h1 := Int.ediv_mul_le (wayP (rowD xss i) t) (b := gap) (by omega)
      have h2 := Int.lt_ediv_add_one_mul_self (wayP (rowD xss i) t) (b := gap) (by omega)
      rw [h] at h1 h2
      rw [Int.add_mul] at h2
      omega
/-- The cars at a floor. -/
def hitsN (p : Nat → Bool) : Nat → List Int
  | 0 => []
  | k + 1 => if p k = true then hitsN p k ++ [(k : Int)] else hitsN p k
theorem hitsN_len (p : Nat → Bool) (k : Nat) : (hitsN p k).length = manyN p k := by
  induction k with
  | zero => rfl
  | succ k ih => simp only [hitsN, manyN]; split <;> simp [ih]
theorem hitsN_first (p : Nat → Bool) (k : Nat) (h : 0 < manyN p k) : (hitsN p k)[0]? = some (firstN p k : Int) := by
  induction k with
  | zero => simp [manyN] at h
  | succ k ih =>
    simp only [hitsN, manyN, firstN] at *
    by_cases hp : p k = true
    · rw [if_pos hp] at h ⊢
      by_cases h0 : manyN p k = 0
      · have hl := hitsN_len p k
        rw [h0] at hl
        rw [List.length_eq_zero_iff.1 hl, if_pos ⟨hp, h0⟩]
        rfl
      · rw [if_neg (fun h => h0 h.2), List.getElem?_append_left (by rw [hitsN_len]; omega)]
        exact ih (by omega)
    · rw [if_neg hp] at h ⊢
      rw [if_neg (fun h => hp h.1)]
      exact ih h
theorem firstN_lt {p : Nat → Bool} {k : Nat} (h : 0 < manyN p k) : firstN p k < k := by
  induction k with
  | zero => simp [manyN] at h
  | succ k ih =>
    simp only [manyN, firstN] at *
    by_cases hp : p k = true
    · by_cases h0 : manyN p k = 0
      · rw [if_pos ⟨hp, h0⟩]; omega
      · rw [if_neg (fun h => h0 h.2)]; have := ih (by omega); omega
    · rw [if_neg hp] at h
      rw [if_neg (fun h => hp h.1)]; have := ih h; omega
end Go.Proofs.Ytnegolclofgboaa
