
/-
  How many bits a word has, as the library reckons it (by halves, quarters, bytes). Plain law: no program.
-/
import Derived.Test.YtejcgagblpkmoaaDoorSetW2
set_option linter.unusedVariables false
set_option linter.unusedSimpArgs false
namespace Go.Proofs.YtejcgagblpkmoaaDoor

/-- A mask of n bytes, each m. -/
def msk (m : Nat) : Nat → Nat
  | 0 => 0
  | n + 1 => m + 256 * msk m n
theorem and_digit (x m M' : Nat) (hm : m < 256) : (x &&& (m + 256 * M')) = ((x % 256) &&& m) + 256 * ((x / 256) &&& M') := by
  have h1 : (x &&& (m + 256 * M')) % 256 = (x % 256) &&& m := by
    have := Nat.and_mod_two_pow (a := x) (b := m + 256 * M') (n := 8)
    rw [show (2 : Nat) ^ 8 = 256 from rfl] at this
    rw [this, show (m + 256 * M') % 256 = m by omega]
  have h2 : (x &&& (m + 256 * M')) / 256 = (x / 256) &&& M' := by
    have := Nat.and_div_two_pow (a := x) (b := m + 256 * M') (n := 8)
    rw [show (2 : Nat) ^ 8 = 256 from rfl] at this
    rw [this, show (m + 256 * M') / 256 = M' by omega]
  omega
def one1 (n x : Nat) : Nat := ((x / 2) &&& msk 85 n) + (x &&& msk 85 n)
def two2 (n x : Nat) : Nat := ((x / 4) &&& msk 51 n) + (x &&& msk 51 n)
def thr3 (n x : Nat) : Nat := (x / 16 + x) &&& msk 15 n
/-- A byte's bits. -/
def pop8 (d : Nat) : Nat := d % 2 + d / 2 % 2 + d / 4 % 2 + d / 8 % 2 + d / 16 % 2 + d / 32 % 2 + d / 64 % 2 + d / 128 % 2
def f1 (d : Nat) : Nat := ((d / 2) &&& 85) + (d &&& 85)
def f2 (d : Nat) : Nat := ((d / 4) &&& 51) + (d &&& 51)
theorem f1_byte : ∀ d, d < 256 → ∀ r, r < 2 → ((d / 2 + 128 * r) &&& 85) + (d &&& 85) = f1 d ∧ f1 d < 256 := by decide +kernel
theorem f2_byte : ∀ d, d < 256 → ∀ r, r < 4 → ((f1 d / 4 + 64 * r) &&& 51) + (f1 d &&& 51) = f2 (f1 d) ∧ f2 (f1 d) < 256 ∧ f2 (f1 d) % 16 ≤ 4 := by decide +kernel
theorem f3_byte : ∀ d, d < 256 → ∀ r, r < 5 → (f2 (f1 d) / 16 + 16 * r + f2 (f1 d)) < 256 ∧ ((f2 (f1 d) / 16 + 16 * r + f2 (f1 d)) &&& 15) = pop8 d := by decide +kernel
theorem pop8_le (d : Nat) : pop8 d ≤ 8 := by unfold pop8; omega

theorem one1_step (n d x : Nat) (hd : d < 256) : one1 (n + 1) (d + 256 * x) = f1 d + 256 * one1 n x := by
  unfold one1
  show (((d + 256 * x) / 2) &&& (85 + 256 * msk 85 n)) + ((d + 256 * x) &&& (85 + 256 * msk 85 n)) = _
  rw [and_digit ((d + 256 * x) / 2) 85 (msk 85 n) (by omega), and_digit (d + 256 * x) 85 (msk 85 n) (by omega)]
  have e1 : (d + 256 * x) / 2 % 256 = d / 2 + 128 * (x % 2) := by omega
  have e2 : (d + 256 * x) / 2 / 256 = x / 2 := by omega
  have e3 : (d + 256 * x) % 256 = d := by omega
  have e4 : (d + 256 * x) / 256 = x := by omega
  rw [e1, e2, e3, e4]
  have := f1_byte d hd (x % 2) (by omega)
  omega
theorem two2_step (n d x : Nat) (hd : d < 256) : two2 (n + 1) (f1 d + 256 * x) = f2 (f1 d) + 256 * two2 n x := by
  unfold two2
  show (((f1 d + 256 * x) / 4) &&& (51 + 256 * msk 51 n)) + ((f1 d + 256 * x) &&& (51 + 256 * msk 51 n)) = _
  have h1 := (f1_byte d hd 0 (by omega)).2
  rw [and_digit ((f1 d + 256 * x) / 4) 51 (msk 51 n) (by omega), and_digit (f1 d + 256 * x) 51 (msk 51 n) (by omega)]
  have e1 : (f1 d + 256 * x) / 4 % 256 = f1 d / 4 + 64 * (x % 4) := by omega
  have e2 : (f1 d + 256 * x) / 4 / 256 = x / 4 := by omega
  have e3 : (f1 d + 256 * x) % 256 = f1 d := by omega
  have e4 : (f1 d + 256 * x) / 256 = x := by omega
  rw [e1, e2, e3, e4]
  have := f2_byte d hd (x % 4) (by omega)
  omega
theorem thr3_step (n d x : Nat) (hd : d < 256) (hx : x % 16 ≤ 4) : thr3 (n + 1) (f2 (f1 d) + 256 * x) = pop8 d + 256 * thr3 n x := by
  unfold thr3
  show (((f2 (f1 d) + 256 * x) / 16 + (f2 (f1 d) + 256 * x)) &&& (15 + 256 * msk 15 n)) = _
  have h2 := (f2_byte d hd 0 (by omega)).2.1
  have h3 := f3_byte d hd (x % 16) (by omega)
  rw [and_digit ((f2 (f1 d) + 256 * x) / 16 + (f2 (f1 d) + 256 * x)) 15 (msk 15 n) (by omega)]
  have e1 : ((f2 (f1 d) + 256 * x) / 16 + (f2 (f1 d) + 256 * x)) % 256 = f2 (f1 d) / 16 + 16 * (x % 16) + f2 (f1 d) := by omega
  have e2 : ((f2 (f1 d) + 256 * x) / 16 + (f2 (f1 d) + 256 * x)) / 256 = x / 16 + x := by omega
  rw [e1, e2, h3.2]
/-- The bytes' counts, side by side. -/
def pops : Nat → Nat → Nat
  | 0, _ => 0
  | n + 1, x => pop8 (x % 256) + 256 * pops n (x / 256)
theorem steps3 (n x : Nat) : thr3 n (two2 n (one1 n x)) = pops n x ∧ two2 n (one1 n x) % 16 ≤ 4 := by
  induction n generalizing x with
  | zero => simp [thr3, two2, one1, pops, msk]
  | succ n ih =>
    have h := ih (x / 256)
    have e : x = x % 256 + 256 * (x / 256) := by omega
    have hd : x % 256 < 256 := by omega
    have e2 : two2 (n + 1) (one1 (n + 1) x) = f2 (f1 (x % 256)) + 256 * two2 n (one1 n (x / 256)) := by
      conv => lhs; rw [e]
      rw [one1_step _ _ _ hd, two2_step _ _ _ hd]
    rw [e2, thr3_step _ _ _ hd h.2, h.1]
    have h2 := (f2_byte (x % 256) hd 0 (by omega)).2.2
    exact ⟨rfl, by omega⟩
theorem one1_lt (n x : Nat) : one1 n x < 256 ^ n := by
  induction n generalizing x with
  | zero => simp [one1, msk]
  | succ n ih =>
    have e : x = x % 256 + 256 * (x / 256) := by omega
    rw [e, one1_step _ _ _ (by omega), Nat.pow_succ]
    have := ih (x / 256)
    have h1 := (f1_byte (x % 256) (by omega) 0 (by omega)).2
    omega
theorem two2_lt (n x : Nat) : two2 n (one1 n x) < 256 ^ n := by
  induction n generalizing x with
  | zero => simp [two2, msk]
  | succ n ih =>
    have e : x = x % 256 + 256 * (x / 256) := by omega
    rw [e, one1_step _ _ _ (by omega), two2_step _ _ _ (by omega), Nat.pow_succ]
    have := ih (x / 256)
    have h1 := (f2_byte (x % 256) (by omega) 0 (by omega)).2.1
    omega
theorem nib_lt (n x : Nat) : two2 n (one1 n x) / 16 + two2 n (one1 n x) < 256 ^ n := by
  induction n generalizing x with
  | zero => simp [two2, msk]
  | succ n ih =>
    have e : x = x % 256 + 256 * (x / 256) := by omega
    have h := (steps3 n (x / 256)).2
    rw [e, one1_step _ _ _ (by omega), two2_step _ _ _ (by omega), Nat.pow_succ]
    have := ih (x / 256)
    generalize two2 n (one1 n (x / 256)) = t at *
    have h3 := (f3_byte (x % 256) (by omega) (t % 16) (by omega)).1
    omega
/-- How many of the first n bits there are. -/
def popN (x : Nat) : Nat → Nat
  | 0 => 0
  | n + 1 => popN x n + (if x.testBit n then 1 else 0)
theorem bit_if (x n : Nat) : (if x.testBit n then 1 else 0) = x / 2 ^ n % 2 := by
  rw [Nat.testBit_eq_decide_div_mod_eq]
  split
  · rename_i h; have := of_decide_eq_true h; omega
  · rename_i h; have : ¬ (x / 2 ^ n % 2 = 1) := fun e => h (decide_eq_true e); omega
theorem popN8 (x : Nat) (k : Nat) : popN x (k + 8) = popN x k + pop8 (x / 2 ^ k % 256) := by
  have e : ∀ j, x / 2 ^ (k + j) = x / 2 ^ k / 2 ^ j := fun j => by rw [Nat.pow_add, Nat.div_div_eq_div_mul]
  show popN x k + _ + _ + _ + _ + _ + _ + _ + _ = _
  simp only [bit_if]
  rw [e 1, e 2, e 3, e 4, e 5, e 6, e 7]
  show popN x k + x / 2 ^ k % 2 + _ + _ + _ + _ + _ + _ + _ = _
  unfold pop8
  generalize x / 2 ^ k = y
  omega
theorem popN64 (x : Nat) : popN x 64 = pop8 (x % 256) + pop8 (x / 256 % 256) + pop8 (x / 65536 % 256) + pop8 (x / 16777216 % 256) + pop8 (x / 4294967296 % 256) + pop8 (x / 1099511627776 % 256) + pop8 (x / 281474976710656 % 256) + pop8 (x / 72057594037927936 % 256) := by
  rw [show 64 = 56 + 8 from rfl, popN8 x 56, show 56 = 48 + 8 from rfl, popN8 x 48, show 48 = 40 + 8 from rfl, popN8 x 40, show 40 = 32 + 8 from rfl, popN8 x 32, show 32 = 24 + 8 from rfl, popN8 x 24, show 24 = 16 + 8 from rfl, popN8 x 16, show 16 = 8 + 8 from rfl, popN8 x 8, show 8 = 0 + 8 from rfl, popN8 x 0]
  simp [popN]
/-- The way from the bytes' counts to their sum. -/
theorem cut_at (k l h v : Nat) (hv : v = l + k * h) (hl : l < k) : v / k = h := by
  rw [hv, Nat.add_mul_div_left _ _ (by omega), Nat.div_eq_of_lt hl, Nat.zero_add]
theorem pop_low (p q r s u v : Nat) (h0 : p ≤ 8) (h1 : q ≤ 8) (h2 : r ≤ 8) (h3 : s ≤ 8) (hu : u = p + 256 * (q + 256 * (r + 256 * (s + 256 * v)))) : ∃ l, l ≤ 134744072 ∧ u = l + 4294967296 * v :=
  ⟨p + 256 * (q + 256 * (r + 256 * s)), by omega, by omega⟩
theorem pop_cut2 (p q r a A1 A2 A3 : Nat) (h0 : p ≤ 8) (h1 : q ≤ 8) (h2 : r ≤ 8) (ha : a = p + 256 * A1) (hA : A1 = q + 256 * A2) (hB : A2 = r + 256 * A3) : (a + A1) / 65536 = A2 + A3 := by
  omega
theorem pop_sum (p0 p1 p2 p3 p4 p5 p6 p7 a b c d : Nat) (h0 : p0 ≤ 8) (h1 : p1 ≤ 8) (h2 : p2 ≤ 8) (h3 : p3 ≤ 8) (h4 : p4 ≤ 8) (h5 : p5 ≤ 8) (h6 : p6 ≤ 8) (h7 : p7 ≤ 8)
    (ha : a = p0 + 256 * (p1 + 256 * (p2 + 256 * (p3 + 256 * (p4 + 256 * (p5 + 256 * (p6 + 256 * p7)))))))
    (hb : b = a + a / 256) (hc : c = b + b / 65536) (hd : d = c + c / 4294967296) : d % 128 = p0 + p1 + p2 + p3 + p4 + p5 + p6 + p7 ∧ b < 18446744073709551616 ∧ c < 18446744073709551616 ∧ d < 9223372036854775808 := by
  obtain ⟨A6, e6⟩ : ∃ A6, A6 = p6 + 256 * p7 := ⟨_, rfl⟩
  rw [← e6] at ha
  obtain ⟨A5, e5⟩ : ∃ A5, A5 = p5 + 256 * A6 := ⟨_, rfl⟩
  rw [← e5] at ha
  obtain ⟨A4, e4⟩ : ∃ A4, A4 = p4 + 256 * A5 := ⟨_, rfl⟩
  rw [← e4] at ha
  obtain ⟨A3, e3⟩ : ∃ A3, A3 = p3 + 256 * A4 := ⟨_, rfl⟩
  rw [← e3] at ha
  obtain ⟨A2, e2⟩ : ∃ A2, A2 = p2 + 256 * A3 := ⟨_, rfl⟩
  rw [← e2] at ha
  obtain ⟨A1, e1⟩ : ∃ A1, A1 = p1 + 256 * A2 := ⟨_, rfl⟩
  rw [← e1] at ha
  have g1 : a / 256 = A1 := cut_at 256 p0 A1 a ha (by omega)
  rw [g1] at hb
  have g2 : b / 65536 = A2 + A3 := by rw [hb]; exact pop_cut2 p0 p1 p2 a A1 A2 A3 h0 h1 h2 ha e1 e2
  rw [g2, hb] at hc
  obtain ⟨l0, i0, j0⟩ := pop_low p0 p1 p2 p3 a A4 h0 h1 h2 h3 (by rw [ha, e1, e2, e3])
  obtain ⟨l1, i1, j1⟩ := pop_low p1 p2 p3 p4 A1 A5 h1 h2 h3 h4 (by rw [e1, e2, e3, e4])
  obtain ⟨l2, i2, j2⟩ := pop_low p2 p3 p4 p5 A2 A6 h2 h3 h4 h5 (by rw [e2, e3, e4, e5])
  obtain ⟨l3, i3, j3⟩ := pop_low p3 p4 p5 p6 A3 p7 h3 h4 h5 h6 (by rw [e3, e4, e5, e6])
  have g3 : c / 4294967296 = A4 + A5 + A6 + p7 := by
    refine cut_at 4294967296 (l0 + l1 + l2 + l3) _ c ?_ (by omega)
    rw [hc, j0, j1, j2, j3]
    clear ha e1 e2 e3 e4 e5 e6 g1 g2 hb hc hd j0 j1 j2 j3
    omega
  rw [g3, hc] at hd
  have k6 : A6 ≤ 2056 := by omega
  have k5 : A5 ≤ 526344 := by omega
  have k4 : A4 ≤ 134744072 := by omega
  clear g1 g2 g3 i0 i1 i2 i3 j0 j1 j2 j3 l0 l1 l2 l3
  have k3 : A3 ≤ 34494482440 := by clear ha hb hc hd e1 e2 e4 e5 e6; omega
  have k2 : A2 ≤ 8830587504648 := by clear ha hb hc hd e1 e3 e4 e5 e6; omega
  have k1 : A1 ≤ 2260630401189896 := by clear ha hb hc hd e2 e3 e4 e5 e6; omega
  have k0 : a ≤ 578721382704613384 := by clear hb hc hd e1 e2 e3 e4 e5 e6; omega
  have b2 : b < 18446744073709551616 := by clear ha hc hd e1 e2 e3 e4 e5 e6; omega
  have b3 : c < 18446744073709551616 := by clear ha hb hd e1 e2 e3 e4 e5 e6; omega
  have b4 : d < 9223372036854775808 := by clear ha hb hc e1 e2 e3 e4 e5 e6; omega
  refine ⟨?_, b2, b3, b4⟩
  clear k0 k1 k2 k3 k4 k5 k6 b2 b3 b4 hb hc
  have hS : d = (p0 + p1 + p2 + p3 + p4 + p5 + p6 + p7) + 128 * (2 * (A1 + A2 + A3 + A4 + A5 + A6 + p7)) := by
    rw [hd, ha]
    clear hd ha
    omega
  rw [hS, Nat.add_mul_mod_self_left]
  exact Nat.mod_eq_of_lt (by clear hS hd ha e1 e2 e3 e4 e5 e6; omega)
/-- The whole way of the library's count. -/
theorem pop64 (x a b c d e f : Nat) (hx : x < 18446744073709551616) (ha : a = one1 8 x) (hb : b = two2 8 a) (hc : c = thr3 8 b) (hd : d = c + c / 256) (he : e = d + d / 65536) (hf : f = e + e / 4294967296) :
    f % 128 = popN x 64 ∧ a < 18446744073709551616 ∧ b < 18446744073709551616 ∧ b / 16 + b < 18446744073709551616 ∧ d < 18446744073709551616 ∧ e < 18446744073709551616 ∧ f < 9223372036854775808 := by
  have h3 : c = pops 8 x := by rw [hc, hb, ha]; exact (steps3 8 x).1
  have h1 : a < 18446744073709551616 := by rw [ha]; exact one1_lt 8 x
  have h2 : b < 18446744073709551616 := by rw [hb, ha]; exact two2_lt 8 x
  have h4 : b / 16 + b < 18446744073709551616 := by rw [hb, ha]; exact nib_lt 8 x
  have h5 : pops 8 x = pop8 (x % 256) + 256 * (pop8 (x / 256 % 256) + 256 * (pop8 (x / 65536 % 256) + 256 * (pop8 (x / 16777216 % 256) + 256 * (pop8 (x / 4294967296 % 256) + 256 * (pop8 (x / 1099511627776 % 256) + 256 * (pop8 (x / 281474976710656 % 256) + 256 * pop8 (x / 72057594037927936 % 256))))))) := by
    simp [pops, Nat.div_div_eq_div_mul]
  rw [h5] at h3
  have h6 := pop_sum _ _ _ _ _ _ _ _ c d e f (pop8_le _) (pop8_le _) (pop8_le _) (pop8_le _) (pop8_le _) (pop8_le _) (pop8_le _) (pop8_le _) h3 hd he hf
  rw [popN64]
  exact ⟨h6.1, h1, h2, h4, h6.2⟩
theorem popN_le (x n : Nat) : popN x n ≤ n := by
  induction n with
  | zero => simp [popN]
  | succ n ih => simp only [popN]; split <;> omega
end Go.Proofs.YtejcgagblpkmoaaDoor
