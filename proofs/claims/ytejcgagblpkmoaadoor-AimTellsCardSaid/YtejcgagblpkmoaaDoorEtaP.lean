
/-
  Plain laws of the ways of a car: the floors that lie on, how many lie between, where a car turns; by sets and by rows of places.
-/
import Derived.Test.YtejcgagblpkmoaaDoorBetween
import Derived.Test.YtejcgagblpkmoaaDoorFace
import Derived.Test.YtejcgagblpkmoaaDoorDoorW
set_option linter.unusedVariables false
set_option linter.unusedSimpArgs false
namespace Go.Proofs.YtejcgagblpkmoaaDoor
open Go.Joins Go.ChangeShapes Go.WideShapes Go.ChangeAt Go.RowKit Go.Deep

theorem items_sift {x y a b : Nat} {p : Int → Bool} (h : ∀ k : Int, memB a b k = (memB x y k && p k)) : items a b = (items x y).filter p := by
  unfold items preI
  rw [List.filter_map, List.filter_filter]
  congr 1
  apply List.filter_congr
  intro i _
  unfold bitsF
  rw [h (i : Int), Bool.and_comm]
  rfl
/-- The floor that counts. -/
def aheadF (pos g d : Int) : Int := if d < 0 ∧ pos % g ≠ 0 then pos / g + 1 else pos / g
/-- Does a place lie on? -/
def onW (pos d p : Int) : Bool := decide (0 < (p - pos) * d)
theorem on_floor {pos g d v : Int} (hg : 1 ≤ g) (hd : -1 ≤ d ∧ d ≤ 1) : (decide (0 < d) && decide (aheadF pos g d < v) || decide (d < 0) && decide (v < aheadF pos g d)) = onW pos d (v * g) := by
  unfold aheadF onW
  have hm := Int.emod_add_mul_ediv pos g
  have h0 := Int.emod_nonneg pos (show g ≠ 0 by omega)
  rw [Bool.eq_iff_iff]
  simp only [Bool.or_eq_true, Bool.and_eq_true, decide_eq_true_eq]
  have hc : d = 1 ∨ d = -1 ∨ d = 0 := by omega
  have e1 : pos / g < v ↔ pos < v * g := Int.ediv_lt_iff_lt_mul (by omega)
  have e2 : v ≤ pos / g ↔ v * g ≤ pos := Int.le_ediv_iff_mul_le (by omega)
  rcases hc with rfl | rfl | rfl
  · rw [if_neg (by omega)]
    constructor
    · rintro (h | h)
      · have := e1.1 h.2; omega
      · omega
    · intro h
      exact .inl ⟨by omega, e1.2 (by omega)⟩
  · by_cases hz : pos % g = 0
    · rw [if_neg (by omega)]
      constructor
      · rintro (h | h)
        · omega
        · have h1 := e2.1 (by omega)
          have h2 : v * g ≠ pos := fun h' => by
            have : pos / g = v := by rw [← h']; exact Int.mul_ediv_cancel v (by omega)
            omega
          omega
      · intro h
        refine .inr ⟨by omega, ?_⟩
        have h1 := e2.2 (by omega)
        have h2 : v ≠ pos / g := fun h' => by
          rw [hz, ← h', Int.mul_comm] at hm
          omega
        omega
    · rw [if_pos ⟨by omega, hz⟩]
      constructor
      · rintro (h | h)
        · omega
        · have h1 := e2.1 (by omega)
          have h2 : v * g ≠ pos := fun h' => by
            apply hz
            rw [← h']
            exact Int.mul_emod_left v g
          omega
      · intro h
        exact .inr ⟨by omega, by have := e2.2 (by omega); omega⟩
  · constructor
    · rintro (h | h) <;> omega
    · intro h; omega
def ahX (x : Nat) (pos g d : Int) : Nat := beyX x (aheadF pos g d) d
def ahY (y : Nat) (pos g d : Int) : Nat := beyY y (aheadF pos g d) d
theorem mem_ah {x y : Nat} (hx : Wd x) (hy : Wd y) {pos g d : Int} (hg : 1 ≤ g) (hd : -1 ≤ d ∧ d ≤ 1) (k : Int) : memB (ahX x pos g d) (ahY y pos g d) k = (memB x y k && onW pos d (k * g)) := by
  unfold ahX ahY
  rw [mem_bey hx hy, on_floor hg hd]
/-- The places of a set's floors. -/
def places (x y : Nat) (g : Int) : List Int := (items x y).map (· * g)
theorem places_len (x y : Nat) (g : Int) : (places x y g).length = (items x y).length := List.length_map _
def aheadL (M : List Int) (pos d : Int) : List Int := M.filter (onW pos d)
theorem ah_places {x y : Nat} (hx : Wd x) (hy : Wd y) {pos g d : Int} (hg : 1 ≤ g) (hd : -1 ≤ d ∧ d ≤ 1) : places (ahX x pos g d) (ahY y pos g d) g = aheadL (places x y g) pos d := by
  unfold places aheadL
  rw [items_sift (mem_ah hx hy hg hd), List.filter_map]
  rfl
theorem cnt_places (x y : Nat) (a b g : Int) : cntB a b (places x y g) = ((items x y).filter (fun v => btw a b (v * g))).length := by
  unfold cntB places
  rw [List.filter_map, List.length_map]
  rfl
/-- How many lie between, counted from both ends. -/
theorem and_cnt {x y : Nat} (hx : Wd x) (hy : Wd y) {a b g : Int} (hg : 1 ≤ g) : (items (ahX x (min a b) g 1 &&& ahX x (max a b) g (-1)) (ahY y (min a b) g 1 &&& ahY y (max a b) g (-1))).length = cntB a b (places x y g) := by
  rw [cnt_places, items_sift (x := x) (y := y) (p := fun v => btw a b (v * g))]
  intro k
  have e1 := mem_ah hx hy (pos := min a b) (d := 1) hg (by omega) k
  have e2 := mem_ah hx hy (pos := max a b) (d := -1) hg (by omega) k
  have hand : memB (ahX x (min a b) g 1 &&& ahX x (max a b) g (-1)) (ahY y (min a b) g 1 &&& ahY y (max a b) g (-1)) k = (memB (ahX x (min a b) g 1) (ahY y (min a b) g 1) k && memB (ahX x (max a b) g (-1)) (ahY y (max a b) g (-1)) k) := by
    unfold memB
    split
    · rw [Nat.testBit_and]
    · split
      · rw [Nat.testBit_and]
      · rfl
  rw [hand, e1, e2]
  have e3 : onW (min a b) 1 (k * g) = decide (min a b < k * g) := by unfold onW; rw [Bool.eq_iff_iff]; simp only [decide_eq_true_eq]; omega
  have e4 : onW (max a b) (-1) (k * g) = decide (k * g < max a b) := by unfold onW; rw [Bool.eq_iff_iff]; simp only [decide_eq_true_eq]; omega
  rw [e3, e4]
  unfold btw
  cases memB x y k <;> simp
theorem set_nil {x y : Nat} (hx : Wd x) (hy : Wd y) : ((x : Int) == 0 && (y : Int) == 0) = decide (items x y = []) := by
  rw [Bool.eq_iff_iff]
  simp only [Bool.and_eq_true, beq_iff_eq, decide_eq_true_eq]
  constructor
  · intro h
    obtain rfl : x = 0 := by omega
    obtain rfl : y = 0 := by omega
    apply List.eq_nil_iff_forall_not_mem.2
    intro a ha
    unfold items preI bitsF at ha
    simp [mem_zero] at ha
  · intro h
    have := (empty_iff hx hy).2 fun n h0 h1 => by
      cases hm : memB x y n with
      | false => rfl
      | true =>
        obtain ⟨m, rfl⟩ := Int.eq_ofNat_of_zero_le h0
        have : (m : Int) ∈ items x y := by
          unfold items preI bitsF
          simp only [List.mem_map, List.mem_filter, List.mem_range]
          exact ⟨m, ⟨by omega, hm⟩, rfl⟩
        rw [h] at this
        cases this
    omega
theorem places_nil (x y : Nat) (g : Int) : places x y g = [] ↔ items x y = [] := by unfold places; exact List.map_eq_nil_iff
theorem wd_ahX {x : Nat} (pos g d : Int) (h : Wd x) : Wd (ahX x pos g d) := wd_beyX _ _ h
theorem wd_ahY {x : Nat} (pos g d : Int) (h : Wd x) : Wd (ahY x pos g d) := wd_beyY _ _ h
theorem places_rise (x y : Nat) {g : Int} (hg : 1 ≤ g) : (places x y g).Pairwise (· < ·) := by
  unfold places
  rw [List.pairwise_map]
  exact (items_rise x y).imp fun {a b} h => Int.mul_lt_mul_of_pos_right h (by omega)
theorem place_in {x y : Nat} {g p : Int} (hg : 1 ≤ g ∧ g ≤ 16) (h : p ∈ places x y g) : 0 ≤ p ∧ p ≤ 2032 := by
  unfold places at h
  rw [List.mem_map] at h
  obtain ⟨v, hv, rfl⟩ := h
  have := item_in hv
  constructor
  · exact Int.mul_nonneg (by omega) (by omega)
  · have h1 : v * g ≤ 127 * g := Int.mul_le_mul_of_nonneg_right (by omega) (by omega)
    omega
/-- The place that is farthest, the first of several, having looked at some. -/
def turnN (on : List Int) (pos : Int) : Nat → Int
  | 0 => at0 on 0
  | k + 1 => if max (pos - turnN on pos k) (turnN on pos k - pos) < max (pos - at0 on k) (at0 on k - pos) then at0 on k else turnN on pos k
theorem at0_lt {L : List Int} (h : L.Pairwise (· < ·)) {i j : Nat} (hij : i < j) (hj : j < L.length) : at0 L i < at0 L j := by
  have := List.pairwise_iff_getElem.1 h i j (by omega) hj hij
  unfold at0
  simpa [List.getD, List.getElem?_eq_getElem (show i < L.length by omega), List.getElem?_eq_getElem hj] using this
theorem at0_mem {L : List Int} {i : Nat} (hi : i < L.length) : at0 L i ∈ L := by
  have : at0 L i = L[i] := by unfold at0; simp [List.getD, List.getElem?_eq_getElem hi]
  rw [this]
  exact List.getElem_mem hi
theorem turn_up {on : List Int} {pos : Int} (h : on.Pairwise (· < ·)) (hp : ∀ p ∈ on, pos < p) : ∀ k, k < on.length → turnN on pos (k + 1) = at0 on k
  | 0, hk => by
    unfold turnN
    split <;> rfl
  | k + 1, hk => by
    have ih := turn_up h hp k (by omega)
    have h1 := at0_lt h (show k < k + 1 by omega) hk
    have h2 := hp _ (at0_mem (show k < on.length by omega))
    rw [turnN, ih, if_pos (by omega)]
theorem turn_down {on : List Int} {pos : Int} (h : on.Pairwise (· < ·)) (hp : ∀ p ∈ on, p < pos) : ∀ k, k ≤ on.length → turnN on pos k = at0 on 0
  | 0, _ => rfl
  | k + 1, hk => by
    have ih := turn_down h hp k (by omega)
    have h2 := hp _ (at0_mem (show k < on.length by omega))
    rw [turnN, ih, if_neg]
    cases k with
    | zero => omega
    | succ k =>
      have h1 := at0_lt h (show 0 < k + 1 by omega) (by omega)
      omega
/-- Where a car turns: the row's farthest, and the set's greatest or least. -/
theorem turn_of {x y : Nat} (hx : Wd x) (hy : Wd y) {pos g d : Int} (hg : 1 ≤ g) (hd : d = 1 ∨ d = -1) (hne : items (ahX x pos g d) (ahY y pos g d) ≠ []) :
    turnN (aheadL (places x y g) pos d) pos (aheadL (places x y g) pos d).length = (if d < 0 then (hdL (items (ahX x pos g d) (ahY y pos g d))).1 else (hdL (items (ahX x pos g d) (ahY y pos g d)).reverse).1) * g := by
  have hr := places_rise (ahX x pos g d) (ahY y pos g d) hg
  have hp : ∀ p ∈ aheadL (places x y g) pos d, 0 < (p - pos) * d := fun p h => by
    unfold aheadL at h
    rw [List.mem_filter] at h
    have := h.2
    unfold onW at this
    simpa using this
  rw [← ah_places hx hy hg (by omega)] at hp ⊢
  unfold places at hp hr ⊢
  generalize items (ahX x pos g d) (ahY y pos g d) = T at *
  have hl : 0 < T.length := List.length_pos_iff.2 hne
  have hm : ∀ i, i < T.length → at0 (T.map (· * g)) i = at0 T i * g := fun i hi => by
    unfold at0
    simp [List.getD, List.getElem?_eq_getElem hi]
  rcases hd with rfl | rfl
  · rw [if_neg (by omega)]
    obtain ⟨k, hk⟩ : ∃ k, T.length = k + 1 := ⟨T.length - 1, by omega⟩
    rw [List.length_map, hk, turn_up hr (fun p h => by have := hp p h; omega) k (by rw [List.length_map]; omega), hm k (by omega)]
    congr 1
    have : hdL T.reverse = (at0 T k, true) := by
      have : T.reverse ≠ [] := by simpa using hne
      cases hT : T.reverse with
      | nil => exact absurd hT this
      | cons a t =>
        show (a, true) = _
        have h1 : T.reverse[0]? = some a := by rw [hT]; rfl
        rw [List.getElem?_reverse (by omega)] at h1
        have h2 : at0 T k = a := by
          unfold at0
          rw [List.getD_eq_getElem?_getD, show k = T.length - 1 - 0 by omega, h1]
          rfl
        rw [h2]
    rw [this]
  · rw [if_pos (by omega), turn_down hr (fun p h => by have := hp p h; omega) _ (Nat.le_refl _), hm 0 hl]
    congr 1
    cases T with
    | nil => simp at hl
    | cons a t => rfl
end Go.Proofs.YtejcgagblpkmoaaDoor
