/-
  What ReplaceAll gives at quotation marks; how the bytes of a letter are passed. No program in sight. Texts in rows: csv.special, csv.plain, csv.Cell, and the document's. Conditions: the texts aren't too long; the library's variable lies.
-/
import Derived.Test.YtgfhgopfhcakhaaDoorCsvP
import Derived.Laws.RangeAny
import Derived.Lib.Replace
import Derived.Lib.SplitLaws
import Derived.Lib.IndexBytes
import Derived.Test.YtgfhgopfhcakhaaDoorTxt
import Derived.Test.YtgfhgopfhcakhaaDoorBits
import Derived.Test.YtgfhgopfhcakhaaDoorSeq
import Derived.Test.YtgfhgopfhcakhaaDoorShelf
set_option linter.unusedVariables false
set_option linter.unusedSimpArgs false
namespace Go.Proofs.YtgfhgopfhcakhaaDoor
open Go

theorem ib_cons_eq (l : List UInt8) : Lib.index (34 :: l) [34] = 0 := by rw [Lib.index_one]; simp [Lib.indexByte]
theorem ib_cons_ne {a : UInt8} (h : a ≠ 34) (l : List UInt8) {i : Nat} (hi : Lib.index l [34] = i) : Lib.index (a :: l) [34] = ((i + 1 : Nat) : Int) := by
  rw [Lib.index_one] at hi ⊢
  unfold Lib.indexByte
  have h1 : (a == 34) = false := by simpa using h
  have h2 : (Lib.indexByte l 34 == -1) = false := by rw [hi]; simp
  rw [h1, h2, hi]
  simp
theorem repl_dbl (s : List UInt8) : Lib.replaceK [34] [34, 34] (Lib.count s [34]) s = dbl s := by
  induction s with
  | nil =>
    have : Lib.count [] [34] = 0 := by rw [Lib.count_one]; rfl
    rw [this]; rfl
  | cons a s ih =>
    by_cases h : a = 34
    · subst h
      rw [Lib.count_cons_eq, Nat.add_comm 1, Lib.replaceK_hit _ _ _ _ 0 (ib_cons_eq s)]
      show [] ++ [34, 34] ++ Lib.replaceK [34] [34, 34] (Lib.count s [34]) s = _
      rw [ih]
      simp [dbl]
    · rw [Lib.count_cons_ne a 34 s h]
      have hd : dbl (a :: s) = a :: dbl s := by simp only [dbl]; rw [if_neg h]
      rw [hd, ← ih]
      cases hc : Lib.count s [34] with
      | zero => rfl
      | succ k =>
        obtain ⟨i, hi⟩ := Lib.index_of_count (s := s) (old := [34]) (by omega)
        rw [Lib.replaceK_hit _ _ _ _ i hi, Lib.replaceK_hit _ _ _ _ (i + 1) (ib_cons_ne h s hi)]
        simp
theorem replAll_dbl (s : List UInt8) : Lib.replaceAll s [34] [34, 34] = dbl s := by
  unfold Lib.replaceAll Lib.replace
  rw [if_neg (by decide)]
  unfold Lib.replaceNum
  rw [if_pos (.inl (by decide))]
  exact repl_dbl s
/-- The bytes of a letter that isn't one byte. -/
theorem letter_high (s : ByteArray) (pos : Nat) (h : pos < s.size) (ha : 128 ≤ (s[pos]'h).toNat) (j : Nat) (hj : j < (Utf8.decode s pos).2) : pos + j < s.size ∧ 128 ≤ (s.get! (pos + j)).toNat := by
  have h0 : (s.get! (pos + 0)) = s[pos]'h := get_at s pos h
  have hb : ∀ k, (s.get! (pos + k)).toNat < 256 := fun k => (s.get! (pos + k)).toNat_lt
  have hn : ¬ (s[pos]'h).toNat < 128 := by omega
  have hz : j = 0 → pos + j < s.size ∧ 128 ≤ (s.get! (pos + j)).toNat := fun e => by subst e; rw [h0]; exact ⟨h, ha⟩
  simp only [Utf8.decode, h0, hn, if_false] at hj
  split at hj
  · rename_i hc
    simp only [Bool.and_eq_true, decide_eq_true_eq, beq_iff_eq] at hc
    have h1 := hc.2
    split at hj
    · have : j = 0 ∨ j = 1 := by simp at hj; omega
      rcases this with e | e
      · exact hz e
      · subst e; exact ⟨h1.1, by omega⟩
    · exact hz (by simp at hj; omega)
  · split at hj
    · rename_i hc
      simp only [Bool.and_eq_true, decide_eq_true_eq, beq_iff_eq] at hc
      obtain ⟨⟨_, h1⟩, h2⟩ := hc
      split at hj
      · have : j = 0 ∨ j = 1 ∨ j = 2 := by simp at hj; omega
        rcases this with e | e | e
        · exact hz e
        · subst e; exact ⟨h1.1, by omega⟩
        · subst e; exact ⟨h2.1, by omega⟩
      · exact hz (by simp at hj; omega)
    · split at hj
      · rename_i hc
        simp only [Bool.and_eq_true, decide_eq_true_eq, beq_iff_eq] at hc
        obtain ⟨⟨⟨_, h1⟩, h2⟩, h3⟩ := hc
        split at hj
        · have : j = 0 ∨ j = 1 ∨ j = 2 ∨ j = 3 := by simp at hj; omega
          rcases this with e | e | e | e
          · exact hz e
          · subst e; exact ⟨h1.1, by omega⟩
          · subst e; exact ⟨h2.1, by omega⟩
          · subst e; exact ⟨h3.1, by omega⟩
        · exact hz (by simp at hj; omega)
      · exact hz (by simp at hj; omega)
theorem spec_high {c : UInt8} (h : 128 ≤ c.toNat) : spec c = false := by
  unfold spec
  have h1 : (c == 44) = false := by simp; intro e; rw [e] at h; exact absurd h (by decide)
  have h2 : (c == 34) = false := by simp; intro e; rw [e] at h; exact absurd h (by decide)
  have h3 : (c == 10) = false := by simp; intro e; rw [e] at h; exact absurd h (by decide)
  have h4 : (c == 13) = false := by simp; intro e; rw [e] at h; exact absurd h (by decide)
  rw [h1, h2, h3, h4]; rfl
end Go.Proofs.YtgfhgopfhcakhaaDoor
set_option linter.unusedVariables false
set_option linter.unusedSimpArgs false
namespace Go.Proofs.YtgfhgopfhcakhaaDoor
open Go Go.Joins Go.ChangeShapes Go.WideShapes Go.ChangeAt Go.RowKit Go.Deep

def specN (r : Nat) : Bool := r == 44 || r == 34 || r == 10 || r == 13
theorem specN_byte (c : UInt8) : specN c.toNat = spec c := by
  unfold specN spec
  have h : ∀ d : UInt8, (c.toNat == d.toNat) = (c == d) := fun d => by
    rw [Bool.eq_iff_iff]
    simp [UInt8.toNat_inj]
  rw [← h 44, ← h 34, ← h 10, ← h 13]
  rfl
theorem csv_special (r : Nat) (w : World) (hr : r ≤ 2147483647) : Calls Tryd.prog 36 #[.int .i32 (r : Int)] w fun e w' => e = .returned (.bool (specN r)) ∧ w = w' := by
  unfold specN
  have hcs : r = 44 ∨ (r ≠ 44 ∧ r = 34) ∨ (r ≠ 44 ∧ r ≠ 34 ∧ r = 10) ∨ (r ≠ 44 ∧ r ≠ 34 ∧ r ≠ 10 ∧ r = 13) ∨ (r ≠ 44 ∧ r ≠ 34 ∧ r ≠ 10 ∧ r ≠ 13) := by omega
  rcases hcs with rfl | ⟨h1, rfl⟩ | ⟨h1, h2, rfl⟩ | ⟨h1, h2, h3, rfl⟩ | ⟨h1, h2, h3, h4⟩
  · go_enter Tryd.func36, Tryd.ntmps36
    go_wp2
    go_ret
    exact ⟨rfl, rfl⟩
  · go_enter Tryd.func36, Tryd.ntmps36
    go_wp2
    go_ret
    exact ⟨rfl, rfl⟩
  · go_enter Tryd.func36, Tryd.ntmps36
    go_wp2
    go_ret
    exact ⟨rfl, rfl⟩
  · go_enter Tryd.func36, Tryd.ntmps36
    go_wp2
    go_ret
    exact ⟨rfl, rfl⟩
  · have e1 : ((r : Int) == 44) = false := beq_eq_false_iff_ne.2 (by omega)
    have e2 : ((r : Int) == 34) = false := beq_eq_false_iff_ne.2 (by omega)
    have e3 : ((r : Int) == 10) = false := beq_eq_false_iff_ne.2 (by omega)
    have e4 : ((r : Int) == 13) = false := beq_eq_false_iff_ne.2 (by omega)
    have hv : (r == 44 || r == 34 || r == 10 || r == 13) = false := by simp [h1, h2, h3, h4]
    rw [hv]
    clear hv h1 h2 h3 h4
    go_enter Tryd.func36, Tryd.ntmps36
    go_wp2
    go_ret
    exact ⟨rfl, rfl⟩
/-- None of the first k bytes is special. -/
def okN (l : Byt) (k : Nat) : Prop := ∀ i c, i < k → l[i]? = some c → spec c = false
theorem plain_all {l : Byt} (h : okN l l.length) : plainT l = !l.isEmpty := by
  unfold plainT
  have : (l.all fun c => !spec c) = true := by
    rw [List.all_eq_true]
    intro c hc
    obtain ⟨i, hi⟩ := List.getElem?_of_mem hc
    rw [h i c (List.getElem?_eq_some_iff.1 hi).1 hi]; rfl
  rw [this, Bool.true_and]
theorem plain_not {l : Byt} {i : Nat} {c : UInt8} (hi : l[i]? = some c) (h : spec c = true) : plainT l = false := by
  unfold plainT
  have : (l.all fun c => !spec c) = false := by
    rw [Bool.eq_false_iff]
    intro e
    have := List.all_eq_true.1 e c (List.mem_of_getElem? hi)
    rw [h] at this
    cases this
  rw [this]; rfl
theorem get_txt! (l : Byt) (k : Nat) (c : UInt8) (h : l[k]? = some c) : (txt l).get! k = c := by
  have hk := (List.getElem?_eq_some_iff.1 h).1
  have := get_at (txt l) k (by rw [txt_size]; exact hk)
  rw [Nat.add_zero] at this
  rw [this]
  exact txt_get l k c h _
set_option maxRecDepth 20000 in
set_option maxHeartbeats 4000000 in
theorem csv_plain (l : Byt) (w : World) (hl : l.length ≤ 1000000) : Calls Tryd.prog 25 #[.string (txt l)] w fun e w' => e = .returned (.bool (plainT l)) ∧ Below w.heap.size w w' := by
  have hsz := txt_size l
  have HSZ := Lib.hid hsz
  clear hsz
  go_enter Tryd.func25, Tryd.ntmps25
  go_wp2
  go_loopw [4] (fun _ w' => ∃ pos : Nat, w' = w.iter (txt l) pos ∧ pos ≤ l.length ∧ Hid (okN l pos)) (fun _ w' => l.length - w'.iterPos w.heap.size)
  case atStart => exact ⟨0, rfl, by omega, fun i c hi => by omega⟩
  case round =>
    obtain ⟨pos, rfl, hpl, hok⟩ := hrel
    by_cases hp : pos < l.length
    · have hps : pos < (txt l).size := by rw [HSZ.out]; exact hp
      obtain ⟨c, hc⟩ : ∃ c, l[pos]? = some c := ⟨_, List.getElem?_eq_getElem hp⟩
      have hgc := txt_get l pos c hc hps
      have hnx : ∀ ty, (Instr.next (.pointer (some ⟨w.heap.size, 0, none⟩)) true ty).run Tryd.prog (w.iter (txt l) pos) = _ := fun ty => run_next_any w (txt l) pos ty hps
      by_cases ha : c.toNat < 128
      · have hdec := decode_ascii (txt l) pos hps (by rw [hgc]; exact ha)
        rw [hgc] at hdec
        rw [hdec] at hnx
        have cS := fun w => csv_special c.toNat w (by omega)
        rw [specN_byte] at cS
        cases hs : spec c
        · rw [hs] at cS
          have CS := Lib.hid cS
          have hok2 : Hid (okN l (pos + 1)) := fun i c' hi hc' => by
            by_cases e : i < pos
            · exact hok.out i c' e hc'
            · obtain rfl : i = pos := by omega
              rw [hc] at hc'
              injection hc' with hc'
              subst hc'
              exact hs
          clear cS hdec hgc hs hc
          go_wp2_with (go_at_call 36; refine (CS.out _).mono ?_; rintro e w' ⟨rfl, rfl⟩)
          go_roundw
          case rel => exact ⟨pos + 1, rfl, by omega, hok2⟩
          case measure => simp; omega
        · rw [hs] at cS
          have CS := Lib.hid cS
          have R := Lib.hid (plain_not hc hs)
          clear cS hdec hgc hs hc
          go_wp2_with (go_at_call 36; refine (CS.out _).mono ?_; rintro e w' ⟨rfl, rfl⟩)
          go_ret
          exact ⟨ret_bool R.out.symm, (Below.refl _ _).alloc (Nat.le_refl _) _⟩
      · obtain ⟨hd1, hd2⟩ := decode_high (txt l) pos hps (by rw [hgc]; omega)
        have hd3 := decode_le (txt l) pos
        have hlh := letter_high (txt l) pos hps (by rw [hgc]; omega)
        have cS := fun w => csv_special (Utf8.decode (txt l) pos).1 w hd3
        have hsn : specN (Utf8.decode (txt l) pos).1 = false := by
          unfold specN
          have h1 : ∀ n, n < 128 → ((Utf8.decode (txt l) pos).1 == n) = false := fun n hn => by simp; omega
          rw [h1 44 (by omega), h1 34 (by omega), h1 10 (by omega), h1 13 (by omega)]; rfl
        rw [hsn] at cS
        have hle : pos + (Utf8.decode (txt l) pos).2 ≤ l.length := by
          have := (hlh ((Utf8.decode (txt l) pos).2 - 1) (by omega)).1
          rw [HSZ.out] at this
          omega
        have hok2 : Hid (okN l (pos + (Utf8.decode (txt l) pos).2)) := fun i c' hi hc' => by
          by_cases e : i < pos
          · exact hok.out i c' e hc'
          · have hj := hlh (i - pos) (by omega)
            rw [show pos + (i - pos) = i by omega, get_txt! l i c' hc'] at hj
            exact spec_high hj.2
        generalize (Utf8.decode (txt l) pos).1 = r at *
        generalize (Utf8.decode (txt l) pos).2 = wd at *
        have CS := Lib.hid cS
        clear cS hgc hc hlh hsn ha
        go_wp2_with (go_at_call 36; refine (CS.out _).mono ?_; rintro e w' ⟨rfl, rfl⟩)
        go_roundw
        case rel => exact ⟨pos + wd, rfl, hle, hok2⟩
        case measure => simp; omega
    · obtain rfl : pos = l.length := by omega
      have hnx : ∀ ty, (Instr.next (.pointer (some ⟨w.heap.size, 0, none⟩)) true ty).run Tryd.prog (w.iter (txt l) l.length) = _ := fun ty => run_next_end w (txt l) l.length ty (by rw [HSZ.out]; omega)
      have hr := plain_all hok.out
      cases l with
      | nil =>
        have R := Lib.hid hr
        have he : (txt []).toList = [] := by rw [txt_toList]
        have hnx := hnx
        simp only [List.length_nil] at hnx
        clear hr
        go_wp2
        go_ret
        exact ⟨ret_bool R.out.symm, (Below.refl _ _).alloc (Nat.le_refl _) _⟩
      | cons a l =>
        have R := Lib.hid hr
        have he : (txt (a :: l)).toList.isEmpty = false := by rw [txt_toList]; rfl
        have he2 : ((txt (a :: l)).toList == []) = false := by rw [txt_toList]; rfl
        have he3 : ((txt (a :: l)).toList != []) = true := by rw [txt_toList]; rfl
        have hnx := hnx
        simp only [List.length_cons] at hnx
        clear hr
        go_wp2
        go_ret
        exact ⟨ret_bool R.out.symm, (Below.refl _ _).alloc (Nat.le_refl _) _⟩
end Go.Proofs.YtgfhgopfhcakhaaDoor
