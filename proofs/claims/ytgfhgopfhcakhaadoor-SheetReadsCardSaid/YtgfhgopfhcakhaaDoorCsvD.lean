
/-
  The document's rows of texts: plain and Cell. Condition: the text is not too long.
-/
import Derived.Test.YtgfhgopfhcakhaaDoorCsvC
import Derived.Laws.DeepStrings4
set_option linter.unusedVariables false
set_option linter.unusedSimpArgs false
namespace Go.Proofs.YtgfhgopfhcakhaaDoor
open Go Go.Joins Go.ChangeShapes Go.WideShapes Go.ChangeAt Go.RowKit Go.Deep

theorem cut_txt (l : List UInt8) (i j : Int) (k n : Nat) (hi : i = k) (hj : j = n) (h : k ≤ n) (h2 : n ≤ l.length) (w : World) :
    (Instr.slice 9 (.string (txt l)) (some (.int .i64 i)) (some (.int .i64 j)) none).run Tryd.prog w = .ok (.string (txt ((l.take n).drop k))) w := by
  subst hi hj
  have hs := txt_size l
  rw [run_slice_string_if _ _ _ _ _ _ _ Tryd.underlying9, if_pos (by omega), Lib.extract_eq]
  simp [txt, List.drop_take, h]
theorem at_cut {l : List UInt8} {k : Nat} {c : UInt8} (h : l[k]? = some c) : (l.take (k + 1)).drop k = [c] := by
  obtain ⟨h1, h2⟩ := List.getElem?_eq_some_iff.1 h
  rw [List.take_succ_eq_append_getElem h1, List.drop_append_of_le_length (by rw [List.length_take]; omega), List.drop_of_length_le (by rw [List.length_take]; omega), h2]
  rfl
theorem take_at {l : List UInt8} {k : Nat} {c : UInt8} (h : l[k]? = some c) : l.take (k + 1) = l.take k ++ [c] := by
  obtain ⟨h1, h2⟩ := List.getElem?_eq_some_iff.1 h
  rw [List.take_succ_eq_append_getElem h1, h2]
theorem dbl_app (a b : List UInt8) : dbl (a ++ b) = dbl a ++ dbl b := by
  induction a with
  | nil => simp [dbl]
  | cons c a ih => 
    rw [List.cons_append, dbl, ih, dbl]
    split <;> rfl
theorem u8_neC {c : UInt8} {n : Nat} (h : c ≠ UInt8.ofNat n) (hn : n < 256) : c.toNat ≠ n := fun e => h (by
  apply UInt8.toNat_inj.1
  rw [UInt8.toNat_ofNat_of_lt' (by simpa using hn), e])
theorem b_spec (c : UInt8) : (spec c = false ∧ ((c.toNat : Int) == 44) = false ∧ ((c.toNat : Int) == 34) = false ∧ ((c.toNat : Int) == 10) = false ∧ ((c.toNat : Int) == 13) = false) ∨
    (spec c = true ∧ (c = 44 ∨ c = 34 ∨ c = 10 ∨ c = 13)) := by
  cases h : spec c
  · obtain ⟨h1, h2, h3, h4⟩ := spec_no h
    have g1 := u8_neC (n := 44) h1 (by omega)
    have g2 := u8_neC (n := 34) h2 (by omega)
    have g3 := u8_neC (n := 10) h3 (by omega)
    have g4 := u8_neC (n := 13) h4 (by omega)
    exact .inl ⟨rfl, beq_eq_false_iff_ne.2 (by omega), beq_eq_false_iff_ne.2 (by omega), beq_eq_false_iff_ne.2 (by omega), beq_eq_false_iff_ne.2 (by omega)⟩
  · refine .inr ⟨rfl, ?_⟩
    unfold spec at h
    simpa [or_assoc] using h
set_option maxRecDepth 20000 in
set_option maxHeartbeats 4000000 in
theorem ref53_plain (l : Byt) (w : World) (hl : l.length ≤ 1000000) : Calls Tryd.prog 27 #[.string (txt l)] w fun e w' => e = .returned (.bool (plainT l)) ∧ w = w' := by
  have hsz := txt_size l
  have hix : ∀ (k : Nat) (c : UInt8), l[k]? = some c → ∀ w, (Instr.index 9 (.string (txt l)) (.int .i64 (k : Int))).run Tryd.prog w = .ok (.int .u8 (c.toNat : Int)) w := fun k c h w => ix_txt l k k c rfl h .i64 w
  have IX := Lib.hid hix
  have NO := Lib.hid (fun i c => @plain_not l i c)
  have YES := Lib.hid (@plain_all l)
  have HE := Lib.hid (show l = [] ∨ l ≠ [] from Classical.em _)
  clear hix
  generalize hs : txt l = s at *
  go_enter Tryd.func27, Tryd.ntmps27
  go_wp2
  go_loop [3] (fun i => ∃ k : Nat, k ≤ l.length ∧ i = .int .i64 k ∧ Hid (okN l k)) (fun i => l.length - (intOf i).toNat)
  case atStart => exact ⟨0, by omega, rfl, fun i c hi => by omega⟩
  case round =>
    obtain ⟨k, hk, rfl, hok⟩ := hrel
    by_cases hp : k < l.length
    · obtain ⟨c, hc⟩ : ∃ c, l[k]? = some c := ⟨_, List.getElem?_eq_getElem hp⟩
      have hi := IX.out k c hc
      rcases b_spec c with ⟨b0, b1, b2, b3, b4⟩ | ⟨b0, hb⟩
      · have hok2 : Hid (okN l (k + 1)) := fun i c' hi hc' => by
            by_cases e : i < k
            · exact hok.out i c' e hc'
            · obtain rfl : i = k := by omega
              rw [hc] at hc'
              injection hc' with hc'
              subst hc'
              exact b0
        clear hc b0
        go_wp2
        go_round
        case rel => exact ⟨k + 1, by omega, by go_num, hok2⟩
        case measure => simp [intOf]; omega
      · have R := Lib.hid (NO.out k _ hc b0)
        clear hc b0
        rcases hb with rfl | rfl | rfl | rfl
        · go_wp2
          go_ret
          exact ⟨ret_bool R.out.symm, rfl⟩
        · go_wp2
          go_ret
          exact ⟨ret_bool R.out.symm, rfl⟩
        · go_wp2
          go_ret
          exact ⟨ret_bool R.out.symm, rfl⟩
        · go_wp2
          go_ret
          exact ⟨ret_bool R.out.symm, rfl⟩
    · obtain rfl : k = l.length := by omega
      have R := Lib.hid (YES.out hok.out)
      rcases HE.out with he | he
      · have hz : l.length = 0 := by rw [he]; rfl
        have hv : (!l.isEmpty) = false := by rw [he]; rfl
        have hv := Lib.hid hv
        clear he
        go_wp2
        go_ret
        exact ⟨ret_bool (R.out.trans hv.out).symm, rfl⟩
      · have hz : 0 < l.length := List.length_pos_iff.2 he
        have hv : (!l.isEmpty) = true := by cases l <;> simp_all
        have hv := Lib.hid hv
        clear he
        go_wp2
        go_ret
        exact ⟨ret_bool (R.out.trans hv.out).symm, rfl⟩
theorem cell_cat2 (l : Byt) : txt (34 :: dbl l) ++ (⟨#[34]⟩ : ByteArray) = txt (34 :: (dbl l ++ [34])) := by
  rw [show (⟨#[34]⟩ : ByteArray) = txt [34] from rfl, txt_append]
  rfl
set_option maxRecDepth 20000 in
set_option maxHeartbeats 4000000 in
theorem ref53_Cell (l : Byt) (w : World) (hl : l.length ≤ 1000000) : Calls Tryd.prog 11 #[.string (txt l)] w fun e w' => e = .returned (.string (txt (cellT l))) ∧ w = w' := by
  have c1 := fun w => ref53_plain l w hl
  unfold cellT
  cases hp : plainT l
  · rw [hp] at c1
    have C1 := Lib.hid c1
    have hv : (if false = true then l else 34 :: (dbl l ++ [34])) = 34 :: (dbl l ++ [34]) := rfl
    rw [hv, ← cell_cat2]
    have hsz := txt_size l
    have hix : ∀ (k : Nat) (c : UInt8), l[k]? = some c → ∀ w, (Instr.index 9 (.string (txt l)) (.int .i64 (k : Int))).run Tryd.prog w = .ok (.int .u8 (c.toNat : Int)) w := fun k c h w => ix_txt l k k c rfl h .i64 w
    have hct : ∀ (k : Nat) (c : UInt8), l[k]? = some c → ∀ w, (Instr.slice 9 (.string (txt l)) (some (.int .i64 (k : Int))) (some (.int .i64 ((k : Int) + 1))) none).run Tryd.prog w = .ok (.string (txt [c])) w := fun k c h w => by
      rw [cut_txt l k (k + 1) k (k + 1) rfl (by omega) (by omega) (List.getElem?_eq_some_iff.1 h).1 w, at_cut h]
    have IX := Lib.hid hix
    have CT := Lib.hid hct
    clear c1 hv hp hix hct
    generalize hs : txt l = s at *
    go_enter Tryd.func11, Tryd.ntmps11
    go_wp2_with fail
    refine (C1.out _).mono ?_
    rintro e w1 ⟨rfl, rfl⟩
    go_wp2
    go_loop [3, 4] (fun t i => ∃ k : Nat, k ≤ l.length ∧ t = .string (txt (34 :: dbl (l.take k))) ∧ i = .int .i64 k) (fun _ i => l.length - (intOf i).toNat)
    case atStart => exact ⟨0, by omega, rfl, rfl⟩
    case round =>
      obtain ⟨k, hk, rfl, rfl⟩ := hrel
      by_cases hp : k < l.length
      · obtain ⟨c, hc⟩ : ∃ c, l[k]? = some c := ⟨_, List.getElem?_eq_getElem hp⟩
        have hi := IX.out k c hc
        have ht := CT.out k c hc
        have htk := take_at hc
        by_cases e : c = 34
        · have hnt : (txt (34 :: dbl (l.take k)) ++ (⟨#[34]⟩ : ByteArray)) ++ txt [c] = txt (34 :: dbl (l.take (k + 1))) := by
            rw [htk, dbl_app, show (⟨#[34]⟩ : ByteArray) = txt [34] from rfl, txt_append, txt_append, e]
            simp [dbl]
          have HN := Lib.hid hnt
          have hz1 : (txt (34 :: dbl (l.take k))).size ≤ 2000001 := by rw [txt_size]; have := dbl_len (l.take k); simp at *; omega
          have hz2 : (txt (34 :: dbl (l.take k)) ++ (⟨#[34]⟩ : ByteArray)).size ≤ 2000002 := by rw [ByteArray.size_append]; have : (⟨#[34]⟩ : ByteArray).size = 1 := rfl; omega
          have hz3 : (txt [34]).size = 1 := rfl
          clear hnt htk hc
          subst e
          generalize txt (34 :: dbl (l.take k)) = t at *
          generalize txt [34] = u at *
          go_wp2
          go_round
          case rel => exact ⟨k + 1, by omega, by rw [← HN.out], by go_num⟩
          case measure => simp [intOf]; omega
        · have e2 : ((c.toNat : Int) == 34) = false := by have := u8_neC (n := 34) e (by omega); exact beq_eq_false_iff_ne.2 (by omega)
          have hnt : txt (34 :: dbl (l.take k)) ++ txt [c] = txt (34 :: dbl (l.take (k + 1))) := by
            rw [htk, dbl_app, txt_append]
            simp [dbl, e]
          have HN := Lib.hid hnt
          have hz1 : (txt (34 :: dbl (l.take k))).size ≤ 2000001 := by rw [txt_size]; have := dbl_len (l.take k); simp at *; omega
          have hz3 : (txt [c]).size = 1 := rfl
          clear hnt htk hc e
          generalize txt (34 :: dbl (l.take k)) = t at *
          generalize txt [c] = u at *
          go_wp2
          go_round
          case rel => exact ⟨k + 1, by omega, by rw [← HN.out], by go_num⟩
          case measure => simp [intOf]; omega
      · obtain rfl : k = l.length := by omega
        rw [List.take_length]
        have hz1 : (txt (34 :: dbl l)).size ≤ 2000001 := by rw [txt_size]; have := dbl_len l; simp at *; omega
        go_wp2
        go_ret
        exact ⟨rfl, rfl⟩
  · rw [hp] at c1
    have C1 := Lib.hid c1
    have hv : (if true = true then l else 34 :: (dbl l ++ [34])) = l := rfl
    rw [hv]
    clear c1 hv hp
    go_enter Tryd.func11, Tryd.ntmps11
    go_wp2_with fail
    refine (C1.out _).mono ?_
    rintro e w1 ⟨rfl, rfl⟩
    go_wp2
    go_ret
    exact ⟨rfl, rfl⟩
end Go.Proofs.YtgfhgopfhcakhaaDoor
