
/-
  A text in quotation marks, read: csv.quoted. Condition: the text is not too long.
-/
import Derived.Test.YtgfhgopfhcakhaaDoorCsvV
import Derived.Test.YtgfhgopfhcakhaaDoorDec
import Derived.Test.YtgfhgopfhcakhaaDoorOwnS
import Derived.Laws.BytesArg
set_option linter.unusedVariables false
set_option linter.unusedSimpArgs false
namespace Go.Proofs.YtgfhgopfhcakhaaDoor
open Go Go.Joins Go.ChangeShapes Go.WideShapes Go.ChangeAt Go.RowKit Go.Deep

theorem quot_ne {c : UInt8} (h : c ≠ 34) (r : Byt) : quotS (c :: r) = (quotS r).map (fun p => (c :: p.1, p.2 + 1)) := by
  cases r with
  | nil => simp [quotS, h]
  | cons d r => simp [quotS, h]
theorem quot_two (r : Byt) : quotS (34 :: 34 :: r) = (quotS r).map (fun p => (34 :: p.1, p.2 + 2)) := by simp [quotS]
theorem quot_end {r : Byt} (h : ∀ d r', r = d :: r' → d ≠ 34) : quotS (34 :: r) = some ([], 1) := by
  cases r with
  | nil => simp [quotS]
  | cons d r => simp [quotS, h d r rfl]
/-- What is found from here, the found bytes put ahead. -/
def quotI (l : Byt) (s0 i : Nat) (acc : Byt) : Prop := s0 ≤ i ∧ quotS (l.drop s0) = (quotS (l.drop i)).map (fun p => (acc ++ p.1, (i - s0) + p.2))
theorem quotI_ne {l : Byt} {s0 i : Nat} {acc : Byt} (h : quotI l s0 i acc) {c : UInt8} (hc : l[i]? = some c) (hn : c ≠ 34) : quotI l s0 (i + 1) (acc ++ [c]) := by
  obtain ⟨h1, h2⟩ := h
  refine ⟨by omega, ?_⟩
  rw [h2, List.drop_eq_getElem_cons (List.getElem?_eq_some_iff.1 hc).1, (List.getElem?_eq_some_iff.1 hc).2, quot_ne hn, Option.map_map]
  congr 1
  funext p
  simp
  omega
theorem quotI_two {l : Byt} {s0 i : Nat} {acc : Byt} (h : quotI l s0 i acc) (hc : l[i]? = some 34) (hd : l[i + 1]? = some 34) : quotI l s0 (i + 2) (acc ++ [34]) := by
  obtain ⟨h1, h2⟩ := h
  refine ⟨by omega, ?_⟩
  rw [h2, List.drop_eq_getElem_cons (List.getElem?_eq_some_iff.1 hc).1, (List.getElem?_eq_some_iff.1 hc).2, List.drop_eq_getElem_cons (List.getElem?_eq_some_iff.1 hd).1, (List.getElem?_eq_some_iff.1 hd).2, quot_two, Option.map_map]
  congr 1
  funext p
  simp
  omega
theorem quotI_end {l : Byt} {s0 i : Nat} {acc : Byt} (h : quotI l s0 i acc) (hc : l[i]? = some 34) (hd : ∀ d, l[i + 1]? = some d → d ≠ 34) : quotS (l.drop s0) = some (acc, i - s0 + 1) := by
  obtain ⟨h1, h2⟩ := h
  rw [h2, List.drop_eq_getElem_cons (List.getElem?_eq_some_iff.1 hc).1, (List.getElem?_eq_some_iff.1 hc).2, quot_end]
  · simp
  · intro d r' e
    refine hd d ?_
    have : (l.drop (i + 1))[0]? = some d := by rw [e]; rfl
    rw [List.getElem?_drop] at this
    exact this
theorem quotI_none {l : Byt} {s0 : Nat} {acc : Byt} (h : quotI l s0 l.length acc) : quotS (l.drop s0) = none := by
  rw [h.2, List.drop_length]
  rfl
theorem own_formQ {w : World} {base size n : Nat} {e : TypeId} {v : Value} {xs : List Value} (h : w.ownsRow base e size v n xs) : ∃ A C, v = .slice A n C := by
  rcases h.2 with ⟨rfl, hz⟩ | ⟨g, cap, cur, rfl, _⟩
  · exact ⟨none, 0, by rw [hz]⟩
  · exact ⟨_, _, rfl⟩
theorem own_strQ {w : World} {base : Nat} {e : TypeId} {A : Option Addr} {C : Nat} {l : List UInt8} (h : w.ownsRow base e 1 (.slice A l.length C) l.length (l.map byteV)) (w' : World) (hw : w' = w) :
    (convert 48 9 (.slice A l.length C)).run Tryd.prog w' = .ok (.string (txt l)) w' := by
  subst hw
  rcases h.2 with ⟨e1, hz⟩ | ⟨g, cap, cur, e1, _⟩
  · injection e1 with e1 e2 e3
    subst e1
    have : l = [] := List.length_eq_zero_iff.1 hz
    subst this
    exact run_convert_bytes_nil _ _ _ Tryd.underlying48 Tryd.underlying5 _ _ _ Tryd.underlying9
  · injection e1 with e1 e2 e3
    subst e1
    exact own_str h Tryd.underlying48 Tryd.underlying5 Tryd.underlying9
/-- The answer as values. -/
def quotV (o : Option (Byt × Nat)) (s0 : Nat) : Value := match o with
  | some (t, n) => .tuple #[.string (txt t), .int .i64 ((s0 + n : Nat) : Int), .bool true]
  | none => .tuple #[.string ⟨#[]⟩, .int .i64 0, .bool false]
set_option maxRecDepth 20000 in
set_option maxHeartbeats 8000000 in
theorem csv_quoted (l : Byt) (a : Nat) (w : World) (hl : l.length ≤ 100000) (ha : a < l.length) : Calls Tryd.prog 38 #[.string (txt l), .int .i64 (a : Int)] w fun e w' => e = .returned (quotV (quotS (l.drop (a + 1))) (a + 1)) ∧ Below w.heap.size w w' := by
  obtain ⟨i0, hi, hz0, hz1, hz2⟩ := info_parts info_u8
  have hsz := txt_size l
  have hix : ∀ (k : Nat) (c : UInt8), l[k]? = some c → ∀ w, (Instr.index 9 (.string (txt l)) (.int .i64 (k : Int))).run Tryd.prog w = .ok (.int .u8 (c.toNat : Int)) w := fun k c h w => ix_txt l k k c rfl h .i64 w
  have hix2 : ∀ (k : Nat) (c : UInt8), l[k + 1]? = some c → ∀ w, (Instr.index 9 (.string (txt l)) (.int .i64 ((k : Int) + 1))).run Tryd.prog w = .ok (.int .u8 (c.toNat : Int)) w := fun k c h w => ix_txt l _ (k + 1) c (by omega) h .i64 w
  have IX := Lib.hid hix
  have IX2 := Lib.hid hix2
  have hq0 : quotI l (a + 1) (a + 1) [] := ⟨Nat.le_refl _, by simp⟩
  have HQ0 := Lib.hid hq0
  have HNE := Lib.hid (fun i acc c h => @quotI_ne l (a + 1) i acc h c)
  have HTW := Lib.hid (fun i acc h => @quotI_two l (a + 1) i acc h)
  have HEN := Lib.hid (fun i acc h => @quotI_end l (a + 1) i acc h)
  have HNO := Lib.hid (fun acc h => @quotI_none l (a + 1) acc h)
  clear hix hix2 hq0
  generalize quotS (l.drop (a + 1)) = q at *
  generalize hs : txt l = s at *
  clear hs
  go_enter Tryd.func38, Tryd.ntmps38
  go_wp2
  go_loopw [7, 8] (fun v i wr => ∃ (k : Nat) (acc : Byt), k ≤ l.length ∧ acc.length ≤ k ∧ i = .int .i64 (k : Int) ∧ Hid (quotI l (a + 1) k acc) ∧ Hid (wr.ownsRow w.heap.size 5 1 v acc.length (acc.map byteV)) ∧ Below w.heap.size w wr) (fun _ i _ => l.length - (intOf i).toNat)
  case atStart => exact ⟨a + 1, [], by omega, by simp, val_int (by omega), HQ0, World.ownsRow_nil _ _ _ _, Below.refl _ _⟩
  case round =>
    obtain ⟨k, acc, hk, hacc, rfl, hq, hown, hb⟩ := hrel
    by_cases hlt : k < l.length
    · obtain ⟨c, hc⟩ : ∃ c, l[k]? = some c := ⟨_, List.getElem?_eq_getElem hlt⟩
      have ic := IX.out k c hc
      by_cases e : c = 34
      · subst e
        have e2 : (((34 : UInt8).toNat : Int) == 34) = true := rfl
        have ic2 : ∀ w, (Instr.index 9 (.string s) (.int .i64 (k : Int))).run Tryd.prog w = .ok (.int .u8 34) w := ic
        clear ic e2
        by_cases hk1 : k + 1 < l.length
        · obtain ⟨d, hd⟩ : ∃ d, l[k + 1]? = some d := ⟨_, List.getElem?_eq_getElem hk1⟩
          have id := IX2.out k d hd
          by_cases e : d = 34
          · subst e
            have id2 : ∀ w, (Instr.index 9 (.string s) (.int .i64 ((k : Int) + 1))).run Tryd.prog w = .ok (.int .u8 34) w := id
            obtain ⟨AA, cap, rfl⟩ := own_formQ hown.out
            have HQ2 := Lib.hid (HTW.out k acc hq.out hc hd)
            clear hc hd id
            go_wp2_with (at_builtin; refine wpList_append_own _ rfl _ _ 48 rfl w.heap.size 5 i0 (.int .u8 0) 1 1 Tryd.underlying48 hi hz0 hz1 hz2 rfl (by decide) _ _ _ rfl (hown.out.alloc _) _ 1 1 [.int .u8 34] rfl rfl ?c1 ?c2 ?c3 ?c4 ?c5 ?_)
            try (case c1 => exact cells_at (by simp) _ _)
            case c2 => first | (intro u hu; simp at hu; rcases hu with rfl | rfl <;> rfl) | exact ⟨rfl, rfl⟩
            case c3 => unfold maxLen; omega
            case c4 => omega
            case c5 => have := hb.size; simp; omega
            intro v' w4 hown' hgrow _
            have hb4 : Below w.heap.size w w4 := (hb.alloc (by have := hb.size; simp; omega) _).grown hgrow (by have := hb.size; simp; omega) (fun k hk => (hown.out.lt k hk).1)
            have ho4 : Hid (w4.ownsRow w.heap.size 5 1 v' (acc ++ [34]).length ((acc ++ [34]).map byteV)) := by
              rw [List.map_append, List.length_append]
              exact hown'
            clear hgrow hown'
            go_wp2
            go_roundw
            case rel => exact ⟨k + 2, acc ++ [34], by omega, by simp; omega, by go_num, HQ2, ho4, hb4⟩
            case measure => simp [intOf]; omega
          · have e2 : ((d.toNat : Int) == 34) = false := by have := u8_neC (n := 34) e (by omega); exact beq_eq_false_iff_ne.2 (by omega)
            have HE := Lib.hid (HEN.out k acc hq.out hc (fun d' h => by rw [hd] at h; injection h with h; subst h; exact e))
            obtain ⟨AA, cap, rfl⟩ := own_formQ hown.out
            have hcv := own_strQ hown.out _ rfl
            have hka : a + 1 ≤ k := hq.out.1
            clear hc hd e
            go_wp2
            go_ret3
            exact ⟨by rw [HE.out]; show _ = Ending.returned (Value.tuple _); rw [show ((a + 1 + (k - (a + 1) + 1) : Nat) : Int) = (k : Int) + 1 by omega]; rfl, hb⟩
        · have HE := Lib.hid (HEN.out k acc hq.out hc (fun d' h => by have := (List.getElem?_eq_some_iff.1 h).1; omega))
          obtain ⟨AA, cap, rfl⟩ := own_formQ hown.out
          have hcv := own_strQ hown.out _ rfl
          have hka : a + 1 ≤ k := hq.out.1
          clear hc
          go_wp2
          go_ret3
          exact ⟨by rw [HE.out]; show _ = Ending.returned (Value.tuple _); rw [show ((a + 1 + (k - (a + 1) + 1) : Nat) : Int) = (k : Int) + 1 by omega]; rfl, hb⟩
      · have e2 : ((c.toNat : Int) == 34) = false := by have := u8_neC (n := 34) e (by omega); exact beq_eq_false_iff_ne.2 (by omega)
        have e3 : ((c.toNat : Int) != 34) = true := by simp only [bne, e2]; rfl
        obtain ⟨AA, cap, rfl⟩ := own_formQ hown.out
        have HQ2 := Lib.hid (HNE.out k acc c hq.out hc e)
        clear hc e
        go_wp2_with (at_builtin; refine wpList_append_own _ rfl _ _ 48 rfl w.heap.size 5 i0 (.int .u8 0) 1 1 Tryd.underlying48 hi hz0 hz1 hz2 rfl (by decide) _ _ _ rfl (hown.out.alloc _) _ 1 1 [.int .u8 (c.toNat : Int)] rfl rfl ?c1 ?c2 ?c3 ?c4 ?c5 ?_)
        try (case c1 => exact cells_at (by simp) _ _)
        case c2 => first | (intro u hu; simp at hu; rcases hu with rfl | rfl <;> rfl) | exact ⟨rfl, rfl⟩
        case c3 => unfold maxLen; omega
        case c4 => omega
        case c5 => have := hb.size; simp; omega
        intro v' w4 hown' hgrow _
        have hb4 : Below w.heap.size w w4 := (hb.alloc (by have := hb.size; simp; omega) _).grown hgrow (by have := hb.size; simp; omega) (fun k hk => (hown.out.lt k hk).1)
        have ho4 : Hid (w4.ownsRow w.heap.size 5 1 v' (acc ++ [c]).length ((acc ++ [c]).map byteV)) := by
          rw [List.map_append, List.length_append]
          exact hown'
        clear hgrow hown'
        go_wp2
        go_roundw
        case rel => exact ⟨k + 1, acc ++ [c], by omega, by simp; omega, by go_num, HQ2, ho4, hb4⟩
        case measure => simp [intOf]; omega
    · obtain rfl : k = l.length := by omega
      have hno := Lib.hid (HNO.out acc hq.out)
      go_wp2
      go_ret3
      exact ⟨by rw [hno.out]; rfl, hb⟩
end Go.Proofs.YtgfhgopfhcakhaaDoor
