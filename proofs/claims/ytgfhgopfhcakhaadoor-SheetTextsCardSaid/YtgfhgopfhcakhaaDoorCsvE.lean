
/-
  The text at a place of a row: csv.cell. Condition: the text is not too long.
-/
import Derived.Test.YtgfhgopfhcakhaaDoorCsvQ
set_option linter.unusedVariables false
set_option linter.unusedSimpArgs false
namespace Go.Proofs.YtgfhgopfhcakhaaDoor
open Go Go.Joins Go.ChangeShapes Go.WideShapes Go.ChangeAt Go.RowKit Go.Deep

theorem drop_at {l : Byt} {i : Nat} {c : UInt8} (h : l[i]? = some c) : l.drop i = c :: l.drop (i + 1) := by
  rw [List.drop_eq_getElem_cons (List.getElem?_eq_some_iff.1 h).1, (List.getElem?_eq_some_iff.1 h).2]
def goS (c : UInt8) : Bool := !stopB c
def tkI (l : Byt) (a i : Nat) : Prop := a ≤ i ∧ (l.drop a).takeWhile goS = (l.take i).drop a ++ (l.drop i).takeWhile goS
theorem tkI_zero (l : Byt) (a : Nat) : tkI l a a := ⟨Nat.le_refl _, by rw [List.drop_take]; simp⟩
theorem tkI_step {l : Byt} {a i : Nat} (h : tkI l a i) {c : UInt8} (hc : l[i]? = some c) (hs : stopB c = false) : tkI l a (i + 1) := by
  obtain ⟨h1, h2⟩ := h
  refine ⟨by omega, ?_⟩
  have hl := (List.getElem?_eq_some_iff.1 hc).1
  rw [h2, drop_at hc, take_at hc, List.drop_append_of_le_length (by rw [List.length_take]; omega), List.takeWhile_cons, if_pos (by unfold goS; rw [hs]; rfl)]
  simp
theorem tkI_stop {l : Byt} {a i : Nat} (h : tkI l a i) {c : UInt8} (hc : l[i]? = some c) (hs : stopB c = true) : (l.drop a).takeWhile goS = (l.take i).drop a := by
  rw [h.2, drop_at hc, List.takeWhile_cons, if_neg (by unfold goS; rw [hs]; simp)]
  simp
theorem tkI_end {l : Byt} {a : Nat} (h : tkI l a l.length) : (l.drop a).takeWhile goS = (l.take l.length).drop a := by
  rw [h.2, List.drop_length]
  simp
theorem cellS_q {l : Byt} {a : Nat} (h : l[a]? = some 34) : cellS (l.drop a) = match quotS (l.drop (a + 1)) with
    | some (t, n) => (t, n + 1, !plainT t)
    | none => ([], 0, false) := by
  unfold cellS
  rw [drop_at h]
  rfl
theorem cellS_p {l : Byt} {a : Nat} {c : UInt8} (h : l[a]? = some c) (hc : c ≠ 34) : cellS (l.drop a) = ((l.drop a).takeWhile goS, ((l.drop a).takeWhile goS).length, plainT ((l.drop a).takeWhile goS)) := by
  unfold cellS
  rw [if_neg (by rw [drop_at h]; simpa using hc)]
  rfl
theorem dbl_ge (l : Byt) : l.length ≤ (dbl l).length := by
  induction l with
  | nil => simp
  | cons c t ih => rw [dbl]; split <;> simp <;> omega
/-- What csv.cell answers. -/
def CellPost (q : Byt × Nat × Bool) (a : Nat) (w : World) (e : Ending) (w' : World) : Prop :=
  ∃ (t : Byt) (n : Int), e = .returned (.tuple #[.string (txt t), .int .i64 n, .bool q.2.2]) ∧ (q.2.2 = true → t = q.1 ∧ n = ((a + q.2.1 : Nat) : Int)) ∧ Below w.heap.size w w'
set_option maxRecDepth 20000 in
set_option maxHeartbeats 8000000 in
theorem csv_cell_q (l : Byt) (a : Nat) (w : World) (hl : l.length ≤ 100000) (h : l[a]? = some 34) : Calls Tryd.prog 29 #[.string (txt l), .int .i64 (a : Int)] w (CellPost (cellS (l.drop a)) a w) := by
  have ha := (List.getElem?_eq_some_iff.1 h).1
  have cQ := fun w => csv_quoted l a w hl ha
  rw [cellS_q h]
  have hsz := txt_size l
  have hi := fun w => ix_txt l a a 34 rfl h .i64 w
  have hi : ∀ w, (Instr.index 9 (.string (txt l)) (.int .i64 (a : Int))).run Tryd.prog w = .ok (.int .u8 34) w := hi
  cases hq : quotS (l.drop (a + 1)) with
  | none =>
    rw [hq] at cQ
    have CQ := Lib.hid cQ
    clear cQ h hq
    generalize txt l = s at *
    go_enter Tryd.func29, Tryd.ntmps29
    go_wp2_with fail
    refine (CQ.out _).mono ?_
    rintro e w2 ⟨rfl, hb2⟩
    unfold quotV
    go_wp2
    go_ret3
    exact ⟨[], 0, rfl, (fun h => by cases h), hb2⟩
  | some p =>
    obtain ⟨t, n⟩ := p
    rw [hq] at cQ
    have CQ := Lib.hid cQ
    have htl : t.length ≤ 100000 := by
      obtain ⟨g1, g2, g3⟩ := quot_of _ _ _ hq
      have : (l.drop (a + 1)).length ≤ 100000 := by rw [List.length_drop]; omega
      have g4 := dbl_ge t
      omega
    have cP := fun w => csv_plain t w (by omega)
    clear cQ h hq
    have hn : ((a + 1 + n : Nat) : Int) = ((a + (n + 1) : Nat) : Int) := by omega
    have HN := Lib.hid hn
    clear hn
    generalize txt l = s at *
    show Calls _ _ _ _ (CellPost (t, n + 1, !plainT t) a w)
    cases hp : plainT t
    · rw [hp] at cP
      have CP := Lib.hid cP
      clear cP
      clear hp
      go_enter Tryd.func29, Tryd.ntmps29
      go_wp2_with fail
      refine (CQ.out _).mono ?_
      rintro e w2 ⟨rfl, hb2⟩
      unfold quotV
      go_wp2_with fail
      refine (CP.out _).mono ?_
      rintro e w3 ⟨rfl, hb3⟩
      go_wp2
      go_ret3
      exact ⟨t, _, rfl, (fun h => ⟨rfl, by rw [← HN.out]; simp⟩), hb2.trans (hb3.mono hb2.size)⟩
    · rw [hp] at cP
      have CP := Lib.hid cP
      clear cP
      clear hp
      go_enter Tryd.func29, Tryd.ntmps29
      go_wp2_with fail
      refine (CQ.out _).mono ?_
      rintro e w2 ⟨rfl, hb2⟩
      unfold quotV
      go_wp2_with fail
      refine (CP.out _).mono ?_
      rintro e w3 ⟨rfl, hb3⟩
      go_wp2
      go_ret3
      exact ⟨t, _, rfl, (fun h => by cases h), hb2.trans (hb3.mono hb2.size)⟩
theorem b_stop (c : UInt8) : (stopB c = false ∧ ((c.toNat : Int) == 44) = false ∧ ((c.toNat : Int) == 10) = false ∧ ((c.toNat : Int) != 44) = true ∧ ((c.toNat : Int) != 10) = true) ∨ (stopB c = true ∧ (c = 44 ∨ c = 10)) := by
  cases h : stopB c
  · have h1 : c ≠ 44 := fun e => by subst e; cases h
    have h2 : c ≠ 10 := fun e => by subst e; cases h
    have g1 := u8_neC (n := 44) h1 (by omega)
    have g2 := u8_neC (n := 10) h2 (by omega)
    have e1 : ((c.toNat : Int) == 44) = false := beq_eq_false_iff_ne.2 (by omega)
    have e2 : ((c.toNat : Int) == 10) = false := beq_eq_false_iff_ne.2 (by omega)
    exact .inl ⟨rfl, e1, e2, by simp only [bne, e1]; rfl, by simp only [bne, e2]; rfl⟩
  · refine .inr ⟨rfl, ?_⟩
    unfold stopB at h
    simpa using h
set_option maxRecDepth 20000 in
set_option maxHeartbeats 8000000 in
theorem csv_cell_p (l : Byt) (a : Nat) (c : UInt8) (w : World) (hl : l.length ≤ 100000) (h : l[a]? = some c) (hc : c ≠ 34) : Calls Tryd.prog 29 #[.string (txt l), .int .i64 (a : Int)] w (CellPost (cellS (l.drop a)) a w) := by
  have ha := (List.getElem?_eq_some_iff.1 h).1
  rw [cellS_p h hc]
  have hsz := txt_size l
  have hi0 := fun w => ix_txt l a a c rfl h .i64 w
  have e0 : ((c.toNat : Int) == 34) = false := by have := u8_neC (n := 34) hc (by omega); exact beq_eq_false_iff_ne.2 (by omega)
  have hix : ∀ (k : Nat) (c : UInt8), l[k]? = some c → ∀ w, (Instr.index 9 (.string (txt l)) (.int .i64 (k : Int))).run Tryd.prog w = .ok (.int .u8 (c.toNat : Int)) w := fun k c h w => ix_txt l k k c rfl h .i64 w
  have hct : ∀ (k : Nat), a ≤ k → k ≤ l.length → ∀ w, (Instr.slice 9 (.string (txt l)) (some (.int .i64 (a : Int))) (some (.int .i64 (k : Int))) none).run Tryd.prog w = .ok (.string (txt ((l.take k).drop a))) w := fun k h1 h2 w => cut_txt l a k a k rfl rfl h1 h2 w
  have hcp : ∀ k w, Calls Tryd.prog 25 #[.string (txt ((l.take k).drop a))] w fun e w' => e = .returned (.bool (plainT ((l.take k).drop a))) ∧ Below w.heap.size w w' := fun k w => csv_plain _ w (by rw [List.length_drop, List.length_take]; omega)
  have hln : ∀ k, a ≤ k → k ≤ l.length → ((l.take k).drop a).length = k - a := fun k h1 h2 => by rw [List.length_drop, List.length_take]; omega
  have IX := Lib.hid hix
  have CT := Lib.hid hct
  have CP := Lib.hid hcp
  have HLN := Lib.hid hln
  have H0 := Lib.hid (tkI_zero l a)
  have HST := Lib.hid (fun i c hi hc hs => @tkI_step l a i hi c hc hs)
  have HSP := Lib.hid (fun i c hi hc hs => @tkI_stop l a i hi c hc hs)
  have HEN := Lib.hid (fun hi => @tkI_end l a hi)
  clear hix hct hcp hln h hc
  generalize hT : (l.drop a).takeWhile goS = T at *
  clear hT
  generalize hs : txt l = s at *
  clear hs
  go_enter Tryd.func29, Tryd.ntmps29
  go_wp2
  go_loopw [10] (fun i wr => ∃ k : Nat, k ≤ l.length ∧ i = .int .i64 (k : Int) ∧ Hid (tkI l a k) ∧ wr = w) (fun i _ => l.length - (intOf i).toNat)
  case atStart => exact ⟨a, by omega, rfl, H0, rfl⟩
  case round =>
    obtain ⟨k, hk, rfl, ht, rfl⟩ := hrel
    have hka := ht.out.1
    by_cases hlt : k < l.length
    · obtain ⟨d, hd⟩ : ∃ d, l[k]? = some d := ⟨_, List.getElem?_eq_getElem hlt⟩
      have hi := IX.out k d hd
      rcases b_stop d with ⟨s0, s1, s2, s3, s4⟩ | ⟨s0, hb⟩
      · have HT := Lib.hid (HST.out k d ht.out hd s0)
        clear hd s0
        go_wp2
        go_roundw
        case rel => exact ⟨k + 1, by omega, by go_num, HT, trivial⟩
        case measure => simp [intOf]; omega
      · have hv := HSP.out k d ht.out hd s0
        have HV := Lib.hid hv
        have hcut := CT.out k hka (by omega)
        have hpl := CP.out k
        have hll := HLN.out k hka (by omega)
        rw [← hv] at hcut hpl hll
        have HPL := Lib.hid hpl
        have hv2 := Lib.hid (show ((a : Nat) : Int) + (T.length : Nat) = (k : Int) by omega)
        clear hd s0 hv hpl
        rcases hb with rfl | rfl
        · have hi : ∀ w, (Instr.index 9 (.string s) (.int .i64 (k : Int))).run Tryd.prog w = .ok (.int .u8 44) w := hi
          go_wp2
          refine wp_region_grow (by kernel_rfl) (by kernel_rfl) ?_
          repeat (go_big_quiet_step ((first | (go_at_call 25; with_reducible exact grow_of (HPL.out _)))))
          refine wpQuiet_nil ?_
          intro w2 hb2
          go_wp2
          go_ret3
          exact ⟨T, _, rfl, (fun h => ⟨rfl, hv2.out.symm⟩), hb2⟩
        · have hi : ∀ w, (Instr.index 9 (.string s) (.int .i64 (k : Int))).run Tryd.prog w = .ok (.int .u8 10) w := hi
          go_wp2
          refine wp_region_grow (by kernel_rfl) (by kernel_rfl) ?_
          repeat (go_big_quiet_step ((first | (go_at_call 25; with_reducible exact grow_of (HPL.out _)))))
          refine wpQuiet_nil ?_
          intro w2 hb2
          go_wp2
          go_ret3
          exact ⟨T, _, rfl, (fun h => ⟨rfl, hv2.out.symm⟩), hb2⟩
    · obtain rfl : k = l.length := by omega
      have hv := HEN.out ht.out
      have hcut := CT.out l.length hka (by omega)
      have hpl := CP.out l.length
      have hll := HLN.out l.length hka (by omega)
      rw [← hv] at hcut hpl hll
      have HPL := Lib.hid hpl
      have hv2 := Lib.hid (show ((a : Nat) : Int) + (T.length : Nat) = (l.length : Int) by omega)
      clear hv hpl
      go_wp2
      refine wp_region_grow (by kernel_rfl) (by kernel_rfl) ?_
      repeat (go_big_quiet_step ((first | (go_at_call 25; with_reducible exact grow_of (HPL.out _)))))
      refine wpQuiet_nil ?_
      intro w2 hb2
      go_wp2
      go_ret3
      exact ⟨T, _, rfl, (fun h => ⟨rfl, hv2.out.symm⟩), hb2⟩
theorem csv_cell (l : Byt) (a : Nat) (w : World) (hl : l.length ≤ 100000) (ha : a < l.length) : Calls Tryd.prog 29 #[.string (txt l), .int .i64 (a : Int)] w (CellPost (cellS (l.drop a)) a w) := by
  have h : l[a]? = some l[a] := List.getElem?_eq_getElem ha
  by_cases e : l[a] = 34
  · rw [e] at h
    exact csv_cell_q l a w hl h
  · exact csv_cell_p l a _ w hl h e
end Go.Proofs.YtgfhgopfhcakhaaDoor
