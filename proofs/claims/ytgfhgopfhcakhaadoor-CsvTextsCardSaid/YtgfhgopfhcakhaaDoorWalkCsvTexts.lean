
/-
  The law CsvTexts: any rows as a text; those none of which is empty are read as they were.
-/
import Derived.Test.YtgfhgopfhcakhaaDoorCsvF
import Derived.Test.YtgfhgopfhcakhaaDoorStrs
import Derived.Test.YtgfhgopfhcakhaaDoorDoorF
set_option linter.unusedVariables false
set_option linter.unusedSimpArgs false
namespace Go.Proofs.YtgfhgopfhcakhaaDoor
open Go Go.Joins Go.ChangeShapes Go.WideShapes Go.ChangeAt Go.RowKit Go.Deep

set_option maxRecDepth 20000 in
set_option maxHeartbeats 16000000 in
theorem texts_1 (A : Option Addr) (C : Nat) (xss : List (List Byt)) (l : Byt) (mx : Int) (W : World) (hx : TxtRows W A xss) (hT : Mx mx W) (hll : l.length < 9223372036854775808) (hC : xss.length ≤ C) (hC2 : C ≤ maxLen) :
    Calls Tryd.prog 3 #[.slice A xss.length C, .string (txt l)] W fun e W' => e = .returned (.bool true) ∧ Below W.heap.size W W' := by
  have hsz := txt_size l
  have cG := great53 A C xss W hx
  have CG := Lib.hid cG
  have HX := Lib.hid hx
  have HT := Lib.hid hT
  clear cG hx hT
  go_enter Tryd.func3, Tryd.ntmps3
  go_wp2_with fail
  refine CG.out.mono ?_
  rintro e w1 ⟨g, rfl, hg, hb1⟩
  cases g
  rotate_left
  · clear hg
    go_wp2
    go_ret
    exact ⟨rfl, hb1⟩
  · have hf := hg rfl
    have HF := Lib.hid hf
    have HOK := Lib.hid (rowsOk_fine hf)
    have hxl : xss.length ≤ 30 := hf.1
    clear hg hf
    by_cases h100 : 100 < l.length
    · go_wp2
      go_ret
      exact ⟨rfl, hb1⟩
    · have HB1 := Lib.hid hb1
      clear hb1
      have cW := Lib.hid (ref53_Text A C xss w1 (HX.out.below HB1.out) HOK.out)
      go_wp2_with fail
      refine cW.out.mono ?_
      rintro e w2 ⟨rfl, hb2⟩
      have HB2 := Lib.hid (HB1.out.trans (hb2.mono HB1.out.size))
      clear hb2
      have cT := Lib.hid (csv_Text mx A C xss w2 (HT.out.below HB2.out HT.out.pos) (HX.out.below HB2.out) HOK.out)
      have q1 : ((txt (rowsT xss)).toList == (txt (rowsT xss)).toList) = true := by simp
      have q2 : ((txt (rowsT xss)).toList != (txt (rowsT xss)).toList) = false := by simp
      have q3 : ((txt (cellT l)).toList != (txt (cellT l)).toList) = false := by simp
      go_wp2_with fail
      refine cT.out.mono ?_
      rintro e w3 ⟨rfl, hb3⟩
      have HB3 := Lib.hid (HB2.out.trans (hb3.mono HB2.out.size))
      clear hb3
      have cC := Lib.hid (csv_Cell mx l w3 (HT.out.below HB3.out HT.out.pos) (by omega))
      go_wp2_with fail
      refine cC.out.mono ?_
      rintro e w4 ⟨rfl, hb4⟩
      have HB4 := Lib.hid (HB3.out.trans (hb4.mono HB3.out.size))
      clear hb4
      have cR := Lib.hid (ref53_Cell l w4 (by omega))
      go_wp2_with fail
      refine cR.out.mono ?_
      rintro e w5 ⟨rfl, rfl⟩
      go_wp2
      clear q1 q2 q3 cW cT cC cR
      go_loopw [6] (fun i wr => ∃ n : Nat, n ≤ xss.length ∧ i = .int .i64 n ∧ Hid (∀ (j : Nat) (xs : List Byt), j < n → xss[j]? = some xs → xs ≠ []) ∧ Below W.heap.size W wr) (fun i _ => xss.length - (intOf i).toNat)
      case atStart => exact ⟨0, by omega, rfl, fun j xs hj => by omega, HB4.out⟩
      case round =>
        obtain ⟨n, hn, rfl, hpre, hb⟩ := hrel
        by_cases hlt : n < xss.length
        · obtain ⟨xs, hg⟩ := at_some hlt
          obtain ⟨b, off, rfl, hbk, hce⟩ := HX.out (by omega)
          obtain ⟨A', C', z, hel⟩ := hce n xs hg
          have z1 := (hb.cell (p := ⟨b, off + n, none⟩) hbk).trans z
          have hbz := Nat.lt_of_lt_of_le hbk hb.size
          have HZ := Lib.hid z
          have HE := Lib.hid hel
          have HB := Lib.hid hb
          have HG := Lib.hid hg
          clear hce z hel hb hg
          have hC3 : n + 1 ≤ C := by omega
          have cR := Lib.hid (fun (g : Grow wr) => csv_RowR mx HOK.out HG.out A' C' g.world ((HT.out.below HB.out HT.out.pos).out g) ((HE.out.below HB.out).below g.below))
          have cO := fun (g : Grow wr) => ref53_Text (some ⟨b, off + n, none⟩) (C - n) [xs] g.world ((txtRows_one hbz z1 (HE.out.below HB.out)).below g.below) (rowsOk_one HOK.out HG.out)
          rw [rows_one] at cO
          have CO := Lib.hid cO
          have q2 : ((txt (rowT xs)).toList != (txt (rowT xs)).toList) = false := by simp
          clear cO
          go_wp2
          refine wp_region_grow (by kernel_rfl) (by kernel_rfl) ?_
          repeat (go_big_quiet_step ((first | (go_at_call 12; with_reducible exact grow_of (cR.out _)) | (go_at_call 8; with_reducible exact grow_of (CO.out _)))))
          refine wpQuiet_nil ?_
          intro w6 hb6
          have HB6 := Lib.hid (HB.out.trans (hb6.mono HB.out.size))
          have z6 := (hb6.cell (p := ⟨b, off + n, none⟩) hbz).trans z1
          have hbz6 := Nat.lt_of_lt_of_le hbz hb6.size
          have hx10 := (HOK.out.rows n xs HG.out).1
          clear hb6 z1
          rcases Nat.eq_zero_or_pos xs.length with h0 | h0
          · have cA := Lib.hid (alive53 mx w6 (HT.out.below HB6.out HT.out.pos))
            have e1 : ((xs.length : Int) == 0) = true := by simp [h0]
            have hz0 : (xs.length : Int) = 0 := by omega
            go_wp2_with fail
            refine cA.out.mono ?_
            rintro e w7 ⟨rfl, hb7⟩
            go_wp2
            go_ret
            exact ⟨rfl, HB6.out.trans (hb7.mono HB6.out.size)⟩
          · have hnz := Lib.hid (show ∀ (j : Nat) (ys : List Byt), j < n + 1 → xss[j]? = some ys → ys ≠ [] from fun j ys hj hy => by
              by_cases e : j < n
              · exact hpre.out j ys e hy
              · obtain rfl : j = n := by omega
                rw [HG.out] at hy
                injection hy with hy
                subst hy
                exact fun e => by rw [e] at h0; simp at h0)
            have e1 : ((xs.length : Int) == 0) = false := beq_eq_false_iff_ne.2 (by omega)
            go_wp2
            go_roundw
            case rel => exact ⟨n + 1, by omega, by go_num, hnz, HB6.out⟩
            case measure => simp [intOf]; omega
        · obtain rfl : n = xss.length := by omega
          have hne := Lib.hid (fun (r : List Byt) (hr : r ∈ xss) => by obtain ⟨j, hj⟩ := List.getElem?_of_mem hr; exact hpre.out j r (List.getElem?_eq_some_iff.1 hj).1 hj)
          have HB := Lib.hid hb
          clear hb
          have hrd : readS (rowsT xss).length (rowsT xss) [] [] = some xss := by
            have h1 := cells_le xss hne.out
            have h2 := read_rows xss hne.out ((rowsT xss).length - cellsN xss) []
            rw [show (rowsT xss).length - cellsN xss + cellsN xss = (rowsT xss).length by omega] at h2
            simpa using h2
          have cR := csv_Read (rowsT xss) wr HOK.out.all
          rw [hrd] at cR
          have CR := Lib.hid cR
          clear hrd cR
          go_wp2_with fail
          refine CR.out.mono ?_
          rintro e w6 ⟨A6, C6, rfl, hr6, hb6⟩
          have HB6 := Lib.hid (HB.out.trans (hb6.mono HB.out.size))
          have hxl := fun (i : Nat) (xs : List Byt) (h : xss[i]? = some xs) => (HOK.out.rows i xs h).1
          have cS := ref53_Same A6 A C6 C xss xss w6 hr6 (HX.out.below HB6.out) HOK.out.len HOK.out.len hxl hxl
          rw [decide_eq_true rfl] at cS
          have CS := Lib.hid cS
          clear hr6 hb6 cS hxl
          go_wp2_with fail
          refine CS.out.mono ?_
          rintro e w7 ⟨rfl, hb7⟩
          have HB7 := Lib.hid (HB6.out.trans (hb7.mono HB6.out.size))
          have cA := Lib.hid (alive53 mx w7 (HT.out.below HB7.out HT.out.pos))
          clear hb7
          go_wp2_with fail
          refine cA.out.mono ?_
          rintro e w8 ⟨rfl, hb8⟩
          go_wp2
          go_ret
          exact ⟨rfl, HB7.out.trans (hb8.mono HB7.out.size)⟩
theorem txtRows_of {w : World} {A : Option Addr} {yss : List (List ByteArray)} (h : Rows2 1 (fun s : ByteArray => [Value.string s]) w A yss) : TxtRows w A (yss.map fun ys => ys.map fun s => s.data.toList) := fun hp => by
  rw [List.length_map] at hp
  obtain ⟨b, off, h1, h2, h3⟩ := h hp
  refine ⟨b, off, h1, h2, fun i xs hi => ?_⟩
  rw [List.getElem?_map] at hi
  obtain ⟨ys, hy, rfl⟩ := Option.map_eq_some_iff.1 hi
  obtain ⟨A', C', h4, h5⟩ := h3 i ys hy
  refine ⟨A', C', by rw [List.length_map]; exact h4, fun hp => ?_⟩
  rw [List.length_map] at hp
  obtain ⟨b2, off2, g1, g2, g3⟩ := h5 hp
  refine ⟨b2, off2, g1, g2, fun j x hj k u hk => ?_⟩
  rw [List.getElem?_map] at hj
  obtain ⟨s, hs, rfl⟩ := Option.map_eq_some_iff.1 hj
  refine g3 j s hs k u ?_
  rw [← hk]
  show [Value.string s][k]? = [Value.string (txt s.data.toList)][k]?
  rw [txt_data]
set_option maxRecDepth 100000 in
theorem walkCsvTexts {H : Type} (W : World) (base : Nat) (enc : TypeId × Value → H) {v0 : Value} {d0 : DataW H} {p0 : List MemPlace} {v1 : Value} {d1 : DataW H} {p1 : List MemPlace}
    (h0 : DataW.Trod enc Tryd.prog W 0 (fun _ => true) true 22 v0 d0 p0) (h1 : DataW.Trod enc Tryd.prog W 0 (fun _ => true) true 9 v1 d1 p1)
    (o0 : Value.okWide Tryd.prog W .any base 22 v0) (o1 : Value.okWide Tryd.prog W .any base 9 v1) {mx : Int} (hT : Mx mx W) :
    Calls Tryd.prog 3 #[v0, v1] W fun e W' => e = .returned (.bool true) ∧ Below W.heap.size W W' := by
  obtain ⟨n, hn⟩ := arg_slice Tryd.underlying22 o0 h0
  obtain ⟨yss, hys⟩ := read_slice (size := 1) Tryd.underlying22 (by kernel_rfl) (by decide) (fun _ _ _ h => read_slice (size := 1) Tryd.underlying27 (by kernel_rfl) (by decide) (fun _ _ _ h => read_str Tryd.underlying9 h) h) hn
  obtain ⟨A, C, rfl, c1, c2⟩ := slice_len hys
  obtain ⟨l, rfl, hlb⟩ := arg_str o1 h1
  have hr := txtRows_of (rows2_of (fun _ _ _ h => h.1) hys)
  have hll : yss.length = (yss.map fun ys => ys.map fun s => s.data.toList).length := by rw [List.length_map]
  rw [hll] at c1 ⊢
  exact texts_1 A C _ l mx W hr hT hlb c1 c2
end Go.Proofs.YtgfhgopfhcakhaaDoor
