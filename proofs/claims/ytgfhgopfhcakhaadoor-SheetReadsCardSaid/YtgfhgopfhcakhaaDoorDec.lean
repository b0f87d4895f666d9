
/-
  The digits of a number: digits.plain, Text, Of. Condition: the numbers fit their kinds.
-/
import Derived.Test.YtgfhgopfhcakhaaDoorDecP
import Derived.Test.YtgfhgopfhcakhaaDoorNums
import Derived.Laws.AppendOwnNone
import Derived.Laws.IdiomStrings
import Derived.Maps.AppendAt
import Derived.Deep.AppendLies
import Derived.OwnWalk
set_option linter.unusedVariables false
set_option linter.unusedSimpArgs false
namespace Go.Proofs.YtgfhgopfhcakhaaDoor
open Go.Joins Go.ChangeShapes Go.WideShapes Go.ChangeAt Go.RowKit Go.Deep

theorem ret_str {a b : ByteArray} (h : a = b) : Ending.returned (.string a) = .returned (.string b) := by rw [h]
theorem info_u8 : (Tryd.prog.info? 5).map (fun i => (i.zero, i.size, i.bytes)) = some (some (.int .u8 0), 1, 1) := by kernel_rfl
/-- A byte as a value. -/
def byteV (b : UInt8) : Value := .int .u8 (b.toNat : Int)
theorem byteV_one (l : List UInt8) : ∀ u ∈ l.map byteV, u.oneCell' = true := by
  intro u hu
  simp only [List.mem_map] at hu
  obtain ⟨b, _, rfl⟩ := hu
  rfl
theorem byteV_dg (n : Nat) : Value.int .u8 (48 + (n : Int) % 10) = byteV (dg n) := by
  unfold byteV
  rw [dg_toNat]
  congr 1
theorem own_str {w : World} {base g : Nat} {e : TypeId} {cap : Nat} {l : List UInt8} (h : w.ownsRow base e 1 (.slice (some ⟨g, 0, none⟩) l.length cap) l.length (l.map byteV)) (hs : Tryd.prog.underlying 48 = some (.slice 5)) (hb : Tryd.prog.underlying 5 = some (.int .u8)) (hd : Tryd.prog.underlying 9 = some .string) :
    (convert 48 9 (.slice (some ⟨g, 0, none⟩) l.length cap)).run Tryd.prog w = .ok (.string (txt l)) w := by
  refine run_convert_bytes_back w _ _ _ _ cap l hs hb hd fun j hj => ?_
  have := h.cellAt j (by omega)
  rw [show (⟨g, 0, none⟩ : Addr).add j = ⟨g, j, none⟩ from by unfold Addr.add; split <;> simp_all, this]
  simp [List.getElem?_eq_getElem hj, byteV]

theorem val_bool {a b : Bool} (h : a = b) : Value.bool a = .bool b := by rw [h]
theorem pos_div (m : Nat) : decide ((0 : Int) < (m : Int) / 10) = decide (0 < m / 10) := by
  by_cases h : 0 < m / 10
  · rw [decide_eq_true h, decide_eq_true (by omega)]
  · rw [decide_eq_false h, decide_eq_false (by omega)]
/-- What is left to write, what is written. -/
def plainInv (n m : Nat) (l : List UInt8) (ok : Bool) : Prop := (ok = true → dec n = dec m ++ l ∧ (l = [] ∨ 0 < m)) ∧ (ok = false → dec n = l) ∧ m < 18446744073709551616 ∧ l.length ≤ 20
theorem plainInv_step {n m : Nat} {l : List UInt8} (h : plainInv n m l true) : plainInv n (m / 10) (dg m :: l) (decide (0 < m / 10)) := by
  obtain ⟨h1, -, hm, hl⟩ := h
  obtain ⟨h1, h2⟩ := h1 rfl
  have hlen : (dec n).length = (dec m).length + l.length := by rw [h1]; simp
  have hn := dec_len n
  have hp := dec_pos m
  refine ⟨fun h => ?_, fun h => ?_, by omega, by simp; omega⟩
  · simp only [decide_eq_true_eq] at h
    refine ⟨?_, .inr h⟩
    rw [h1, dec_step (n := m) (by omega) (by omega)]
    simp
  · simp only [decide_eq_false_iff_not] at h
    rw [h1, dec_small (n := m) (by omega)]
    rfl

set_option maxRecDepth 20000 in
set_option maxHeartbeats 1000000 in
theorem digits_plain (n : Nat) (w : World) (hn : n < 18446744073709551616) : Calls Tryd.prog 57 #[.int .u64 n] w fun e w' => e = .returned (.string (txt (dec n))) ∧ Below w.heap.size w w' := by
  obtain ⟨i0, hi, hz0, hz1, hz2⟩ := info_parts info_u8
  have hi0 : plainInv n n [] true := ⟨fun _ => ⟨by simp, .inl rfl⟩, (fun h => by cases h), hn, by simp⟩
  have HI0 := Lib.hid hi0
  clear hi0
  go_enter Tryd.func57, Tryd.ntmps57
  go_wp2
  go_loopw [0, 3, 4] (fun x v o wr => ∃ (m : Nat) (l : List UInt8) (ok : Bool), x = .int .u64 m ∧ o = .bool ok ∧ Hid (plainInv n m l ok) ∧ ((l = [] ∧ v = .slice none 0 0 ∧ ok = true) ∨ ∃ g c, 0 < l.length ∧ v = .slice (some ⟨g, 0, none⟩) l.length c) ∧ wr.ownsRow w.heap.size 5 1 v l.length (l.map byteV) ∧ Below w.heap.size w wr) (fun x _ o _ => match o with | .bool true => (intOf x).toNat + 1 | _ => 0)
  case atStart => exact ⟨n, [], true, rfl, rfl, HI0, .inl ⟨rfl, rfl, rfl⟩, World.ownsRow_nil _ _ _ _, Below.refl _ _⟩
  case round =>
    obtain ⟨m, l, ok, rfl, rfl, hinv, hv, hown, hb⟩ := hrel
    cases ok
    · rcases hv with ⟨_, _, h⟩ | ⟨g, c, hl, rfl⟩
      · cases h
      · have hconv := own_str hown Tryd.underlying48 Tryd.underlying5 Tryd.underlying9
        have hd := hinv.out.2.1 rfl
        have HD := Lib.hid hd
        clear hd hinv hown
        go_wp2
        go_ret
        exact ⟨ret_str (by rw [HD.out]), hb⟩
    · have hm := hinv.out.2.2.1
      have hll := hinv.out.2.2.2
      have HS := Lib.hid (plainInv_step hinv.out)
      have hr0 : (0 : Int) ≤ (m : Int) % 10 := by omega
      have hr1 : (m : Int) % 10 ≤ 9 := by omega
      have hbs := hb.size
      clear hinv
      rcases hv with ⟨rfl, rfl, _⟩ | ⟨g, c, hl, rfl⟩
      · have ho := World.ownsRow_lit (base := w.heap.size) (e := 5) (size := 1) wr #[.int .u8 (48 + (m : Int) % 10)] 1 hbs (by decide) rfl
        have ho2 : (wr.alloc (.cells #[.int .u8 (48 + (m : Int) % 10)] 5)).ownsRow w.heap.size 5 1 (.slice (some ⟨wr.heap.size, 0, none⟩) 1 1) 1 [byteV (dg m)] := by rw [← byteV_dg]; exact ho
        have HO := Lib.hid ho2
        clear ho ho2
        go_wp2
        refine ⟨⟨m / 10, [dg m], decide (0 < m / 10), val_int (by omega), val_bool (pos_div m), HS, .inr ⟨_, _, by simp, rfl⟩, HO.out, hb.alloc hbs _⟩, ?_⟩
        by_cases hp : (0 : Int) < (m : Int) / 10
        · rw [decide_eq_true hp]
          simp [intOf]
          omega
        · rw [decide_eq_false hp]
          simp [intOf]
      · have ho := World.ownsRow_lit (base := w.heap.size) (e := 5) (size := 1) wr #[.int .u8 (48 + (m : Int) % 10)] 1 hbs (by decide) rfl
        have HO := Lib.hid ho
        have HN := Lib.hid ((hown.alloc (.cells #[.int .u8 (48 + (m : Int) % 10)] 5)).cells (g := g) rfl)
        clear ho hown
        go_wp2_with (at_builtin; refine wpList_append_own_at _ rfl _ _ 48 rfl w.heap.size 5 i0 (.int .u8 0) 1 1 Tryd.underlying48 hi hz0 hz1 hz2 rfl (by decide) _ 1 [.int .u8 (48 + (m : Int) % 10)] rfl HO.out ⟨g, 0, none⟩ l.length c (l.map byteV) rfl ?c1 HN.out (byteV_one l) ?c2 ?c3 ?c4 ?_)
        case c2 => unfold maxLen; omega
        case c3 => omega
        case c4 => omega
        intro v' w4 hown' hgrow _ hat
        have hown2 : w4.ownsRow w.heap.size 5 1 v' (dg m :: l).length ((dg m :: l).map byteV) := by
          rw [List.map_cons, ← byteV_dg, List.length_cons, Nat.add_comm l.length 1]
          exact hown'
        have hb4 : Below w.heap.size w w4 := (hb.alloc hbs _).grown hgrow (by simp; omega) (fun k hk => (HO.out.lt k hk).1)
        obtain ⟨g2, c2, hv2, -, -⟩ := hown2.form (by simp)
        subst hv2
        have HO2 := Lib.hid hown2
        clear hown' hgrow hat hown2
        go_wp2
        refine ⟨⟨m / 10, dg m :: l, decide (0 < m / 10), val_int (by omega), val_bool (pos_div m), HS, .inr ⟨_, _, by simp, rfl⟩, HO2.out, hb4⟩, ?_⟩
        by_cases hp : (0 : Int) < (m : Int) / 10
        · rw [decide_eq_true hp]
          simp [intOf]
          omega
        · rw [decide_eq_false hp]
          simp [intOf]
end Go.Proofs.YtgfhgopfhcakhaaDoor
