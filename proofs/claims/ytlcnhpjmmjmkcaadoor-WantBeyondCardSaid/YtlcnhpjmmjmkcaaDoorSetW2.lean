
/-
  Sets: bits.From, bits.Of. Condition: the numbers fit their kinds.
-/
import Derived.Test.YtlcnhpjmmjmkcaaDoorSetW
import Derived.Test.YtlcnhpjmmjmkcaaDoorArgA
import Derived.Test.YtlcnhpjmmjmkcaaDoorInts
set_option linter.unusedVariables false
set_option linter.unusedSimpArgs false
namespace Go.Proofs.YtlcnhpjmmjmkcaaDoor
open Go.Joins Go.ChangeShapes Go.WideShapes Go.ChangeAt Go.RowKit Go.Deep

theorem set2b {w w' : World} {g : Nat} {u1 u2 : Value} (h : Below w.heap.size w w') : Below w.heap.size w ((w'.setCell ⟨w.heap.size + g, 0, none⟩ u1).setCell ⟨w.heap.size + g, 1, none⟩ u2) :=
  (h.setCell (by show _ ≤ w.heap.size + g; omega) _).setCell (by show _ ≤ w.heap.size + g; omega) _
theorem boxb2 (w : World) (t1 : TypeId) (c1 : Array Value) (t2 : TypeId) (c2 : Array Value) : Blk ((w.alloc (.cells c1 t1)).alloc (.cells c2 t2)) (w.heap.size + 1) t2 c2 := by
  have := Blk.new (w.alloc (.cells c1 t1)) t2 c2
  rwa [alloc_size] at this
set_option maxRecDepth 20000 in
set_option maxHeartbeats 1000000 in
theorem bits_From (x y : Nat) (n : Int) (w : World) (hx : Wd x) (hy : Wd y) (hn : I64 n) : Calls Tryd.prog 41 #[sv x y, .int .i64 n] w fun e w' => e = .returned (sv (fromX x n) (fromY y n)) ∧ Below w.heap.size w w' := by
  have cB := fun w => bits_Below x y n w hx hy hn
  have cS := fun w => bits_Sub x y (belX x n) (belY y n) w hx hy (wd_belX n hx) (wd_belY n hy)
  have e1 : subW x (belX x n) = fromX x n := rfl
  have e2 : subW y (belY y n) = fromY y n := rfl
  rw [e1, e2] at cS
  unfold sv at *
  have CB := Lib.hid cB
  have CS := Lib.hid cS
  clear cB cS e1 e2 hx hy
  generalize (fromX x n : Int) = r1 at *
  generalize (fromY y n : Int) = r2 at *
  generalize (belX x n : Int) = b1 at *
  generalize (belY y n : Int) = b2 at *
  go_enter Tryd.func41, Tryd.ntmps41
  go_wp2
  have hk := boxb2 w 24 #[.int .u64 (x : Int), .int .u64 (y : Int)] 24 #[.int .u64 0, .int .u64 0]
  obtain ⟨hBw2, hcw1, hdw2, hzw2⟩ := box2 w 24 #[.int .u64 (x : Int), .int .u64 (y : Int)] 24 #[.int .u64 0, .int .u64 0]
  change Code.wp _ _ _ _ ((w.alloc (.cells #[.int .u64 (x : Int), .int .u64 (y : Int)] 24)).alloc (.cells #[.int .u64 0, .int .u64 0] 24))
  generalize ((w.alloc (.cells #[.int .u64 (x : Int), .int .u64 (y : Int)] 24)).alloc (.cells #[.int .u64 0, .int .u64 0] 24)) = w2 at *
  have hyw2 : w.heap.size < w2.heap.size := by omega
  refine wp_region_grow_tail 5 (by kernel_rfl) (by kernel_rfl) ?_
  simp only [List.take_succ_cons, List.take_zero, List.drop_succ_cons, List.drop_zero]
  repeat (go_big_quiet_step ((first | (go_at_call 39; with_reducible exact grow_of (CB.out _)) | (go_at_call 23; with_reducible exact grow_of (CS.out _)))))
  refine wpQuiet_nil ?_
  intro w3 hb3
  have hk3 := hk.below hb3 (by omega)
  have hfw3 : ∀ i, w3.frozen? ⟨w.heap.size + 1, i, none⟩ = false := fun i => hk3.free i
  have hdw3 : ∀ i, w3.cell? ⟨w.heap.size + 1, i, none⟩ = (#[.int .u64 0, .int .u64 0] : Array Value)[i]? := fun i => hk3.cell i
  have hz3 := hb3.size
  clear hk hk3 hdw2 hcw1
  go_wp2
  refine bodyPost_ret (v := .agg #[.int .u64 r1, .int .u64 r2]) (by simp [results, Tryd.results41, go_sem, hdw3, hfw3]) rfl ?_
  exact ⟨rfl, set2b (hBw2.trans (hb3.mono (by omega)))⟩
/-- The set of the first k numbers of a row. -/
def ofX (f : Nat → Int) : Nat → Nat
  | 0 => 0
  | k + 1 => withX (ofX f k) (f k)
def ofY (f : Nat → Int) : Nat → Nat
  | 0 => 0
  | k + 1 => withY (ofY f k) (f k)
theorem wd_of (f : Nat → Int) (k : Nat) : Wd (ofX f k) ∧ Wd (ofY f k) := by
  induction k with
  | zero => exact ⟨by show 0 < 18446744073709551616; omega, by show 0 < 18446744073709551616; omega⟩
  | succ k ih => exact ⟨wd_withX _ ih.1, wd_withY _ ih.2⟩
theorem mem_of (f : Nat → Int) (k : Nat) (n : Int) (h0 : 0 ≤ n) (h1 : n < 128) : memB (ofX f k) (ofY f k) n = true ↔ ∃ i, i < k ∧ f i = n := by
  induction k with
  | zero => simp [ofX, ofY, mem_zero]
  | succ k ih =>
    simp only [ofX, ofY]
    rw [mem_with, Bool.or_eq_true, ih, Bool.and_eq_true, decide_eq_true_eq, decide_eq_true_eq]
    constructor
    · rintro (⟨i, hi, e⟩ | ⟨_, e⟩)
      · exact ⟨i, by omega, e⟩
      · exact ⟨k, by omega, e⟩
    · rintro ⟨i, hi, e⟩
      by_cases hk : i < k
      · exact .inl ⟨i, hk, e⟩
      · obtain rfl : i = k := by omega
        exact .inr ⟨by omega, e⟩
set_option maxRecDepth 20000 in
set_option maxHeartbeats 2000000 in
theorem bits_Of (A : Option Addr) (C : Nat) (xs : List Int) (w : World) (hx : Ints w A xs) (hl : xs.length ≤ 1000) (hbd : ∀ i, I64 (at0 xs i)) :
    Calls Tryd.prog 28 #[.slice A xs.length C] w fun e w' => e = .returned (sv (ofX (at0 xs) xs.length) (ofY (at0 xs) xs.length)) ∧ Below w.heap.size w w' := by
  have cW := fun k w => bits_With (ofX (at0 xs) k) (ofY (at0 xs) k) (at0 xs k) w (wd_of _ k).1 (wd_of _ k).2 (hbd k)
  unfold sv at *
  have HX := Lib.hid hx
  have CW := Lib.hid cW
  clear hx hbd cW
  go_enter Tryd.func28, Tryd.ntmps28
  go_wp2
  have hk1 := boxb2 w 24 #[.int .u64 0, .int .u64 0] 24 #[.int .u64 0, .int .u64 0]
  have hk0 := (Blk.new w 24 #[.int .u64 0, .int .u64 0]).alloc (.cells #[.int .u64 0, .int .u64 0] 24)
  have hB := Joins.below_alloc2 w (.cells #[.int .u64 0, .int .u64 0] 24) (.cells #[.int .u64 0, .int .u64 0] 24)
  generalize (w.alloc (.cells #[.int .u64 0, .int .u64 0] 24)).alloc (.cells #[.int .u64 0, .int .u64 0] 24) = w1 at *
  go_loopw [8] (fun i wr => ∃ k : Nat, k ≤ xs.length ∧ i = .int .i64 k ∧ Blk wr w.heap.size 24 #[.int .u64 0, .int .u64 0] ∧ Blk wr (w.heap.size + 1) 24 #[.int .u64 (ofX (at0 xs) k : Nat), .int .u64 (ofY (at0 xs) k : Nat)] ∧ Below w.heap.size w wr) (fun i _ => xs.length - (intOf i).toNat)
  case atStart => exact ⟨0, by omega, rfl, hk0, hk1, hB⟩
  case round =>
    obtain ⟨k, hk, rfl, b0, b1, hb⟩ := hrel
    have hlt1 := b1.lt
    by_cases hlt : k < xs.length
    · obtain ⟨b, off, rfl, hbl, hce⟩ := (HX.out.below hb) (by omega)
      have hcx := hce k hlt
      have hcs : ∀ i, wr.cell? ⟨w.heap.size + 1, i, none⟩ = (#[.int .u64 (ofX (at0 xs) k : Nat), .int .u64 (ofY (at0 xs) k : Nat)] : Array Value)[i]? := fun i => b1.cell i
      have e1 : ofX (at0 xs) (k + 1) = withX (ofX (at0 xs) k) (at0 xs k) := rfl
      have e2 : ofY (at0 xs) (k + 1) = withY (ofY (at0 xs) k) (at0 xs k) := rfl
      have cW := CW.out k
      rw [← e1, ← e2] at cW
      have CW2 := Lib.hid cW
      clear hce cW e1 e2 CW
      generalize at0 xs k = x at *
      go_wp2_with fail
      refine (CW2.out _).mono ?_
      rintro e w2 ⟨rfl, hb2⟩
      have c1 := b1.below hb2 hlt1
      have c0 := b0.below hb2 (by omega)
      have hB2 := hb.trans (hb2.mono hb.size)
      have hfw : ∀ i, w2.frozen? ⟨w.heap.size + 1, i, none⟩ = false := fun i => c1.free i
      have hcw : ∀ i, w2.cell? ⟨w.heap.size + 1, i, none⟩ = (#[.int .u64 (ofX (at0 xs) k : Nat), .int .u64 (ofY (at0 xs) k : Nat)] : Array Value)[i]? := fun i => c1.cell i
      have C0 := Lib.hid c0
      have C1 := Lib.hid c1
      clear hcs b0 b1 c0 c1
      go_wp2
      go_roundw
      case rel => exact ⟨k + 1, by omega, by go_num, (C0.out.far (by simp) _).far (by simp) _, (C1.out.set_ 0 _).set_ 1 _, set2b hB2⟩
      case measure => simp [intOf]; omega
    · obtain rfl : k = xs.length := by omega
      have hcs : ∀ i, wr.cell? ⟨w.heap.size + 1, i, none⟩ = (#[.int .u64 (ofX (at0 xs) xs.length : Nat), .int .u64 (ofY (at0 xs) xs.length : Nat)] : Array Value)[i]? := fun i => b1.cell i
      have hcw : ∀ i, wr.cell? ⟨w.heap.size, i, none⟩ = (#[.int .u64 0, .int .u64 0] : Array Value)[i]? := fun i => b0.cell i
      have hfw : ∀ i, wr.frozen? ⟨w.heap.size, i, none⟩ = false := fun i => b0.free i
      clear b0 b1 CW
      obtain ⟨r1, hr1⟩ : ∃ r, r = (ofX (at0 xs) xs.length : Int) := ⟨_, rfl⟩
      obtain ⟨r2, hr2⟩ : ∃ r, r = (ofY (at0 xs) xs.length : Int) := ⟨_, rfl⟩
      rw [← hr1, ← hr2] at hcs
      have R1 := Lib.hid hr1
      have R2 := Lib.hid hr2
      clear hr1 hr2
      go_wp2
      refine bodyPost_ret (v := .agg #[.int .u64 r1, .int .u64 r2]) (by simp [results, Tryd.results28, go_sem, hcw, hfw]) rfl ?_
      exact ⟨by rw [R1.out, R2.out], set2b (g := 0) hb⟩
end Go.Proofs.YtlcnhpjmmjmkcaaDoor
