/-
  NARROWER THAN 'FOR EVERY INPUT', by the rows' own cells (each row's printed sentence says how): WantBeyond: laid · BitsShift: laid · BitsSets: laid · BitsTell: laid · WantTells: laid · BitsOrder: laid.
  DERIVED. THE GIVEN ROWS OF THIS SEAT. 6 by the template 'for every input the law returns true; each argument reads behind the call as it read before'; 0 by the template 'total and deterministic' (their statements: YtlcnhpjmmjmkcaaDoorTotals.lean).
  GIVEN WITH THE SEED: the statements are not yours to turn. If you find one false, say at which input.
  Laid BY PROGRAM, IN A SANDBOX (cutbox-rows.mjs): the forced cells as the released guide's own fill.sh prints them over the translation 41cdb1234c0ca990… (all of the seat's roots in one cut). By AI agents, Wed Nov 11 2026. No macro, syntax, notation, axiom, sorry.
-/
import Derived.Test.YtlcnhpjmmjmkcaaDoorChecked
import GoSem.Claim
import GoSem.ClaimJoined
import GoSem.ClaimMapViews
import Derived.JoinedTies
import Derived.KernelRfl
namespace Go.Proofs.YtlcnhpjmmjmkcaaDoor
/- THE CELL 'sum', in the pinned program and in every row, IS THE sha256 OF THE DUMP (.gsa) THAT YtlcnhpjmmjmkcaaDoorProg.lean LOADS. Nothing in Lean hashes anything: it is a label: what it is worth is what the hold of that sum in a sandbox is worth. -/
noncomputable def Tryd.pinned : Pinned := { name := "ytlcnhpjmmjmkcaadoor", sum := "41cdb1234c0ca990cf9b3a8acec834ac3b3a1bfe1b7f2f0fbde38ad2d4b7da7f", checked := Tryd.checked }
namespace Rows
def none {H : Type} : Left H := { results := [], args := [] }

/- WHAT THE LISTED PACKAGE-LEVEL VARIABLES READ AS WHEN THE CALL BEGINS. Each datum BY PROGRAM (the guide's laid-datum.mjs) off the statement by which the dump's own 'gosem.cut.vars' lays the variable. In a bare row this is a premise. The card (YtlcnhpjmmjmkcaaDoorCards.lean) ties it to the program's text. -/
def laid_math_bits_deBruijn64tab {H : Type} : DataW H := .agg [.lit (.int .u8 0), .lit (.int .u8 1), .lit (.int .u8 56), .lit (.int .u8 2), .lit (.int .u8 57), .lit (.int .u8 49), .lit (.int .u8 28), .lit (.int .u8 3), .lit (.int .u8 61), .lit (.int .u8 58), .lit (.int .u8 42), .lit (.int .u8 50), .lit (.int .u8 38), .lit (.int .u8 29), .lit (.int .u8 17), .lit (.int .u8 4), .lit (.int .u8 62), .lit (.int .u8 47), .lit (.int .u8 59), .lit (.int .u8 36), .lit (.int .u8 45), .lit (.int .u8 43), .lit (.int .u8 51), .lit (.int .u8 22), .lit (.int .u8 53), .lit (.int .u8 39), .lit (.int .u8 33), .lit (.int .u8 30), .lit (.int .u8 24), .lit (.int .u8 18), .lit (.int .u8 12), .lit (.int .u8 5), .lit (.int .u8 63), .lit (.int .u8 55), .lit (.int .u8 48), .lit (.int .u8 27), .lit (.int .u8 60), .lit (.int .u8 41), .lit (.int .u8 37), .lit (.int .u8 16), .lit (.int .u8 46), .lit (.int .u8 35), .lit (.int .u8 44), .lit (.int .u8 21), .lit (.int .u8 52), .lit (.int .u8 32), .lit (.int .u8 23), .lit (.int .u8 11), .lit (.int .u8 54), .lit (.int .u8 26), .lit (.int .u8 40), .lit (.int .u8 15), .lit (.int .u8 34), .lit (.int .u8 20), .lit (.int .u8 31), .lit (.int .u8 10), .lit (.int .u8 25), .lit (.int .u8 14), .lit (.int .u8 19), .lit (.int .u8 9), .lit (.int .u8 13), .lit (.int .u8 8), .lit (.int .u8 7), .lit (.int .u8 6)]

/-- 'hoistwaylaw30.WantBeyond': WHATEVER THE INPUT: true; the input reads as it did. -/
def wantBeyondSpec : ChangeSpec := { name := "wantBeyond", fn := fun _ => fun
  | [d1, d2, d3] => { results := [.lit (.bool true)], args := [d1, d2, d3] }
  | _ => none }
def wantBeyondRow : OpenClaim := { program := "ytlcnhpjmmjmkcaadoor", sum := "41cdb1234c0ca990cf9b3a8acec834ac3b3a1bfe1b7f2f0fbde38ad2d4b7da7f", func := "hoistway/hoistwaylaw30.WantBeyond", spec := "wantBeyond", unfollowed := true, recurses := true, named := ["math/bits.deBruijn64tab"], apart := false, laid := [("math/bits.deBruijn64tab", laid_math_bits_deBruijn64tab)] }
def WantBeyondSaid : Prop := wantBeyondRow.holds Tryd.pinned (OpenSpec.ofChange wantBeyondSpec)

/-- ITS FALSE NEIGHBOUR: 'it returns false'. Refute it at one input. -/
def wantBeyondWrong : ChangeSpec := { name := "wantBeyond", fn := fun _ => fun
  | [d1, d2, d3] => { results := [.lit (.bool false)], args := [d1, d2, d3] }
  | _ => none }
def WantBeyondWrongFalsely : Prop := wantBeyondRow.holds Tryd.pinned (OpenSpec.ofChange wantBeyondWrong)

/-- 'hoistwaylaw03.BitsShift': WHATEVER THE INPUT: true; the input reads as it did. -/
def bitsShiftSpec : ChangeSpec := { name := "bitsShift", fn := fun _ => fun
  | [d1, d2] => { results := [.lit (.bool true)], args := [d1, d2] }
  | _ => none }
def bitsShiftRow : OpenClaim := { program := "ytlcnhpjmmjmkcaadoor", sum := "41cdb1234c0ca990cf9b3a8acec834ac3b3a1bfe1b7f2f0fbde38ad2d4b7da7f", func := "hoistway/hoistwaylaw03.BitsShift", spec := "bitsShift", named := ["math/bits.deBruijn64tab"], apart := false, laid := [("math/bits.deBruijn64tab", laid_math_bits_deBruijn64tab)] }
def BitsShiftSaid : Prop := bitsShiftRow.holds Tryd.pinned (OpenSpec.ofChange bitsShiftSpec)

/-- ITS FALSE NEIGHBOUR: 'it returns false'. Refute it at one input. -/
def bitsShiftWrong : ChangeSpec := { name := "bitsShift", fn := fun _ => fun
  | [d1, d2] => { results := [.lit (.bool false)], args := [d1, d2] }
  | _ => none }
def BitsShiftWrongFalsely : Prop := bitsShiftRow.holds Tryd.pinned (OpenSpec.ofChange bitsShiftWrong)

/-- 'hoistwaylaw03.BitsSets': WHATEVER THE INPUT: true; the input reads as it did. -/
def bitsSetsSpec : ChangeSpec := { name := "bitsSets", fn := fun _ => fun
  | [d1, d2] => { results := [.lit (.bool true)], args := [d1, d2] }
  | _ => none }
def bitsSetsRow : OpenClaim := { program := "ytlcnhpjmmjmkcaadoor", sum := "41cdb1234c0ca990cf9b3a8acec834ac3b3a1bfe1b7f2f0fbde38ad2d4b7da7f", func := "hoistway/hoistwaylaw03.BitsSets", spec := "bitsSets", named := ["math/bits.deBruijn64tab"], apart := false, laid := [("math/bits.deBruijn64tab", laid_math_bits_deBruijn64tab)] }
def BitsSetsSaid : Prop := bitsSetsRow.holds Tryd.pinned (OpenSpec.ofChange bitsSetsSpec)

/-- ITS FALSE NEIGHBOUR: 'it returns false'. Refute it at one input. -/
def bitsSetsWrong : ChangeSpec := { name := "bitsSets", fn := fun _ => fun
  | [d1, d2] => { results := [.lit (.bool false)], args := [d1, d2] }
  | _ => none }
def BitsSetsWrongFalsely : Prop := bitsSetsRow.holds Tryd.pinned (OpenSpec.ofChange bitsSetsWrong)

/-- 'hoistwaylaw03.BitsTell': WHATEVER THE INPUT: true; the input reads as it did. -/
def bitsTellSpec : ChangeSpec := { name := "bitsTell", fn := fun _ => fun
  | [d1, d2, d3] => { results := [.lit (.bool true)], args := [d1, d2, d3] }
  | _ => none }
def bitsTellRow : OpenClaim := { program := "ytlcnhpjmmjmkcaadoor", sum := "41cdb1234c0ca990cf9b3a8acec834ac3b3a1bfe1b7f2f0fbde38ad2d4b7da7f", func := "hoistway/hoistwaylaw03.BitsTell", spec := "bitsTell", named := ["math/bits.deBruijn64tab"], apart := false, laid := [("math/bits.deBruijn64tab", laid_math_bits_deBruijn64tab)] }
def BitsTellSaid : Prop := bitsTellRow.holds Tryd.pinned (OpenSpec.ofChange bitsTellSpec)

/-- ITS FALSE NEIGHBOUR: 'it returns false'. Refute it at one input. -/
def bitsTellWrong : ChangeSpec := { name := "bitsTell", fn := fun _ => fun
  | [d1, d2, d3] => { results := [.lit (.bool false)], args := [d1, d2, d3] }
  | _ => none }
def BitsTellWrongFalsely : Prop := bitsTellRow.holds Tryd.pinned (OpenSpec.ofChange bitsTellWrong)

/-- 'hoistwaylaw30.WantTells': WHATEVER THE INPUT: true; the input reads as it did. -/
def wantTellsSpec : ChangeSpec := { name := "wantTells", fn := fun _ => fun
  | [d1, d2, d3] => { results := [.lit (.bool true)], args := [d1, d2, d3] }
  | _ => none }
def wantTellsRow : OpenClaim := { program := "ytlcnhpjmmjmkcaadoor", sum := "41cdb1234c0ca990cf9b3a8acec834ac3b3a1bfe1b7f2f0fbde38ad2d4b7da7f", func := "hoistway/hoistwaylaw30.WantTells", spec := "wantTells", unfollowed := true, recurses := true, named := ["math/bits.deBruijn64tab"], apart := false, laid := [("math/bits.deBruijn64tab", laid_math_bits_deBruijn64tab)] }
def WantTellsSaid : Prop := wantTellsRow.holds Tryd.pinned (OpenSpec.ofChange wantTellsSpec)

/-- ITS FALSE NEIGHBOUR: 'it returns false'. Refute it at one input. -/
def wantTellsWrong : ChangeSpec := { name := "wantTells", fn := fun _ => fun
  | [d1, d2, d3] => { results := [.lit (.bool false)], args := [d1, d2, d3] }
  | _ => none }
def WantTellsWrongFalsely : Prop := wantTellsRow.holds Tryd.pinned (OpenSpec.ofChange wantTellsWrong)

/-- 'hoistwaylaw03.BitsOrder': WHATEVER THE INPUT: true; the input reads as it did. -/
def bitsOrderSpec : ChangeSpec := { name := "bitsOrder", fn := fun _ => fun
  | [d1, d2, d3] => { results := [.lit (.bool true)], args := [d1, d2, d3] }
  | _ => none }
def bitsOrderRow : OpenClaim := { program := "ytlcnhpjmmjmkcaadoor", sum := "41cdb1234c0ca990cf9b3a8acec834ac3b3a1bfe1b7f2f0fbde38ad2d4b7da7f", func := "hoistway/hoistwaylaw03.BitsOrder", spec := "bitsOrder", unfollowed := true, recurses := true, named := ["math/bits.deBruijn64tab"], apart := false, laid := [("math/bits.deBruijn64tab", laid_math_bits_deBruijn64tab)] }
def BitsOrderSaid : Prop := bitsOrderRow.holds Tryd.pinned (OpenSpec.ofChange bitsOrderSpec)

/-- ITS FALSE NEIGHBOUR: 'it returns false'. Refute it at one input. -/
def bitsOrderWrong : ChangeSpec := { name := "bitsOrder", fn := fun _ => fun
  | [d1, d2, d3] => { results := [.lit (.bool false)], args := [d1, d2, d3] }
  | _ => none }
def BitsOrderWrongFalsely : Prop := bitsOrderRow.holds Tryd.pinned (OpenSpec.ofChange bitsOrderWrong)

/- THE SECOND FORM. 'bulk': how many values and letters a reading holds, each counted each time it is reached (what is shared counts as often as it is met; a slice's spare places count too). A statement '..UptoSaid' is the law's where the arguments, and the package variables that the reading takes, are together of bulk at most 1048576: NARROWER than '..Said'. Prove '..Said' where nothing that the law and all that it calls make is longer than what came in: it says more and counts as full. Else prove '..UptoSaid'. A law counts once. -/
mutual
def uptoBulk {H : Type} : DataW H → Nat
  | .lit (.string bytes) => bytes.length + 1
  | .lit _ => 1
  | .nil => 1
  | .ptr d => uptoBulk d + 1
  | .slice elems spare => uptoBulkAll elems + uptoBulkAll spare + 1
  | .agg parts => uptoBulkAll parts + 1
  | .iface _ d => uptoBulk d + 1
  | .map entries => uptoBulkEntries entries + 1
  | .held _ => 1
def uptoBulkAll {H : Type} : List (DataW H) → Nat
  | [] => 0
  | d :: r => uptoBulk d + uptoBulkAll r
def uptoBulkEntries {H : Type} : List (Lit × DataW H) → Nat
  | [] => 0
  | x :: r => uptoBulkEntry x + uptoBulkEntries r
def uptoBulkEntry {H : Type} : Lit × DataW H → Nat
  | (.string bytes, d) => bytes.length + uptoBulk d + 1
  | (_, d) => uptoBulk d + 1
 end
def uptoSmall : (H : Type) → List (DataW H) → Bool := fun _ ds => decide (uptoBulkAll ds ≤ 1048576)
def OpenSpec.upto (s : _root_.Go.ChangeSpec) : _root_.Go.OpenSpec := { _root_.Go.OpenSpec.ofChange s with cond := some uptoSmall }

/-- 'hoistwaylaw30.WantBeyond', WHERE WHAT IT READS IS OF BULK AT MOST 1048576: true; the input reads as it did. -/
def wantBeyondUptoRow : OpenClaim := { program := "ytlcnhpjmmjmkcaadoor", sum := "41cdb1234c0ca990cf9b3a8acec834ac3b3a1bfe1b7f2f0fbde38ad2d4b7da7f", func := "hoistway/hoistwaylaw30.WantBeyond", spec := "wantBeyond", unfollowed := true, recurses := true, named := ["math/bits.deBruijn64tab"], apart := false, laid := [("math/bits.deBruijn64tab", laid_math_bits_deBruijn64tab)], narrowed := true }
def WantBeyondUptoSaid : Prop := wantBeyondUptoRow.holds Tryd.pinned (OpenSpec.upto wantBeyondSpec)

/-- 'hoistwaylaw03.BitsShift', WHERE WHAT IT READS IS OF BULK AT MOST 1048576: true; the input reads as it did. -/
def bitsShiftUptoRow : OpenClaim := { program := "ytlcnhpjmmjmkcaadoor", sum := "41cdb1234c0ca990cf9b3a8acec834ac3b3a1bfe1b7f2f0fbde38ad2d4b7da7f", func := "hoistway/hoistwaylaw03.BitsShift", spec := "bitsShift", named := ["math/bits.deBruijn64tab"], apart := false, laid := [("math/bits.deBruijn64tab", laid_math_bits_deBruijn64tab)], narrowed := true }
def BitsShiftUptoSaid : Prop := bitsShiftUptoRow.holds Tryd.pinned (OpenSpec.upto bitsShiftSpec)

/-- 'hoistwaylaw03.BitsSets', WHERE WHAT IT READS IS OF BULK AT MOST 1048576: true; the input reads as it did. -/
def bitsSetsUptoRow : OpenClaim := { program := "ytlcnhpjmmjmkcaadoor", sum := "41cdb1234c0ca990cf9b3a8acec834ac3b3a1bfe1b7f2f0fbde38ad2d4b7da7f", func := "hoistway/hoistwaylaw03.BitsSets", spec := "bitsSets", named := ["math/bits.deBruijn64tab"], apart := false, laid := [("math/bits.deBruijn64tab", laid_math_bits_deBruijn64tab)], narrowed := true }
def BitsSetsUptoSaid : Prop := bitsSetsUptoRow.holds Tryd.pinned (OpenSpec.upto bitsSetsSpec)

/-- 'hoistwaylaw03.BitsTell', WHERE WHAT IT READS IS OF BULK AT MOST 1048576: true; the input reads as it did. -/
def bitsTellUptoRow : OpenClaim := { program := "ytlcnhpjmmjmkcaadoor", sum := "41cdb1234c0ca990cf9b3a8acec834ac3b3a1bfe1b7f2f0fbde38ad2d4b7da7f", func := "hoistway/hoistwaylaw03.BitsTell", spec := "bitsTell", named := ["math/bits.deBruijn64tab"], apart := false, laid := [("math/bits.deBruijn64tab", laid_math_bits_deBruijn64tab)], narrowed := true }
def BitsTellUptoSaid : Prop := bitsTellUptoRow.holds Tryd.pinned (OpenSpec.upto bitsTellSpec)

/-- 'hoistwaylaw30.WantTells', WHERE WHAT IT READS IS OF BULK AT MOST 1048576: true; the input reads as it did. -/
def wantTellsUptoRow : OpenClaim := { program := "ytlcnhpjmmjmkcaadoor", sum := "41cdb1234c0ca990cf9b3a8acec834ac3b3a1bfe1b7f2f0fbde38ad2d4b7da7f", func := "hoistway/hoistwaylaw30.WantTells", spec := "wantTells", unfollowed := true, recurses := true, named := ["math/bits.deBruijn64tab"], apart := false, laid := [("math/bits.deBruijn64tab", laid_math_bits_deBruijn64tab)], narrowed := true }
def WantTellsUptoSaid : Prop := wantTellsUptoRow.holds Tryd.pinned (OpenSpec.upto wantTellsSpec)

/-- 'hoistwaylaw03.BitsOrder', WHERE WHAT IT READS IS OF BULK AT MOST 1048576: true; the input reads as it did. -/
def bitsOrderUptoRow : OpenClaim := { program := "ytlcnhpjmmjmkcaadoor", sum := "41cdb1234c0ca990cf9b3a8acec834ac3b3a1bfe1b7f2f0fbde38ad2d4b7da7f", func := "hoistway/hoistwaylaw03.BitsOrder", spec := "bitsOrder", unfollowed := true, recurses := true, named := ["math/bits.deBruijn64tab"], apart := false, laid := [("math/bits.deBruijn64tab", laid_math_bits_deBruijn64tab)], narrowed := true }
def BitsOrderUptoSaid : Prop := bitsOrderUptoRow.holds Tryd.pinned (OpenSpec.upto bitsOrderSpec)

end Rows
end Go.Proofs.YtlcnhpjmmjmkcaaDoor
