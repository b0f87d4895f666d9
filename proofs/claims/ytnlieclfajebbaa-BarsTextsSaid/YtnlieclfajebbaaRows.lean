/-
  No cell of these rows narrows 'for every input' (looked for: loops, veiled, ifaces, maps, wideKeys, modest, calm, conditions, laid).
  DERIVED. THE GIVEN ROWS OF THIS SEAT. 12 by the template 'for every input the law returns true; each argument reads behind the call as it read before'; 0 by the template 'total and deterministic' (their statements: YtnlieclfajebbaaTotals.lean).
  GIVEN WITH THE SEED: the statements are not yours to turn. If you find one false, say at which input.
  Laid BY PROGRAM, IN A SANDBOX (cutbox-rows.mjs): the forced cells as the released guide's own fill.sh prints them over the translation 7b4c9f9b94d1f436… (all of the seat's roots in one cut). By AI agents, Wed Nov 11 2026. No macro, syntax, notation, axiom, sorry.
-/
import Derived.Test.YtnlieclfajebbaaChecked
import GoSem.Claim
import GoSem.ClaimJoined
import GoSem.ClaimMapViews
import Derived.JoinedTies
import Derived.KernelRfl
namespace Go.Proofs.Ytnlieclfajebbaa
/- THE CELL 'sum', in the pinned program and in every row, IS THE sha256 OF THE DUMP (.gsa) THAT YtnlieclfajebbaaProg.lean LOADS. Nothing in Lean hashes anything: it is a label: what it is worth is what the hold of that sum in a sandbox is worth. -/
noncomputable def Try.pinned : Pinned := { name := "ytnlieclfajebbaa", sum := "7b4c9f9b94d1f4367ebe6842d236b1fd1b82aae68a850c82b1c9eac2bb9a587f", checked := Try.checked }
namespace Rows
def none {H : Type} : Left H := { results := [], args := [] }

/-- 'hoistwaylaw52.ClockTexts': WHATEVER THE INPUT: true; the input reads as it did. -/
def clockTextsSpec : ChangeSpec := { name := "clockTexts", fn := fun _ => fun
  | [d1, d2] => { results := [.lit (.bool true)], args := [d1, d2] }
  | _ => none }
def clockTextsRow : OpenClaim := { program := "ytnlieclfajebbaa", sum := "7b4c9f9b94d1f4367ebe6842d236b1fd1b82aae68a850c82b1c9eac2bb9a587f", func := "hoistway/hoistwaylaw52.ClockTexts", spec := "clockTexts", recurses := true, apart := false }
def ClockTextsSaid : Prop := clockTextsRow.holds Try.pinned (OpenSpec.ofChange clockTextsSpec)

/-- ITS FALSE NEIGHBOUR: 'it returns false'. Refute it at one input. -/
def clockTextsWrong : ChangeSpec := { name := "clockTexts", fn := fun _ => fun
  | [d1, d2] => { results := [.lit (.bool false)], args := [d1, d2] }
  | _ => none }
def ClockTextsWrongFalsely : Prop := clockTextsRow.holds Try.pinned (OpenSpec.ofChange clockTextsWrong)

/-- 'hoistwaylaw08.FracBack': WHATEVER THE INPUT: true; the input reads as it did. -/
def fracBackSpec : ChangeSpec := { name := "fracBack", fn := fun _ => fun
  | [d] => { results := [.lit (.bool true)], args := [d] }
  | _ => none }
def fracBackRow : OpenClaim := { program := "ytnlieclfajebbaa", sum := "7b4c9f9b94d1f4367ebe6842d236b1fd1b82aae68a850c82b1c9eac2bb9a587f", func := "hoistway/hoistwaylaw08.FracBack", spec := "fracBack", apart := false }
def FracBackSaid : Prop := fracBackRow.holds Try.pinned (OpenSpec.ofChange fracBackSpec)

/-- ITS FALSE NEIGHBOUR: 'it returns false'. Refute it at one input. -/
def fracBackWrong : ChangeSpec := { name := "fracBack", fn := fun _ => fun
  | [d] => { results := [.lit (.bool false)], args := [d] }
  | _ => none }
def FracBackWrongFalsely : Prop := fracBackRow.holds Try.pinned (OpenSpec.ofChange fracBackWrong)

/-- 'hoistwaylaw71.GanttCounts': WHATEVER THE INPUT: true; the input reads as it did. -/
def ganttCountsSpec : ChangeSpec := { name := "ganttCounts", fn := fun _ => fun
  | [d1, d2, d3] => { results := [.lit (.bool true)], args := [d1, d2, d3] }
  | _ => none }
def ganttCountsRow : OpenClaim := { program := "ytnlieclfajebbaa", sum := "7b4c9f9b94d1f4367ebe6842d236b1fd1b82aae68a850c82b1c9eac2bb9a587f", func := "hoistway/hoistwaylaw71.GanttCounts", spec := "ganttCounts", inPlace := ["internal/abi.NoEscape"], apart := false }
def GanttCountsSaid : Prop := ganttCountsRow.holds Try.pinned (OpenSpec.ofChange ganttCountsSpec)

/-- ITS FALSE NEIGHBOUR: 'it returns false'. Refute it at one input. -/
def ganttCountsWrong : ChangeSpec := { name := "ganttCounts", fn := fun _ => fun
  | [d1, d2, d3] => { results := [.lit (.bool false)], args := [d1, d2, d3] }
  | _ => none }
def GanttCountsWrongFalsely : Prop := ganttCountsRow.holds Try.pinned (OpenSpec.ofChange ganttCountsWrong)

/-- 'hoistwaylaw02.DigitsReads': WHATEVER THE INPUT: true; the input reads as it did. -/
def digitsReadsSpec : ChangeSpec := { name := "digitsReads", fn := fun _ => fun
  | [d] => { results := [.lit (.bool true)], args := [d] }
  | _ => none }
def digitsReadsRow : OpenClaim := { program := "ytnlieclfajebbaa", sum := "7b4c9f9b94d1f4367ebe6842d236b1fd1b82aae68a850c82b1c9eac2bb9a587f", func := "hoistway/hoistwaylaw02.DigitsReads", spec := "digitsReads", apart := false }
def DigitsReadsSaid : Prop := digitsReadsRow.holds Try.pinned (OpenSpec.ofChange digitsReadsSpec)

/-- ITS FALSE NEIGHBOUR: 'it returns false'. Refute it at one input. -/
def digitsReadsWrong : ChangeSpec := { name := "digitsReads", fn := fun _ => fun
  | [d] => { results := [.lit (.bool false)], args := [d] }
  | _ => none }
def DigitsReadsWrongFalsely : Prop := digitsReadsRow.holds Try.pinned (OpenSpec.ofChange digitsReadsWrong)

/-- 'hoistwaylaw02.DigitsTexts': WHATEVER THE INPUT: true; the input reads as it did. -/
def digitsTextsSpec : ChangeSpec := { name := "digitsTexts", fn := fun _ => fun
  | [d1, d2] => { results := [.lit (.bool true)], args := [d1, d2] }
  | _ => none }
def digitsTextsRow : OpenClaim := { program := "ytnlieclfajebbaa", sum := "7b4c9f9b94d1f4367ebe6842d236b1fd1b82aae68a850c82b1c9eac2bb9a587f", func := "hoistway/hoistwaylaw02.DigitsTexts", spec := "digitsTexts", recurses := true, apart := false }
def DigitsTextsSaid : Prop := digitsTextsRow.holds Try.pinned (OpenSpec.ofChange digitsTextsSpec)

/-- ITS FALSE NEIGHBOUR: 'it returns false'. Refute it at one input. -/
def digitsTextsWrong : ChangeSpec := { name := "digitsTexts", fn := fun _ => fun
  | [d1, d2] => { results := [.lit (.bool false)], args := [d1, d2] }
  | _ => none }
def DigitsTextsWrongFalsely : Prop := digitsTextsRow.holds Try.pinned (OpenSpec.ofChange digitsTextsWrong)

/-- 'hoistwaylaw55.BarsLong': WHATEVER THE INPUT: true; the input reads as it did. -/
def barsLongSpec : ChangeSpec := { name := "barsLong", fn := fun _ => fun
  | [d1, d2, d3] => { results := [.lit (.bool true)], args := [d1, d2, d3] }
  | _ => none }
def barsLongRow : OpenClaim := { program := "ytnlieclfajebbaa", sum := "7b4c9f9b94d1f4367ebe6842d236b1fd1b82aae68a850c82b1c9eac2bb9a587f", func := "hoistway/hoistwaylaw55.BarsLong", spec := "barsLong", named := ["math/bits.divideError", "math/bits.overflowError"], apart := false }
def BarsLongSaid : Prop := barsLongRow.holds Try.pinned (OpenSpec.ofChange barsLongSpec)

/-- ITS FALSE NEIGHBOUR: 'it returns false'. Refute it at one input. -/
def barsLongWrong : ChangeSpec := { name := "barsLong", fn := fun _ => fun
  | [d1, d2, d3] => { results := [.lit (.bool false)], args := [d1, d2, d3] }
  | _ => none }
def BarsLongWrongFalsely : Prop := barsLongRow.holds Try.pinned (OpenSpec.ofChange barsLongWrong)

/-- 'hoistwaylaw36.ChartDraws': WHATEVER THE INPUT: true; the input reads as it did. -/
def chartDrawsSpec : ChangeSpec := { name := "chartDraws", fn := fun _ => fun
  | [d1, d2, d3] => { results := [.lit (.bool true)], args := [d1, d2, d3] }
  | _ => none }
def chartDrawsRow : OpenClaim := { program := "ytnlieclfajebbaa", sum := "7b4c9f9b94d1f4367ebe6842d236b1fd1b82aae68a850c82b1c9eac2bb9a587f", func := "hoistway/hoistwaylaw36.ChartDraws", spec := "chartDraws", inPlace := ["internal/abi.NoEscape"], recurses := true, apart := false }
def ChartDrawsSaid : Prop := chartDrawsRow.holds Try.pinned (OpenSpec.ofChange chartDrawsSpec)

/-- ITS FALSE NEIGHBOUR: 'it returns false'. Refute it at one input. -/
def chartDrawsWrong : ChangeSpec := { name := "chartDraws", fn := fun _ => fun
  | [d1, d2, d3] => { results := [.lit (.bool false)], args := [d1, d2, d3] }
  | _ => none }
def ChartDrawsWrongFalsely : Prop := chartDrawsRow.holds Try.pinned (OpenSpec.ofChange chartDrawsWrong)

/-- 'hoistwaylaw52.ClockReads': WHATEVER THE INPUT: true; the input reads as it did. -/
def clockReadsSpec : ChangeSpec := { name := "clockReads", fn := fun _ => fun
  | [d] => { results := [.lit (.bool true)], args := [d] }
  | _ => none }
def clockReadsRow : OpenClaim := { program := "ytnlieclfajebbaa", sum := "7b4c9f9b94d1f4367ebe6842d236b1fd1b82aae68a850c82b1c9eac2bb9a587f", func := "hoistway/hoistwaylaw52.ClockReads", spec := "clockReads", recurses := true, apart := false }
def ClockReadsSaid : Prop := clockReadsRow.holds Try.pinned (OpenSpec.ofChange clockReadsSpec)

/-- ITS FALSE NEIGHBOUR: 'it returns false'. Refute it at one input. -/
def clockReadsWrong : ChangeSpec := { name := "clockReads", fn := fun _ => fun
  | [d] => { results := [.lit (.bool false)], args := [d] }
  | _ => none }
def ClockReadsWrongFalsely : Prop := clockReadsRow.holds Try.pinned (OpenSpec.ofChange clockReadsWrong)

/-- 'hoistwaylaw52.ClockBack': WHATEVER THE INPUT: true; the input reads as it did. -/
def clockBackSpec : ChangeSpec := { name := "clockBack", fn := fun _ => fun
  | [d] => { results := [.lit (.bool true)], args := [d] }
  | _ => none }
def clockBackRow : OpenClaim := { program := "ytnlieclfajebbaa", sum := "7b4c9f9b94d1f4367ebe6842d236b1fd1b82aae68a850c82b1c9eac2bb9a587f", func := "hoistway/hoistwaylaw52.ClockBack", spec := "clockBack", recurses := true, apart := false }
def ClockBackSaid : Prop := clockBackRow.holds Try.pinned (OpenSpec.ofChange clockBackSpec)

/-- ITS FALSE NEIGHBOUR: 'it returns false'. Refute it at one input. -/
def clockBackWrong : ChangeSpec := { name := "clockBack", fn := fun _ => fun
  | [d] => { results := [.lit (.bool false)], args := [d] }
  | _ => none }
def ClockBackWrongFalsely : Prop := clockBackRow.holds Try.pinned (OpenSpec.ofChange clockBackWrong)

/-- 'hoistwaylaw08.FracTexts': WHATEVER THE INPUT: true; the input reads as it did. -/
def fracTextsSpec : ChangeSpec := { name := "fracTexts", fn := fun _ => fun
  | [d] => { results := [.lit (.bool true)], args := [d] }
  | _ => none }
def fracTextsRow : OpenClaim := { program := "ytnlieclfajebbaa", sum := "7b4c9f9b94d1f4367ebe6842d236b1fd1b82aae68a850c82b1c9eac2bb9a587f", func := "hoistway/hoistwaylaw08.FracTexts", spec := "fracTexts", recurses := true, named := ["math/bits.divideError", "math/bits.overflowError"], apart := false }
def FracTextsSaid : Prop := fracTextsRow.holds Try.pinned (OpenSpec.ofChange fracTextsSpec)

/-- ITS FALSE NEIGHBOUR: 'it returns false'. Refute it at one input. -/
def fracTextsWrong : ChangeSpec := { name := "fracTexts", fn := fun _ => fun
  | [d] => { results := [.lit (.bool false)], args := [d] }
  | _ => none }
def FracTextsWrongFalsely : Prop := fracTextsRow.holds Try.pinned (OpenSpec.ofChange fracTextsWrong)

/-- 'hoistwaylaw35.FigureWays': WHATEVER THE INPUT: true; the input reads as it did. -/
def figureWaysSpec : ChangeSpec := { name := "figureWays", fn := fun _ => fun
  | [d1, d2, d3] => { results := [.lit (.bool true)], args := [d1, d2, d3] }
  | _ => none }
def figureWaysRow : OpenClaim := { program := "ytnlieclfajebbaa", sum := "7b4c9f9b94d1f4367ebe6842d236b1fd1b82aae68a850c82b1c9eac2bb9a587f", func := "hoistway/hoistwaylaw35.FigureWays", spec := "figureWays", apart := false }
def FigureWaysSaid : Prop := figureWaysRow.holds Try.pinned (OpenSpec.ofChange figureWaysSpec)

/-- ITS FALSE NEIGHBOUR: 'it returns false'. Refute it at one input. -/
def figureWaysWrong : ChangeSpec := { name := "figureWays", fn := fun _ => fun
  | [d1, d2, d3] => { results := [.lit (.bool false)], args := [d1, d2, d3] }
  | _ => none }
def FigureWaysWrongFalsely : Prop := figureWaysRow.holds Try.pinned (OpenSpec.ofChange figureWaysWrong)

/-- 'hoistwaylaw55.BarsTexts': WHATEVER THE INPUT: true; the input reads as it did. -/
def barsTextsSpec : ChangeSpec := { name := "barsTexts", fn := fun _ => fun
  | [d1, d2, d3] => { results := [.lit (.bool true)], args := [d1, d2, d3] }
  | _ => none }
def barsTextsRow : OpenClaim := { program := "ytnlieclfajebbaa", sum := "7b4c9f9b94d1f4367ebe6842d236b1fd1b82aae68a850c82b1c9eac2bb9a587f", func := "hoistway/hoistwaylaw55.BarsTexts", spec := "barsTexts", inPlace := ["internal/abi.NoEscape", "internal/bytealg.MakeNoZero"], recurses := true, named := ["math/bits.divideError", "math/bits.overflowError"], apart := false }
def BarsTextsSaid : Prop := barsTextsRow.holds Try.pinned (OpenSpec.ofChange barsTextsSpec)

/-- ITS FALSE NEIGHBOUR: 'it returns false'. Refute it at one input. -/
def barsTextsWrong : ChangeSpec := { name := "barsTexts", fn := fun _ => fun
  | [d1, d2, d3] => { results := [.lit (.bool false)], args := [d1, d2, d3] }
  | _ => none }
def BarsTextsWrongFalsely : Prop := barsTextsRow.holds Try.pinned (OpenSpec.ofChange barsTextsWrong)

/- THE SECOND FORM. 'bulk': how many values and letters a reading holds, each counted each time it is reached (what is shared counts as often as it is met; a slice's spare places count too). A statement '..UptoSaid' is the law's where the arguments, and the package variables that the reading takes, are together of bulk at most 1048576: NARROWER than '..Said'. Prove '..Said' where nothing that the law and all that it calls make is longer than what came in: it says more and counts as full. Else prove '..UptoSaid'. A law counts once. -/
mutual
def uptoBulk {H : Type} : DataW H → Nat
  | .lit (.string bytes) => bytes.length + 1
  | .lit _ => 1
  | .nil => 1
  | .ptr d => uptoBulk d + 1
  | .slice elems spare => uptoBulkAll elems + uptoBulkAll spare + 1
  | .agg parts => uptoBulkAll parts + 1
  | .iface _ d => uptoBulk d + 1
  | .map entries => uptoBulkEntries entries + 1
  | .held _ => 1
def uptoBulkAll {H : Type} : List (DataW H) → Nat
  | [] => 0
  | d :: r => uptoBulk d + uptoBulkAll r
def uptoBulkEntries {H : Type} : List (Lit × DataW H) → Nat
  | [] => 0
  | x :: r => uptoBulkEntry x + uptoBulkEntries r
def uptoBulkEntry {H : Type} : Lit × DataW H → Nat
  | (.string bytes, d) => bytes.length + uptoBulk d + 1
  | (_, d) => uptoBulk d + 1
 end
def uptoSmall : (H : Type) → List (DataW H) → Bool := fun _ ds => decide (uptoBulkAll ds ≤ 1048576)
def OpenSpec.upto (s : _root_.Go.ChangeSpec) : _root_.Go.OpenSpec := { _root_.Go.OpenSpec.ofChange s with cond := some uptoSmall }

/-- 'hoistwaylaw52.ClockTexts', WHERE WHAT IT READS IS OF BULK AT MOST 1048576: true; the input reads as it did. -/
def clockTextsUptoRow : OpenClaim := { program := "ytnlieclfajebbaa", sum := "7b4c9f9b94d1f4367ebe6842d236b1fd1b82aae68a850c82b1c9eac2bb9a587f", func := "hoistway/hoistwaylaw52.ClockTexts", spec := "clockTexts", recurses := true, apart := false, narrowed := true }
def ClockTextsUptoSaid : Prop := clockTextsUptoRow.holds Try.pinned (OpenSpec.upto clockTextsSpec)

/-- 'hoistwaylaw08.FracBack', WHERE WHAT IT READS IS OF BULK AT MOST 1048576: true; the input reads as it did. -/
def fracBackUptoRow : OpenClaim := { program := "ytnlieclfajebbaa", sum := "7b4c9f9b94d1f4367ebe6842d236b1fd1b82aae68a850c82b1c9eac2bb9a587f", func := "hoistway/hoistwaylaw08.FracBack", spec := "fracBack", apart := false, narrowed := true }
def FracBackUptoSaid : Prop := fracBackUptoRow.holds Try.pinned (OpenSpec.upto fracBackSpec)

/-- 'hoistwaylaw71.GanttCounts', WHERE WHAT IT READS IS OF BULK AT MOST 1048576: true; the input reads as it did. -/
def ganttCountsUptoRow : OpenClaim := { program := "ytnlieclfajebbaa", sum := "7b4c9f9b94d1f4367ebe6842d236b1fd1b82aae68a850c82b1c9eac2bb9a587f", func := "hoistway/hoistwaylaw71.GanttCounts", spec := "ganttCounts", inPlace := ["internal/abi.NoEscape"], apart := false, narrowed := true }
def GanttCountsUptoSaid : Prop := ganttCountsUptoRow.holds Try.pinned (OpenSpec.upto ganttCountsSpec)

/-- 'hoistwaylaw02.DigitsReads', WHERE WHAT IT READS IS OF BULK AT MOST 1048576: true; the input reads as it did. -/
def digitsReadsUptoRow : OpenClaim := { program := "ytnlieclfajebbaa", sum := "7b4c9f9b94d1f4367ebe6842d236b1fd1b82aae68a850c82b1c9eac2bb9a587f", func := "hoistway/hoistwaylaw02.DigitsReads", spec := "digitsReads", apart := false, narrowed := true }
def DigitsReadsUptoSaid : Prop := digitsReadsUptoRow.holds Try.pinned (OpenSpec.upto digitsReadsSpec)

/-- 'hoistwaylaw02.DigitsTexts', WHERE WHAT IT READS IS OF BULK AT MOST 1048576: true; the input reads as it did. -/
def digitsTextsUptoRow : OpenClaim := { program := "ytnlieclfajebbaa", sum := "7b4c9f9b94d1f4367ebe6842d236b1fd1b82aae68a850c82b1c9eac2bb9a587f", func := "hoistway/hoistwaylaw02.DigitsTexts", spec := "digitsTexts", recurses := true, apart := false, narrowed := true }
def DigitsTextsUptoSaid : Prop := digitsTextsUptoRow.holds Try.pinned (OpenSpec.upto digitsTextsSpec)

/-- 'hoistwaylaw55.BarsLong', WHERE WHAT IT READS IS OF BULK AT MOST 1048576: true; the input reads as it did. -/
def barsLongUptoRow : OpenClaim := { program := "ytnlieclfajebbaa", sum := "7b4c9f9b94d1f4367ebe6842d236b1fd1b82aae68a850c82b1c9eac2bb9a587f", func := "hoistway/hoistwaylaw55.BarsLong", spec := "barsLong", named := ["math/bits.divideError", "math/bits.overflowError"], apart := false, narrowed := true }
def BarsLongUptoSaid : Prop := barsLongUptoRow.holds Try.pinned (OpenSpec.upto barsLongSpec)

/-- 'hoistwaylaw36.ChartDraws', WHERE WHAT IT READS IS OF BULK AT MOST 1048576: true; the input reads as it did. -/
def chartDrawsUptoRow : OpenClaim := { program := "ytnlieclfajebbaa", sum := "7b4c9f9b94d1f4367ebe6842d236b1fd1b82aae68a850c82b1c9eac2bb9a587f", func := "hoistway/hoistwaylaw36.ChartDraws", spec := "chartDraws", inPlace := ["internal/abi.NoEscape"], recurses := true, apart := false, narrowed := true }
def ChartDrawsUptoSaid : Prop := chartDrawsUptoRow.holds Try.pinned (OpenSpec.upto chartDrawsSpec)

/-- 'hoistwaylaw52.ClockReads', WHERE WHAT IT READS IS OF BULK AT MOST 1048576: true; the input reads as it did. -/
def clockReadsUptoRow : OpenClaim := { program := "ytnlieclfajebbaa", sum := "7b4c9f9b94d1f4367ebe6842d236b1fd1b82aae68a850c82b1c9eac2bb9a587f", func := "hoistway/hoistwaylaw52.ClockReads", spec := "clockReads", recurses := true, apart := false, narrowed := true }
def ClockReadsUptoSaid : Prop := clockReadsUptoRow.holds Try.pinned (OpenSpec.upto clockReadsSpec)

/-- 'hoistwaylaw52.ClockBack', WHERE WHAT IT READS IS OF BULK AT MOST 1048576: true; the input reads as it did. -/
def clockBackUptoRow : OpenClaim := { program := "ytnlieclfajebbaa", sum := "7b4c9f9b94d1f4367ebe6842d236b1fd1b82aae68a850c82b1c9eac2bb9a587f", func := "hoistway/hoistwaylaw52.ClockBack", spec := "clockBack", recurses := true, apart := false, narrowed := true }
def ClockBackUptoSaid : Prop := clockBackUptoRow.holds Try.pinned (OpenSpec.upto clockBackSpec)

/-- 'hoistwaylaw08.FracTexts', WHERE WHAT IT READS IS OF BULK AT MOST 1048576: true; the input reads as it did. -/
def fracTextsUptoRow : OpenClaim := { program := "ytnlieclfajebbaa", sum := "7b4c9f9b94d1f4367ebe6842d236b1fd1b82aae68a850c82b1c9eac2bb9a587f", func := "hoistway/hoistwaylaw08.FracTexts", spec := "fracTexts", recurses := true, named := ["math/bits.divideError", "math/bits.overflowError"], apart := false, narrowed := true }
def FracTextsUptoSaid : Prop := fracTextsUptoRow.holds Try.pinned (OpenSpec.upto fracTextsSpec)

/-- 'hoistwaylaw35.FigureWays', WHERE WHAT IT READS IS OF BULK AT MOST 1048576: true; the input reads as it did. -/
def figureWaysUptoRow : OpenClaim := { program := "ytnlieclfajebbaa", sum := "7b4c9f9b94d1f4367ebe6842d236b1fd1b82aae68a850c82b1c9eac2bb9a587f", func := "hoistway/hoistwaylaw35.FigureWays", spec := "figureWays", apart := false, narrowed := true }
def FigureWaysUptoSaid : Prop := figureWaysUptoRow.holds Try.pinned (OpenSpec.upto figureWaysSpec)

/-- 'hoistwaylaw55.BarsTexts', WHERE WHAT IT READS IS OF BULK AT MOST 1048576: true; the input reads as it did. -/
def barsTextsUptoRow : OpenClaim := { program := "ytnlieclfajebbaa", sum := "7b4c9f9b94d1f4367ebe6842d236b1fd1b82aae68a850c82b1c9eac2bb9a587f", func := "hoistway/hoistwaylaw55.BarsTexts", spec := "barsTexts", inPlace := ["internal/abi.NoEscape", "internal/bytealg.MakeNoZero"], recurses := true, named := ["math/bits.divideError", "math/bits.overflowError"], apart := false, narrowed := true }
def BarsTextsUptoSaid : Prop := barsTextsUptoRow.holds Try.pinned (OpenSpec.upto barsTextsSpec)

end Rows
end Go.Proofs.Ytnlieclfajebbaa
