/-
  No cell of these rows narrows 'for every input' (looked for: loops, veiled, ifaces, maps, wideKeys, modest, calm, conditions, laid).
  DERIVED. THE GIVEN ROWS OF THIS SEAT. 12 by the template 'for every input the law returns true; each argument reads behind the call as it read before'; 0 by the template 'total and deterministic' (their statements: YtfpmdldngnopjaaTotals.lean).
  GIVEN WITH THE SEED: the statements are not yours to turn. If you find one false, say at which input.
  Laid BY PROGRAM, IN A SANDBOX (cutbox-rows.mjs): the forced cells as the released guide's own fill.sh prints them over the translation 673b8efeba0533b4… (all of the seat's roots in one cut). By AI agents, Wed Nov 11 2026. No macro, syntax, notation, axiom, sorry.
-/
import Derived.Test.YtfpmdldngnopjaaChecked
import GoSem.Claim
import GoSem.ClaimJoined
import GoSem.ClaimMapViews
import Derived.JoinedTies
import Derived.KernelRfl
namespace Go.Proofs.Ytfpmdldngnopjaa
/- THE CELL 'sum', in the pinned program and in every row, IS THE sha256 OF THE DUMP (.gsa) THAT YtfpmdldngnopjaaProg.lean LOADS. Nothing in Lean hashes anything: it is a label: what it is worth is what the hold of that sum in a sandbox is worth. -/
noncomputable def Try.pinned : Pinned := { name := "ytfpmdldngnopjaa", sum := "673b8efeba0533b46a4555308b090cb9a787802178c38d3ff4159514ff30ee28", checked := Try.checked }
namespace Rows
def none {H : Type} : Left H := { results := [], args := [] }

/-- 'hoistwaylaw23.BoundTells': WHATEVER THE INPUT: true; the input reads as it did. -/
def boundTellsSpec : ChangeSpec := { name := "boundTells", fn := fun _ => fun
  | [d1, d2, d3] => { results := [.lit (.bool true)], args := [d1, d2, d3] }
  | _ => none }
def boundTellsRow : OpenClaim := { program := "ytfpmdldngnopjaa", sum := "673b8efeba0533b46a4555308b090cb9a787802178c38d3ff4159514ff30ee28", func := "hoistway/hoistwaylaw23.BoundTells", spec := "boundTells", apart := false }
def BoundTellsSaid : Prop := boundTellsRow.holds Try.pinned (OpenSpec.ofChange boundTellsSpec)

/-- ITS FALSE NEIGHBOUR: 'it returns false'. Refute it at one input. -/
def boundTellsWrong : ChangeSpec := { name := "boundTells", fn := fun _ => fun
  | [d1, d2, d3] => { results := [.lit (.bool false)], args := [d1, d2, d3] }
  | _ => none }
def BoundTellsWrongFalsely : Prop := boundTellsRow.holds Try.pinned (OpenSpec.ofChange boundTellsWrong)

/-- 'hoistwaylaw17.PlaceNext': WHATEVER THE INPUT: true; the input reads as it did. -/
def placeNextSpec : ChangeSpec := { name := "placeNext", fn := fun _ => fun
  | [d1, d2, d3] => { results := [.lit (.bool true)], args := [d1, d2, d3] }
  | _ => none }
def placeNextRow : OpenClaim := { program := "ytfpmdldngnopjaa", sum := "673b8efeba0533b46a4555308b090cb9a787802178c38d3ff4159514ff30ee28", func := "hoistway/hoistwaylaw17.PlaceNext", spec := "placeNext", apart := false }
def PlaceNextSaid : Prop := placeNextRow.holds Try.pinned (OpenSpec.ofChange placeNextSpec)

/-- ITS FALSE NEIGHBOUR: 'it returns false'. Refute it at one input. -/
def placeNextWrong : ChangeSpec := { name := "placeNext", fn := fun _ => fun
  | [d1, d2, d3] => { results := [.lit (.bool false)], args := [d1, d2, d3] }
  | _ => none }
def PlaceNextWrongFalsely : Prop := placeNextRow.holds Try.pinned (OpenSpec.ofChange placeNextWrong)

/-- 'hoistwaylaw17.PlaceFloors': WHATEVER THE INPUT: true; the input reads as it did. -/
def placeFloorsSpec : ChangeSpec := { name := "placeFloors", fn := fun _ => fun
  | [d1, d2, d3] => { results := [.lit (.bool true)], args := [d1, d2, d3] }
  | _ => none }
def placeFloorsRow : OpenClaim := { program := "ytfpmdldngnopjaa", sum := "673b8efeba0533b46a4555308b090cb9a787802178c38d3ff4159514ff30ee28", func := "hoistway/hoistwaylaw17.PlaceFloors", spec := "placeFloors", apart := false }
def PlaceFloorsSaid : Prop := placeFloorsRow.holds Try.pinned (OpenSpec.ofChange placeFloorsSpec)

/-- ITS FALSE NEIGHBOUR: 'it returns false'. Refute it at one input. -/
def placeFloorsWrong : ChangeSpec := { name := "placeFloors", fn := fun _ => fun
  | [d1, d2, d3] => { results := [.lit (.bool false)], args := [d1, d2, d3] }
  | _ => none }
def PlaceFloorsWrongFalsely : Prop := placeFloorsRow.holds Try.pinned (OpenSpec.ofChange placeFloorsWrong)

/-- 'hoistwaylaw24.TripCounts': WHATEVER THE INPUT: true; the input reads as it did. -/
def tripCountsSpec : ChangeSpec := { name := "tripCounts", fn := fun _ => fun
  | [d1, d2] => { results := [.lit (.bool true)], args := [d1, d2] }
  | _ => none }
def tripCountsRow : OpenClaim := { program := "ytfpmdldngnopjaa", sum := "673b8efeba0533b46a4555308b090cb9a787802178c38d3ff4159514ff30ee28", func := "hoistway/hoistwaylaw24.TripCounts", spec := "tripCounts", apart := false }
def TripCountsSaid : Prop := tripCountsRow.holds Try.pinned (OpenSpec.ofChange tripCountsSpec)

/-- ITS FALSE NEIGHBOUR: 'it returns false'. Refute it at one input. -/
def tripCountsWrong : ChangeSpec := { name := "tripCounts", fn := fun _ => fun
  | [d1, d2] => { results := [.lit (.bool false)], args := [d1, d2] }
  | _ => none }
def TripCountsWrongFalsely : Prop := tripCountsRow.holds Try.pinned (OpenSpec.ofChange tripCountsWrong)

/-- 'hoistwaylaw17.PlaceWays': WHATEVER THE INPUT: true; the input reads as it did. -/
def placeWaysSpec : ChangeSpec := { name := "placeWays", fn := fun _ => fun
  | [d1, d2, d3] => { results := [.lit (.bool true)], args := [d1, d2, d3] }
  | _ => none }
def placeWaysRow : OpenClaim := { program := "ytfpmdldngnopjaa", sum := "673b8efeba0533b46a4555308b090cb9a787802178c38d3ff4159514ff30ee28", func := "hoistway/hoistwaylaw17.PlaceWays", spec := "placeWays", apart := false }
def PlaceWaysSaid : Prop := placeWaysRow.holds Try.pinned (OpenSpec.ofChange placeWaysSpec)

/-- ITS FALSE NEIGHBOUR: 'it returns false'. Refute it at one input. -/
def placeWaysWrong : ChangeSpec := { name := "placeWays", fn := fun _ => fun
  | [d1, d2, d3] => { results := [.lit (.bool false)], args := [d1, d2, d3] }
  | _ => none }
def PlaceWaysWrongFalsely : Prop := placeWaysRow.holds Try.pinned (OpenSpec.ofChange placeWaysWrong)

/-- 'hoistwaylaw32.NearLeast': WHATEVER THE INPUT: true; the input reads as it did. -/
def nearLeastSpec : ChangeSpec := { name := "nearLeast", fn := fun _ => fun
  | [d] => { results := [.lit (.bool true)], args := [d] }
  | _ => none }
def nearLeastRow : OpenClaim := { program := "ytfpmdldngnopjaa", sum := "673b8efeba0533b46a4555308b090cb9a787802178c38d3ff4159514ff30ee28", func := "hoistway/hoistwaylaw32.NearLeast", spec := "nearLeast", apart := false }
def NearLeastSaid : Prop := nearLeastRow.holds Try.pinned (OpenSpec.ofChange nearLeastSpec)

/-- ITS FALSE NEIGHBOUR: 'it returns false'. Refute it at one input. -/
def nearLeastWrong : ChangeSpec := { name := "nearLeast", fn := fun _ => fun
  | [d] => { results := [.lit (.bool false)], args := [d] }
  | _ => none }
def NearLeastWrongFalsely : Prop := nearLeastRow.holds Try.pinned (OpenSpec.ofChange nearLeastWrong)

/-- 'hoistwaylaw32.NearTells': WHATEVER THE INPUT: true; the input reads as it did. -/
def nearTellsSpec : ChangeSpec := { name := "nearTells", fn := fun _ => fun
  | [d1, d2, d3] => { results := [.lit (.bool true)], args := [d1, d2, d3] }
  | _ => none }
def nearTellsRow : OpenClaim := { program := "ytfpmdldngnopjaa", sum := "673b8efeba0533b46a4555308b090cb9a787802178c38d3ff4159514ff30ee28", func := "hoistway/hoistwaylaw32.NearTells", spec := "nearTells", apart := false }
def NearTellsSaid : Prop := nearTellsRow.holds Try.pinned (OpenSpec.ofChange nearTellsSpec)

/-- ITS FALSE NEIGHBOUR: 'it returns false'. Refute it at one input. -/
def nearTellsWrong : ChangeSpec := { name := "nearTells", fn := fun _ => fun
  | [d1, d2, d3] => { results := [.lit (.bool false)], args := [d1, d2, d3] }
  | _ => none }
def NearTellsWrongFalsely : Prop := nearTellsRow.holds Try.pinned (OpenSpec.ofChange nearTellsWrong)

/-- 'hoistwaylaw38.DiffLogs': WHATEVER THE INPUT: true; the input reads as it did. -/
def diffLogsSpec : ChangeSpec := { name := "diffLogs", fn := fun _ => fun
  | [d1, d2] => { results := [.lit (.bool true)], args := [d1, d2] }
  | _ => none }
def diffLogsRow : OpenClaim := { program := "ytfpmdldngnopjaa", sum := "673b8efeba0533b46a4555308b090cb9a787802178c38d3ff4159514ff30ee28", func := "hoistway/hoistwaylaw38.DiffLogs", spec := "diffLogs", apart := false }
def DiffLogsSaid : Prop := diffLogsRow.holds Try.pinned (OpenSpec.ofChange diffLogsSpec)

/-- ITS FALSE NEIGHBOUR: 'it returns false'. Refute it at one input. -/
def diffLogsWrong : ChangeSpec := { name := "diffLogs", fn := fun _ => fun
  | [d1, d2] => { results := [.lit (.bool false)], args := [d1, d2] }
  | _ => none }
def DiffLogsWrongFalsely : Prop := diffLogsRow.holds Try.pinned (OpenSpec.ofChange diffLogsWrong)

/-- 'hoistwaylaw35.FigureTrips': WHATEVER THE INPUT: true; the input reads as it did. -/
def figureTripsSpec : ChangeSpec := { name := "figureTrips", fn := fun _ => fun
  | [d1, d2, d3] => { results := [.lit (.bool true)], args := [d1, d2, d3] }
  | _ => none }
def figureTripsRow : OpenClaim := { program := "ytfpmdldngnopjaa", sum := "673b8efeba0533b46a4555308b090cb9a787802178c38d3ff4159514ff30ee28", func := "hoistway/hoistwaylaw35.FigureTrips", spec := "figureTrips", apart := false }
def FigureTripsSaid : Prop := figureTripsRow.holds Try.pinned (OpenSpec.ofChange figureTripsSpec)

/-- ITS FALSE NEIGHBOUR: 'it returns false'. Refute it at one input. -/
def figureTripsWrong : ChangeSpec := { name := "figureTrips", fn := fun _ => fun
  | [d1, d2, d3] => { results := [.lit (.bool false)], args := [d1, d2, d3] }
  | _ => none }
def FigureTripsWrongFalsely : Prop := figureTripsRow.holds Try.pinned (OpenSpec.ofChange figureTripsWrong)

/-- 'hoistwaylaw38.DiffChanged': WHATEVER THE INPUT: true; the input reads as it did. -/
def diffChangedSpec : ChangeSpec := { name := "diffChanged", fn := fun _ => fun
  | [d1, d2] => { results := [.lit (.bool true)], args := [d1, d2] }
  | _ => none }
def diffChangedRow : OpenClaim := { program := "ytfpmdldngnopjaa", sum := "673b8efeba0533b46a4555308b090cb9a787802178c38d3ff4159514ff30ee28", func := "hoistway/hoistwaylaw38.DiffChanged", spec := "diffChanged", apart := false }
def DiffChangedSaid : Prop := diffChangedRow.holds Try.pinned (OpenSpec.ofChange diffChangedSpec)

/-- ITS FALSE NEIGHBOUR: 'it returns false'. Refute it at one input. -/
def diffChangedWrong : ChangeSpec := { name := "diffChanged", fn := fun _ => fun
  | [d1, d2] => { results := [.lit (.bool false)], args := [d1, d2] }
  | _ => none }
def DiffChangedWrongFalsely : Prop := diffChangedRow.holds Try.pinned (OpenSpec.ofChange diffChangedWrong)

/-- 'hoistwaylaw24.TripTimes': WHATEVER THE INPUT: true; the input reads as it did. -/
def tripTimesSpec : ChangeSpec := { name := "tripTimes", fn := fun _ => fun
  | [d1, d2] => { results := [.lit (.bool true)], args := [d1, d2] }
  | _ => none }
def tripTimesRow : OpenClaim := { program := "ytfpmdldngnopjaa", sum := "673b8efeba0533b46a4555308b090cb9a787802178c38d3ff4159514ff30ee28", func := "hoistway/hoistwaylaw24.TripTimes", spec := "tripTimes", apart := false }
def TripTimesSaid : Prop := tripTimesRow.holds Try.pinned (OpenSpec.ofChange tripTimesSpec)

/-- ITS FALSE NEIGHBOUR: 'it returns false'. Refute it at one input. -/
def tripTimesWrong : ChangeSpec := { name := "tripTimes", fn := fun _ => fun
  | [d1, d2] => { results := [.lit (.bool false)], args := [d1, d2] }
  | _ => none }
def TripTimesWrongFalsely : Prop := tripTimesRow.holds Try.pinned (OpenSpec.ofChange tripTimesWrong)

/-- 'hoistwaylaw38.DiffWays': WHATEVER THE INPUT: true; the input reads as it did. -/
def diffWaysSpec : ChangeSpec := { name := "diffWays", fn := fun _ => fun
  | [d1, d2, d3] => { results := [.lit (.bool true)], args := [d1, d2, d3] }
  | _ => none }
def diffWaysRow : OpenClaim := { program := "ytfpmdldngnopjaa", sum := "673b8efeba0533b46a4555308b090cb9a787802178c38d3ff4159514ff30ee28", func := "hoistway/hoistwaylaw38.DiffWays", spec := "diffWays", apart := false }
def DiffWaysSaid : Prop := diffWaysRow.holds Try.pinned (OpenSpec.ofChange diffWaysSpec)

/-- ITS FALSE NEIGHBOUR: 'it returns false'. Refute it at one input. -/
def diffWaysWrong : ChangeSpec := { name := "diffWays", fn := fun _ => fun
  | [d1, d2, d3] => { results := [.lit (.bool false)], args := [d1, d2, d3] }
  | _ => none }
def DiffWaysWrongFalsely : Prop := diffWaysRow.holds Try.pinned (OpenSpec.ofChange diffWaysWrong)

/- THE SECOND FORM. 'bulk': how many values and letters a reading holds, each counted each time it is reached (what is shared counts as often as it is met; a slice's spare places count too). A statement '..UptoSaid' is the law's where the arguments, and the package variables that the reading takes, are together of bulk at most 1048576: NARROWER than '..Said'. Prove '..Said' where nothing that the law and all that it calls make is longer than what came in: it says more and counts as full. Else prove '..UptoSaid'. A law counts once. -/
mutual
def uptoBulk {H : Type} : DataW H → Nat
  | .lit (.string bytes) => bytes.length + 1
  | .lit _ => 1
  | .nil => 1
  | .ptr d => uptoBulk d + 1
  | .slice elems spare => uptoBulkAll elems + uptoBulkAll spare + 1
  | .agg parts => uptoBulkAll parts + 1
  | .iface _ d => uptoBulk d + 1
  | .map entries => uptoBulkEntries entries + 1
  | .held _ => 1
def uptoBulkAll {H : Type} : List (DataW H) → Nat
  | [] => 0
  | d :: r => uptoBulk d + uptoBulkAll r
def uptoBulkEntries {H : Type} : List (Lit × DataW H) → Nat
  | [] => 0
  | x :: r => uptoBulkEntry x + uptoBulkEntries r
def uptoBulkEntry {H : Type} : Lit × DataW H → Nat
  | (.string bytes, d) => bytes.length + uptoBulk d + 1
  | (_, d) => uptoBulk d + 1
 end
def uptoSmall : (H : Type) → List (DataW H) → Bool := fun _ ds => decide (uptoBulkAll ds ≤ 1048576)
def OpenSpec.upto (s : _root_.Go.ChangeSpec) : _root_.Go.OpenSpec := { _root_.Go.OpenSpec.ofChange s with cond := some uptoSmall }

/-- 'hoistwaylaw23.BoundTells', WHERE WHAT IT READS IS OF BULK AT MOST 1048576: true; the input reads as it did. -/
def boundTellsUptoRow : OpenClaim := { program := "ytfpmdldngnopjaa", sum := "673b8efeba0533b46a4555308b090cb9a787802178c38d3ff4159514ff30ee28", func := "hoistway/hoistwaylaw23.BoundTells", spec := "boundTells", apart := false, narrowed := true }
def BoundTellsUptoSaid : Prop := boundTellsUptoRow.holds Try.pinned (OpenSpec.upto boundTellsSpec)

/-- 'hoistwaylaw17.PlaceNext', WHERE WHAT IT READS IS OF BULK AT MOST 1048576: true; the input reads as it did. -/
def placeNextUptoRow : OpenClaim := { program := "ytfpmdldngnopjaa", sum := "673b8efeba0533b46a4555308b090cb9a787802178c38d3ff4159514ff30ee28", func := "hoistway/hoistwaylaw17.PlaceNext", spec := "placeNext", apart := false, narrowed := true }
def PlaceNextUptoSaid : Prop := placeNextUptoRow.holds Try.pinned (OpenSpec.upto placeNextSpec)

/-- 'hoistwaylaw17.PlaceFloors', WHERE WHAT IT READS IS OF BULK AT MOST 1048576: true; the input reads as it did. -/
def placeFloorsUptoRow : OpenClaim := { program := "ytfpmdldngnopjaa", sum := "673b8efeba0533b46a4555308b090cb9a787802178c38d3ff4159514ff30ee28", func := "hoistway/hoistwaylaw17.PlaceFloors", spec := "placeFloors", apart := false, narrowed := true }
def PlaceFloorsUptoSaid : Prop := placeFloorsUptoRow.holds Try.pinned (OpenSpec.upto placeFloorsSpec)

/-- 'hoistwaylaw24.TripCounts', WHERE WHAT IT READS IS OF BULK AT MOST 1048576: true; the input reads as it did. -/
def tripCountsUptoRow : OpenClaim := { program := "ytfpmdldngnopjaa", sum := "673b8efeba0533b46a4555308b090cb9a787802178c38d3ff4159514ff30ee28", func := "hoistway/hoistwaylaw24.TripCounts", spec := "tripCounts", apart := false, narrowed := true }
def TripCountsUptoSaid : Prop := tripCountsUptoRow.holds Try.pinned (OpenSpec.upto tripCountsSpec)

/-- 'hoistwaylaw17.PlaceWays', WHERE WHAT IT READS IS OF BULK AT MOST 1048576: true; the input reads as it did. -/
def placeWaysUptoRow : OpenClaim := { program := "ytfpmdldngnopjaa", sum := "673b8efeba0533b46a4555308b090cb9a787802178c38d3ff4159514ff30ee28", func := "hoistway/hoistwaylaw17.PlaceWays", spec := "placeWays", apart := false, narrowed := true }
def PlaceWaysUptoSaid : Prop := placeWaysUptoRow.holds Try.pinned (OpenSpec.upto placeWaysSpec)

/-- 'hoistwaylaw32.NearLeast', WHERE WHAT IT READS IS OF BULK AT MOST 1048576: true; the input reads as it did. -/
def nearLeastUptoRow : OpenClaim := { program := "ytfpmdldngnopjaa", sum := "673b8efeba0533b46a4555308b090cb9a787802178c38d3ff4159514ff30ee28", func := "hoistway/hoistwaylaw32.NearLeast", spec := "nearLeast", apart := false, narrowed := true }
def NearLeastUptoSaid : Prop := nearLeastUptoRow.holds Try.pinned (OpenSpec.upto nearLeastSpec)

/-- 'hoistwaylaw32.NearTells', WHERE WHAT IT READS IS OF BULK AT MOST 1048576: true; the input reads as it did. -/
def nearTellsUptoRow : OpenClaim := { program := "ytfpmdldngnopjaa", sum := "673b8efeba0533b46a4555308b090cb9a787802178c38d3ff4159514ff30ee28", func := "hoistway/hoistwaylaw32.NearTells", spec := "nearTells", apart := false, narrowed := true }
def NearTellsUptoSaid : Prop := nearTellsUptoRow.holds Try.pinned (OpenSpec.upto nearTellsSpec)

/-- 'hoistwaylaw38.DiffLogs', WHERE WHAT IT READS IS OF BULK AT MOST 1048576: true; the input reads as it did. -/
def diffLogsUptoRow : OpenClaim := { program := "ytfpmdldngnopjaa", sum := "673b8efeba0533b46a4555308b090cb9a787802178c38d3ff4159514ff30ee28", func := "hoistway/hoistwaylaw38.DiffLogs", spec := "diffLogs", apart := false, narrowed := true }
def DiffLogsUptoSaid : Prop := diffLogsUptoRow.holds Try.pinned (OpenSpec.upto diffLogsSpec)

/-- 'hoistwaylaw35.FigureTrips', WHERE WHAT IT READS IS OF BULK AT MOST 1048576: true; the input reads as it did. -/
def figureTripsUptoRow : OpenClaim := { program := "ytfpmdldngnopjaa", sum := "673b8efeba0533b46a4555308b090cb9a787802178c38d3ff4159514ff30ee28", func := "hoistway/hoistwaylaw35.FigureTrips", spec := "figureTrips", apart := false, narrowed := true }
def FigureTripsUptoSaid : Prop := figureTripsUptoRow.holds Try.pinned (OpenSpec.upto figureTripsSpec)

/-- 'hoistwaylaw38.DiffChanged', WHERE WHAT IT READS IS OF BULK AT MOST 1048576: true; the input reads as it did. -/
def diffChangedUptoRow : OpenClaim := { program := "ytfpmdldngnopjaa", sum := "673b8efeba0533b46a4555308b090cb9a787802178c38d3ff4159514ff30ee28", func := "hoistway/hoistwaylaw38.DiffChanged", spec := "diffChanged", apart := false, narrowed := true }
def DiffChangedUptoSaid : Prop := diffChangedUptoRow.holds Try.pinned (OpenSpec.upto diffChangedSpec)

/-- 'hoistwaylaw24.TripTimes', WHERE WHAT IT READS IS OF BULK AT MOST 1048576: true; the input reads as it did. -/
def tripTimesUptoRow : OpenClaim := { program := "ytfpmdldngnopjaa", sum := "673b8efeba0533b46a4555308b090cb9a787802178c38d3ff4159514ff30ee28", func := "hoistway/hoistwaylaw24.TripTimes", spec := "tripTimes", apart := false, narrowed := true }
def TripTimesUptoSaid : Prop := tripTimesUptoRow.holds Try.pinned (OpenSpec.upto tripTimesSpec)

/-- 'hoistwaylaw38.DiffWays', WHERE WHAT IT READS IS OF BULK AT MOST 1048576: true; the input reads as it did. -/
def diffWaysUptoRow : OpenClaim := { program := "ytfpmdldngnopjaa", sum := "673b8efeba0533b46a4555308b090cb9a787802178c38d3ff4159514ff30ee28", func := "hoistway/hoistwaylaw38.DiffWays", spec := "diffWays", apart := false, narrowed := true }
def DiffWaysUptoSaid : Prop := diffWaysUptoRow.holds Try.pinned (OpenSpec.upto diffWaysSpec)

end Rows
end Go.Proofs.Ytfpmdldngnopjaa
