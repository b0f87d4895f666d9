/-
  DERIVED. GIVEN WITH THE SEED: THE CARDS: each row of YtgfhgopfhcakhaaDoorRows.lean that lists a variable, with what it lists TIED to the program's text (the seventh form; the later family's looks); each row that meets fmt, with fmt's text TOLD by the authors' own Lean function (tested against real Go, not proved from fmt's source: count such statements apart). THE CARD IS WHAT COUNTS. Prove the row's statement (the work); the ties are given (YtgfhgopfhcakhaaDoorTie.lean); close each card by the builder's one call (the guide's Derived/Test/ToyasCard.lean, 'card_holds'). Laid BY PROGRAM, IN A SANDBOX (cutbox-door.mjs). By AI agents, Wed Nov 11 2026. No macro, syntax, notation, axiom, sorry.
-/
import Derived.Test.YtgfhgopfhcakhaaDoorRows
import GoSem.ClaimSeven
namespace Go.Proofs.YtgfhgopfhcakhaaDoor
namespace Rows

/-- THE TIED CARD OF 'hoistwaylaw53.CsvTexts'. -/
def csvTextsCard : Claim7 := { stood := { row := csvTextsRow, standIns := [], harness := (true, "342b3796802fadb7efc08183a5c4412a78f682346e098c35e4d856de860cbd73"), looks := false }, kinds := [], alts := [], laidByText := true, laidKinds := [.data, .pinned], laidTests := true, laidLooks := .later }
def CsvTextsCardSaid : Prop := Claim7.holds Tryd.pinned (.plain (OpenSpec.ofChange csvTextsSpec)) csvTextsCard

/-- THE TIED CARD OF 'hoistwaylaw53.CsvReads'. -/
def csvReadsCard : Claim7 := { stood := { row := csvReadsRow, standIns := [], harness := (true, "342b3796802fadb7efc08183a5c4412a78f682346e098c35e4d856de860cbd73"), looks := false }, kinds := [], alts := [], laidByText := true, laidKinds := [.data, .pinned], laidTests := true, laidLooks := .later }
def CsvReadsCardSaid : Prop := Claim7.holds Tryd.pinned (.plain (OpenSpec.ofChange csvReadsSpec)) csvReadsCard

/-- THE TIED CARD OF 'hoistwaylaw57.SheetTexts'. -/
def sheetTextsCard : Claim7 := { stood := { row := sheetTextsRow, standIns := [], harness := (true, "342b3796802fadb7efc08183a5c4412a78f682346e098c35e4d856de860cbd73"), looks := false }, kinds := [], alts := [], laidByText := true, laidKinds := [.data, .pinned], laidTests := true, laidLooks := .later }
def SheetTextsCardSaid : Prop := Claim7.holds Tryd.pinned (.plain (OpenSpec.ofChange sheetTextsSpec)) sheetTextsCard

/-- THE TIED CARD OF 'hoistwaylaw57.SheetReads'. -/
def sheetReadsCard : Claim7 := { stood := { row := sheetReadsRow, standIns := [], harness := (true, "342b3796802fadb7efc08183a5c4412a78f682346e098c35e4d856de860cbd73"), looks := false }, kinds := [], alts := [], laidByText := true, laidKinds := [.data, .pinned], laidTests := true, laidLooks := .later }
def SheetReadsCardSaid : Prop := Claim7.holds Tryd.pinned (.plain (OpenSpec.ofChange sheetReadsSpec)) sheetReadsCard

/-- THE SECOND FORM's CARD OF 'hoistwaylaw53.CsvTexts'. -/
def csvTextsUptoCard : Claim7 := { stood := { row := csvTextsUptoRow, standIns := [], harness := (true, "342b3796802fadb7efc08183a5c4412a78f682346e098c35e4d856de860cbd73"), looks := false }, kinds := [], alts := [], laidByText := true, laidKinds := [.data, .pinned], laidTests := true, laidLooks := .later }
def CsvTextsUptoCardSaid : Prop := Claim7.holds Tryd.pinned (.plain (OpenSpec.upto csvTextsSpec)) csvTextsUptoCard

/-- THE SECOND FORM's CARD OF 'hoistwaylaw53.CsvReads'. -/
def csvReadsUptoCard : Claim7 := { stood := { row := csvReadsUptoRow, standIns := [], harness := (true, "342b3796802fadb7efc08183a5c4412a78f682346e098c35e4d856de860cbd73"), looks := false }, kinds := [], alts := [], laidByText := true, laidKinds := [.data, .pinned], laidTests := true, laidLooks := .later }
def CsvReadsUptoCardSaid : Prop := Claim7.holds Tryd.pinned (.plain (OpenSpec.upto csvReadsSpec)) csvReadsUptoCard

/-- THE SECOND FORM's CARD OF 'hoistwaylaw57.SheetTexts'. -/
def sheetTextsUptoCard : Claim7 := { stood := { row := sheetTextsUptoRow, standIns := [], harness := (true, "342b3796802fadb7efc08183a5c4412a78f682346e098c35e4d856de860cbd73"), looks := false }, kinds := [], alts := [], laidByText := true, laidKinds := [.data, .pinned], laidTests := true, laidLooks := .later }
def SheetTextsUptoCardSaid : Prop := Claim7.holds Tryd.pinned (.plain (OpenSpec.upto sheetTextsSpec)) sheetTextsUptoCard

/-- THE SECOND FORM's CARD OF 'hoistwaylaw57.SheetReads'. -/
def sheetReadsUptoCard : Claim7 := { stood := { row := sheetReadsUptoRow, standIns := [], harness := (true, "342b3796802fadb7efc08183a5c4412a78f682346e098c35e4d856de860cbd73"), looks := false }, kinds := [], alts := [], laidByText := true, laidKinds := [.data, .pinned], laidTests := true, laidLooks := .later }
def SheetReadsUptoCardSaid : Prop := Claim7.holds Tryd.pinned (.plain (OpenSpec.upto sheetReadsSpec)) sheetReadsUptoCard
end Rows
end Go.Proofs.YtgfhgopfhcakhaaDoor
