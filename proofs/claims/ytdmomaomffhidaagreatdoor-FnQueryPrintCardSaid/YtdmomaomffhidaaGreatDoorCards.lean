/-
  DERIVED. GIVEN WITH THE SEED: THE CARDS: each row of YtdmomaomffhidaaGreatDoorRows.lean that lists a variable, with what it lists TIED to the program's text (the seventh form; the later family's looks); each row that meets fmt, with fmt's text TOLD by the authors' own Lean function (tested against real Go, not proved from fmt's source: count such statements apart). THE CARD IS WHAT COUNTS. Prove the row's statement (the work); the ties are given (YtdmomaomffhidaaGreatDoorTie.lean); close each card by the builder's one call (the guide's Derived/Test/ToyasCard.lean, 'card_holds'). Laid BY PROGRAM, IN A SANDBOX (cutbox-door.mjs). By AI agents, Wed Nov 11 2026. No macro, syntax, notation, axiom, sorry.
-/
import Derived.Test.YtdmomaomffhidaaGreatDoorRows
import GoSem.ClaimSeven
namespace Go.Proofs.YtdmomaomffhidaaGreatDoor
namespace Rows

/-- THE TIED CARD OF 'laws.FnQueryPrint'. -/
def fnQueryPrintCard : Claim7 := { stood := { row := fnQueryPrintRow, standIns := [], harness := (true, "eb94e160aafef1bbe4cba681530ddcf0793260068ee1dec24b658a4b04df300b"), looks := true }, kinds := [], alts := [], laidByText := true, laidKinds := [.data, .data, .data, .data, .sentinel, .sentinel, .pinned], laidTests := true, laidLooks := .later }
def FnQueryPrintCardSaid : Prop := Claim7.holds Tryz.pinned (.plain (OpenSpec.ofChange fnQueryPrintSpec)) fnQueryPrintCard

/-- THE TIED CARD OF 'laws.FnPrintParse'. -/
def fnPrintParseCard : Claim7 := { stood := { row := fnPrintParseRow, standIns := [], harness := (true, "eb94e160aafef1bbe4cba681530ddcf0793260068ee1dec24b658a4b04df300b"), looks := true }, kinds := [], alts := [], laidByText := true, laidKinds := [.data, .data, .data, .data, .sentinel, .sentinel, .pinned], laidTests := true, laidLooks := .later }
def FnPrintParseCardSaid : Prop := Claim7.holds Tryz.pinned (.plain (OpenSpec.ofChange fnPrintParseSpec)) fnPrintParseCard

/-- THE TIED CARD OF 'laws.FnFullParse'. -/
def fnFullParseCard : Claim7 := { stood := { row := fnFullParseRow, standIns := [], harness := (true, "eb94e160aafef1bbe4cba681530ddcf0793260068ee1dec24b658a4b04df300b"), looks := true }, kinds := [], alts := [], laidByText := true, laidKinds := [.data, .data, .data, .data, .sentinel, .sentinel, .pinned], laidTests := true, laidLooks := .later }
def FnFullParseCardSaid : Prop := Claim7.holds Tryz.pinned (.plain (OpenSpec.ofChange fnFullParseSpec)) fnFullParseCard

/-- THE TIED CARD OF 'laws.FnStmtPrint'. -/
def fnStmtPrintCard : Claim7 := { stood := { row := fnStmtPrintRow, standIns := [], harness := (true, "eb94e160aafef1bbe4cba681530ddcf0793260068ee1dec24b658a4b04df300b"), looks := true }, kinds := [], alts := [], laidByText := true, laidKinds := [.data, .data, .data, .data, .sentinel, .sentinel, .pinned], laidTests := true, laidLooks := .later }
def FnStmtPrintCardSaid : Prop := Claim7.holds Tryz.pinned (.plain (OpenSpec.ofChange fnStmtPrintSpec)) fnStmtPrintCard

/-- THE SECOND FORM's CARD OF 'laws.FnQueryPrint'. -/
def fnQueryPrintUptoCard : Claim7 := { stood := { row := fnQueryPrintUptoRow, standIns := [], harness := (true, "eb94e160aafef1bbe4cba681530ddcf0793260068ee1dec24b658a4b04df300b"), looks := true }, kinds := [], alts := [], laidByText := true, laidKinds := [.data, .data, .data, .data, .sentinel, .sentinel, .pinned], laidTests := true, laidLooks := .later }
def FnQueryPrintUptoCardSaid : Prop := Claim7.holds Tryz.pinned (.plain (OpenSpec.upto fnQueryPrintSpec)) fnQueryPrintUptoCard

/-- THE SECOND FORM's CARD OF 'laws.FnPrintParse'. -/
def fnPrintParseUptoCard : Claim7 := { stood := { row := fnPrintParseUptoRow, standIns := [], harness := (true, "eb94e160aafef1bbe4cba681530ddcf0793260068ee1dec24b658a4b04df300b"), looks := true }, kinds := [], alts := [], laidByText := true, laidKinds := [.data, .data, .data, .data, .sentinel, .sentinel, .pinned], laidTests := true, laidLooks := .later }
def FnPrintParseUptoCardSaid : Prop := Claim7.holds Tryz.pinned (.plain (OpenSpec.upto fnPrintParseSpec)) fnPrintParseUptoCard

/-- THE SECOND FORM's CARD OF 'laws.FnFullParse'. -/
def fnFullParseUptoCard : Claim7 := { stood := { row := fnFullParseUptoRow, standIns := [], harness := (true, "eb94e160aafef1bbe4cba681530ddcf0793260068ee1dec24b658a4b04df300b"), looks := true }, kinds := [], alts := [], laidByText := true, laidKinds := [.data, .data, .data, .data, .sentinel, .sentinel, .pinned], laidTests := true, laidLooks := .later }
def FnFullParseUptoCardSaid : Prop := Claim7.holds Tryz.pinned (.plain (OpenSpec.upto fnFullParseSpec)) fnFullParseUptoCard

/-- THE SECOND FORM's CARD OF 'laws.FnStmtPrint'. -/
def fnStmtPrintUptoCard : Claim7 := { stood := { row := fnStmtPrintUptoRow, standIns := [], harness := (true, "eb94e160aafef1bbe4cba681530ddcf0793260068ee1dec24b658a4b04df300b"), looks := true }, kinds := [], alts := [], laidByText := true, laidKinds := [.data, .data, .data, .data, .sentinel, .sentinel, .pinned], laidTests := true, laidLooks := .later }
def FnStmtPrintUptoCardSaid : Prop := Claim7.holds Tryz.pinned (.plain (OpenSpec.upto fnStmtPrintSpec)) fnStmtPrintUptoCard
end Rows
end Go.Proofs.YtdmomaomffhidaaGreatDoor
