/-
  DERIVED. GIVEN WITH THE SEED: THE CARDS: each row of YteffjmaadkkmeaaGreatDoorRows.lean that lists a variable, with what it lists TIED to the program's text (the seventh form; the later family's looks); each row that meets fmt, with fmt's text TOLD by the authors' own Lean function (tested against real Go, not proved from fmt's source: count such statements apart). THE CARD IS WHAT COUNTS. Prove the row's statement (the work); the ties are given (YteffjmaadkkmeaaGreatDoorTie.lean); close each card by the builder's one call (the guide's Derived/Test/ToyasCard.lean, 'card_holds'). Laid BY PROGRAM, IN A SANDBOX (cutbox-door.mjs). By AI agents, Wed Nov 11 2026. No macro, syntax, notation, axiom, sorry.
-/
import Derived.Test.YteffjmaadkkmeaaGreatDoorRows
import GoSem.ClaimSeven
namespace Go.Proofs.YteffjmaadkkmeaaGreatDoor
namespace Rows

/-- THE TIED CARD OF 'laws.FnExactTakeExpr'. -/
def fnExactTakeExprCard : Claim7 := { stood := { row := fnExactTakeExprRow, standIns := [], harness := (true, "d117c1e6b76b058e49b910101838f26852bd41ec55806f975281d979b3de11dc"), looks := true }, kinds := [], alts := [], laidByText := true, laidKinds := [.data, .data, .data, .data, .sentinel, .sentinel, .pinned], laidTests := true, laidLooks := .later }
def FnExactTakeExprCardSaid : Prop := Claim7.holds Tryz.pinned (.plain (OpenSpec.ofChange fnExactTakeExprSpec)) fnExactTakeExprCard

/-- THE TIED CARD OF 'laws.FnExactTakeQuery'. -/
def fnExactTakeQueryCard : Claim7 := { stood := { row := fnExactTakeQueryRow, standIns := [], harness := (true, "d117c1e6b76b058e49b910101838f26852bd41ec55806f975281d979b3de11dc"), looks := true }, kinds := [], alts := [], laidByText := true, laidKinds := [.data, .data, .data, .data, .sentinel, .sentinel, .pinned], laidTests := true, laidLooks := .later }
def FnExactTakeQueryCardSaid : Prop := Claim7.holds Tryz.pinned (.plain (OpenSpec.ofChange fnExactTakeQuerySpec)) fnExactTakeQueryCard

/-- THE TIED CARD OF 'laws.FnExactTakeStmt'. -/
def fnExactTakeStmtCard : Claim7 := { stood := { row := fnExactTakeStmtRow, standIns := [], harness := (true, "d117c1e6b76b058e49b910101838f26852bd41ec55806f975281d979b3de11dc"), looks := true }, kinds := [], alts := [], laidByText := true, laidKinds := [.data, .data, .data, .data, .sentinel, .sentinel, .pinned], laidTests := true, laidLooks := .later }
def FnExactTakeStmtCardSaid : Prop := Claim7.holds Tryz.pinned (.plain (OpenSpec.ofChange fnExactTakeStmtSpec)) fnExactTakeStmtCard

/-- THE TIED CARD OF 'laws.FnExactParseExpr'. -/
def fnExactParseExprCard : Claim7 := { stood := { row := fnExactParseExprRow, standIns := [], harness := (true, "d117c1e6b76b058e49b910101838f26852bd41ec55806f975281d979b3de11dc"), looks := true }, kinds := [], alts := [], laidByText := true, laidKinds := [.data, .data, .data, .data, .sentinel, .sentinel, .pinned], laidTests := true, laidLooks := .later }
def FnExactParseExprCardSaid : Prop := Claim7.holds Tryz.pinned (.plain (OpenSpec.ofChange fnExactParseExprSpec)) fnExactParseExprCard

/-- THE TIED CARD OF 'laws.FnExactParseQuery'. -/
def fnExactParseQueryCard : Claim7 := { stood := { row := fnExactParseQueryRow, standIns := [], harness := (true, "d117c1e6b76b058e49b910101838f26852bd41ec55806f975281d979b3de11dc"), looks := true }, kinds := [], alts := [], laidByText := true, laidKinds := [.data, .data, .data, .data, .sentinel, .sentinel, .pinned], laidTests := true, laidLooks := .later }
def FnExactParseQueryCardSaid : Prop := Claim7.holds Tryz.pinned (.plain (OpenSpec.ofChange fnExactParseQuerySpec)) fnExactParseQueryCard

/-- THE TIED CARD OF 'laws.FnExactParseStmt'. -/
def fnExactParseStmtCard : Claim7 := { stood := { row := fnExactParseStmtRow, standIns := [], harness := (true, "d117c1e6b76b058e49b910101838f26852bd41ec55806f975281d979b3de11dc"), looks := true }, kinds := [], alts := [], laidByText := true, laidKinds := [.data, .data, .data, .data, .sentinel, .sentinel, .pinned], laidTests := true, laidLooks := .later }
def FnExactParseStmtCardSaid : Prop := Claim7.holds Tryz.pinned (.plain (OpenSpec.ofChange fnExactParseStmtSpec)) fnExactParseStmtCard

/-- THE TIED CARD OF 'laws.FnExactReprint'. -/
def fnExactReprintCard : Claim7 := { stood := { row := fnExactReprintRow, standIns := [], harness := (true, "d117c1e6b76b058e49b910101838f26852bd41ec55806f975281d979b3de11dc"), looks := true }, kinds := [], alts := [], laidByText := true, laidKinds := [.data, .data, .data, .data, .sentinel, .sentinel, .pinned], laidTests := true, laidLooks := .later }
def FnExactReprintCardSaid : Prop := Claim7.holds Tryz.pinned (.plain (OpenSpec.ofChange fnExactReprintSpec)) fnExactReprintCard

/-- THE SECOND FORM's CARD OF 'laws.FnExactTakeExpr'. -/
def fnExactTakeExprUptoCard : Claim7 := { stood := { row := fnExactTakeExprUptoRow, standIns := [], harness := (true, "d117c1e6b76b058e49b910101838f26852bd41ec55806f975281d979b3de11dc"), looks := true }, kinds := [], alts := [], laidByText := true, laidKinds := [.data, .data, .data, .data, .sentinel, .sentinel, .pinned], laidTests := true, laidLooks := .later }
def FnExactTakeExprUptoCardSaid : Prop := Claim7.holds Tryz.pinned (.plain (OpenSpec.upto fnExactTakeExprSpec)) fnExactTakeExprUptoCard

/-- THE SECOND FORM's CARD OF 'laws.FnExactTakeQuery'. -/
def fnExactTakeQueryUptoCard : Claim7 := { stood := { row := fnExactTakeQueryUptoRow, standIns := [], harness := (true, "d117c1e6b76b058e49b910101838f26852bd41ec55806f975281d979b3de11dc"), looks := true }, kinds := [], alts := [], laidByText := true, laidKinds := [.data, .data, .data, .data, .sentinel, .sentinel, .pinned], laidTests := true, laidLooks := .later }
def FnExactTakeQueryUptoCardSaid : Prop := Claim7.holds Tryz.pinned (.plain (OpenSpec.upto fnExactTakeQuerySpec)) fnExactTakeQueryUptoCard

/-- THE SECOND FORM's CARD OF 'laws.FnExactTakeStmt'. -/
def fnExactTakeStmtUptoCard : Claim7 := { stood := { row := fnExactTakeStmtUptoRow, standIns := [], harness := (true, "d117c1e6b76b058e49b910101838f26852bd41ec55806f975281d979b3de11dc"), looks := true }, kinds := [], alts := [], laidByText := true, laidKinds := [.data, .data, .data, .data, .sentinel, .sentinel, .pinned], laidTests := true, laidLooks := .later }
def FnExactTakeStmtUptoCardSaid : Prop := Claim7.holds Tryz.pinned (.plain (OpenSpec.upto fnExactTakeStmtSpec)) fnExactTakeStmtUptoCard

/-- THE SECOND FORM's CARD OF 'laws.FnExactParseExpr'. -/
def fnExactParseExprUptoCard : Claim7 := { stood := { row := fnExactParseExprUptoRow, standIns := [], harness := (true, "d117c1e6b76b058e49b910101838f26852bd41ec55806f975281d979b3de11dc"), looks := true }, kinds := [], alts := [], laidByText := true, laidKinds := [.data, .data, .data, .data, .sentinel, .sentinel, .pinned], laidTests := true, laidLooks := .later }
def FnExactParseExprUptoCardSaid : Prop := Claim7.holds Tryz.pinned (.plain (OpenSpec.upto fnExactParseExprSpec)) fnExactParseExprUptoCard

/-- THE SECOND FORM's CARD OF 'laws.FnExactParseQuery'. -/
def fnExactParseQueryUptoCard : Claim7 := { stood := { row := fnExactParseQueryUptoRow, standIns := [], harness := (true, "d117c1e6b76b058e49b910101838f26852bd41ec55806f975281d979b3de11dc"), looks := true }, kinds := [], alts := [], laidByText := true, laidKinds := [.data, .data, .data, .data, .sentinel, .sentinel, .pinned], laidTests := true, laidLooks := .later }
def FnExactParseQueryUptoCardSaid : Prop := Claim7.holds Tryz.pinned (.plain (OpenSpec.upto fnExactParseQuerySpec)) fnExactParseQueryUptoCard

/-- THE SECOND FORM's CARD OF 'laws.FnExactParseStmt'. -/
def fnExactParseStmtUptoCard : Claim7 := { stood := { row := fnExactParseStmtUptoRow, standIns := [], harness := (true, "d117c1e6b76b058e49b910101838f26852bd41ec55806f975281d979b3de11dc"), looks := true }, kinds := [], alts := [], laidByText := true, laidKinds := [.data, .data, .data, .data, .sentinel, .sentinel, .pinned], laidTests := true, laidLooks := .later }
def FnExactParseStmtUptoCardSaid : Prop := Claim7.holds Tryz.pinned (.plain (OpenSpec.upto fnExactParseStmtSpec)) fnExactParseStmtUptoCard

/-- THE SECOND FORM's CARD OF 'laws.FnExactReprint'. -/
def fnExactReprintUptoCard : Claim7 := { stood := { row := fnExactReprintUptoRow, standIns := [], harness := (true, "d117c1e6b76b058e49b910101838f26852bd41ec55806f975281d979b3de11dc"), looks := true }, kinds := [], alts := [], laidByText := true, laidKinds := [.data, .data, .data, .data, .sentinel, .sentinel, .pinned], laidTests := true, laidLooks := .later }
def FnExactReprintUptoCardSaid : Prop := Claim7.holds Tryz.pinned (.plain (OpenSpec.upto fnExactReprintSpec)) fnExactReprintUptoCard
end Rows
end Go.Proofs.YteffjmaadkkmeaaGreatDoor
