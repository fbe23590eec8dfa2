/-
  DERIVED. GIVEN WITH THE SEED: THE CARDS: each row of YtfdcibofiibppaaGreatDoorRows.lean that lists a variable, with what it lists TIED to the program's text (the seventh form; the later family's looks); each row that meets fmt, with fmt's text TOLD by the authors' own Lean function (tested against real Go, not proved from fmt's source: count such statements apart). THE CARD IS WHAT COUNTS. Prove the row's statement (the work); the ties are given (YtfdcibofiibppaaGreatDoorTie.lean); close each card by the builder's one call (the guide's Derived/Test/ToyasCard.lean, 'card_holds'). Laid BY PROGRAM, IN A SANDBOX (cutbox-door.mjs). By AI agents, Wed Nov 11 2026. No macro, syntax, notation, axiom, sorry.
-/
import Derived.Test.YtfdcibofiibppaaGreatDoorRows
import GoSem.ClaimSeven
namespace Go.Proofs.YtfdcibofiibppaaGreatDoor
namespace Rows

/-- THE TIED CARD OF 'laws.FnExactFullText'. -/
def fnExactFullTextCard : Claim7 := { stood := { row := fnExactFullTextRow, standIns := [], harness := (true, "6590688ff009dfb47587b89caa252e7ba678d27157de1c43c810c5668e054754"), looks := true }, kinds := [], alts := [], laidByText := true, laidKinds := [.data, .data, .data, .data, .sentinel, .sentinel, .pinned], laidTests := true, laidLooks := .later }
def FnExactFullTextCardSaid : Prop := Claim7.holds Tryz.pinned (.plain (OpenSpec.ofChange fnExactFullTextSpec)) fnExactFullTextCard

/-- THE TIED CARD OF 'laws.FnExactExprText'. -/
def fnExactExprTextCard : Claim7 := { stood := { row := fnExactExprTextRow, standIns := [], harness := (true, "6590688ff009dfb47587b89caa252e7ba678d27157de1c43c810c5668e054754"), looks := true }, kinds := [], alts := [], laidByText := true, laidKinds := [.data, .data, .data, .data, .sentinel, .sentinel, .pinned], laidTests := true, laidLooks := .later }
def FnExactExprTextCardSaid : Prop := Claim7.holds Tryz.pinned (.plain (OpenSpec.ofChange fnExactExprTextSpec)) fnExactExprTextCard

/-- THE TIED CARD OF 'laws.FnExactStmtFull'. -/
def fnExactStmtFullCard : Claim7 := { stood := { row := fnExactStmtFullRow, standIns := [], harness := (true, "6590688ff009dfb47587b89caa252e7ba678d27157de1c43c810c5668e054754"), looks := true }, kinds := [], alts := [], laidByText := true, laidKinds := [.data, .data, .data, .data, .sentinel, .sentinel, .pinned], laidTests := true, laidLooks := .later }
def FnExactStmtFullCardSaid : Prop := Claim7.holds Tryz.pinned (.plain (OpenSpec.ofChange fnExactStmtFullSpec)) fnExactStmtFullCard

/-- THE TIED CARD OF 'laws.FnExactStmtText'. -/
def fnExactStmtTextCard : Claim7 := { stood := { row := fnExactStmtTextRow, standIns := [], harness := (true, "6590688ff009dfb47587b89caa252e7ba678d27157de1c43c810c5668e054754"), looks := true }, kinds := [], alts := [], laidByText := true, laidKinds := [.data, .data, .data, .data, .sentinel, .sentinel, .pinned], laidTests := true, laidLooks := .later }
def FnExactStmtTextCardSaid : Prop := Claim7.holds Tryz.pinned (.plain (OpenSpec.ofChange fnExactStmtTextSpec)) fnExactStmtTextCard

/-- THE SECOND FORM's CARD OF 'laws.FnExactFullText'. -/
def fnExactFullTextUptoCard : Claim7 := { stood := { row := fnExactFullTextUptoRow, standIns := [], harness := (true, "6590688ff009dfb47587b89caa252e7ba678d27157de1c43c810c5668e054754"), looks := true }, kinds := [], alts := [], laidByText := true, laidKinds := [.data, .data, .data, .data, .sentinel, .sentinel, .pinned], laidTests := true, laidLooks := .later }
def FnExactFullTextUptoCardSaid : Prop := Claim7.holds Tryz.pinned (.plain (OpenSpec.upto fnExactFullTextSpec)) fnExactFullTextUptoCard

/-- THE SECOND FORM's CARD OF 'laws.FnExactExprText'. -/
def fnExactExprTextUptoCard : Claim7 := { stood := { row := fnExactExprTextUptoRow, standIns := [], harness := (true, "6590688ff009dfb47587b89caa252e7ba678d27157de1c43c810c5668e054754"), looks := true }, kinds := [], alts := [], laidByText := true, laidKinds := [.data, .data, .data, .data, .sentinel, .sentinel, .pinned], laidTests := true, laidLooks := .later }
def FnExactExprTextUptoCardSaid : Prop := Claim7.holds Tryz.pinned (.plain (OpenSpec.upto fnExactExprTextSpec)) fnExactExprTextUptoCard

/-- THE SECOND FORM's CARD OF 'laws.FnExactStmtFull'. -/
def fnExactStmtFullUptoCard : Claim7 := { stood := { row := fnExactStmtFullUptoRow, standIns := [], harness := (true, "6590688ff009dfb47587b89caa252e7ba678d27157de1c43c810c5668e054754"), looks := true }, kinds := [], alts := [], laidByText := true, laidKinds := [.data, .data, .data, .data, .sentinel, .sentinel, .pinned], laidTests := true, laidLooks := .later }
def FnExactStmtFullUptoCardSaid : Prop := Claim7.holds Tryz.pinned (.plain (OpenSpec.upto fnExactStmtFullSpec)) fnExactStmtFullUptoCard

/-- THE SECOND FORM's CARD OF 'laws.FnExactStmtText'. -/
def fnExactStmtTextUptoCard : Claim7 := { stood := { row := fnExactStmtTextUptoRow, standIns := [], harness := (true, "6590688ff009dfb47587b89caa252e7ba678d27157de1c43c810c5668e054754"), looks := true }, kinds := [], alts := [], laidByText := true, laidKinds := [.data, .data, .data, .data, .sentinel, .sentinel, .pinned], laidTests := true, laidLooks := .later }
def FnExactStmtTextUptoCardSaid : Prop := Claim7.holds Tryz.pinned (.plain (OpenSpec.upto fnExactStmtTextSpec)) fnExactStmtTextUptoCard
end Rows
end Go.Proofs.YtfdcibofiibppaaGreatDoor
