/-
  DERIVED. GIVEN WITH THE SEED: THE CARDS: each row of YthhkmmcgjnecbaaGreatDoorRows.lean that lists a variable, with what it lists TIED to the program's text (the seventh form; the later family's looks); each row that meets fmt, with fmt's text TOLD by the authors' own Lean function (tested against real Go, not proved from fmt's source: count such statements apart). THE CARD IS WHAT COUNTS. Prove the row's statement (the work); the ties are given (YthhkmmcgjnecbaaGreatDoorTie.lean); close each card by the builder's one call (the guide's Derived/Test/ToyasCard.lean, 'card_holds'). Laid BY PROGRAM, IN A SANDBOX (cutbox-door.mjs). By AI agents, Wed Nov 11 2026. No macro, syntax, notation, axiom, sorry.
-/
import Derived.Test.YthhkmmcgjnecbaaGreatDoorRows
import GoSem.ClaimSeven
namespace Go.Proofs.YthhkmmcgjnecbaaGreatDoor
namespace Rows

/-- THE TIED CARD OF 'laws.FnExactQueryTokens'. -/
def fnExactQueryTokensCard : Claim7 := { stood := { row := fnExactQueryTokensRow, standIns := [], harness := (true, "ed92d938908f816fa5e90a3e27b1f11c9a36ce279de5d5aaad6f86ebf041fc55"), looks := false }, kinds := [], alts := [], laidByText := true, laidKinds := [.data, .data, .data, .data, .pinned], laidTests := true, laidLooks := .later }
def FnExactQueryTokensCardSaid : Prop := Claim7.holds Tryz.pinned (.plain (OpenSpec.ofChange fnExactQueryTokensSpec)) fnExactQueryTokensCard

/-- THE TIED CARD OF 'laws.FnExactStmtTokens'. -/
def fnExactStmtTokensCard : Claim7 := { stood := { row := fnExactStmtTokensRow, standIns := [], harness := (true, "ed92d938908f816fa5e90a3e27b1f11c9a36ce279de5d5aaad6f86ebf041fc55"), looks := false }, kinds := [], alts := [], laidByText := true, laidKinds := [.data, .data, .data, .data, .pinned], laidTests := true, laidLooks := .later }
def FnExactStmtTokensCardSaid : Prop := Claim7.holds Tryz.pinned (.plain (OpenSpec.ofChange fnExactStmtTokensSpec)) fnExactStmtTokensCard

/-- THE SECOND FORM's CARD OF 'laws.FnExactQueryTokens'. -/
def fnExactQueryTokensUptoCard : Claim7 := { stood := { row := fnExactQueryTokensUptoRow, standIns := [], harness := (true, "ed92d938908f816fa5e90a3e27b1f11c9a36ce279de5d5aaad6f86ebf041fc55"), looks := false }, kinds := [], alts := [], laidByText := true, laidKinds := [.data, .data, .data, .data, .pinned], laidTests := true, laidLooks := .later }
def FnExactQueryTokensUptoCardSaid : Prop := Claim7.holds Tryz.pinned (.plain (OpenSpec.upto fnExactQueryTokensSpec)) fnExactQueryTokensUptoCard

/-- THE SECOND FORM's CARD OF 'laws.FnExactStmtTokens'. -/
def fnExactStmtTokensUptoCard : Claim7 := { stood := { row := fnExactStmtTokensUptoRow, standIns := [], harness := (true, "ed92d938908f816fa5e90a3e27b1f11c9a36ce279de5d5aaad6f86ebf041fc55"), looks := false }, kinds := [], alts := [], laidByText := true, laidKinds := [.data, .data, .data, .data, .pinned], laidTests := true, laidLooks := .later }
def FnExactStmtTokensUptoCardSaid : Prop := Claim7.holds Tryz.pinned (.plain (OpenSpec.upto fnExactStmtTokensSpec)) fnExactStmtTokensUptoCard
end Rows
end Go.Proofs.YthhkmmcgjnecbaaGreatDoor
