/-
  DERIVED. GIVEN WITH THE SEED: THE CARDS: each row of YtabhiapifcanoaaGreatDoorRows.lean that lists a variable, with what it lists TIED to the program's text (the seventh form; the later family's looks); each row that meets fmt, with fmt's text TOLD by the authors' own Lean function (tested against real Go, not proved from fmt's source: count such statements apart). THE CARD IS WHAT COUNTS. Prove the row's statement (the work); the ties are given (YtabhiapifcanoaaGreatDoorTie.lean); close each card by the builder's one call (the guide's Derived/Test/ToyasCard.lean, 'card_holds'). Laid BY PROGRAM, IN A SANDBOX (cutbox-door.mjs). By AI agents, Wed Nov 11 2026. No macro, syntax, notation, axiom, sorry.
-/
import Derived.Test.YtabhiapifcanoaaGreatDoorRows
import GoSem.ClaimSeven
namespace Go.Proofs.YtabhiapifcanoaaGreatDoor
namespace Rows

/-- THE TIED CARD OF 'laws.FnOneTree'. -/
def fnOneTreeCard : Claim7 := { stood := { row := fnOneTreeRow, standIns := [], harness := (true, "698c7446436c16dd73a842ae5bf6ca63a3502a142091f1a62cd8d28d869e7c4f"), looks := true }, kinds := [], alts := [], laidByText := true, laidKinds := [.data, .data, .data, .data, .sentinel, .sentinel, .pinned], laidTests := true, laidLooks := .later }
def FnOneTreeCardSaid : Prop := Claim7.holds Tryz.pinned (.plain (OpenSpec.ofChange fnOneTreeSpec)) fnOneTreeCard

/-- THE TIED CARD OF 'laws.FnExactDerives'. -/
def fnExactDerivesCard : Claim7 := { stood := { row := fnExactDerivesRow, standIns := [], harness := (true, "698c7446436c16dd73a842ae5bf6ca63a3502a142091f1a62cd8d28d869e7c4f"), looks := true }, kinds := [], alts := [], laidByText := true, laidKinds := [.data, .data, .data, .data, .sentinel, .sentinel, .pinned], laidTests := true, laidLooks := .later }
def FnExactDerivesCardSaid : Prop := Claim7.holds Tryz.pinned (.plain (OpenSpec.ofChange fnExactDerivesSpec)) fnExactDerivesCard

/-- THE TIED CARD OF 'laws.FnDerived'. -/
def fnDerivedCard : Claim7 := { stood := { row := fnDerivedRow, standIns := [], harness := (true, "698c7446436c16dd73a842ae5bf6ca63a3502a142091f1a62cd8d28d869e7c4f"), looks := true }, kinds := [], alts := [], laidByText := true, laidKinds := [.data, .data, .data, .data, .sentinel, .sentinel, .pinned], laidTests := true, laidLooks := .later }
def FnDerivedCardSaid : Prop := Claim7.holds Tryz.pinned (.plain (OpenSpec.ofChange fnDerivedSpec)) fnDerivedCard

/-- THE SECOND FORM's CARD OF 'laws.FnOneTree'. -/
def fnOneTreeUptoCard : Claim7 := { stood := { row := fnOneTreeUptoRow, standIns := [], harness := (true, "698c7446436c16dd73a842ae5bf6ca63a3502a142091f1a62cd8d28d869e7c4f"), looks := true }, kinds := [], alts := [], laidByText := true, laidKinds := [.data, .data, .data, .data, .sentinel, .sentinel, .pinned], laidTests := true, laidLooks := .later }
def FnOneTreeUptoCardSaid : Prop := Claim7.holds Tryz.pinned (.plain (OpenSpec.upto fnOneTreeSpec)) fnOneTreeUptoCard

/-- THE SECOND FORM's CARD OF 'laws.FnExactDerives'. -/
def fnExactDerivesUptoCard : Claim7 := { stood := { row := fnExactDerivesUptoRow, standIns := [], harness := (true, "698c7446436c16dd73a842ae5bf6ca63a3502a142091f1a62cd8d28d869e7c4f"), looks := true }, kinds := [], alts := [], laidByText := true, laidKinds := [.data, .data, .data, .data, .sentinel, .sentinel, .pinned], laidTests := true, laidLooks := .later }
def FnExactDerivesUptoCardSaid : Prop := Claim7.holds Tryz.pinned (.plain (OpenSpec.upto fnExactDerivesSpec)) fnExactDerivesUptoCard

/-- THE SECOND FORM's CARD OF 'laws.FnDerived'. -/
def fnDerivedUptoCard : Claim7 := { stood := { row := fnDerivedUptoRow, standIns := [], harness := (true, "698c7446436c16dd73a842ae5bf6ca63a3502a142091f1a62cd8d28d869e7c4f"), looks := true }, kinds := [], alts := [], laidByText := true, laidKinds := [.data, .data, .data, .data, .sentinel, .sentinel, .pinned], laidTests := true, laidLooks := .later }
def FnDerivedUptoCardSaid : Prop := Claim7.holds Tryz.pinned (.plain (OpenSpec.upto fnDerivedSpec)) fnDerivedUptoCard
end Rows
end Go.Proofs.YtabhiapifcanoaaGreatDoor
