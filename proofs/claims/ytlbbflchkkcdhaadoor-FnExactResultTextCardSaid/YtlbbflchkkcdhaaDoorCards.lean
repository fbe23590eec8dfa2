/-
  DERIVED. GIVEN WITH THE SEED: THE CARDS: each row of YtlbbflchkkcdhaaDoorRows.lean that lists a variable, with what it lists TIED to the program's text (the seventh form; the later family's looks); each row that meets fmt, with fmt's text TOLD by the authors' own Lean function (tested against real Go, not proved from fmt's source: count such statements apart). THE CARD IS WHAT COUNTS. Prove the row's statement (the work); the ties are given (YtlbbflchkkcdhaaDoorTie.lean); close each card by the builder's one call (the guide's Derived/Test/ToyasCard.lean, 'card_holds'). Laid BY PROGRAM, IN A SANDBOX (cutbox-door.mjs). By AI agents, Wed Nov 11 2026. No macro, syntax, notation, axiom, sorry.
-/
import Derived.Test.YtlbbflchkkcdhaaDoorRows
import GoSem.ClaimSeven
namespace Go.Proofs.YtlbbflchkkcdhaaDoor
namespace Rows

/-- THE TIED CARD OF 'laws.FnExactResultText'. -/
def fnExactResultTextCard : Claim7 := { stood := { row := fnExactResultTextRow, standIns := [], harness := (true, "6406e93a47b2e0bc9cd0c1875047389fb370a5d16e7f0593a12b6e7343452dd9"), looks := false }, kinds := [], alts := [], laidByText := true, laidKinds := [.data, .data, .data, .data, .pinned], laidTests := true, laidLooks := .later }
def FnExactResultTextCardSaid : Prop := Claim7.holds Tryd.pinned (.plain (OpenSpec.ofChange fnExactResultTextSpec)) fnExactResultTextCard

/-- THE SECOND FORM's CARD OF 'laws.FnExactResultText'. -/
def fnExactResultTextUptoCard : Claim7 := { stood := { row := fnExactResultTextUptoRow, standIns := [], harness := (true, "6406e93a47b2e0bc9cd0c1875047389fb370a5d16e7f0593a12b6e7343452dd9"), looks := false }, kinds := [], alts := [], laidByText := true, laidKinds := [.data, .data, .data, .data, .pinned], laidTests := true, laidLooks := .later }
def FnExactResultTextUptoCardSaid : Prop := Claim7.holds Tryd.pinned (.plain (OpenSpec.upto fnExactResultTextSpec)) fnExactResultTextUptoCard
end Rows
end Go.Proofs.YtlbbflchkkcdhaaDoor
