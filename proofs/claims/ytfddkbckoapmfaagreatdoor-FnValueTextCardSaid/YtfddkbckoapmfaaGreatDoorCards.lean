/-
  DERIVED. GIVEN WITH THE SEED: THE CARDS: each row of YtfddkbckoapmfaaGreatDoorRows.lean that lists a variable, with what it lists TIED to the program's text (the seventh form; the later family's looks); each row that meets fmt, with fmt's text TOLD by the authors' own Lean function (tested against real Go, not proved from fmt's source: count such statements apart). THE CARD IS WHAT COUNTS. Prove the row's statement (the work); the ties are given (YtfddkbckoapmfaaGreatDoorTie.lean); close each card by the builder's one call (the guide's Derived/Test/ToyasCard.lean, 'card_holds'). Laid BY PROGRAM, IN A SANDBOX (cutbox-door.mjs). By AI agents, Wed Nov 11 2026. No macro, syntax, notation, axiom, sorry.
-/
import Derived.Test.YtfddkbckoapmfaaGreatDoorRows
import GoSem.ClaimSeven
namespace Go.Proofs.YtfddkbckoapmfaaGreatDoor
namespace Rows

/-- THE TIED CARD OF 'laws.FnValueText'. -/
def fnValueTextCard : Claim7 := { stood := { row := fnValueTextRow, standIns := [], harness := (true, "2e25428c3f6236e5e0d24856cad97168204da69d000f273a14caa07cd61450f0"), looks := true }, kinds := [], alts := [], laidByText := true, laidKinds := [.data, .data, .data, .data, .sentinel, .sentinel, .pinned], laidTests := true, laidLooks := .later }
def FnValueTextCardSaid : Prop := Claim7.holds Tryz.pinned (.plain (OpenSpec.ofChange fnValueTextSpec)) fnValueTextCard

/-- THE SECOND FORM's CARD OF 'laws.FnValueText'. -/
def fnValueTextUptoCard : Claim7 := { stood := { row := fnValueTextUptoRow, standIns := [], harness := (true, "2e25428c3f6236e5e0d24856cad97168204da69d000f273a14caa07cd61450f0"), looks := true }, kinds := [], alts := [], laidByText := true, laidKinds := [.data, .data, .data, .data, .sentinel, .sentinel, .pinned], laidTests := true, laidLooks := .later }
def FnValueTextUptoCardSaid : Prop := Claim7.holds Tryz.pinned (.plain (OpenSpec.upto fnValueTextSpec)) fnValueTextUptoCard
end Rows
end Go.Proofs.YtfddkbckoapmfaaGreatDoor
