/-
  DERIVED. GIVEN WITH THE SEED: THE CARDS: each row of YtijldlppojdehaaGreatDoorRows.lean that lists a variable, with what it lists TIED to the program's text (the seventh form; the later family's looks); each row that meets fmt, with fmt's text TOLD by the authors' own Lean function (tested against real Go, not proved from fmt's source: count such statements apart). THE CARD IS WHAT COUNTS. Prove the row's statement (the work); the ties are given (YtijldlppojdehaaGreatDoorTie.lean); close each card by the builder's one call (the guide's Derived/Test/ToyasCard.lean, 'card_holds'). Laid BY PROGRAM, IN A SANDBOX (cutbox-door.mjs). By AI agents, Wed Nov 11 2026. No macro, syntax, notation, axiom, sorry.
-/
import Derived.Test.YtijldlppojdehaaGreatDoorRows
import GoSem.ClaimSeven
namespace Go.Proofs.YtijldlppojdehaaGreatDoor
namespace Rows

/-- THE TIED CARD OF 'laws.FnExactDeskNew'. -/
def fnExactDeskNewCard : Claim7 := { stood := { row := fnExactDeskNewRow, standIns := [], harness := (true, "611aaf74a879254fa3a1379812155e018b819ed22a97eae299cbab41d76d90e0"), looks := true }, kinds := [], alts := [], laidByText := true, laidKinds := [.data, .data, .data, .data, .sentinel, .sentinel, .pinned], laidTests := true, laidLooks := .later }
def FnExactDeskNewCardSaid : Prop := Claim7.holds Tryz.pinned (.plain (OpenSpec.ofChange fnExactDeskNewSpec)) fnExactDeskNewCard

/-- THE TIED CARD OF 'laws.FnExactNeedless'. -/
def fnExactNeedlessCard : Claim7 := { stood := { row := fnExactNeedlessRow, standIns := [], harness := (true, "611aaf74a879254fa3a1379812155e018b819ed22a97eae299cbab41d76d90e0"), looks := true }, kinds := [], alts := [], laidByText := true, laidKinds := [.data, .data, .data, .data, .sentinel, .sentinel, .pinned], laidTests := true, laidLooks := .later }
def FnExactNeedlessCardSaid : Prop := Claim7.holds Tryz.pinned (.plain (OpenSpec.ofChange fnExactNeedlessSpec)) fnExactNeedlessCard

/-- THE TIED CARD OF 'laws.FnExactTrimmed'. -/
def fnExactTrimmedCard : Claim7 := { stood := { row := fnExactTrimmedRow, standIns := [], harness := (true, "611aaf74a879254fa3a1379812155e018b819ed22a97eae299cbab41d76d90e0"), looks := true }, kinds := [], alts := [], laidByText := true, laidKinds := [.data, .data, .data, .data, .sentinel, .sentinel, .pinned], laidTests := true, laidLooks := .later }
def FnExactTrimmedCardSaid : Prop := Claim7.holds Tryz.pinned (.plain (OpenSpec.ofChange fnExactTrimmedSpec)) fnExactTrimmedCard

/-- THE SECOND FORM's CARD OF 'laws.FnExactDeskNew'. -/
def fnExactDeskNewUptoCard : Claim7 := { stood := { row := fnExactDeskNewUptoRow, standIns := [], harness := (true, "611aaf74a879254fa3a1379812155e018b819ed22a97eae299cbab41d76d90e0"), looks := true }, kinds := [], alts := [], laidByText := true, laidKinds := [.data, .data, .data, .data, .sentinel, .sentinel, .pinned], laidTests := true, laidLooks := .later }
def FnExactDeskNewUptoCardSaid : Prop := Claim7.holds Tryz.pinned (.plain (OpenSpec.upto fnExactDeskNewSpec)) fnExactDeskNewUptoCard

/-- THE SECOND FORM's CARD OF 'laws.FnExactNeedless'. -/
def fnExactNeedlessUptoCard : Claim7 := { stood := { row := fnExactNeedlessUptoRow, standIns := [], harness := (true, "611aaf74a879254fa3a1379812155e018b819ed22a97eae299cbab41d76d90e0"), looks := true }, kinds := [], alts := [], laidByText := true, laidKinds := [.data, .data, .data, .data, .sentinel, .sentinel, .pinned], laidTests := true, laidLooks := .later }
def FnExactNeedlessUptoCardSaid : Prop := Claim7.holds Tryz.pinned (.plain (OpenSpec.upto fnExactNeedlessSpec)) fnExactNeedlessUptoCard

/-- THE SECOND FORM's CARD OF 'laws.FnExactTrimmed'. -/
def fnExactTrimmedUptoCard : Claim7 := { stood := { row := fnExactTrimmedUptoRow, standIns := [], harness := (true, "611aaf74a879254fa3a1379812155e018b819ed22a97eae299cbab41d76d90e0"), looks := true }, kinds := [], alts := [], laidByText := true, laidKinds := [.data, .data, .data, .data, .sentinel, .sentinel, .pinned], laidTests := true, laidLooks := .later }
def FnExactTrimmedUptoCardSaid : Prop := Claim7.holds Tryz.pinned (.plain (OpenSpec.upto fnExactTrimmedSpec)) fnExactTrimmedUptoCard
end Rows
end Go.Proofs.YtijldlppojdehaaGreatDoor
