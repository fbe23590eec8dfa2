/-
  DERIVED. GIVEN WITH THE SEED: THE CARDS: each row of YtoegnikpokgbfaaGreatDoorRows.lean that lists a variable, with what it lists TIED to the program's text (the seventh form; the later family's looks); each row that meets fmt, with fmt's text TOLD by the authors' own Lean function (tested against real Go, not proved from fmt's source: count such statements apart). THE CARD IS WHAT COUNTS. Prove the row's statement (the work); the ties are given (YtoegnikpokgbfaaGreatDoorTie.lean); close each card by the builder's one call (the guide's Derived/Test/ToyasCard.lean, 'card_holds'). Laid BY PROGRAM, IN A SANDBOX (cutbox-door.mjs). By AI agents, Wed Nov 11 2026. No macro, syntax, notation, axiom, sorry.
-/
import Derived.Test.YtoegnikpokgbfaaGreatDoorRows
import GoSem.ClaimSeven
namespace Go.Proofs.YtoegnikpokgbfaaGreatDoor
namespace Rows

/-- THE TIED CARD OF 'laws.FnPairCount'. -/
def fnPairCountCard : Claim7 := { stood := { row := fnPairCountRow, standIns := [], harness := (true, "42e287ad64d5d40f3a131f1678192987e7d0fc0882149558d2739cfd91474f63"), looks := true }, kinds := [], alts := [], laidByText := true, laidKinds := [.data, .data, .data, .data, .pinned], laidTests := true, laidLooks := .later }
def FnPairCountCardSaid : Prop := Claim7.holds Tryz.pinned (.plain (OpenSpec.ofChange fnPairCountSpec)) fnPairCountCard

/-- THE TIED CARD OF 'laws.FnDerived'. -/
def fnDerivedCard : Claim7 := { stood := { row := fnDerivedRow, standIns := [], harness := (true, "42e287ad64d5d40f3a131f1678192987e7d0fc0882149558d2739cfd91474f63"), looks := true }, kinds := [], alts := [], laidByText := true, laidKinds := [.data, .data, .data, .data, .sentinel, .sentinel, .pinned], laidTests := true, laidLooks := .later }
def FnDerivedCardSaid : Prop := Claim7.holds Tryz.pinned (.plain (OpenSpec.ofChange fnDerivedSpec)) fnDerivedCard

/-- THE TIED CARD OF 'laws.FnExactNeedless'. -/
def fnExactNeedlessCard : Claim7 := { stood := { row := fnExactNeedlessRow, standIns := [], harness := (true, "42e287ad64d5d40f3a131f1678192987e7d0fc0882149558d2739cfd91474f63"), looks := true }, kinds := [], alts := [], laidByText := true, laidKinds := [.data, .data, .data, .data, .sentinel, .sentinel, .pinned], laidTests := true, laidLooks := .later }
def FnExactNeedlessCardSaid : Prop := Claim7.holds Tryz.pinned (.plain (OpenSpec.ofChange fnExactNeedlessSpec)) fnExactNeedlessCard

/-- THE TIED CARD OF 'laws.FnExactTrimmed'. -/
def fnExactTrimmedCard : Claim7 := { stood := { row := fnExactTrimmedRow, standIns := [], harness := (true, "42e287ad64d5d40f3a131f1678192987e7d0fc0882149558d2739cfd91474f63"), looks := true }, kinds := [], alts := [], laidByText := true, laidKinds := [.data, .data, .data, .data, .sentinel, .sentinel, .pinned], laidTests := true, laidLooks := .later }
def FnExactTrimmedCardSaid : Prop := Claim7.holds Tryz.pinned (.plain (OpenSpec.ofChange fnExactTrimmedSpec)) fnExactTrimmedCard

/-- THE TIED CARD OF 'laws.FnMinimal'. -/
def fnMinimalCard : Claim7 := { stood := { row := fnMinimalRow, standIns := [], harness := (true, "42e287ad64d5d40f3a131f1678192987e7d0fc0882149558d2739cfd91474f63"), looks := true }, kinds := [], alts := [], laidByText := true, laidKinds := [.data, .data, .data, .data, .sentinel, .sentinel, .pinned], laidTests := true, laidLooks := .later }
def FnMinimalCardSaid : Prop := Claim7.holds Tryz.pinned (.plain (OpenSpec.ofChange fnMinimalSpec)) fnMinimalCard

/-- THE SECOND FORM's CARD OF 'laws.FnPairCount'. -/
def fnPairCountUptoCard : Claim7 := { stood := { row := fnPairCountUptoRow, standIns := [], harness := (true, "42e287ad64d5d40f3a131f1678192987e7d0fc0882149558d2739cfd91474f63"), looks := true }, kinds := [], alts := [], laidByText := true, laidKinds := [.data, .data, .data, .data, .pinned], laidTests := true, laidLooks := .later }
def FnPairCountUptoCardSaid : Prop := Claim7.holds Tryz.pinned (.plain (OpenSpec.upto fnPairCountSpec)) fnPairCountUptoCard

/-- THE SECOND FORM's CARD OF 'laws.FnDerived'. -/
def fnDerivedUptoCard : Claim7 := { stood := { row := fnDerivedUptoRow, standIns := [], harness := (true, "42e287ad64d5d40f3a131f1678192987e7d0fc0882149558d2739cfd91474f63"), looks := true }, kinds := [], alts := [], laidByText := true, laidKinds := [.data, .data, .data, .data, .sentinel, .sentinel, .pinned], laidTests := true, laidLooks := .later }
def FnDerivedUptoCardSaid : Prop := Claim7.holds Tryz.pinned (.plain (OpenSpec.upto fnDerivedSpec)) fnDerivedUptoCard

/-- THE SECOND FORM's CARD OF 'laws.FnExactNeedless'. -/
def fnExactNeedlessUptoCard : Claim7 := { stood := { row := fnExactNeedlessUptoRow, standIns := [], harness := (true, "42e287ad64d5d40f3a131f1678192987e7d0fc0882149558d2739cfd91474f63"), looks := true }, kinds := [], alts := [], laidByText := true, laidKinds := [.data, .data, .data, .data, .sentinel, .sentinel, .pinned], laidTests := true, laidLooks := .later }
def FnExactNeedlessUptoCardSaid : Prop := Claim7.holds Tryz.pinned (.plain (OpenSpec.upto fnExactNeedlessSpec)) fnExactNeedlessUptoCard

/-- THE SECOND FORM's CARD OF 'laws.FnExactTrimmed'. -/
def fnExactTrimmedUptoCard : Claim7 := { stood := { row := fnExactTrimmedUptoRow, standIns := [], harness := (true, "42e287ad64d5d40f3a131f1678192987e7d0fc0882149558d2739cfd91474f63"), looks := true }, kinds := [], alts := [], laidByText := true, laidKinds := [.data, .data, .data, .data, .sentinel, .sentinel, .pinned], laidTests := true, laidLooks := .later }
def FnExactTrimmedUptoCardSaid : Prop := Claim7.holds Tryz.pinned (.plain (OpenSpec.upto fnExactTrimmedSpec)) fnExactTrimmedUptoCard

/-- THE SECOND FORM's CARD OF 'laws.FnMinimal'. -/
def fnMinimalUptoCard : Claim7 := { stood := { row := fnMinimalUptoRow, standIns := [], harness := (true, "42e287ad64d5d40f3a131f1678192987e7d0fc0882149558d2739cfd91474f63"), looks := true }, kinds := [], alts := [], laidByText := true, laidKinds := [.data, .data, .data, .data, .sentinel, .sentinel, .pinned], laidTests := true, laidLooks := .later }
def FnMinimalUptoCardSaid : Prop := Claim7.holds Tryz.pinned (.plain (OpenSpec.upto fnMinimalSpec)) fnMinimalUptoCard
end Rows
end Go.Proofs.YtoegnikpokgbfaaGreatDoor
