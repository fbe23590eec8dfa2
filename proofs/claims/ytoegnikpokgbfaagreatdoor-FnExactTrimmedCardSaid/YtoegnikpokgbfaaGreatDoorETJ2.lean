/-
  The program's printer.
  Conditions: none.
-/
import Derived.Test.YtoegnikpokgbfaaGreatDoorETJ1
set_option linter.unusedVariables false
set_option linter.unusedSimpArgs false
set_option linter.unusedSectionVars false
set_option maxRecDepth 8000
namespace Go.Proofs.YtoegnikpokgbfaaGreatDoor
open Go Go.Dv
open Go.Vc (D shrI xorI andI)
theorem op2 : opT 2 = ⟨#[65, 78, 68]⟩ := rfl
end Go.Proofs.YtoegnikpokgbfaaGreatDoor
