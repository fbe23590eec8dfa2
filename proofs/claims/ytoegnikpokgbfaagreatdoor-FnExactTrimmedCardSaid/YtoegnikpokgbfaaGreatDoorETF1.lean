/-
  Trees in order, first half.
  Conditions: none.
-/
import Derived.Test.YtoegnikpokgbfaaGreatDoorETB1
set_option linter.unusedVariables false
set_option linter.unusedSimpArgs false
set_option linter.unusedSectionVars false
