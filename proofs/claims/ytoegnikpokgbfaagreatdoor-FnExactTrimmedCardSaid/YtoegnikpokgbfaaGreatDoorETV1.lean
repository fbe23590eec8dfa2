/-
  Draws of expressions and queries.
  Conditions: none.
-/
import Derived.Test.YtoegnikpokgbfaaGreatDoorETY
import Derived.Test.YtoegnikpokgbfaaGreatDoorETF2
set_option linter.unusedVariables false
set_option linter.unusedSimpArgs false
set_option linter.unusedSectionVars false
