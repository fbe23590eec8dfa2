/-
  What is printed is balanced; operands that are wrapped.
  Conditions: none.
-/
import Derived.Test.YtoegnikpokgbfaaGreatDoorETP
import Derived.Test.YtoegnikpokgbfaaGreatDoorETF2
set_option linter.unusedVariables false
set_option linter.unusedSimpArgs false
set_option linter.unusedSectionVars false
