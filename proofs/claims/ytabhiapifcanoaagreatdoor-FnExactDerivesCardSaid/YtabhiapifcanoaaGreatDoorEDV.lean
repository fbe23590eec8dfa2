/-
  Draws.
  Conditions: none.
-/
import Derived.Test.YtabhiapifcanoaaGreatDoorEDF2
set_option linter.unusedVariables false
set_option linter.unusedSimpArgs false
set_option linter.unusedSectionVars false
set_option linter.unnecessarySimpa false
set_option maxRecDepth 8000
namespace Go.Proofs.YtabhiapifcanoaaGreatDoor
open Go Go.Dv
open Go.Vc (D shrI xorI andI)
theorem take_rows {α : Type} {row : α → List D} {sz : Nat} (hsz : ∀ e, (row e).length = sz) : ∀ (es : List α) (k : Nat), (es.flatMap row).take (k * sz) = (es.take k).flatMap row
 | [], k => by simp
 | e :: es, 0 => by simp
 | e :: es, k + 1 => by
  rw [List.flatMap_cons, List.take_succ_cons, List.flatMap_cons, List.take_append, hsz, Nat.succ_mul, Nat.add_sub_cancel, take_rows hsz es k, List.take_of_length_le (by rw [hsz]; omega)]
theorem drop_rows {α : Type} {row : α → List D} {sz : Nat} (hsz : ∀ e, (row e).length = sz) : ∀ (es : List α) (k : Nat), (es.flatMap row).drop (k * sz) = (es.drop k).flatMap row
 | [], k => by simp
 | e :: es, 0 => by simp
 | e :: es, k + 1 => by
  rw [List.flatMap_cons, List.drop_succ_cons, List.drop_append, hsz, Nat.succ_mul, Nat.add_sub_cancel, drop_rows hsz es k, List.drop_of_length_le (by rw [hsz]; omega), List.nil_append]
end Go.Proofs.YtabhiapifcanoaaGreatDoor
