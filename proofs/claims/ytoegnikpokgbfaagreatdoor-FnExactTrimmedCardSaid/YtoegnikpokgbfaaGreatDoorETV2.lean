/-
  Draws that write in place.
  Conditions: none.
-/
import Derived.Test.YtoegnikpokgbfaaGreatDoorETV1
set_option linter.unusedVariables false
set_option linter.unusedSimpArgs false
set_option linter.unusedSectionVars false
set_option maxRecDepth 8000
namespace Go.Proofs.YtoegnikpokgbfaaGreatDoor
open Go Go.Dv
open Go.Vc (D shrI xorI andI)
open Go.Vc (D shrI xorI andI okV CellF ValsF Cells)
open Go.Cv Go.Cx
section
def q0 : Query := .mk false [] [] [] [] 0
end
theorem cell_block {w : World} {b o : Nat} {v : Value} (h : w.cell? ⟨b, o, none⟩ = some v) : ∃ cs ty lh, w.heap[b]? = some (.cells cs ty lh) ∧ cs[o]? = some v := by
 unfold World.cell? at h
 cases hb : w.heap[b]? with
 | none => simp [hb] at h
 | some ob =>
  cases ob <;> simp [hb] at h
  exact ⟨_, _, _, rfl, by first | exact h | simpa using h⟩
end Go.Proofs.YtoegnikpokgbfaaGreatDoor
