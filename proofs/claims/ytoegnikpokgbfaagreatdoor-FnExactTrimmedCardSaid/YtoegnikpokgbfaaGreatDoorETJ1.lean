/-
  The reference's printer.
  Conditions: none.
-/
import Derived.Test.YtoegnikpokgbfaaGreatDoorETF2
set_option linter.unusedVariables false
set_option linter.unusedSimpArgs false
set_option linter.unusedSectionVars false
set_option maxRecDepth 8000
namespace Go.Proofs.YtoegnikpokgbfaaGreatDoor
open Go Go.Dv
open Go.Vc (D shrI xorI andI)
theorem len1 (l : List Tok) (t : Tok) : l.length + 1 = (l ++ [t]).length := by simp
theorem len2 (l : List Tok) (t u : Tok) : l.length + 2 = (l ++ [t, u]).length := by simp
theorem agE {a b : Tok} (h : a = b) : (S.ag (csOf a.row) : S) = .ag (csOf b.row) := by rw [h]
theorem l10Sign_d (s : ByteArray) : Cl Tryz.prog 90 [vs s] [] fun r _ => r = .ag (csOf (gT s).row) := by
 refine cl_of_d follows_mixed false Tryz.func90 rfl (by kernel_rfl) ?_
 simp only [Tryz.f90, tt, seval]
 exact ⟨_, _, rfl, end0 rfl⟩
theorem l10Op_d (op : Int) : Cl Tryz.prog 92 [vi op] [] fun r _ => r = .ag (csOf (opTk op).row) := by
 refine cl_of_d follows_mixed false Tryz.func92 rfl (by kernel_rfl) ?_
 simp only [Tryz.f92, tt, seval]
 by_cases h1 : op = 1
 ·simp only [tt, seval, decide_eq_true h1]
  refine cZ (OpText_d op) (by decide) ?_ ?_ <;> simp only [tt, seval]
  exact ⟨_, _, agE (by rw [opTk, if_pos (.inl h1)]), end0 rfl⟩
 simp only [tt, seval, decide_eq_false h1]
 by_cases h2 : op = 2
 ·simp only [tt, seval, decide_eq_true h2]
  refine cZ (OpText_d op) (by decide) ?_ ?_ <;> simp only [tt, seval]
  exact ⟨_, _, agE (by rw [opTk, if_pos (.inr (.inl h2))]), end0 rfl⟩
 simp only [tt, seval, decide_eq_false h2]
 refine And.intro (fun h3 => ?_) (fun h3 => ?_)
 ·skip
  refine cZ (OpText_d op) (by decide) ?_ ?_ <;> simp only [tt, seval]
  exact ⟨_, _, agE (by rw [opTk, if_pos (.inr (.inr h3))]), end0 rfl⟩
 refine cZ (OpText_d op) (by decide) ?_ ?_ <;> simp only [tt, seval]
 refine cZ (l10Sign_d (opT op)) (by decide) ?_ ?_ <;> simp only [tt, seval, gT, Tok.row]
 exact ⟨_, _, agE (by rw [opTk, if_neg (fun h => h.elim h1 fun h => h.elim h2 h3)]), end0 rfl⟩
end Go.Proofs.YtoegnikpokgbfaaGreatDoor
