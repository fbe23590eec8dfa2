/-
  Tokens of trees.
  Conditions: none.
-/
import Derived.Test.YtabhiapifcanoaaGreatDoorEDF1
set_option linter.unusedVariables false
set_option linter.unusedSimpArgs false
set_option linter.unusedSectionVars false
set_option linter.unnecessarySimpa false
set_option maxRecDepth 8000
namespace Go.Proofs.YtabhiapifcanoaaGreatDoor
open Go Go.Dv
open Go.Vc (D shrI xorI andI)
theorem len1 (l : List Tok) (t : Tok) : l.length + 1 = (l ++ [t]).length := by simp
theorem len2 (l : List Tok) (t u : Tok) : l.length + 2 = (l ++ [t, u]).length := by simp
theorem agE {a b : Tok} (h : a = b) : (S.ag (csOf a.row) : S) = .ag (csOf b.row) := by rw [h]
theorem l10Key_d (k : Nat) (h1 : 1 ≤ k) (h2 : k ≤ 28) : Cl Tryz.prog 25 [vi k] [] fun r _ => r = .ag (csOf (kT k).row) := by
 refine cl_of_d follows_mixed false Tryz.func25 rfl (by kernel_rfl) ?_
 simp only [Tryz.f25, tt, seval]
 refine cZ (KeyText_d k h1 h2) (by decide) ?_ ?_ <;> simp only [tt, seval]
 exact ⟨_, _, rfl, end0 rfl⟩
theorem l10Sign_d (s : ByteArray) : Cl Tryz.prog 26 [vs s] [] fun r _ => r = .ag (csOf (gT s).row) := by
 refine cl_of_d follows_mixed false Tryz.func26 rfl (by kernel_rfl) ?_
 simp only [Tryz.f26, tt, seval]
 exact ⟨_, _, rfl, end0 rfl⟩
theorem l10Name_d (s : ByteArray) : Cl Tryz.prog 27 [vs s] [] fun r _ => r = .ag (csOf (nT s).row) := by
 refine cl_of_d follows_mixed false Tryz.func27 rfl (by kernel_rfl) ?_
 simp only [Tryz.f27, tt, seval]
 exact ⟨_, _, rfl, end0 rfl⟩
theorem l10Op_d (op : Int) : Cl Tryz.prog 93 [vi op] [] fun r _ => r = .ag (csOf (opTk op).row) := by
 refine cl_of_d follows_mixed false Tryz.func93 rfl (by kernel_rfl) ?_
 simp only [Tryz.f93, tt, seval]
 by_cases h1 : op = 1
 ·simp only [tt, seval, decide_eq_true h1]
  refine cZ (OpText_d op) (by decide) ?_ ?_ <;> simp only [tt, seval]
  exact ⟨_, _, agE (by rw [opTk, if_pos (.inl h1)]), end0 rfl⟩
 simp only [tt, seval, decide_eq_false h1]
 by_cases h2 : op = 2
 ·simp only [tt, seval, decide_eq_true h2]
  refine cZ (OpText_d op) (by decide) ?_ ?_ <;> simp only [tt, seval]
  exact ⟨_, _, agE (by rw [opTk, if_pos (.inr (.inl h2))]), end0 rfl⟩
 simp only [tt, seval, decide_eq_false h2]
 refine And.intro (fun h3 => ?_) (fun h3 => ?_)
 ·skip
  refine cZ (OpText_d op) (by decide) ?_ ?_ <;> simp only [tt, seval]
  exact ⟨_, _, agE (by rw [opTk, if_pos (.inr (.inr h3))]), end0 rfl⟩
 try simp only [tt, seval]
 refine cZ (OpText_d op) (by decide) ?_ ?_ <;> simp only [tt, seval]
 refine cZ (l10Sign_d (opT op)) (by decide) ?_ ?_ <;> simp only [tt, seval, gT, Tok.row]
 exact ⟨_, _, agE (by rw [opTk, if_neg (fun h => h.elim h1 fun h => h.elim h2 h3)]), end0 rfl⟩
theorem l10Lit_d (v : Val) (h0 : -9223372036854775808 ≤ v.num) (h1 : v.num ≤ 9223372036854775807) : Cl Tryz.prog 104 [.ag (csOf v.row)] [] fun r _ => r = .ag (csOf (litT v).row) := by
 rw [Val.row]
 refine cl_of_d follows_mixed false Tryz.func104 rfl (by kernel_rfl) ?_
 simp only [Tryz.f104, tt, seval]
 refine And.intro (fun k1 => ?_) (fun k1 => ?_)
 ·skip
  refine cZ (Digits_d v.num h0 h1) (by decide) ?_ ?_ <;> simp only [tt, seval]
  exact ⟨_, _, agE (by rw [litT, if_pos k1]), end0 rfl⟩
 try simp only [tt, seval]
 refine And.intro (fun k2 => ?_) (fun k2 => ?_)
 ·exact ⟨_, _, agE (by rw [litT, if_neg k1, if_pos k2]), end0 rfl⟩
 try simp only [tt, seval]
 refine And.intro (fun k3 => ?_) (fun k3 => ?_)
 ·refine And.intro (fun k4 => ?_) (fun k4 => ?_)
  ·skip
   refine cZ (l10Key_d 21 (by omega) (by omega)) (by decide) ?_ ?_ <;> simp only [tt, seval, kT, Tok.row]
   exact ⟨_, _, agE (by rw [litT, if_neg k1, if_neg k2, if_pos k3, if_pos k4]), end0 rfl⟩
  ·skip
   try simp only [tt, seval]
   refine cZ (l10Key_d 22 (by omega) (by omega)) (by decide) ?_ ?_ <;> simp only [tt, seval, kT, Tok.row]
   exact ⟨_, _, agE (by rw [litT, if_neg k1, if_neg k2, if_pos k3, if_neg k4]), end0 rfl⟩
 try simp only [tt, seval]
 refine cZ (l10Key_d 20 (by omega) (by omega)) (by decide) ?_ ?_ <;> simp only [tt, seval, kT, Tok.row]
 exact ⟨_, _, agE (by rw [litT, if_neg k1, if_neg k2, if_neg k3]), end0 rfl⟩
end Go.Proofs.YtabhiapifcanoaaGreatDoor
