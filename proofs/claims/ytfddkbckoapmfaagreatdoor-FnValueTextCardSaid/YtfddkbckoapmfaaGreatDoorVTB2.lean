/-
  What is read ahead.
  Conditions: none.
-/
import Derived.Test.YtfddkbckoapmfaaGreatDoorVTB1
set_option linter.unusedVariables false
set_option linter.unusedSimpArgs false
set_option linter.unusedSectionVars false
set_option maxRecDepth 8000
namespace Go.Proofs.YtfddkbckoapmfaaGreatDoor
open Go Go.Dv
open Go.Vc (D shrI xorI andI and255)
section
variable {L1 L2 : List Tok} {k : Nat}
def Ag (k : Nat) (L1 L2 : List Tok) : Prop := ∀ i, i < k → L1[i]? = L2[i]?
def LcM {α : Type} (k : Nat) (m1 m2 : PM α) : Prop := ∀ s x s1 r, m1 s = some (x, s1) → s1.a < k → m2 s = some r → r = (x, s1)
variable (h : Ag k L1 L2)
include h
variable {f1 f2 : Nat → PM Expr} {q1 q2 : PM Query} (okf : ∀ lv, OkM (L := L1) (f1 lv)) (okq : OkM (L := L1) q1) (hf : ∀ lv, LcM k (f1 lv) (f2 lv)) (hq : LcM k q1 q2)
include okf hf
end
end Go.Proofs.YtfddkbckoapmfaaGreatDoor
