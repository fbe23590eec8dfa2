/-
  What is read ahead.
  Conditions: none.
-/
import Derived.Test.YtbodcedhmccenaaGreatDoorPFB1
set_option linter.unusedVariables false
set_option linter.unusedSimpArgs false
set_option linter.unusedSectionVars false
set_option maxRecDepth 8000
namespace Go.Proofs.YtbodcedhmccenaaGreatDoor
open Go Go.Dv
open Go.Vc (D dg dh cX bk)
section
variable {L1 L2:List Tok} {k:Nat}
def Ag (k:Nat) (L1 L2:List Tok):Prop:=∀i,i<k->L1[i]?=L2[i]?
def JT {α:Type} (k:Nat) (m1 m2:PM α):Prop:=∀s x s1 r,m1 s=some (x,s1)->s1.a<k->m2 s=some r->r=(x,s1)
variable (h:Ag k L1 L2)
include h
variable {f1 f2:Nat->PM Expr} {q1 q2:PM Query} (okf:∀lv,OkM (L:=L1) (f1 lv)) (okq:OkM (L:=L1) q1) (hf:∀lv,JT k (f1 lv) (f2 lv)) (hq:JT k q1 q2)
include okf hf
omit h okf hf
theorem vD {L:List Tok} {s:PS} (hs:dK L s=true):iZ L s 2=true/\jp L s 1 5 ⟨#[46]⟩=true/\jp L s 2 5 ⟨#[42]⟩=true:=by
 unfold dK at hs
 simpa [Bool.and_eq_true] using hs
end
end Go.Proofs.YtbodcedhmccenaaGreatDoor
