/-
  Marks, and what holds them.
  Conditions: none.
-/
import Derived.Test.YteffjmaadkkmeaaGreatDoorRPB
set_option linter.unusedVariables false
set_option linter.unusedSimpArgs false
set_option linter.unusedSectionVars false
set_option maxRecDepth 8000
namespace Go.Proofs.YteffjmaadkkmeaaGreatDoor
open Go Go.Dv
open Go.Vc (D cY d3 cN bk)
open Go.Cv
open Go.Vc (CellF ValsF bf)
section
variable {α:Type} (f:Int->α->α) (c:α->Nat)
def dZ:List α->Nat
 | []=>0
 |e::es=>c e+dZ es
theorem pq:∀(es fs:List α),dZ c (es++fs)=dZ c es+dZ c fs
 | [],fs=>by simp [dZ]
 |e::es,fs=>by simp [dZ,pq es fs];omega
end
end Go.Proofs.YteffjmaadkkmeaaGreatDoor
set_option maxRecDepth 8000
namespace Go.Proofs.YteffjmaadkkmeaaGreatDoor
open Go Go.Dv
open Go.Vc (D cY d3 cN bk)
section
variable {L:List Tok}
def Wt {α:Type} (m:PM α) (w:α->Nat) (c:Nat):Prop:=∀s x s',m s=some (x,s')->w x+64*s.a<=c+64*s'.a
theorem d9 (s:PS):(adv s).a=s.a+1:=rfl
theorem Fy (s:PS):(fl s).a=s.a:=rfl
theorem dJ (c:Bool) (s:PS):s.a<=(must c s).a:=by unfold must;split<;>simp [adv,fl]
theorem tq (c:Bool) (s:PS):s.a<=(tkIf c s).a:=by unfold tkIf;split<;>simp [adv]
theorem CZ (k:Int) (s:PS):s.a<=(mText L k s).2.a:=by unfold mText;split<;>simp [adv,fl]
theorem Bu (s:PS):s.a<=(limitM L s).2.a:=by
 unfold limitM
 split
 ·have:=CZ (L:=L) 3 (adv s);rw[d9] at this;show s.a<=(mText L 3 (adv s)).2.a;omega
 ·exact Nat.le_refl _
variable {f:Nat->PM Expr} {q:PM Query}
end
end Go.Proofs.YteffjmaadkkmeaaGreatDoor
