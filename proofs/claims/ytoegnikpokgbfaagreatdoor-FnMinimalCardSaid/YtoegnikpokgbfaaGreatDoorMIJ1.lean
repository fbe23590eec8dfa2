/-
  The reference's printer.
  Conditions: none.
-/
import Derived.Test.YtoegnikpokgbfaaGreatDoorMIF2
set_option linter.unusedVariables false
set_option linter.unusedSimpArgs false
set_option linter.unusedSectionVars false
set_option linter.unnecessarySimpa false
set_option maxRecDepth 8000
namespace Go.Proofs.YtoegnikpokgbfaaGreatDoor
open Go Go.Dv
open Go.Vc (D cF cG cv aX)
theorem HJ (l:List Tok) (k:Int) (s:ByteArray) (a:Int):l.flatMap Tok.row++[int k,str s,int a]=(l++[Tok.mk k s a]).flatMap Tok.row:=by rw[List.flatMap_append];rfl
theorem yP (l:List Tok) (t:Tok):l.length+1=(l++[t]).length:=by simp
theorem GQ (l:List Tok) (t u:Tok):l.length+2=(l++[t,u]).length:=by simp
theorem iX {l m:List Tok} {x:C} (h:l=m):([[.ow 61 (l).length ((l).flatMap Tok.row) none,x]]:List (List C))=[[.ow 61 (m).length ((m).flatMap Tok.row) none,x]]:=by rw[h]
theorem CM {full:Bool} {g:Expr->List Tok} {kind op:Int} {kids:List Expr} {k:Nat} (hk:k<kids.length):aN full g kind op kids k=ng (DC full kind op kids k) (g kids[k]):=by rw[aN,List.getD_eq_getElem?_getD,aC hk];rfl
theorem Jo (q:Query):(q.row=[])=False:=eq_false fun h=>Query.ne q [] (by rw[h];rfl)
theorem GR {l:List Query} {q:Query} (h:l=[q]) (C:List D->Prop):(∃ds',l.flatMap Query.row=ds' /\ ¬ds'=[]/\C ds')=C q.row:=by
 subst h
 have e:[q].flatMap Query.row=q.row:=by simp
 rw[e]
 exact propext ⟨fun ⟨_,h1,_,h3⟩=>h1▸h3,fun h=>⟨_,rfl,fun h0=>(Jo q▸h0:False),h⟩⟩
theorem gL (full:Bool) (e:Expr) (hr:Rg e) (h:uj e=true):fmE e=true/\(dL full e).length<=1000000/\(∀t∈dL full e,t.text.size<=1048576)/\(qK (dL full e) (dL full e).length).length<=50000000:=by
 simp only[uj,Bool.and_eq_true,decide_eq_true_eq] at h
 have hs:=EY full e h.2.2 hr
 exact⟨h.2.2,Nat.le_trans hs.1 aa,fun t ht=>Nat.le_trans (hs.2 t ht) ae,B0 hs aa⟩
noncomputable def bN (e:Expr):List Tok:=if uj e=true then dL false e else []
end Go.Proofs.YtoegnikpokgbfaaGreatDoor
