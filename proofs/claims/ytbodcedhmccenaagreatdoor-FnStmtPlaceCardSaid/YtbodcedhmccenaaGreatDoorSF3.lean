/-
  Queries and statements in order.
  Conditions: none.
-/
import Derived.Test.YtbodcedhmccenaaGreatDoorSF1
set_option linter.unusedVariables false
set_option linter.unusedSimpArgs false
set_option linter.unusedSectionVars false
set_option maxRecDepth 8000
namespace Go.Proofs.YtbodcedhmccenaaGreatDoor
open Go Go.Dv
open Go.Vc (D d5 d6 cM bo)
def Stmt.query:Stmt->Query | .mk _ q _ _ _ _ _=>q
def cy:Stmt->List Expr | .mk _ q _ rows _ sets w=>exprsQ q++rows.flatMap ERow.l++sets++w
theorem BT (l:List ERow):(l.flatMap ERow.l).length+l.length<=jF l:=by
 rw[eU]
 induction l with
 |nil=>simp
 |cons x r ih=>
  rw[List.flatMap_cons,aB,List.length_cons,List.map_cons,List.sum_cons,l8,aC]
  omega
theorem Dd (l:List ERow) {x:Expr} (h:x∈l.flatMap ERow.l):szExpr x<=jF l:=by
 obtain⟨y,hy,hx⟩:=List.mem_flatMap.1 h
 have h1:=dX jE hy
 have h2:=dX szExpr hx
 rw[l8,aC] at h1
 rw[eU];omega
theorem wL {s:Stmt} {x:Expr} (h:x∈cy s):szExpr x<=pH s:=by
 obtain⟨kind,q,table,rows,cols,sets,where2⟩:=s
 rw[gL,aC,aC]
 simp only[cy,List.mem_append] at h
 rcases h with ((h|h)|h)|h
 ·have:=nL h;omega
 ·have:=Dd rows h;omega
 ·have:=dX szExpr h;omega
 ·have:=dX szExpr h;omega
def Fd:Query->Bool | .mk distinct items from_ where_ order limit=>decide (distinct=false)&&(decide (limit=0)&&(decide (items.length=0)&&(decide (from_.length=0)&&(decide (where_.length=0)&&decide (order.length=0)))))
noncomputable def ET (s:Stmt):Bool:=decide (bI ((cy s).map dpE)<=24)&&decide (((cy s).map ndE).sum<=200)
def Ev (x:ERow):Bool:=decide (1<=x.l.length/\x.l.length<=12)
def vt (f:Bool) (kind:Int) (rows:List ERow) (cols:List ByteArray) (sets where2:List Expr):Bool:=
 if kind=2 then decide (cols.length=0)&&(decide (sets.length=0)&&(decide (where2.length=0)&&(decide (1<=rows.length)&&(decide (rows.length<=5)&&rows.all Ev))))
 else if kind=3 then decide (rows.length=0)&&(decide (1<=cols.length)&&(decide (cols.length<=12)&&(decide (sets.length=cols.length)&&(decide (where2.length<=1)&&cols.all bt))))
 else if kind=4 then decide (rows.length=0)&&(decide (cols.length=0)&&(decide (sets.length=0)&&decide (where2.length<=1))) else false
noncomputable def Ew (s:Stmt):Bool:=match s with
 |.mk kind q table rows cols sets where2=>if kind=1 then decide (table=⟨#[]⟩)&&(decide (rows.length=0)&&(decide (cols.length=0)&&(decide (sets.length=0)&&(decide (where2.length=0)&&eO fmE q))))
  else Fd q&&(bt table&&((cy s).all fmE&&vt true kind rows cols sets where2))
noncomputable def tF (s:Stmt):Bool:=ET s&&Ew s
end Go.Proofs.YtbodcedhmccenaaGreatDoor
