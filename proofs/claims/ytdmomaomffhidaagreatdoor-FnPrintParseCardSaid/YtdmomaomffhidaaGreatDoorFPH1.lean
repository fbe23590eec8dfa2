/-
  Parsing texts of expressions.
  Conditions: none.
-/
import Derived.Test.YtdmomaomffhidaaGreatDoorFPD2
import Derived.Test.YtdmomaomffhidaaGreatDoorFPE
import Derived.Test.YtdmomaomffhidaaGreatDoorFPG
set_option linter.unusedVariables false
set_option linter.unusedSimpArgs false
set_option linter.unusedSectionVars false
set_option linter.unnecessarySimpa false
set_option maxRecDepth 8000
namespace Go.Proofs.YtdmomaomffhidaaGreatDoor
open Go Go.Dv
open Go.Vc (D cU cV cF b0)
theorem DI {s:ByteArray} {L:List Tok} (h:lx s = .inl L):L.length<=2000/\∀t∈L,aM t=true:=by
 unfold lx at h
 split at h
 ·cases h
 ·obtain⟨rr,hrr⟩:=uj (B:=s.data.toList) (s.data.toList.length+1) 0 [] aa aa
  rw[hrr] at h
  have h:rr = .inl L:=h
  subst h
  have:=tl aa hrr (fun t ht=>by cases ht)
  rw[aF] at this
  simp only[List.length_nil] at this
  exact⟨aa,this.1⟩
def DJ (L:List Tok) (n:Nat) (i:Int):Int:=if i<L.length then (L.getD i.toNat ⟨0,z0,0⟩).at_ else n
def xL (L:List Tok) (n:Nat) (i:Int) (ok:Bool):Int×Int:=if 0<=i then (2,DJ L n i) else if ok=true then (0,0) else (3,0)
def uY {α:Type} (z:α) (take:List Tok->α×Int) (ok:α->Bool) (s:ByteArray):α×(Int×Int):=match lx s with
 |.inr p=>(z,(1,p))
 |.inl L=>(if 0<=(take L).2 then z else if ok (take L).1=true then (take L).1 else z,xL L s.size (take L).2 (ok (take L).1))
def nq (f:Int×Int):List C:=[.v (.int .i64 f.1),.v (.int .i64 f.2)]
noncomputable def eg:ByteArray->Expr×(Int×Int):=uY zExpr cX mA
end Go.Proofs.YtdmomaomffhidaaGreatDoor
set_option maxRecDepth 8000
namespace Go.Proofs.YtdmomaomffhidaaGreatDoor
open Go Go.Dv Go.Cv
open Go.Vc (D cU cV cF b0)
theorem DK {L:List Tok} {α:Type} (z x:α) (s:PS) (ha:s.a<=L.length):((ly L z (some (x,s))).2 = -1∨0<=(ly L z (some (x,s))).2)/\(ly L z (some (x,s))).2<=L.length:=by
 unfold ly
 simp only
 split
 ·rename_i h
  refine⟨.inr h,?_⟩
  show pZ L s<=_
  unfold pZ
  split<;>omega
 ·exact⟨.inl rfl,by show (-1:Int)<=_;omega⟩
theorem DL {L:List Tok}:((cX L).2 = -1∨0<=(cX L).2)/\(cX L).2<=L.length:=by
 obtain⟨x,s,h⟩:=nK (L:=L) 1 aa aa s0
 have ha:=(nL (L:=L) 1 _ _ _ h).2.1 (Nat.zero_le _)
 unfold cX
 rw[h];exact DK _ _ _ ha
set_option maxHeartbeats 2000000 in
theorem xk (L:List Tok) (hL:L.length<=1048576) (hT:∀t∈L,t.text.size<=1048576) (h40:∀t∈L,t.text.size<=40) (hL2:L.length<=2000):Cl Tryz.prog 52 [.c (.sl L.length (L.flatMap Tok.row) none),.c (.p 9000 0)] [[.v (.int .i64 0),.v (.int .i64 0),.v (.bool false),.v (.int .i64 0),.v (.int .i64 0),.v (.string ByteArray.empty),.v (.string ByteArray.empty),.v (.string ByteArray.empty),.v (.slice none 0 0),.v (.slice none 0 0)]] fun r os=>r = .tu [([.v (.int .i64 (cX L).2)],true),([.v (.bool (mA (cX L).1))],true)]/\∃Fk Fs,os=[av (cX L).1.row [Fk,Fs]]:=by
 have hsz:=DH h40 hL2
 have ct:=wU L hL hT
 generalize (cX L).2=i at *
 generalize (cX L).1=x at *
 have ck:=po x aa
 obtain⟨k1,p1,n1,v1,q1,m1,ks1,ss1⟩:=x
 simp only[me,ak,av] at ct ck ⊢
 refine ai ac true Tryz.func52 rfl ae ?_
 simp only[Tryz.f52,tt,seval]
 refine iQ (ct) ?_ ?_ ?_
 ·decide
 ·simp only[tt,seval]
 rintro r ⟨Fk,Fs,rfl⟩
 simp only[tt,seval]
 refine cZ (ck) ?_ ?_<;>simp only[tt,seval]
 refine⟨.tu [([.v (.int .i64 i)],true),([.v (.bool (mA (Expr.mk k1 p1 n1 v1 q1 m1 ks1 ss1)))],true)],[av (Expr.mk k1 p1 n1 v1 q1 m1 ks1 ss1).row [Fk,Fs]],⟨rfl,Fk,Fs,by first|rfl|simp only[ak,av]⟩,ap ?_⟩
 simp only[tt,seval,ak,av]
 first|done|exact mc
theorem uZ (s:ByteArray) (p:Nat) (hlx:lx s = .inr p):Cl Tryz.prog 45 [vs s,.c (.fn 52 [] [9000])] [[.v (.int .i64 0),.v (.int .i64 0),.v (.bool false),.v (.int .i64 0),.v (.int .i64 0),.v (.string ByteArray.empty),.v (.string ByteArray.empty),.v (.string ByteArray.empty),.v (.slice none 0 0),.v (.slice none 0 0)]] fun r os=>r = .ag (nq (1,(p:Int)))/\os=[[.v (.int .i64 0),.v (.int .i64 0),.v (.bool false),.v (.int .i64 0),.v (.int .i64 0),.v (.string ByteArray.empty),.v (.string ByteArray.empty),.v (.string ByteArray.empty),.v (.slice none 0 0),.v (.slice none 0 0)]]:=by
 have cl:=Dm s
 rw[hlx] at cl
 have h0:(0<=(p:Int))=True:=eq_true aa
 refine ai ac true Tryz.func45 rfl ae ?_
 simp only[Tryz.f45,tt,seval]
 refine cZ (cl) ?_ ?_<;>simp only[tt,seval,Dk]
 simp only[tt,seval,h0]
 refine⟨.ag (nq (1,(p:Int))),[[.v (.int .i64 0),.v (.int .i64 0),.v (.bool false),.v (.int .i64 0),.v (.int .i64 0),.v (.string ByteArray.empty),.v (.string ByteArray.empty),.v (.string ByteArray.empty),.v (.slice none 0 0),.v (.slice none 0 0)]],⟨rfl,rfl⟩,ap ?_⟩
 simp only[tt,seval,nq]
 first|done|exact Sb.refl _|exact IB
set_option maxHeartbeats 4000000 in
theorem v7 (s:ByteArray) (L:List Tok) (hlx:lx s = .inl L):Cl Tryz.prog 45 [vs s,.c (.fn 52 [] [9000])] [[.v (.int .i64 0),.v (.int .i64 0),.v (.bool false),.v (.int .i64 0),.v (.int .i64 0),.v (.string ByteArray.empty),.v (.string ByteArray.empty),.v (.string ByteArray.empty),.v (.slice none 0 0),.v (.slice none 0 0)]] fun r os=>r = .ag (nq (xL L s.size (cX L).2 (mA (cX L).1)))/\∃Fk Fs,os=[av (cX L).1.row [Fk,Fs]]:=by
 have cl:=Dm s
 have hs:=yD hlx
 obtain⟨hL2,hok⟩:=DI hlx
 have hL:L.length<=1048576:=by omega
 have h40:∀t∈L,t.text.size<=40:=fun t ht=>J2 (hok t ht)
 have hT:∀t∈L,t.text.size<=1048576:=fun t ht=>Nat.le_trans (h40 t ht) aa
 have ct:=xk L hL hT h40 hL2
 have hb:((cX L).2 = -1∨0<=(cX L).2)/\(cX L).2<=L.length:=DL
 rw[hlx] at cl
 generalize (cX L).2=i at *
 generalize (cX L).1=x at *
 obtain⟨k1,p1,n1,v1,q1,m1,ks1,ss1⟩:=x
 simp only[me,ak,av] at ct ⊢
 refine ai ac true Tryz.func45 rfl ae ?_
 simp only[Tryz.f45,tt,seval]
 refine cZ (cl) ?_ ?_<;>simp only[tt,seval,Dk]
 refine CallQ.intro (ct) ?_ ?_ ?_
 ·decide
 ·simp only[tt,seval]
 rintro r os ⟨rfl,Fk,Fs,rfl⟩ hos
 simp only[tt,seval]
 refine fun _=>?_
 by_cases hi:i=L.length
 ·have h0:(i=(L.length:Int))=True:=eq_true hi
  have ef:xL L s.size i (mA (Expr.mk k1 p1 n1 v1 q1 m1 ks1 ss1))=(2,(s.size:Int)):=by
   unfold xL DJ
   rw[if_pos aa,if_neg aa]
  rw[ef]
  simp only[tt,seval,h0]
  refine fun _=>?_
  refine⟨.ag (nq (2,(s.size:Int))),[av (Expr.mk k1 p1 n1 v1 q1 m1 ks1 ss1).row [Fk,Fs]],⟨rfl,Fk,Fs,by first|rfl|simp only[ak,av]⟩,ap ?_⟩
  simp only[tt,seval,nq,ak,av]
  first|done|exact mc
 ·have h0:(i=(L.length:Int))=False:=eq_false hi
  simp only[tt,seval,h0]
  by_cases h1:0<=i
  ·have h1':(0<=i)=True:=eq_true h1
   obtain⟨j,rfl⟩:∃j:Nat,i=j:=⟨i.toNat,aa⟩
   have hl:j<L.length:=by omega
   have hx:L[j]?=some L[j]:=aA hl
   have ef:xL L s.size (j:Int) (mA (Expr.mk k1 p1 n1 v1 q1 m1 ks1 ss1))=(2,(L[j]).at_):=by
    unfold xL DJ
    rw[if_pos h1,if_pos aa,Int.toNat_natCast,List.getD_eq_getElem?_getD,hx];rfl
   have i0:((0:Int)<=(j:Int))=True:=eq_true aa
   have iL:((j:Int)<(L.length:Int))=True:=eq_true aa
   have iT:(j<L.length)=True:=eq_true hl
   rw[ef]
   generalize L[j]=tk at *
   simp only[tt,seval,h1',cW hx oS,iL,Tok.row]
   refine⟨.ag (nq (2,tk.at_)),[av (Expr.mk k1 p1 n1 v1 q1 m1 ks1 ss1).row [Fk,Fs]],⟨rfl,Fk,Fs,by first|rfl|simp only[ak,av]⟩,ap ?_⟩
   simp only[tt,seval,nq,ak,av]
   first|done|exact mc
  ·have h1':(0<=i)=False:=eq_false h1
   simp only[tt,seval,h1']
   cases ho:mA (Expr.mk k1 p1 n1 v1 q1 m1 ks1 ss1) with
   |true=>
    have ef:xL L s.size i true=(0,0):=by unfold xL;rw[if_neg h1,if_pos rfl]
    rw[ef]
    simp only[tt,seval]
    refine⟨.ag (nq (0,0)),[av (Expr.mk k1 p1 n1 v1 q1 m1 ks1 ss1).row [Fk,Fs]],⟨rfl,Fk,Fs,by first|rfl|simp only[ak,av]⟩,ap ?_⟩
    simp only[tt,seval,nq,ak,av]
    first|done|exact mc
   |false=>
    have ef:xL L s.size i false=(3,0):=by unfold xL;rw[if_neg h1,if_neg (by simp)]
    rw[ef]
    simp only[tt,seval]
    refine⟨.ag (nq (3,0)),[av (Expr.mk k1 p1 n1 v1 q1 m1 ks1 ss1).row [Fk,Fs]],⟨rfl,Fk,Fs,by first|rfl|simp only[ak,av]⟩,ap ?_⟩
    simp only[tt,seval,nq,ak,av]
    first|done|exact mc
set_option maxHeartbeats 4000000 in
theorem ol (s:ByteArray):Cl Tryz.prog 19 [vs s] [] fun r _=>∃Fk Fs,r = .tu [(av (eg s).1.row [Fk,Fs],false),(nq (eg s).2,false)]:=by
 cases hlx:lx s with
 |inr p=>
  have e:eg s=(zExpr,(1,(p:Int))):=by unfold eg uY;rw[hlx]
  have cp:=uZ s p hlx
  rw[e]
  refine ai ac true Tryz.func19 rfl ae ?_
  simp only[Tryz.f19,tt,seval]
  refine cS (cp) ?_ ?_<;>simp only[tt,seval,nq]
  refine dDrawn.intro [] (.take 0 (.br 1 (.br 2 (.br 3 .done .nobr) .nobr) (.br 2 (.take 1 (.br 3 .done .nobr)) .nobr))) ae ?_
  simp only[tt,seval]
  all_goals
   repeat' with_reducible refine ab ?_ ?_
   all_goals
    refine⟨.tu [(av (zExpr).row [[],[]],false),(nq (1,(p:Int)),false)],[],⟨[],[],by first|rfl|simp only[nq,Stmt.row_mk,bj,Cd,uk,ERow.row_mk,srow,rW,av,Val.row,lc]⟩,ap ?_⟩
    simp only[tt,seval,nq,me,zExpr,zVal,z0,ak,av]
    first|done|exact Sb.refl _|exact IB
 |inl L=>
  have e:eg s=(if 0<=(cX L).2 then zExpr else if mA (cX L).1=true then (cX L).1 else zExpr,xL L s.size (cX L).2 (mA (cX L).1)):=by unfold eg uY;rw[hlx]
  have cp:=v7 s L hlx
  rw[e]
  generalize (cX L).2=i at *
  generalize (cX L).1=x at *
  obtain⟨k1,p1,n1,v1,q1,m1,ks1,ss1⟩:=x
  simp only[ak,av] at cp
  by_cases hi:0<=i
  ·have ef:xL L s.size i (mA (Expr.mk k1 p1 n1 v1 q1 m1 ks1 ss1))=(2,DJ L s.size i):=if_pos hi
   rw[if_pos hi,ef]
   rw[ef] at cp
   refine ai ac true Tryz.func19 rfl ae ?_
   simp only[Tryz.f19,tt,seval]
   refine CallQ.intro (cp) ?_ ?_ ?_
   ·decide
   ·simp only[tt,seval]
   rintro r os ⟨rfl,Fk,Fs,rfl⟩ hos
   simp only[tt,seval,nq]
   refine dDrawn.intro [] (.take 0 (.br 1 (.br 2 (.br 3 .done .nobr) .nobr) (.br 2 (.take 1 (.br 3 .done .nobr)) .nobr))) ae ?_
   simp only[tt,seval]
   all_goals
    repeat' with_reducible refine ab ?_ ?_
    all_goals
     refine⟨.tu [(av (zExpr).row [[],[]],false),(nq (2,DJ L s.size i),false)],[],⟨[],[],by first|rfl|simp only[nq,Stmt.row_mk,bj,Cd,uk,ERow.row_mk,srow,rW,av,Val.row,lc]⟩,ap ?_⟩
     simp only[tt,seval,nq,me,zExpr,zVal,z0,ak,av]
     first|done|exact Sb.refl _|exact Jq
  ·rw[if_neg hi]
   cases ho:mA (Expr.mk k1 p1 n1 v1 q1 m1 ks1 ss1) with
   |true=>
    have ef:xL L s.size i true=(0,0):=by unfold xL;rw[if_neg hi,if_pos rfl]
    rw[if_pos rfl,ef]
    rw[ho] at cp
    rw[ef] at cp
    refine ai ac true Tryz.func19 rfl ae ?_
    simp only[Tryz.f19,tt,seval]
    refine CallQ.intro (cp) ?_ ?_ ?_
    ·decide
    ·simp only[tt,seval]
    rintro r os ⟨rfl,Fk,Fs,rfl⟩ hos
    simp only[tt,seval,nq,ak,av]
    refine dDrawn.intro [] (.take 0 (.br 1 (.br 2 (.br 3 .done .nobr) .nobr) (.br 2 (.take 1 (.br 3 .done .nobr)) .nobr))) ae ?_
    simp only[tt,seval]
    all_goals
     repeat' with_reducible refine ab ?_ ?_
     all_goals
      refine⟨.tu [(av ((Expr.mk k1 p1 n1 v1 q1 m1 ks1 ss1)).row [Fk,Fs],false),(nq (0,0),false)],[],⟨Fk,Fs,by first|rfl|simp only[nq,ak,av]⟩,ap ?_⟩
      simp only[tt,seval,nq,me,ak,av]
      first|done|exact Sb.refl _|exact IB
   |false=>
    have ef:xL L s.size i false=(3,0):=by unfold xL;rw[if_neg hi,if_neg (by simp)]
    rw[if_neg (by simp),ef]
    rw[ho] at cp
    rw[ef] at cp
    refine ai ac true Tryz.func19 rfl ae ?_
    simp only[Tryz.f19,tt,seval]
    refine CallQ.intro (cp) ?_ ?_ ?_
    ·decide
    ·simp only[tt,seval]
    rintro r os ⟨rfl,Fk,Fs,rfl⟩ hos
    simp only[tt,seval,nq]
    refine dDrawn.intro [] (.take 0 (.br 1 (.br 2 (.br 3 .done .nobr) .nobr) (.br 2 (.take 1 (.br 3 .done .nobr)) .nobr))) ae ?_
    simp only[tt,seval]
    all_goals
     repeat' with_reducible refine ab ?_ ?_
     all_goals
      refine⟨.tu [(av (zExpr).row [[],[]],false),(nq (3,0),false)],[],⟨[],[],by first|rfl|simp only[nq,Stmt.row_mk,bj,Cd,uk,ERow.row_mk,srow,rW,av,Val.row,lc]⟩,ap ?_⟩
      simp only[tt,seval,nq,me,zExpr,zVal,z0,ak,av]
      first|done|exact Sb.refl _|exact Jq
end Go.Proofs.YtdmomaomffhidaaGreatDoor
