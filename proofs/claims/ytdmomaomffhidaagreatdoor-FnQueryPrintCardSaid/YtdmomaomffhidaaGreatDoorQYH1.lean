/-
  Parsing texts of queries.
  Conditions: none.
-/
import Derived.Test.YtdmomaomffhidaaGreatDoorQYD2
import Derived.Test.YtdmomaomffhidaaGreatDoorQYE
import Derived.Test.YtdmomaomffhidaaGreatDoorQYJ2
import Derived.Test.YtdmomaomffhidaaGreatDoorQYG
set_option linter.unusedVariables false
set_option linter.unusedSimpArgs false
set_option linter.unusedSectionVars false
set_option linter.unnecessarySimpa false
set_option maxRecDepth 8000
namespace Go.Proofs.YtdmomaomffhidaaGreatDoor
open Go Go.Dv
open Go.Vc (D dm dq cV bq)
theorem DM {s:ByteArray} {L:List Tok} (h:lg s = .inl L):L.length<=2000/\∀t∈L,aR t=true:=by
 unfold lg at h
 split at h
 ·cases h
 ·obtain⟨rr,hrr⟩:=uB (B:=s.data.toList) (s.data.toList.length+1) 0 [] aa aa
  rw[hrr] at h
  have h:rr = .inl L:=h
  subst h
  have:=tE aa hrr (fun t ht=>by cases ht)
  rw[aK] at this
  simp only[List.length_nil] at this
  exact⟨aa,this.1⟩
def DN (L:List Tok) (n:Nat) (i:Int):Int:=if i<L.length then (L.getD i.toNat ⟨0,z0,0⟩).at_ else n
def xq (L:List Tok) (n:Nat) (i:Int) (ok:Bool):Int×Int:=if 0<=i then (2,DN L n i) else if ok=true then (0,0) else (3,0)
def sj {α:Type} (z:α) (take:List Tok->α×Int) (ok:α->Bool) (s:ByteArray):α×(Int×Int):=match lg s with
 |.inr p=>(z,(1,p))
 |.inl L=>(if 0<=(take L).2 then z else if ok (take L).1=true then (take L).1 else z,xq L s.size (take L).2 (ok (take L).1))
def nO (f:Int×Int):List C:=[.v (.int .i64 f.1),.v (.int .i64 f.2)]
noncomputable def cU:ByteArray->Query×(Int×Int):=sj dh cy gU
end Go.Proofs.YtdmomaomffhidaaGreatDoor
set_option maxRecDepth 8000
namespace Go.Proofs.YtdmomaomffhidaaGreatDoor
open Go Go.Dv Go.Cv
open Go.Vc (D dm dq cV bq)
theorem DO {L:List Tok} {α:Type} (z x:α) (s:PS) (ha:s.a<=L.length):((jo L z (some (x,s))).2 = -1∨0<=(jo L z (some (x,s))).2)/\(jo L z (some (x,s))).2<=L.length:=by
 unfold jo
 simp only
 split
 ·rename_i h
  refine⟨.inr h,?_⟩
  show nY L s<=_
  unfold nY
  split<;>omega
 ·exact⟨.inl rfl,by show (-1:Int)<=_;omega⟩
theorem xr {L:List Tok}:((cy L).2 = -1∨0<=(cy L).2)/\(cy L).2<=L.length:=by
 obtain⟨x,s,h⟩:=mw (L:=L) s0
 have ha:=(ph (L:=L) _ _ _ h).2.1 (Nat.zero_le _)
 unfold cy
 rw[h];exact DO _ _ _ ha
set_option maxHeartbeats 2000000 in
theorem vo (L:List Tok) (hL:L.length<=1048576) (hT:∀t∈L,t.text.size<=1048576) (h40:∀t∈L,t.text.size<=40) (hL2:L.length<=2000):Cl Tryz.prog 46 [.c (.sl L.length (L.flatMap Tok.row) none),.c (.p 9000 0)] [[.v (.bool false),.v (.slice none 0 0),.v (.slice none 0 0),.v (.slice none 0 0),.v (.slice none 0 0),.v (.int .i64 0)]] fun r os=>r = .tu [([.v (.int .i64 (cy L).2)],true),([.v (.bool (gU (cy L).1))],true)]/\∃Fi Ff Fw Fo,os=[av (cy L).1.row [Fi,Ff,Fw,Fo]]:=by
 have hsz:=DL h40 hL2
 have ct:=oJ L hL hT
 generalize (cy L).2=i at *
 generalize (cy L).1=x at *
 have ck:=sk x aa
 obtain⟨d1,i1,f1,w1,o1,l1⟩:=x
 simp only[aG,aG,av] at ct ck ⊢
 refine ai ac true Tryz.func46 rfl ae ?_
 simp only[Tryz.f46,tt,seval]
 refine iZ (ct) ?_ ?_ ?_
 ·decide
 ·simp only[tt,seval]
 rintro r ⟨Fi,Ff,Fw,Fo,rfl⟩
 simp only[tt,seval]
 refine cZ (ck) ?_ ?_<;>simp only[tt,seval]
 refine⟨.tu [([.v (.int .i64 i)],true),([.v (.bool (gU (Query.mk d1 i1 f1 w1 o1 l1)))],true)],[av (Query.mk d1 i1 f1 w1 o1 l1).row [Fi,Ff,Fw,Fo]],⟨rfl,Fi,Ff,Fw,Fo,by first|rfl|simp only[aG,aG,av]⟩,aq ?_⟩
 simp only[tt,seval,aG,aG,av]
 first|done|exact mu
theorem sW (s:ByteArray) (p:Nat) (hlx:lg s = .inr p):Cl Tryz.prog 45 [vs s,.c (.fn 46 [] [9000])] [[.v (.bool false),.v (.slice none 0 0),.v (.slice none 0 0),.v (.slice none 0 0),.v (.slice none 0 0),.v (.int .i64 0)]] fun r os=>r = .ag (nO (1,(p:Int)))/\os=[[.v (.bool false),.v (.slice none 0 0),.v (.slice none 0 0),.v (.slice none 0 0),.v (.slice none 0 0),.v (.int .i64 0)]]:=by
 have cl:=Dw s
 rw[hlx] at cl
 have h0:(0<=(p:Int))=True:=eq_true aa
 refine ai ac true Tryz.func45 rfl ae ?_
 simp only[Tryz.f45,tt,seval]
 refine cZ (cl) ?_ ?_<;>simp only[tt,seval,Dt]
 simp only[tt,seval,h0]
 refine⟨.ag (nO (1,(p:Int))),[[.v (.bool false),.v (.slice none 0 0),.v (.slice none 0 0),.v (.slice none 0 0),.v (.slice none 0 0),.v (.int .i64 0)]],⟨rfl,rfl⟩,aq ?_⟩
 simp only[tt,seval,nO]
 first|done|exact Sb.refl _|exact J1
set_option maxHeartbeats 4000000 in
theorem sX (s:ByteArray) (L:List Tok) (hlx:lg s = .inl L):Cl Tryz.prog 45 [vs s,.c (.fn 46 [] [9000])] [[.v (.bool false),.v (.slice none 0 0),.v (.slice none 0 0),.v (.slice none 0 0),.v (.slice none 0 0),.v (.int .i64 0)]] fun r os=>r = .ag (nO (xq L s.size (cy L).2 (gU (cy L).1)))/\∃Fi Ff Fw Fo,os=[av (cy L).1.row [Fi,Ff,Fw,Fo]]:=by
 have cl:=Dw s
 have hs:=yI hlx
 obtain⟨hL2,hok⟩:=DM hlx
 have hL:L.length<=1048576:=by omega
 have h40:∀t∈L,t.text.size<=40:=fun t ht=>Js (hok t ht)
 have hT:∀t∈L,t.text.size<=1048576:=fun t ht=>Nat.le_trans (h40 t ht) aa
 have ct:=vo L hL hT h40 hL2
 have hb:((cy L).2 = -1∨0<=(cy L).2)/\(cy L).2<=L.length:=xr
 rw[hlx] at cl
 generalize (cy L).2=i at *
 generalize (cy L).1=x at *
 obtain⟨d1,i1,f1,w1,o1,l1⟩:=x
 simp only[aG,aG,av] at ct ⊢
 refine ai ac true Tryz.func45 rfl ae ?_
 simp only[Tryz.f45,tt,seval]
 refine cZ (cl) ?_ ?_<;>simp only[tt,seval,Dt]
 refine CallQ.intro (ct) ?_ ?_ ?_
 ·decide
 ·simp only[tt,seval]
 rintro r os ⟨rfl,Fi,Ff,Fw,Fo,rfl⟩ hos
 simp only[tt,seval]
 refine fun _=>?_
 by_cases hi:i=L.length
 ·have h0:(i=(L.length:Int))=True:=eq_true hi
  have ef:xq L s.size i (gU (Query.mk d1 i1 f1 w1 o1 l1))=(2,(s.size:Int)):=by
   unfold xq DN
   rw[if_pos aa,if_neg aa]
  rw[ef]
  simp only[tt,seval,h0]
  refine fun _=>?_
  refine⟨.ag (nO (2,(s.size:Int))),[av (Query.mk d1 i1 f1 w1 o1 l1).row [Fi,Ff,Fw,Fo]],⟨rfl,Fi,Ff,Fw,Fo,by first|rfl|simp only[aG,aG,av]⟩,aq ?_⟩
  simp only[tt,seval,nO,aG,aG,av]
  first|done|exact mu
 ·have h0:(i=(L.length:Int))=False:=eq_false hi
  simp only[tt,seval,h0]
  by_cases h1:0<=i
  ·have h1':(0<=i)=True:=eq_true h1
   obtain⟨j,rfl⟩:∃j:Nat,i=j:=⟨i.toNat,aa⟩
   have hl:j<L.length:=by omega
   have hx:L[j]?=some L[j]:=aC hl
   have ef:xq L s.size (j:Int) (gU (Query.mk d1 i1 f1 w1 o1 l1))=(2,(L[j]).at_):=by
    unfold xq DN
    rw[if_pos h1,if_pos aa,Int.toNat_natCast,List.getD_eq_getElem?_getD,hx];rfl
   have i0:((0:Int)<=(j:Int))=True:=eq_true aa
   have iL:((j:Int)<(L.length:Int))=True:=eq_true aa
   have iT:(j<L.length)=True:=eq_true hl
   rw[ef]
   generalize L[j]=tk at *
   simp only[tt,seval,h1',cW hx pg,iL,Tok.row]
   refine⟨.ag (nO (2,tk.at_)),[av (Query.mk d1 i1 f1 w1 o1 l1).row [Fi,Ff,Fw,Fo]],⟨rfl,Fi,Ff,Fw,Fo,by first|rfl|simp only[aG,aG,av]⟩,aq ?_⟩
   simp only[tt,seval,nO,aG,aG,av]
   first|done|exact mu
  ·have h1':(0<=i)=False:=eq_false h1
   simp only[tt,seval,h1']
   cases ho:gU (Query.mk d1 i1 f1 w1 o1 l1) with
   |true=>
    have ef:xq L s.size i true=(0,0):=by unfold xq;rw[if_neg h1,if_pos rfl]
    rw[ef]
    simp only[tt,seval]
    refine⟨.ag (nO (0,0)),[av (Query.mk d1 i1 f1 w1 o1 l1).row [Fi,Ff,Fw,Fo]],⟨rfl,Fi,Ff,Fw,Fo,by first|rfl|simp only[aG,aG,av]⟩,aq ?_⟩
    simp only[tt,seval,nO,aG,aG,av]
    first|done|exact mu
   |false=>
    have ef:xq L s.size i false=(3,0):=by unfold xq;rw[if_neg h1,if_neg (by simp)]
    rw[ef]
    simp only[tt,seval]
    refine⟨.ag (nO (3,0)),[av (Query.mk d1 i1 f1 w1 o1 l1).row [Fi,Ff,Fw,Fo]],⟨rfl,Fi,Ff,Fw,Fo,by first|rfl|simp only[aG,aG,av]⟩,aq ?_⟩
    simp only[tt,seval,nO,aG,aG,av]
    first|done|exact mu
set_option maxHeartbeats 4000000 in
theorem sY (s:ByteArray):Cl Tryz.prog 13 [vs s] [] fun r _=>∃Fi Ff Fw Fo,r = .tu [(av (cU s).1.row [Fi,Ff,Fw,Fo],false),(nO (cU s).2,false)]:=by
 cases hlx:lg s with
 |inr p=>
  have e:cU s=(dh,(1,(p:Int))):=by unfold cU sj;rw[hlx]
  have cp:=sW s p hlx
  rw[e]
  refine ai ac true Tryz.func13 rfl ae ?_
  simp only[Tryz.f13,tt,seval]
  refine cS (cp) ?_ ?_<;>simp only[tt,seval,nO]
  refine dDrawn.intro [] (.take 0 (.br 1 (.br 2 (.br 3 .done .nobr) .nobr) (.br 2 (.take 1 (.br 3 .done .nobr)) .nobr))) ae ?_
  simp only[tt,seval]
  all_goals
   repeat' with_reducible refine ab ?_ ?_
   all_goals
    refine⟨.tu [(av (dh).row [[],[],[],[]],false),(nO (1,(p:Int)),false)],[],⟨[],[],[],[],by first|rfl|simp only[nO,Stmt.row_mk,aG,C8,dh,ERow.row_mk,srow,rW,av,Val.row,lc]⟩,aq ?_⟩
    simp only[tt,seval,nO,aG,dh,aG,av]
    first|done|exact Sb.refl _|exact J1
 |inl L=>
  have e:cU s=(if 0<=(cy L).2 then dh else if gU (cy L).1=true then (cy L).1 else dh,xq L s.size (cy L).2 (gU (cy L).1)):=by unfold cU sj;rw[hlx]
  have cp:=sX s L hlx
  rw[e]
  generalize (cy L).2=i at *
  generalize (cy L).1=x at *
  obtain⟨d1,i1,f1,w1,o1,l1⟩:=x
  simp only[aG,av] at cp
  by_cases hi:0<=i
  ·have ef:xq L s.size i (gU (Query.mk d1 i1 f1 w1 o1 l1))=(2,DN L s.size i):=if_pos hi
   rw[if_pos hi,ef]
   rw[ef] at cp
   refine ai ac true Tryz.func13 rfl ae ?_
   simp only[Tryz.f13,tt,seval]
   refine CallQ.intro (cp) ?_ ?_ ?_
   ·decide
   ·simp only[tt,seval]
   rintro r os ⟨rfl,Fi,Ff,Fw,Fo,rfl⟩ hos
   simp only[tt,seval,nO]
   refine dDrawn.intro [] (.take 0 (.br 1 (.br 2 (.br 3 .done .nobr) .nobr) (.br 2 (.take 1 (.br 3 .done .nobr)) .nobr))) ae ?_
   simp only[tt,seval]
   all_goals
    repeat' with_reducible refine ab ?_ ?_
    all_goals
     refine⟨.tu [(av (dh).row [[],[],[],[]],false),(nO (2,DN L s.size i),false)],[],⟨[],[],[],[],by first|rfl|simp only[nO,Stmt.row_mk,aG,C8,dh,ERow.row_mk,srow,rW,av,Val.row,lc]⟩,aq ?_⟩
     simp only[tt,seval,nO,aG,dh,aG,av]
     first|done|exact Sb.refl _|exact JT
  ·rw[if_neg hi]
   cases ho:gU (Query.mk d1 i1 f1 w1 o1 l1) with
   |true=>
    have ef:xq L s.size i true=(0,0):=by unfold xq;rw[if_neg hi,if_pos rfl]
    rw[if_pos rfl,ef]
    rw[ho] at cp
    rw[ef] at cp
    refine ai ac true Tryz.func13 rfl ae ?_
    simp only[Tryz.f13,tt,seval]
    refine CallQ.intro (cp) ?_ ?_ ?_
    ·decide
    ·simp only[tt,seval]
    rintro r os ⟨rfl,Fi,Ff,Fw,Fo,rfl⟩ hos
    simp only[tt,seval,nO,aG,av]
    refine dDrawn.intro [] (.take 0 (.br 1 (.br 2 (.br 3 .done .nobr) .nobr) (.br 2 (.take 1 (.br 3 .done .nobr)) .nobr))) ae ?_
    simp only[tt,seval]
    all_goals
     repeat' with_reducible refine ab ?_ ?_
     all_goals
      refine⟨.tu [(av ((Query.mk d1 i1 f1 w1 o1 l1)).row [Fi,Ff,Fw,Fo],false),(nO (0,0),false)],[],⟨Fi,Ff,Fw,Fo,by first|rfl|simp only[nO,aG,aG,av]⟩,aq ?_⟩
      simp only[tt,seval,nO,aG,aG,av]
      first|done|exact Sb.refl _|exact J1
   |false=>
    have ef:xq L s.size i false=(3,0):=by unfold xq;rw[if_neg hi,if_neg (by simp)]
    rw[if_neg (by simp),ef]
    rw[ho] at cp
    rw[ef] at cp
    refine ai ac true Tryz.func13 rfl ae ?_
    simp only[Tryz.f13,tt,seval]
    refine CallQ.intro (cp) ?_ ?_ ?_
    ·decide
    ·simp only[tt,seval]
    rintro r os ⟨rfl,Fi,Ff,Fw,Fo,rfl⟩ hos
    simp only[tt,seval,nO]
    refine dDrawn.intro [] (.take 0 (.br 1 (.br 2 (.br 3 .done .nobr) .nobr) (.br 2 (.take 1 (.br 3 .done .nobr)) .nobr))) ae ?_
    simp only[tt,seval]
    all_goals
     repeat' with_reducible refine ab ?_ ?_
     all_goals
      refine⟨.tu [(av (dh).row [[],[],[],[]],false),(nO (3,0),false)],[],⟨[],[],[],[],by first|rfl|simp only[nO,Stmt.row_mk,aG,C8,dh,ERow.row_mk,srow,rW,av,Val.row,lc]⟩,aq ?_⟩
      simp only[tt,seval,nO,aG,dh,aG,av]
      first|done|exact Sb.refl _|exact JT
end Go.Proofs.YtdmomaomffhidaaGreatDoor
