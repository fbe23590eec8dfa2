/-
  Parsing and printing queries.
  Conditions: none.
-/
import Derived.Test.YtbodcedhmccenaaGreatDoorPFB2
import Derived.Test.YtbodcedhmccenaaGreatDoorPFB3
import Derived.Test.YtbodcedhmccenaaGreatDoorPFF3
import Derived.Test.YtbodcedhmccenaaGreatDoorPFJ2
import Derived.Test.YtbodcedhmccenaaGreatDoorPFV4
import Derived.Test.YtbodcedhmccenaaGreatDoorPFH1
set_option linter.unusedVariables false
set_option linter.unusedSimpArgs false
set_option linter.unnecessarySimpa false
set_option linter.unusedSectionVars false
set_option maxRecDepth 8000
namespace Go.Proofs.YtbodcedhmccenaaGreatDoor
open Go Go.Dv
open Go.Vc (D dg dh cX bk)
theorem rJ (q:Query) (hsz:szQuery q<=1048576):Cl Tryz.prog 69 [.ag (ar q.row)] [] fun r _=>r=vb (fD q):=by
 have hx:∀x∈exprsQ q,szExpr x<=1048576:=fun x hx=>Nat.le_trans (gZ hx) hsz
 have hsum:=nt q
 have hs2:((exprsQ q).map ndE).sum<=2097152:=by
  have:=pj (l:=exprsQ q) (f:=ndE) (g:=fun x=>szExpr x+1) fun x _=>(rD x).2
  omega
 have c1:=kJ q fmE (fun x h=>yr x (hx x h)) hsz
 have c2:=tI q dpE (fun x h=>(ym x).1 (hx x h)) hsz
 have c3:=pQ q ndE (fun x h=>(rD x).1 (hx x h)) hsz hs2
 unfold fD
 generalize bY ((exprsQ q).map dpE)=dp at *
 generalize ((exprsQ q).map ndE).sum=nn at *
 generalize hZ fmE q=fq at *
 obtain⟨distinct,items,from_,where_,order,limit⟩:=q
 rw[aF] at c1 c2 c3 ⊢
 refine ai ac false Tryz.func69 rfl ae ?_
 simp only[Tryz.f69,tt,seval]
 refine dDrawn.intro [] (j3 [0,4,3,7,9,10,12,15,16,18]) ae ?_
 simp only[tt,seval]
 refine cZ (c2) ?_ ?_<;>simp only[tt,seval]
 refine cZ (c3) ?_ ?_<;>simp only[tt,seval]
 refine cZ (Be dp nn) ?_ ?_<;>simp only[tt,seval]
 cases hb:(decide (dp<=24)&&decide (nn<=200))
 ·simp only[tt,seval]
  exact⟨_,_,aU (by first|rfl|simp),ap rfl⟩
 ·simp only[tt,seval]
  refine cZ (c1) ?_ ?_<;>simp only[tt,seval]
  exact⟨_,_,aU (by first|rfl|simp),ap rfl⟩
noncomputable def uQ (q:Query):List Tok:=if fD q=true then dP (dH false) q else []
theorem Dx (q:Query) (hr:RgQ q) (h:fD q=true):hZ fmE q=true/\(dP (dH false) q).length<=1000000:=by
 simp only[fD,Bool.and_eq_true,decide_eq_true_eq] at h
 refine⟨h.1,?_⟩
 have hb:∀x∈exprsQ q,fmE x=true:=by
  have h1:=h.1
  obtain⟨d,it,fr,wh,od,li⟩:=q
  exact (ff h1).2.2.2.2.2.2.2
 have:=(FO (gn:=ndE) (g:=dH false) h.1 hr.1 fun x hx=>yt false x (hb x hx) (hr.2 x hx)).1
 omega
theorem rK (q:Query) (hr:RgQ q) (hsz:szQuery q<=1048576):Cl Tryz.prog 22 [.ag (ar q.row)] [] fun r _=>r = .c (.ow 150 (uQ q).length ((uQ q).flatMap Tok.row) none):=by
 have c1:=rJ q hsz
 have ht:=Dx q hr
 unfold uQ
 cases hb:fD q
 case false=>
  rw[hb] at c1
  obtain⟨distinct,items,from_,where_,order,limit⟩:=q
  rw[aF] at c1 ⊢
  refine ai ac false Tryz.func22 rfl ae ?_
  simp only[Tryz.f22,tt,seval]
  refine cZ (c1) ?_ ?_<;>simp only[tt,seval]
  refine⟨_,[],rfl,am ?_⟩
  simp only[tt,seval]
 case true=>
  rw[hb] at c1
  obtain⟨hf,hl⟩:=ht hb
  have hb:∀x∈exprsQ q,fmE x=true:=by
   obtain⟨d,it,fr,wh,od,li⟩:=q
   exact (ff hf).2.2.2.2.2.2.2
  have he:jk 75 [.ag (ar q.row)] false (dP (dH false) q):=
   rR false fmE (dH false) q hf hr.1 hsz fun x hx=>Ij false x (hb x hx) (hr.2 x hx) (Nat.le_trans (gZ hx) hsz)
  generalize dP (dH false) q=l at *
  obtain⟨distinct,items,from_,where_,order,limit⟩:=q
  rw[aF] at c1 he ⊢
  refine ai ac false Tryz.func22 rfl ae ?_
  simp only[Tryz.f22,tt,seval]
  refine cZ (c1) ?_ ?_<;>simp only[tt,seval]
  refine cS (he [] (by simp only[List.length_nil];omega)) ?_ ?_<;>simp only[tt,seval]
  refine⟨_,[],rfl,am ?_⟩
  simp only[tt,seval]
noncomputable def aV:ByteArray->Query×(Int×Int):=jj zQuery bI fD
set_option maxHeartbeats 2000000 in
theorem uR (s:ByteArray):Cl Tryz.prog 20 [vs s] [] fun r _=>r = .tu [(ar (aV s).1.row,false),(gX (aV s).2,false)]:=by
 have cl:=IY s
 refine ai ac false Tryz.func20 rfl ae ?_
 simp only[Tryz.f20,tt,seval]
 cases hlx:fJ s with
 |inr p=>
  have e:aV s=(zQuery,(1,(p:Int))):=by unfold aV jj;rw[hlx]
  rw[hlx] at cl
  rw[e]
  have h0:(0<=(p:Int))=True:=eq_true aa
  refine cZ (cl) ?_ ?_<;>simp only[tt,seval,sB]
  simp only[tt,seval,h0]
  refine⟨.tu [(ar (zQuery).row,false),(gX (1,(p:Int)),false)],[],rfl,am ?_⟩
  simp only[tt,seval,gX,aF,zQuery,aF]
 |inl L=>
  have hs:=rA hlx
  obtain⟨hL2,hok⟩:=lY hlx
  have hL:L.length<=1048576:=by omega
  have h40:∀t∈L,t.text.size<=40:=fun t ht=>A7 (hok t ht)
  have hT:∀t∈L,t.text.size<=1048576:=fun t ht=>Nat.le_trans (h40 t ht) aa
  have e:aV s=(if 0<=(bI L).2 then zQuery else if fD (bI L).1=true then (bI L).1 else zQuery,rI L s.size (bI L).2 (fD (bI L).1)):=by unfold aV jj;rw[hlx]
  have hsz:=rH h40 hL2
  have ct:=vT L hL hT
  rw[hlx] at cl
  rw[e]
  generalize (bI L).2=i at *
  generalize (bI L).1=x at *
  have ck:=Bh x aa
  obtain⟨d1,i1,f1,w1,o1,l1⟩:=x
  simp only[aF,aF] at ct ck
  refine cZ (cl) ?_ ?_<;>simp only[tt,seval,sB]
  refine cZ (ct) ?_ ?_<;>simp only[tt,seval]
  by_cases hi:0<=i
  ·have h0:(0<=i)=True:=eq_true hi
   simp only[tt,seval,h0]
   have cf:=yy L hL hT i hi s
   have ef:rI L s.size i (fD (Query.mk d1 i1 f1 w1 o1 l1))=(2,qb L s.size i):=if_pos hi
   rw[ef]
   refine cZ (cf) ?_ ?_<;>simp only[tt,seval,gX]
   refine⟨.tu [(ar (zQuery).row,false),(gX (2,qb L s.size i),false)],[],rfl,am ?_⟩
   simp only[tt,seval,gX,aF,zQuery,aF]
  ·have h0:(0<=i)=False:=eq_false hi
   simp only[tt,seval,h0]
   refine cZ (ck) ?_ ?_<;>simp only[tt,seval]
   cases ho:fD (Query.mk d1 i1 f1 w1 o1 l1) with
   |true=>
    have ef:rI L s.size i true=(0,0):=by unfold rI;rw[if_neg hi,if_pos rfl]
    rw[ef]
    simp only[tt,seval]
    refine⟨.tu [(ar (Query.mk d1 i1 f1 w1 o1 l1).row,false),(gX (0,0),false)],[],rfl,am ?_⟩
    simp only[tt,seval,gX,aF,aF]
   |false=>
    have ef:rI L s.size i false=(3,0):=by unfold rI;rw[if_neg hi,if_neg (by simp)]
    rw[ef]
    simp only[tt,seval]
    refine⟨.tu [(ar (zQuery).row,false),(gX (3,0),false)],[],rfl,am ?_⟩
    simp only[tt,seval,gX,aF,zQuery,aF]
end Go.Proofs.YtbodcedhmccenaaGreatDoor
set_option maxRecDepth 8000
namespace Go.Proofs.YtbodcedhmccenaaGreatDoor
open Go Go.Dv Go.Cv
open Go.Vc (D dg dh cX bk)
set_option maxHeartbeats 2000000 in
theorem uS (L:List Tok) (hL:L.length<=1048576) (hT:∀t∈L,t.text.size<=1048576) (h40:∀t∈L,t.text.size<=40) (hL2:L.length<=2000):Cl Tryz.prog 68 [.c (.sl L.length (L.flatMap Tok.row) none),.c (.p 9000 0)] [[.v (.bool false),.v (.slice none 0 0),.v (.slice none 0 0),.v (.slice none 0 0),.v (.slice none 0 0),.v (.int .i64 0)]] fun r os=>r = .tu [([.v (.int .i64 (bI L).2)],true),([.v (.bool (fD (bI L).1))],true)]/\∃Fi Ff Fw Fo,os=[aG (bI L).1.row [Fi,Ff,Fw,Fo]]:=by
 have hsz:=rH h40 hL2
 have ct:=uC L hL hT
 generalize (bI L).2=i at *
 generalize (bI L).1=x at *
 have ck:=rJ x aa
 obtain⟨d1,i1,f1,w1,o1,l1⟩:=x
 simp only[aF,aF,aG] at ct ck ⊢
 refine ai ac true Tryz.func68 rfl ae ?_
 simp only[Tryz.f68,tt,seval]
 refine fV (ct) ?_ ?_ ?_
 ·decide
 ·simp only[tt,seval]
 rintro r ⟨Fi,Ff,Fw,Fo,rfl⟩
 simp only[tt,seval]
 refine cZ (ck) ?_ ?_<;>simp only[tt,seval]
 refine⟨.tu [([.v (.int .i64 i)],true),([.v (.bool (fD (Query.mk d1 i1 f1 w1 o1 l1)))],true)],[aG (Query.mk d1 i1 f1 w1 o1 l1).row [Fi,Ff,Fw,Fo]],⟨rfl,Fi,Ff,Fw,Fo,by first|rfl|simp only[aF,aF,aG]⟩,am ?_⟩
 simp only[tt,seval,aF,aF,aG]
 first|done|exact mT
theorem sG (s:ByteArray) (p:Nat) (hlx:fJ s = .inr p):Cl Tryz.prog 67 [vs s,.c (.fn 68 [] [9000])] [[.v (.bool false),.v (.slice none 0 0),.v (.slice none 0 0),.v (.slice none 0 0),.v (.slice none 0 0),.v (.int .i64 0)]] fun r os=>r = .ag (gX (1,(p:Int)))/\os=[[.v (.bool false),.v (.slice none 0 0),.v (.slice none 0 0),.v (.slice none 0 0),.v (.slice none 0 0),.v (.int .i64 0)]]:=by
 have cl:=Dh s
 rw[hlx] at cl
 have h0:(0<=(p:Int))=True:=eq_true aa
 refine ai ac true Tryz.func67 rfl ae ?_
 simp only[Tryz.f67,tt,seval]
 refine cZ (cl) ?_ ?_<;>simp only[tt,seval,sB]
 simp only[tt,seval,h0]
 refine⟨.ag (gX (1,(p:Int))),[[.v (.bool false),.v (.slice none 0 0),.v (.slice none 0 0),.v (.slice none 0 0),.v (.slice none 0 0),.v (.int .i64 0)]],⟨rfl,rfl⟩,am ?_⟩
 simp only[tt,seval,gX]
 first|done|exact Sb.refl _|exact ID
set_option maxHeartbeats 4000000 in
theorem sH (s:ByteArray) (L:List Tok) (hlx:fJ s = .inl L):Cl Tryz.prog 67 [vs s,.c (.fn 68 [] [9000])] [[.v (.bool false),.v (.slice none 0 0),.v (.slice none 0 0),.v (.slice none 0 0),.v (.slice none 0 0),.v (.int .i64 0)]] fun r os=>r = .ag (gX (rI L s.size (bI L).2 (fD (bI L).1)))/\∃Fi Ff Fw Fo,os=[aG (bI L).1.row [Fi,Ff,Fw,Fo]]:=by
 have cl:=Dh s
 have hs:=rA hlx
 obtain⟨hL2,hok⟩:=lY hlx
 have hL:L.length<=1048576:=by omega
 have h40:∀t∈L,t.text.size<=40:=fun t ht=>A7 (hok t ht)
 have hT:∀t∈L,t.text.size<=1048576:=fun t ht=>Nat.le_trans (h40 t ht) aa
 have ct:=uS L hL hT h40 hL2
 have hb:((bI L).2 = -1∨0<=(bI L).2)/\(bI L).2<=L.length:=Dw
 rw[hlx] at cl
 generalize (bI L).2=i at *
 generalize (bI L).1=x at *
 obtain⟨d1,i1,f1,w1,o1,l1⟩:=x
 simp only[aF,aF,aG] at ct ⊢
 refine ai ac true Tryz.func67 rfl ae ?_
 simp only[Tryz.f67,tt,seval]
 refine cZ (cl) ?_ ?_<;>simp only[tt,seval,sB]
 refine CallQ.intro (ct) ?_ ?_ ?_
 ·decide
 ·simp only[tt,seval]
 rintro r os ⟨rfl,Fi,Ff,Fw,Fo,rfl⟩ hos
 simp only[tt,seval]
 refine fun _=>?_
 by_cases hi:i=L.length
 ·have h0:(i=(L.length:Int))=True:=eq_true hi
  have ef:rI L s.size i (fD (Query.mk d1 i1 f1 w1 o1 l1))=(2,(s.size:Int)):=by
   unfold rI qb
   rw[if_pos aa,if_neg aa]
  rw[ef]
  simp only[tt,seval,h0]
  refine fun _=>?_
  refine⟨.ag (gX (2,(s.size:Int))),[aG (Query.mk d1 i1 f1 w1 o1 l1).row [Fi,Ff,Fw,Fo]],⟨rfl,Fi,Ff,Fw,Fo,by first|rfl|simp only[aF,aF,aG]⟩,am ?_⟩
  simp only[tt,seval,gX,aF,aF,aG]
  first|done|exact mT
 ·have h0:(i=(L.length:Int))=False:=eq_false hi
  simp only[tt,seval,h0]
  by_cases h1:0<=i
  ·have h1':(0<=i)=True:=eq_true h1
   obtain⟨j,rfl⟩:∃j:Nat,i=j:=⟨i.toNat,aa⟩
   have hl:j<L.length:=by omega
   have hx:L[j]?=some L[j]:=aD hl
   have ef:rI L s.size (j:Int) (fD (Query.mk d1 i1 f1 w1 o1 l1))=(2,(L[j]).at_):=by
    unfold rI qb
    rw[if_pos h1,if_pos aa,Int.toNat_natCast,List.getD_eq_getElem?_getD,hx];rfl
   have i0:((0:Int)<=(j:Int))=True:=eq_true aa
   have iL:((j:Int)<(L.length:Int))=True:=eq_true aa
   have iT:(j<L.length)=True:=eq_true hl
   rw[ef]
   generalize L[j]=tk at *
   simp only[tt,seval,h1',cT hx cY,iL,Tok.row]
   refine⟨.ag (gX (2,tk.at_)),[aG (Query.mk d1 i1 f1 w1 o1 l1).row [Fi,Ff,Fw,Fo]],⟨rfl,Fi,Ff,Fw,Fo,by first|rfl|simp only[aF,aF,aG]⟩,am ?_⟩
   simp only[tt,seval,gX,aF,aF,aG]
   first|done|exact mT
  ·have h1':(0<=i)=False:=eq_false h1
   simp only[tt,seval,h1']
   cases ho:fD (Query.mk d1 i1 f1 w1 o1 l1) with
   |true=>
    have ef:rI L s.size i true=(0,0):=by unfold rI;rw[if_neg h1,if_pos rfl]
    rw[ef]
    simp only[tt,seval]
    refine⟨.ag (gX (0,0)),[aG (Query.mk d1 i1 f1 w1 o1 l1).row [Fi,Ff,Fw,Fo]],⟨rfl,Fi,Ff,Fw,Fo,by first|rfl|simp only[aF,aF,aG]⟩,am ?_⟩
    simp only[tt,seval,gX,aF,aF,aG]
    first|done|exact mT
   |false=>
    have ef:rI L s.size i false=(3,0):=by unfold rI;rw[if_neg h1,if_neg (by simp)]
    rw[ef]
    simp only[tt,seval]
    refine⟨.ag (gX (3,0)),[aG (Query.mk d1 i1 f1 w1 o1 l1).row [Fi,Ff,Fw,Fo]],⟨rfl,Fi,Ff,Fw,Fo,by first|rfl|simp only[aF,aF,aG]⟩,am ?_⟩
    simp only[tt,seval,gX,aF,aF,aG]
    first|done|exact mT
set_option maxHeartbeats 4000000 in
theorem mM (s:ByteArray):Cl Tryz.prog 19 [vs s] [] fun r _=>∃Fi Ff Fw Fo,r = .tu [(aG (aV s).1.row [Fi,Ff,Fw,Fo],false),(gX (aV s).2,false)]:=by
 cases hlx:fJ s with
 |inr p=>
  have e:aV s=(zQuery,(1,(p:Int))):=by unfold aV jj;rw[hlx]
  have cp:=sG s p hlx
  rw[e]
  refine ai ac true Tryz.func19 rfl ae ?_
  simp only[Tryz.f19,tt,seval]
  refine cS (cp) ?_ ?_<;>simp only[tt,seval,gX]
  refine dDrawn.intro [] (.take 0 (.br 1 (.br 2 (.br 3 .done .nobr) .nobr) (.br 2 (.take 1 (.br 3 .done .nobr)) .nobr))) ae ?_
  simp only[tt,seval]
  all_goals
   repeat' with_reducible refine ab ?_ ?_
   all_goals
    refine⟨.tu [(aG (zQuery).row [[],[],[],[]],false),(gX (1,(p:Int)),false)],[],⟨[],[],[],[],by first|rfl|simp only[gX,Stmt.row_mk,aF,C0,zQuery,ERow.row_mk,srow,rW,aG,Val.row,lc]⟩,am ?_⟩
    simp only[tt,seval,gX,aF,zQuery,aF,aG]
    first|done|exact Sb.refl _|exact ID
 |inl L=>
  have e:aV s=(if 0<=(bI L).2 then zQuery else if fD (bI L).1=true then (bI L).1 else zQuery,rI L s.size (bI L).2 (fD (bI L).1)):=by unfold aV jj;rw[hlx]
  have cp:=sH s L hlx
  rw[e]
  generalize (bI L).2=i at *
  generalize (bI L).1=x at *
  obtain⟨d1,i1,f1,w1,o1,l1⟩:=x
  simp only[aF,aG] at cp
  by_cases hi:0<=i
  ·have ef:rI L s.size i (fD (Query.mk d1 i1 f1 w1 o1 l1))=(2,qb L s.size i):=if_pos hi
   rw[if_pos hi,ef]
   rw[ef] at cp
   refine ai ac true Tryz.func19 rfl ae ?_
   simp only[Tryz.f19,tt,seval]
   refine CallQ.intro (cp) ?_ ?_ ?_
   ·decide
   ·simp only[tt,seval]
   rintro r os ⟨rfl,Fi,Ff,Fw,Fo,rfl⟩ hos
   simp only[tt,seval,gX]
   refine dDrawn.intro [] (.take 0 (.br 1 (.br 2 (.br 3 .done .nobr) .nobr) (.br 2 (.take 1 (.br 3 .done .nobr)) .nobr))) ae ?_
   simp only[tt,seval]
   all_goals
    repeat' with_reducible refine ab ?_ ?_
    all_goals
     refine⟨.tu [(aG (zQuery).row [[],[],[],[]],false),(gX (2,qb L s.size i),false)],[],⟨[],[],[],[],by first|rfl|simp only[gX,Stmt.row_mk,aF,C0,zQuery,ERow.row_mk,srow,rW,aG,Val.row,lc]⟩,am ?_⟩
     simp only[tt,seval,gX,aF,zQuery,aF,aG]
     first|done|exact Sb.refl _|exact Js
  ·rw[if_neg hi]
   cases ho:fD (Query.mk d1 i1 f1 w1 o1 l1) with
   |true=>
    have ef:rI L s.size i true=(0,0):=by unfold rI;rw[if_neg hi,if_pos rfl]
    rw[if_pos rfl,ef]
    rw[ho] at cp
    rw[ef] at cp
    refine ai ac true Tryz.func19 rfl ae ?_
    simp only[Tryz.f19,tt,seval]
    refine CallQ.intro (cp) ?_ ?_ ?_
    ·decide
    ·simp only[tt,seval]
    rintro r os ⟨rfl,Fi,Ff,Fw,Fo,rfl⟩ hos
    simp only[tt,seval,gX,aF,aG]
    refine dDrawn.intro [] (.take 0 (.br 1 (.br 2 (.br 3 .done .nobr) .nobr) (.br 2 (.take 1 (.br 3 .done .nobr)) .nobr))) ae ?_
    simp only[tt,seval]
    all_goals
     repeat' with_reducible refine ab ?_ ?_
     all_goals
      refine⟨.tu [(aG ((Query.mk d1 i1 f1 w1 o1 l1)).row [Fi,Ff,Fw,Fo],false),(gX (0,0),false)],[],⟨Fi,Ff,Fw,Fo,by first|rfl|simp only[gX,aF,aF,aG]⟩,am ?_⟩
      simp only[tt,seval,gX,aF,aF,aG]
      first|done|exact Sb.refl _|exact ID
   |false=>
    have ef:rI L s.size i false=(3,0):=by unfold rI;rw[if_neg hi,if_neg (by simp)]
    rw[if_neg (by simp),ef]
    rw[ho] at cp
    rw[ef] at cp
    refine ai ac true Tryz.func19 rfl ae ?_
    simp only[Tryz.f19,tt,seval]
    refine CallQ.intro (cp) ?_ ?_ ?_
    ·decide
    ·simp only[tt,seval]
    rintro r os ⟨rfl,Fi,Ff,Fw,Fo,rfl⟩ hos
    simp only[tt,seval,gX]
    refine dDrawn.intro [] (.take 0 (.br 1 (.br 2 (.br 3 .done .nobr) .nobr) (.br 2 (.take 1 (.br 3 .done .nobr)) .nobr))) ae ?_
    simp only[tt,seval]
    all_goals
     repeat' with_reducible refine ab ?_ ?_
     all_goals
      refine⟨.tu [(aG (zQuery).row [[],[],[],[]],false),(gX (3,0),false)],[],⟨[],[],[],[],by first|rfl|simp only[gX,Stmt.row_mk,aF,C0,zQuery,ERow.row_mk,srow,rW,aG,Val.row,lc]⟩,am ?_⟩
      simp only[tt,seval,gX,aF,zQuery,aF,aG]
      first|done|exact Sb.refl _|exact Js
theorem I6 (full:Bool) {d:Nat} {q:Query} (hd:d<=3) (h:DrQ d q):JL full q (dP (dH full) q)/\Sm 60000 (dP (dH full) q):=by
 have hm:=Gl hd
 rw[KS] at hm
 have hsz:szQuery q<=1048576:=Nat.le_trans h.sz aa
 refine⟨mN full fmE (dH full) q h.fm h.li hsz fun x hx=>Bp full x (h.ex x hx).fm (h.ex x hx).rg (Nat.le_trans (gZ hx) hsz),?_⟩
 have hs:=FO (gn:=ndE) (g:=dH full) h.fm h.li fun x hx=>yt full x (h.ex x hx).fm (h.ex x hx).rg
 have hn:=h.nodes
 exact hs.le aa
set_option maxHeartbeats 8000000 in
theorem pm (bs:List Int):Cl Tryz.prog 18 [.c (.sl bs.length (bs.flatMap oI) none)] [] fun r _=>Jm r:=by
 refine ai ac false Tryz.func18 rfl ae ?_
 simp only[Tryz.f18,tt,seval]
 refine IV (Gj bs) ah ?_
 rintro cs ⟨c,rfl,h0⟩
 simp only[tt,seval,Cur.cs]
 refine fV (Bw bs 4 aa) ?_ ?_ ?_
 ·decide
 ·simp only[tt,seval]
 rintro r ⟨z,rfl,hz2,hz4⟩
 simp only[tt,seval]
 refine CallQ.intro (bj c h0 z) ?_ ?_ ?_
 ·decide
 ·simp only[tt,seval,Cur.cs]
 rintro r os ⟨y,c1,rfl,rfl,hy,i1⟩ hos
 simp only[tt,seval,Cur.cs]
 have hy2:=hy.2 aa
 obtain⟨d,rfl⟩:∃d:Nat,y=d:=⟨y.toNat,aa⟩
 have hd:d<=3:=by omega
 refine CallQ.intro ((Bz d aa).2 c1 i1) ?_ ?_ ?_
 ·decide
 ·simp only[tt,seval,Cur.cs]
 rintro r os ⟨c2,⟨⟨qd,qi,qf,qw,qo,ql⟩,rfl,hq⟩,rfl,i2⟩ hos
 simp only[tt,seval,Cur.cs,aF]
 refine dDrawn.intro [18,19,20,21] (.take 0 (.take 1 (.take 4 (.br 2 (.br 3 (.br 5 (.br 6 (.br 7 (.br 8 (.take 9 .done) .nobr) .nobr) .nobr) .nobr) (.br 5 (.take 3 (.br 6 (.br 7 (.br 8 (.take 9 .done) .nobr) .nobr) .nobr)) .nobr)) (.br 3 (.br 2 (.br 5 (.br 6 (.br 7 (.br 8 (.take 9 .done) .nobr) .nobr) .nobr) .nobr) (.br 5 (.br 2 (.br 6 (.br 7 (.br 8 (.take 9 .done) .nobr) .nobr) .nobr) .nobr) .nobr)) (.br 5 (.take 3 (.br 2 (.br 6 (.br 7 (.br 8 (.take 9 .done) .nobr) .nobr) .nobr) .nobr)) .nobr)))))) ae ?_
 simp only[tt,seval]
 all_goals try simp only[tt,seval,Cur.cs,cu,Tok.row]
 all_goals repeat' first|refine dO ?_ ?_|refine bz ?_ ?_
 all_goals
  refine CallQ.intro (cg c2 i2 6) ?_ ?_ ?_
  ·decide
  ·simp only[tt,seval,Cur.cs]
   decide
  rintro r os ⟨c3,⟨full,rfl⟩,rfl,i3⟩ hos
  simp only[tt,seval,Cur.cs,cu]
 all_goals repeat' first|refine lO ?_ ?_|refine eO ?_ ?_|refine eP ?_ ?_
 all_goals
  obtain⟨cq,hsm⟩:=I6 full hd hq
  have hs1:=hsm.1
  have cq:=cq [] (by simp only[List.length_nil];omega)
  rw[aF,List.nil_append] at cq
  generalize dP (dH full) (Query.mk qd qi qf qw qo ql)=L0 at *
 all_goals repeat' first|refine dO ?_ ?_|refine bz ?_ ?_
 all_goals
  refine cZ (cq) ?_ ?_
  ·simp only[tt,seval]
   decide
  simp only[tt,seval]
 all_goals repeat' first|refine dO ?_ ?_|refine bz ?_ ?_
 all_goals
  refine fe [10019] ?_
  simp only[tt,seval]
  refine Call1.intro (xy L0 (Nat.le_trans hsm.1 ah) (fun t ht=>Nat.le_trans (hsm.2 t ht) ah) c3 i3) ?_ ?_ ?_
  ·decide
  ·simp only[tt,seval,Cur.cs]
   decide
  rintro r os ⟨c4,⟨l,rfl,hl,hlt⟩,rfl,i4⟩ hos
  simp only[tt,seval,Cur.cs]
 all_goals repeat' first|refine dO ?_ ?_|refine bz ?_ ?_
 all_goals
  refine CallQ.intro (Ec c4 i4 l (Nat.le_trans hl (Nat.succ_le_succ (Nat.le_trans hsm.1 (by decide:60000<=99999)))) hlt) ?_ ?_ ?_
  ·decide
  ·simp only[tt,seval,Cur.cs]
   decide
  rintro r os ⟨c5,⟨s,rfl,hs⟩,rfl,i5⟩ hos
  simp only[tt,seval,Cur.cs]
 all_goals
  exact⟨_,_,⟨s,rfl,hs⟩,ap rfl⟩
end Go.Proofs.YtbodcedhmccenaaGreatDoor
set_option maxRecDepth 8000
namespace Go.Proofs.YtbodcedhmccenaaGreatDoor
open Go Go.Dv
open Go.Vc (D dg dh cX bk)
theorem I7 (v:Val) (w:World):(Op.equalIn 10000 49 (.agg [.int .i64 v.kind,.int .i64 v.num,.string v.text].toArray) (.agg [.int .i64 v.kind,.int .i64 v.num,.string v.text].toArray)).run Tryz.prog w = .ok true w:=by
 refine Go.Vc.equalIn_fk (ks:=[(0,.int),(1,.int),(2,.str)]) ae ae ae ?_ w
 simp only[Go.Vc.eqFK,List.getElem?_cons_zero,List.getElem?_cons_succ]
 simp
theorem rL (l:List Expr) (h:∀x∈l,Cl Tryz.prog 29 [.ag (ar x.row),.ag (ar x.row)] [] fun r _=>r=vb true):Cl Tryz.prog 76 [.c (.sl l.length (l.flatMap Expr.row) none),.c (.sl l.length (l.flatMap Expr.row) none)] [] fun r _=>r=vb true:=by
 refine ai ac false Tryz.func76 rfl ae ?_
 simp only[Tryz.f76,tt,seval]
 refine fun _=>?_
 refine fun _=>?_
 refine dLoop.intro (fun f L p=>∃i:Nat,f 5=vi i/\i<=l.length/\L=([]:Ob)/\p=none) (fun f _ _=>(l.length-eH (f 5)).toNat) ([]:Ob) none ⟨ao _,aq _,?_⟩ ?_
 ·simp only[tt,seval]
  exact⟨0,rfl,aa⟩
 ·rintro g L p ⟨i,ix,hi,rfl,rfl⟩
  simp only[tt,seval] at ix
  simp only[tt,seval,ix,Int.ofNat_lt]
  refine fun _=>ab (fun hlt=>?_) (fun hge=>?_)
  ·have hlt:i<l.length:=by omega
   refine dDrawn.intro [] (j3 [0,2,4,6,8,10,12,14,17,18]) ae ?_
   simp only[tt,seval]
   simp only[tt,seval,ix]
   refine⟨aa,aa,_,aH aQ (aD hlt),Expr.ne _ _,?_⟩
   simp only[seval,Expr.tk,aQ]
   refine⟨aa,aa,_,aH aQ (aD hlt),Expr.ne _ _,?_⟩
   simp only[seval,Expr.tk,aQ]
   refine cZ (h l[i] (aO hlt)) ?_ ?_<;>simp only[tt,seval,ix]
   try rw[eS i aa]
   exact⟨_,none,ao _,aq _,⟨i+1,rfl,aa,rfl,rfl⟩,aB⟩
  ·try simp only[tt,seval]
   exact⟨_,_,rfl,ap rfl⟩
set_option maxHeartbeats 4000000 in
theorem sI (kind op:Int) (not:Bool) (val:Val) (qual name:ByteArray) (kids:List Expr) (sub:List Query) (hk:∀x∈kids,Cl Tryz.prog 29 [.ag (ar x.row),.ag (ar x.row)] [] fun r _=>r=vb true) (hs:∀q∈sub,Cl Tryz.prog 23 [.ag (ar q.row),.ag (ar q.row)] [] fun r _=>r=vb true):Cl Tryz.prog 29 [.ag (ar (Expr.mk kind op not val qual name kids sub).row),.ag (ar (Expr.mk kind op not val qual name kids sub).row)] [] fun r _=>r=vb true:=by
 rw[al]
 refine ai ac false Tryz.func29 rfl ae ?_
 simp only[Tryz.f29,tt,seval]
 rw[dw ae (I7 val)]
 simp only[tt,seval]
 refine fun _=>?_
 refine fun _=>?_
 refine cZ (rL kids hk) ?_ ?_<;>simp only[tt,seval]
 refine dLoop.intro (fun f L p=>∃i:Nat,f 5=vi i/\i<=sub.length/\L=[(2,.str [.v (.int .i64 kind),.v (.int .i64 op),.v (.bool not),.v (.int .i64 val.kind),.v (.int .i64 val.num),.v (.string val.text),.v (.string qual),.v (.string name),.sl kids.length (kids.flatMap Expr.row) none,.sl sub.length (sub.flatMap Query.row) none]),(3,.str [.v (.int .i64 kind),.v (.int .i64 op),.v (.bool not),.v (.int .i64 val.kind),.v (.int .i64 val.num),.v (.string val.text),.v (.string qual),.v (.string name),.sl kids.length (kids.flatMap Expr.row) none,.sl sub.length (sub.flatMap Query.row) none])]/\p=none) (fun f _ _=>(sub.length-eH (f 5)).toNat) [(2,.str [.v (.int .i64 kind),.v (.int .i64 op),.v (.bool not),.v (.int .i64 val.kind),.v (.int .i64 val.num),.v (.string val.text),.v (.string qual),.v (.string name),.sl kids.length (kids.flatMap Expr.row) none,.sl sub.length (sub.flatMap Query.row) none]),(3,.str [.v (.int .i64 kind),.v (.int .i64 op),.v (.bool not),.v (.int .i64 val.kind),.v (.int .i64 val.num),.v (.string val.text),.v (.string qual),.v (.string name),.sl kids.length (kids.flatMap Expr.row) none,.sl sub.length (sub.flatMap Query.row) none])] none ⟨ak rfl (ak rfl (ao _)),aq _,?_⟩ ?_
 ·simp only[tt,seval]
  exact⟨0,rfl,aa⟩
 ·rintro g L p ⟨i,ix,hi,rfl,rfl⟩
  simp only[tt,seval] at ix
  simp only[tt,seval,ix,Int.ofNat_lt]
  refine fun _=>ab (fun hlt=>?_) (fun hge=>?_)
  ·have hlt:i<sub.length:=by omega
   refine dDrawn.intro [] (j3 [0,2,4,6,8,10,12,14,16,18,21,22]) ae ?_
   simp only[tt,seval]
   simp only[tt,seval,ix]
   refine⟨aa,aa,_,aH Query.row_len (aD hlt),Query.ne _ _,?_⟩
   simp only[seval,Query.tk,Query.row_len]
   refine⟨aa,aa,_,aH Query.row_len (aD hlt),Query.ne _ _,?_⟩
   simp only[seval,Query.tk,Query.row_len]
   refine cZ (hs sub[i] (aO hlt)) ?_ ?_<;>simp only[tt,seval,ix]
   try rw[eS i aa]
   exact⟨_,none,ak rfl (ak rfl (ao _)),aq _,⟨i+1,rfl,aa,rfl,rfl⟩,aB⟩
  ·try simp only[tt,seval]
   exact⟨_,_,rfl,ap rfl⟩
def x8:Query->List Expr | .mk _ items from_ where_ order _=>items.map Item.e++from_.flatMap Source.on++where_++order.map SortKey.e
theorem FT {q:Query} {x:Expr} (h:x∈x8 q):SizeOf.sizeOf x<SizeOf.sizeOf q:=by
 obtain⟨d,it,fr,wh,od,li⟩:=q
 rw[Query.mk.sizeOf_spec]
 simp only[x8,List.mem_append] at h
 rcases h with ((h|h)|h)|h
 ·obtain⟨⟨s,q,e,a⟩,hm,rfl⟩:=List.mem_map.1 h
  have h1:=List.sizeOf_lt_of_mem hm
  rw[Item.mk.sizeOf_spec] at h1
  show SizeOf.sizeOf e < _
  omega
 ·obtain⟨⟨t,a,on⟩,hm,hx⟩:=List.mem_flatMap.1 h
  have h1:=List.sizeOf_lt_of_mem hm
  have h2:=List.sizeOf_lt_of_mem (show x∈on from hx)
  rw[Source.mk.sizeOf_spec] at h1
  omega
 ·have:=List.sizeOf_lt_of_mem h;omega
 ·obtain⟨⟨e,d⟩,hm,rfl⟩:=List.mem_map.1 h
  have h1:=List.sizeOf_lt_of_mem hm
  rw[SortKey.mk.sizeOf_spec] at h1
  show SizeOf.sizeOf e < _
  omega
set_option maxHeartbeats 8000000 in
theorem rM (distinct:Bool) (items:List Item) (from_:List Source) (where_:List Expr) (order:List SortKey) (limit:Int) (hx:∀x∈x8 (Query.mk distinct items from_ where_ order limit),Cl Tryz.prog 29 [.ag (ar x.row),.ag (ar x.row)] [] fun r _=>r=vb true):Cl Tryz.prog 23 [.ag (ar (Query.mk distinct items from_ where_ order limit).row),.ag (ar (Query.mk distinct items from_ where_ order limit).row)] [] fun r _=>r=vb true:=by
 have hI:∀x∈items,Cl Tryz.prog 29 [.ag (ar x.e.row),.ag (ar x.e.row)] [] fun r _=>r=vb true:=fun x h=>hx _ (by simp only[x8,List.mem_append];exact .inl (.inl (.inl (List.mem_map.2 ⟨x,h,rfl⟩))))
 have hF:∀x∈from_,∀y∈x.on,Cl Tryz.prog 29 [.ag (ar y.row),.ag (ar y.row)] [] fun r _=>r=vb true:=fun x h y h2=>hx _ (by simp only[x8,List.mem_append];exact .inl (.inl (.inr (List.mem_flatMap.2 ⟨x,h,h2⟩))))
 have hw:∀y∈where_,Cl Tryz.prog 29 [.ag (ar y.row),.ag (ar y.row)] [] fun r _=>r=vb true:=fun y h=>hx _ (by simp only[x8,List.mem_append];exact .inl (.inr h))
 have hO:∀x∈order,Cl Tryz.prog 29 [.ag (ar x.e.row),.ag (ar x.e.row)] [] fun r _=>r=vb true:=fun x h=>hx _ (by simp only[x8,List.mem_append];exact .inr (List.mem_map.2 ⟨x,h,rfl⟩))
 rw[aF]
 refine ai ac false Tryz.func23 rfl ae ?_
 simp only[Tryz.f23,tt,seval]
 (repeat refine fun _=>?_)
 refine cZ (rL where_ hw) ?_ ?_<;>simp only[tt,seval]
 refine dLoop.intro (fun f L p=>∃i:Nat,f 5=vi i/\i<=items.length/\L=[(2,.str [.v (.bool distinct),.sl items.length (items.flatMap Item.row) none,.sl from_.length (from_.flatMap Source.row) none,.sl where_.length (where_.flatMap Expr.row) none,.sl order.length (order.flatMap SortKey.row) none,.v (.int .i64 limit)]),(3,.str [.v (.bool distinct),.sl items.length (items.flatMap Item.row) none,.sl from_.length (from_.flatMap Source.row) none,.sl where_.length (where_.flatMap Expr.row) none,.sl order.length (order.flatMap SortKey.row) none,.v (.int .i64 limit)])]/\p=none) (fun f _ _=>(items.length-eH (f 5)).toNat) [(2,.str [.v (.bool distinct),.sl items.length (items.flatMap Item.row) none,.sl from_.length (from_.flatMap Source.row) none,.sl where_.length (where_.flatMap Expr.row) none,.sl order.length (order.flatMap SortKey.row) none,.v (.int .i64 limit)]),(3,.str [.v (.bool distinct),.sl items.length (items.flatMap Item.row) none,.sl from_.length (from_.flatMap Source.row) none,.sl where_.length (where_.flatMap Expr.row) none,.sl order.length (order.flatMap SortKey.row) none,.v (.int .i64 limit)])] none ⟨ak rfl (ak rfl (ao _)),aq _,?_⟩ ?_
 ·simp only[tt,seval]
  exact⟨0,rfl,aa⟩
 ·rintro g L p ⟨i,ix,hi,rfl,rfl⟩
  simp only[tt,seval] at ix
  simp only[tt,seval,ix,Int.ofNat_lt]
  refine fun _=>ab (fun hlt=>?_) (fun hge=>?_)
  ·have hlt:i<items.length:=by omega
   obtain⟨it,bu⟩:∃it,it=items[i]:=⟨_,rfl⟩
   have hi2:=hI items[i] (aO hlt)
   rw[<-bu] at hi2
   refine⟨aa,aa,_,aH Item.row_len (aD hlt),Item.ne _ _,?_⟩
   rw[<-bu]
   obtain⟨star,qual,e,as_⟩:=it
   have hi2:Cl Tryz.prog 29 [.ag (ar e.row),.ag (ar e.row)] [] fun r _=>r=vb true:=hi2
   obtain⟨k,o,n,v,q,m,ks,ss⟩:=e
   rw[al] at hi2
   simp only[tt,seval,Item.row_mk,al]
   refine⟨aa,aa,_,aH Item.row_len (aD hlt),Item.ne _ _,?_⟩
   rw[<-bu]
   simp only[tt,seval,Item.row_mk,al]
   refine cZ (hi2) ?_ ?_<;>simp only[tt,seval,ix]
   try rw[eS i aa]
   exact⟨_,none,ak rfl (ak rfl (ao _)),aq _,⟨i+1,rfl,aa,rfl,rfl⟩,aB⟩
  ·try simp only[tt,seval]
   refine dLoop.intro (fun f L p=>∃i:Nat,f 8=vi i/\i<=from_.length/\L=[(2,.str [.v (.bool distinct),.sl items.length (items.flatMap Item.row) none,.sl from_.length (from_.flatMap Source.row) none,.sl where_.length (where_.flatMap Expr.row) none,.sl order.length (order.flatMap SortKey.row) none,.v (.int .i64 limit)]),(3,.str [.v (.bool distinct),.sl items.length (items.flatMap Item.row) none,.sl from_.length (from_.flatMap Source.row) none,.sl where_.length (where_.flatMap Expr.row) none,.sl order.length (order.flatMap SortKey.row) none,.v (.int .i64 limit)])]/\p=none) (fun f _ _=>(from_.length-eH (f 8)).toNat) [(2,.str [.v (.bool distinct),.sl items.length (items.flatMap Item.row) none,.sl from_.length (from_.flatMap Source.row) none,.sl where_.length (where_.flatMap Expr.row) none,.sl order.length (order.flatMap SortKey.row) none,.v (.int .i64 limit)]),(3,.str [.v (.bool distinct),.sl items.length (items.flatMap Item.row) none,.sl from_.length (from_.flatMap Source.row) none,.sl where_.length (where_.flatMap Expr.row) none,.sl order.length (order.flatMap SortKey.row) none,.v (.int .i64 limit)])] none ⟨ak rfl (ak rfl (ao _)),aq _,?_⟩ ?_
   ·simp only[tt,seval]
    exact⟨0,rfl,aa⟩
   ·rintro g L p ⟨i,ix,hi,rfl,rfl⟩
    simp only[tt,seval] at ix
    simp only[tt,seval,ix,Int.ofNat_lt]
    refine fun _=>ab (fun hlt=>?_) (fun hge=>?_)
    ·have hlt:i<from_.length:=by omega
     obtain⟨it,bu⟩:∃it,it=from_[i]:=⟨_,rfl⟩
     have hf2:=hF from_[i] (aO hlt)
     rw[<-bu] at hf2
     refine⟨aa,aa,_,aH Source.row_len (aD hlt),Source.ne _ _,?_⟩
     rw[<-bu]
     obtain⟨table,as_,on⟩:=it
     have hf2:∀y∈on,Cl Tryz.prog 29 [.ag (ar y.row),.ag (ar y.row)] [] fun r _=>r=vb true:=hf2
     simp only[tt,seval,Source.row_mk]
     refine⟨aa,aa,_,aH Source.row_len (aD hlt),Source.ne _ _,?_⟩
     rw[<-bu]
     simp only[tt,seval,Source.row_mk]
     refine cZ (rL on hf2) ?_ ?_<;>simp only[tt,seval,ix]
     try rw[eS i aa]
     exact⟨_,none,ak rfl (ak rfl (ao _)),aq _,⟨i+1,rfl,aa,rfl,rfl⟩,aB⟩
    ·try simp only[tt,seval]
     refine dLoop.intro (fun f L p=>∃i:Nat,f 11=vi i/\i<=order.length/\L=[(2,.str [.v (.bool distinct),.sl items.length (items.flatMap Item.row) none,.sl from_.length (from_.flatMap Source.row) none,.sl where_.length (where_.flatMap Expr.row) none,.sl order.length (order.flatMap SortKey.row) none,.v (.int .i64 limit)]),(3,.str [.v (.bool distinct),.sl items.length (items.flatMap Item.row) none,.sl from_.length (from_.flatMap Source.row) none,.sl where_.length (where_.flatMap Expr.row) none,.sl order.length (order.flatMap SortKey.row) none,.v (.int .i64 limit)])]/\p=none) (fun f _ _=>(order.length-eH (f 11)).toNat) [(2,.str [.v (.bool distinct),.sl items.length (items.flatMap Item.row) none,.sl from_.length (from_.flatMap Source.row) none,.sl where_.length (where_.flatMap Expr.row) none,.sl order.length (order.flatMap SortKey.row) none,.v (.int .i64 limit)]),(3,.str [.v (.bool distinct),.sl items.length (items.flatMap Item.row) none,.sl from_.length (from_.flatMap Source.row) none,.sl where_.length (where_.flatMap Expr.row) none,.sl order.length (order.flatMap SortKey.row) none,.v (.int .i64 limit)])] none ⟨ak rfl (ak rfl (ao _)),aq _,?_⟩ ?_
     ·simp only[tt,seval]
      exact⟨0,rfl,aa⟩
     ·rintro g L p ⟨i,ix,hi,rfl,rfl⟩
      simp only[tt,seval] at ix
      simp only[tt,seval,ix,Int.ofNat_lt]
      refine fun _=>ab (fun hlt=>?_) (fun hge=>?_)
      ·have hlt:i<order.length:=by omega
       obtain⟨it,bu⟩:∃it,it=order[i]:=⟨_,rfl⟩
       have hi2:=hO order[i] (aO hlt)
       rw[<-bu] at hi2
       obtain⟨e,de⟩:=it
       have hi2:Cl Tryz.prog 29 [.ag (ar e.row),.ag (ar e.row)] [] fun r _=>r=vb true:=hi2
       obtain⟨k,o,n,v,q,m,ks,ss⟩:=e
       rw[al] at hi2
       have hx1:order[i]?=some (SortKey.mk (Expr.mk k o n v q m ks ss) de):=by rw[bu];exact aD hlt
       refine dDrawn.intro [] (j3 [0,2,4,6,8,10,12,14,16,18,20,22,24,26,28,30,32,34,36,38,40,42,44,46,48,50,53,54,56]) ae ?_
       simp only[tt,seval]
       simp only[tt,seval,ix]
       refine⟨aa,aa,_,aH SortKey.row_len (aD hlt),SortKey.ne _ _,?_⟩
       rw[<-bu]
       simp only[tt,seval,SortKey.row_mk,al]
       refine⟨aa,aa,_,aH SortKey.row_len (aD hlt),SortKey.ne _ _,?_⟩
       rw[<-bu]
       simp only[tt,seval,ix,SortKey.row_mk,al]
       refine⟨aa,aa,_,aH SortKey.row_len (aD hlt),SortKey.ne _ _,?_⟩
       rw[<-bu]
       simp only[tt,seval,SortKey.row_mk,al]
       refine⟨aa,aa,_,aH SortKey.row_len (aD hlt),SortKey.ne _ _,?_⟩
       rw[<-bu]
       simp only[tt,seval,SortKey.row_mk,al]
       refine cZ (hi2) ?_ ?_<;>simp only[tt,seval,ix]
       try rw[eS i aa]
       exact⟨_,none,ak rfl (ak rfl (ao _)),aq _,⟨i+1,rfl,aa,rfl,rfl⟩,aB⟩
      ·try simp only[tt,seval]
       exact⟨_,_,rfl,ap rfl⟩
theorem Dy (n:Nat):(∀e:Expr,SizeOf.sizeOf e<n->Cl Tryz.prog 29 [.ag (ar e.row),.ag (ar e.row)] [] fun r _=>r=vb true)/\∀q:Query,SizeOf.sizeOf q<n->Cl Tryz.prog 23 [.ag (ar q.row),.ag (ar q.row)] [] fun r _=>r=vb true:=by
 induction n with
 |zero=>exact⟨fun _ h=>absurd h (Nat.not_lt_zero _),fun _ h=>absurd h (Nat.not_lt_zero _)⟩
 |succ n ih=>
  refine⟨fun e he=>?_,fun q hq=>?_⟩
  ·obtain⟨kind,op,not,val,qual,name,kids,sub⟩:=e
   rw[Expr.mk.sizeOf_spec] at he
   exact sI kind op not val qual name kids sub (fun x hx=>ih.1 x (by have:=List.sizeOf_lt_of_mem hx;omega)) fun q hq=>ih.2 q (by have:=List.sizeOf_lt_of_mem hq;omega)
  ·have h2:∀x∈x8 q,SizeOf.sizeOf x<n:=fun x hx=>by have:=FT hx;omega
   obtain⟨distinct,items,from_,where_,order,limit⟩:=q
   exact rM distinct items from_ where_ order limit fun x hx=>ih.1 x (h2 x hx)
theorem xb (q:Query):Cl Tryz.prog 23 [.ag (ar q.row),.ag (ar q.row)] [] fun r _=>r=vb true:=(Dy _).2 q (Nat.lt_succ_self _)
def kt (t:Tok):Int×ByteArray:=(t.kind,t.text)
def I8 (L:List Tok) (a b:Nat):List Tok:=(L.drop a).take (b-a)
def Su (L l:List Tok) (a b:Nat):Prop:=a<=b/\(l.map kt).Sublist ((I8 L a b).map kt)
section
variable {L:List Tok}
theorem FU {a b c:Nat} (h:a<=b) (k:b<=c):I8 L a c=I8 L a b++I8 L b c:=by
 unfold I8
 have e:c-a=(b-a)+(c-b):=by omega
 rw[e,List.take_add,List.drop_drop,show a+(b-a)=b by omega]
theorem Su.app {l m:List Tok} {a b c:Nat} (h:Su L l a b) (k:Su L m b c):Su L (l++m) a c:=⟨Nat.le_trans h.1 k.1,by
 rw[FU h.1 k.1,List.map_append,List.map_append]
 exact h.2.append k.2⟩
theorem Su.nil {a b:Nat} (h:a<=b):Su L [] a b:=⟨h,List.nil_sublist _⟩
theorem Su.sub {l m:List Tok} {a b:Nat} (h:Su L l a b) (k:m.Sublist l):Su L m a b:=⟨h.1,(k.map kt).trans h.2⟩
theorem Su.one {t u:Tok} {a:Nat} (h:L[a]?=some u) (k:u.kind=t.kind) (m:u.text=t.text):Su L [t] a (a+1):=by
 obtain⟨hl,e⟩:=List.getElem?_eq_some_iff.1 h
 refine⟨Nat.le_succ _,?_⟩
 unfold I8
 rw[List.drop_eq_getElem_cons hl,show a+1-a=1 by omega,List.take_succ_cons,List.take_zero,e]
 show List.Sublist [kt t] [kt u]
 rw[show kt u=kt t by unfold kt;rw[k,m]]
 exact List.Sublist.refl _
theorem Dz {s:PS} {j:Nat} {kind:Int} {x:ByteArray} (h:jp L s j kind x=true) (a:Int):Su L [⟨kind,x,a⟩] (s.a+j) (s.a+j+1):=by
 unfold jp at h
 split at h
 ·rename_i t ht
  unfold gK at ht
  split at ht
  ·cases ht
  ·simp only[Bool.and_eq_true,decide_eq_true_eq] at h
   exact Su.one ht h.1 h.2
 ·cases h
theorem fu {s:PS} {k:Nat} (h:aw L s k=true):Su L [kT k] s.a (s.a+1):=Dz (j:=0) h 0
theorem rN {s:PS} {c:UInt8} (h:bt L s c=true):Su L [gT ⟨#[c]⟩] s.a (s.a+1):=Dz (j:=0) h 0
theorem Bj {s:PS} {kind:Int} (h:iZ L s kind=true) (a:Int):Su L [⟨kind,bv L s,a⟩] s.a (s.a+1):=by
 unfold iZ at h
 unfold bv
 split at h
 ·rename_i t ht
  simp only[Bool.and_eq_true,decide_eq_true_eq] at h
  unfold gK at ht
  split at ht
  ·cases ht
  ·exact Su.one ht h.1 rfl
 ·cases h
theorem I9 {s:PS} {kind:Int} (h:iZ L s kind=true):aJ ⟨kind,bv L s,0⟩=true:=by
 unfold iZ at h
 unfold bv
 split at h
 ·rename_i t ht
  simp only[Bool.and_eq_true,decide_eq_true_eq] at h
  obtain⟨rfl,h2⟩:=h
  exact h2
 ·cases h
theorem GP {s:PS} {op:Nat} (h:j0 L s op=true) (h1:op<=14):Su L [cy op] s.a (s.a+1):=by
 have:=Dz (j:=0) h 0
 unfold cy
 by_cases c:op=1∨op=2
 ·rw[if_pos c] at this
  rw[if_pos aa];exact this
 ·rw[if_neg c] at this
  rw[if_neg aa];exact this
theorem pn {s:PS}:∀ {l:List Nat},fI L s l≠0->j0 L s (fI L s l)=true/\fI L s l∈l
 | [],h=>absurd rfl h
 |op::r,h=>by
  unfold fI at h ⊢
  split
  ·rename_i hh;exact⟨hh,by simp⟩
  ·rename_i hh
   rw[if_neg hh] at h
   have:=pn h
   exact⟨this.1,by simp [this.2]⟩
theorem Ok.nb {s t:PS} (h:Ok L s t) (hb:t.b=false):s.b=false:=by
 cases e:s.b with
 |false=>rfl
 |true=>rw[h.2.2 e,e] at hb;cases hb
theorem A8 {c:Bool} {s:PS} (h:(must c s).b=false):c=true/\must c s=adv s:=by
 cases c with
 |true=>exact⟨rfl,rfl⟩
 |false=>cases h
theorem xc {kind:Int} {s:PS} (h:(mText L kind s).2.b=false):iZ L s kind=true/\mText L kind s=(bv L s,adv s):=by
 unfold mText at h ⊢
 split
 ·rename_i hc;exact⟨hc,rfl⟩
 ·rename_i hc;rw[if_neg hc] at h;cases h
theorem DA {kind:Int} {s:PS} (h:(mText L kind s).2.b=false) (a:Int):Su L [⟨kind,(mText L kind s).1,a⟩] s.a (mText L kind s).2.a:=by
 obtain⟨h1,h2⟩:=xc h
 rw[h2];exact Bj h1 a
theorem mw {k:Nat} {s:PS} (h:(must (aw L s k) s).b=false):Su L [kT k] s.a (must (aw L s k) s).a:=by
 obtain⟨h1,h2⟩:=A8 h
 rw[h2];exact fu h1
theorem iG {c:UInt8} {s:PS} (h:(must (bt L s c) s).b=false):Su L [gT ⟨#[c]⟩] s.a (must (bt L s c) s).a:=by
 obtain⟨h1,h2⟩:=A8 h
 rw[h2];exact rN h1
theorem qq {k:Nat} {s:PS}:Su L (if aw L s k=true then [kT k] else []) s.a (tkIf (aw L s k) s).a:=by
 unfold tkIf
 by_cases h:aw L s k=true
 ·rw[if_pos h,if_pos h];exact fu h
 ·rw[if_neg h,if_neg h];exact Su.nil (Nat.le_refl _)
theorem oC {full:Bool} {g g':Expr->List Tok} {kind op:Int} {kids:List Expr} {k:Nat} (hk:k<kids.length) (h:∀x,x∈kids->g x=g' x):aP full g kind op kids k=aP full g' kind op kids k:=by
 unfold aP
 rw[h _ (by rw[List.getD_eq_getElem?_getD,aD hk];exact aO hk)]
theorem j7 {f f':Nat->List Tok} {n:Nat} (h:∀i,i<n->f i=f' i):bd f n=bd f' n:=by
 unfold bd
 rw[List.flatMap_def,List.flatMap_def,List.map_congr_left fun i hi=>h i (List.mem_range.1 hi)]
theorem yz {α:Type} {l:List α} {h h':α->List Tok} {i:Nat} (e:∀x,x∈l->h x=h' x):q8 l h i=q8 l h' i:=by
 unfold q8
 cases hx:l[i]? with
 |none=>rfl
 |some x=>exact e x (List.mem_of_getElem? hx)
theorem Ia {g g':Expr->List Tok} {q:Query} (h:∀x,x∈exprsQ q->g x=g' x):dP g q=dP g' q:=by
 obtain⟨d,it,fr,wh,od,li⟩:=q
 have e:exprsQ (.mk d it fr wh od li)=aY it++fr.flatMap Source.on++wh++od.map SortKey.e:=rfl
 rw[e] at h
 have h1:∀i,dd g it i=dd g' it i:=fun i=>by
  unfold dd
  rw[yz fun x hx=>?_]
  obtain⟨st,ql,e,a⟩:=x
  cases st with
  |true=>rfl
  |false=>
   have:e∈aY it:=List.mem_map.2 ⟨_,List.mem_filter.2 ⟨hx,rfl⟩,rfl⟩
   simp only[cK,h e (by simp [this])]
 have h2:∀i,dR g fr i=dR g' fr i:=fun i=>by
  unfold dR
  rw[yz fun x hx=>?_]
  obtain⟨tb,a,on⟩:=x
  cases on with
  |nil=>rfl
  |cons y r=>
   have:y∈fr.flatMap Source.on:=List.mem_flatMap.2 ⟨_,hx,by simp [Source.on]⟩
   simp only[fy,rE,h y (by simp [this])]
 have h3:nA g wh=nA g' wh:=by
  cases wh with
  |nil=>rfl
  |cons y r=>simp only[nA,h y (by simp)]
 have h4:∀i,eY g od i=eY g' od i:=fun i=>by
  unfold eY
  rw[yz fun x hx=>?_]
  obtain⟨e,d⟩:=x
  have:e∈od.map SortKey.e:=List.mem_map.2 ⟨_,hx,rfl⟩
  simp only[iF,h e (by simp [this])]
 simp only[dP]
 rw[j7 fun i _=>h1 i,j7 fun i _=>h2 i,h3,j7 fun i _=>h4 i]
def KJ (kind:Int) (n:Nat):Prop:=¬kind=1 -> ¬kind=2 -> ¬kind=9->1<=n/\(kind=4->2<=n)/\(kind=6->3<=n)
theorem kv {full:Bool} {kind op:Int} {not:Bool} {val:Val} {qual name:ByteArray} {kids:List Expr} {sub:List Query} (hs:KJ kind kids.length):dH full (.mk kind op not val qual name kids sub)=iO full (dH full) (.mk kind op not val qual name kids sub):=by
 unfold dH
 rw[dT]
 suffices H:∀g:Expr->List Tok,(∀x,x∈kids->g x=dT (iO full) x)->(∀q,q∈sub->∀x,x∈exprsQ q->g x=dT (iO full) x)->iO full g (.mk kind op not val qual name kids sub)=iO full (dT (iO full)) (.mk kind op not val qual name kids sub) from
  H _ (fun x hx=>dif_pos (ld (e:=.mk kind op not val qual name kids sub) (.inl hx))) (fun q hq x hx=>dif_pos (ld (e:=.mk kind op not val qual name kids sub) (.inr ⟨q,hq,hx⟩)))
 intro g hk hq
 have hsub:kK g sub=kK (dT (iO full)) sub:=by
  cases sub with
  |nil=>rfl
  |cons q r=>exact Ia (hq q (by simp))
 simp only[iO]
 by_cases k1:kind=1
 ·simp only[if_pos k1]
 by_cases k2:kind=2
 ·simp only[if_neg k1,if_pos k2]
 by_cases k9:kind=9
 ·have k3:¬kind=3:=by omega
  simp only[if_neg k1,if_neg k2,if_neg k3,if_pos k9,hsub]
 obtain⟨n1,n4,n6⟩:=hs k1 k2 k9
 have c0:=oC (full:=full) (kind:=kind) (op:=op) (k:=0) aa hk
 have cin:bd (oN full g kind op kids) (kids.length-1)=bd (oN full (dT (iO full)) kind op kids) (kids.length-1):=j7 fun i hi=>by
  unfold oN
  rw[oC aa hk]
 simp only[if_neg k1,if_neg k2,if_neg k9,c0,hsub,cin]
 by_cases k4:kind=4
 ·rw[oC (full:=full) (kind:=kind) (op:=op) (k:=1) (by have:=n4 k4;omega) hk]
  simp only[if_pos k4]
 by_cases k6:kind=6
 ·rw[oC (full:=full) (kind:=kind) (op:=op) (k:=1) (by have:=n6 k6;omega) hk,oC (full:=full) (kind:=kind) (op:=op) (k:=2) (by have:=n6 k6;omega) hk]
 ·simp only[if_neg k4,if_neg k6]
noncomputable def wr (n:Int) (e:Expr):List Tok:=jP (decide (kP e<n)) (dH false e)
theorem nw {kind op:Int} {kids:List Expr} {k:Nat}:aP false (dH false) kind op kids k=wr (nd kind op k) (kids.getD k zeroX):=by
 unfold aP wr Bf kE
 rw[Bool.false_and,Bool.or_false];rfl
theorem uT {n m:Int} (h:n<=m) (e:Expr):(wr n e).Sublist (wr m e):=by
 unfold wr jP
 by_cases h1:kP e<n
 ·rw[if_pos (az h1),if_pos (az aa)]
  exact List.Sublist.refl _
 ·rw[if_neg (by simpa using h1)]
  split
  ·exact (List.sublist_append_left _ _).cons _
  ·exact List.Sublist.refl _
theorem Ib (n:Int) (e:Expr):(wr n e).Sublist (iN::(dH false e++[iQ])):=by
 unfold wr jP
 split
 ·exact List.Sublist.refl _
 ·exact (List.sublist_append_left _ _).cons _
theorem kM {n:Int} {e:Expr} (h:n<=kP e):wr n e=dH false e:=by
 unfold wr jP
 rw[if_neg (by simpa using h)]
theorem tM {n:Int} {e:Expr}:(dH false e).Sublist (wr n e):=by
 unfold wr jP
 split
 ·exact (List.sublist_append_left _ _).cons _
 ·exact List.Sublist.refl _
end
section
variable {L:List Tok}
def Cn {α:Type} (L:List Tok) (m:PM α) (pr:α->List Tok):Prop:=∀s x s1,m s=some (x,s1)->s1.b=false->Su L (pr x) s.a s1.a
def sq {α:Type} (p0:List Tok) (pr:α->List Tok) (l:List α):List Tok:=bd (fun i=>(if i=0 then p0 else [dQ])++q8 l pr i) l.length
theorem yA {α:Type} (p0:List Tok) (pr:α->List Tok) (x:α):sq p0 pr [x]=p0++pr x:=by
 unfold sq bd q8
 simp
theorem FV {α:Type} (p0:List Tok) (pr:α->List Tok) {l:List α} (x:α) (h:l≠[]):sq p0 pr (l++[x])=sq p0 pr l++dQ::pr x:=by
 unfold sq
 rw[aC,List.length_singleton,da]
 have hp:0<l.length:=List.length_pos_iff.2 h
 have e1:bd (fun i=>(if i=0 then p0 else [dQ])++q8 (l++[x]) pr i) l.length=bd (fun i=>(if i=0 then p0 else [dQ])++q8 l pr i) l.length:=j7 fun i hi=>by
  unfold q8
  rw[List.getElem?_append_left hi]
 have e2:q8 (l++[x]) pr l.length=pr x:=by
  unfold q8
  rw[List.getElem?_append_right (Nat.le_refl _),Nat.sub_self];rfl
 rw[e1,e2,if_neg aa];rfl
theorem Cn.sep {α:Type} {m:PM α} {pr:α->List Tok} (p0:List Tok) (ok:OkM (L:=L) m) (hm:Cn L m pr):∀(n:Nat) (l:List α) (s:PS) (x:List α) (s1:PS) (a:Nat),f9 L m n l s=some (x,s1)->s1.b=false->l≠[]->Su L (sq p0 pr l) a s.a->Su L (sq p0 pr x) a s1.a
 |0,_,_,_,_,_,h,_,_,_=>by cases h
 |n+1,l,s,x,s1,a,h,hb,hl,hs=>by
  rw[f9] at h
  split at h
  ·rename_i hc
   split at h
   ·cases h
   ·rename_i y t hy
    have hb2:=(OkM.sep ok _ _ _ _ _ h).nb hb
    have h1:Su L [dQ] s.a (s.a+1):=rN hc
    have h2:Su L (pr y) (s.a+1) t.a:=hm _ _ _ hy hb2
    exact Cn.sep p0 ok hm n _ _ _ _ _ h hb (by simp) (by rw[FV _ _ _ hl];exact hs.app (h1.app h2))
  ·injection h with h;injection h with e1 e2
   rw[<-e1,<-e2];exact hs
theorem DB {op lv:Nat} (h:op∈fX lv):bl op=lv/\1<=op/\op<=14:=by
 unfold fX at h
 split at h
 ·rename_i e;simp at h;subst h e;decide
 split at h
 ·rename_i e;simp at h;subst h e;decide
 split at h
 ·rename_i e;simp at h;subst e
  rcases h with rfl|rfl|rfl|rfl|rfl|rfl<;>decide
 split at h
 ·rename_i e;simp at h;subst h e;decide
 split at h
 ·rename_i e;simp at h;subst e
  rcases h with rfl|rfl<;>decide
 split at h
 ·rename_i e;simp at h;subst e
  rcases h with rfl|rfl|rfl<;>decide
 ·cases h
theorem DC {op:Nat} (x y:Expr):dH false (ed op x y)=wr (nd 4 op 0) x++cy op::wr (nd 4 op 1) y:=by
 unfold ed
 rw[kv (fun _ _ _=>⟨by simp,fun _=>by simp,fun h=>by omega⟩)]
 simp only[iO,nw,if_true,show ¬((4:Int)=1) by decide,show ¬((4:Int)=2) by decide,show ¬((4:Int)=3) by decide,show ¬((4:Int)=9) by decide,if_false]
 rfl
theorem DD {op lv:Nat} (h:op∈fX lv) (x y:Expr):kP (ed op x y)=lv:=by
 show Go.Proofs.YtbodcedhmccenaaGreatDoor.lv 4 op=lv
 unfold Go.Proofs.YtbodcedhmccenaaGreatDoor.lv
 rw[if_pos rfl];exact (DB h).1
theorem Cn.chain {g:PM Expr} {lv:Nat} (h4:lv≠4) (ok:OkM (L:=L) g) (hg:Cn L g (wr (lv+1:Nat))):∀(n:Nat) (e:Expr) (s:PS) (x:Expr) (s1:PS) (a:Nat),bP L g lv n e s=some (x,s1)->s1.b=false->Su L (wr lv e) a s.a->Su L (wr lv x) a s1.a
 |0,_,_,_,_,_,h,_,_=>by cases h
 |n+1,e,s,x,s1,a,h,hb,hs=>by
  rw[bP] at h
  split at h
  ·injection h with h;injection h with e1 e2
   rw[<-e1,<-e2];exact hs
  ·rename_i ho
   split at h
   ·cases h
   ·rename_i y t hy
    have hb2:=(OkM.chain ok lv _ _ _ _ _ h).nb hb
    obtain⟨hh,hm⟩:=pn (L:=L) (s:=s) (l:=fX lv) ho
    have hop:=DB hm
    have hm':cn L s lv∈fX lv:=hm
    have h1:Su L [cy (cn L s lv)] s.a (s.a+1):=GP hh hop.2.2
    have h2:Su L (wr (lv+1:Nat) y) (s.a+1) t.a:=hg _ _ _ hy hb2
    have hlv:Go.Proofs.YtbodcedhmccenaaGreatDoor.lv 4 (cn L s lv:Nat)=lv:=by
     unfold Go.Proofs.YtbodcedhmccenaaGreatDoor.lv
     rw[if_pos rfl];exact hop.1
    have hb9:=nM (op:=(cn L s lv:Nat)) (by have:=hop.2.1;show (1:Int)<=((fI L s (fX lv):Nat):Int);omega) (by have:=hop.2.2;show ((fI L s (fX lv):Nat):Int)<=14;omega)
    have e9:bl (cn L s lv:Nat)=lv:=hop.1
    have n0:nd 4 (cn L s lv:Nat) 0=lv:=by
     unfold nd
     rw[hlv,if_neg aa,if_pos rfl,if_neg aa,if_pos rfl]
    have n1:nd 4 (cn L s lv:Nat) 1=(lv+1:Nat):=by
     unfold nd
     rw[hlv,if_neg aa,if_pos rfl,if_neg aa,if_neg aa];omega
    refine Cn.chain h4 ok hg n _ _ _ _ _ h hb ?_
    rw[kM (by rw[DD hm'];exact Int.le_refl _),DC,n0,n1]
    exact hs.app (h1.app h2)
theorem GQ {op:Int} (x:Expr):dH false (se op x)=cy op::wr (nd 3 op 0) x:=by
 unfold se
 rw[kv (fun _ _ _=>⟨by simp,fun h=>by omega,fun h=>by omega⟩)]
 simp only[iO,nw,if_true,show ¬((3:Int)=1) by decide,show ¬((3:Int)=2) by decide,if_false]
 rfl
theorem J5 {n:Bool} (x:Expr):dH false (bR 5 n [x] [])=wr 5 x++kT 16::(bw n++[kT 20]):=by
 unfold bR
 rw[kv (fun _ _ _=>⟨by simp,fun h=>by omega,fun h=>by omega⟩)]
 simp only[iO,nw,if_true,show ¬((5:Int)=1) by decide,show ¬((5:Int)=2) by decide,show ¬((5:Int)=3) by decide,show ¬((5:Int)=4) by decide,show ¬((5:Int)=9) by decide,if_false]
 rfl
theorem J6 {n:Bool} (x y z:Expr):dH false (bR 6 n [x,y,z] [])=wr 5 x++(bw n++kT 18::(wr 5 y++kT 13::wr 5 z)):=by
 unfold bR
 rw[kv (fun _ _ _=>⟨by simp,fun h=>by omega,fun h=>by simp⟩)]
 simp only[iO,nw,if_true,show ¬((6:Int)=1) by decide,show ¬((6:Int)=2) by decide,show ¬((6:Int)=3) by decide,show ¬((6:Int)=4) by decide,show ¬((6:Int)=5) by decide,show ¬((6:Int)=9) by decide,if_false]
 rfl
theorem DE {n:Bool} (x:Expr) (q:Query):dH false (bR 8 n [x] [q])=wr 5 x++(bw n++kT 17::iN::(dP (dH false) q++[iQ])):=by
 unfold bR
 rw[kv (fun _ _ _=>⟨by simp,fun h=>by omega,fun h=>by omega⟩)]
 simp only[iO,nw,if_true,show ¬((8:Int)=1) by decide,show ¬((8:Int)=2) by decide,show ¬((8:Int)=3) by decide,show ¬((8:Int)=4) by decide,show ¬((8:Int)=5) by decide,show ¬((8:Int)=6) by decide,show ¬((8:Int)=9) by decide,if_false]
 rfl
theorem J7 {n:Bool} (x:Expr) (l:List Expr):dH false (bR 7 n (x::l) [])=wr 5 x++(bw n++kT 17::iN::(sq [] (wr 1) l++[iQ])):=by
 unfold bR
 rw[kv (fun _ _ _=>⟨by simp,fun h=>by omega,fun h=>by omega⟩)]
 simp only[iO,nw,show ¬((7:Int)=1) by decide,show ¬((7:Int)=2) by decide,show ¬((7:Int)=3) by decide,show ¬((7:Int)=4) by decide,show ¬((7:Int)=5) by decide,show ¬((7:Int)=6) by decide,show ¬((7:Int)=8) by decide,show ¬((7:Int)=9) by decide,if_false]
 have e:bd (oN false (dH false) 7 0 (x::l)) ((x::l).length-1)=sq [] (wr 1) l:=by
  unfold sq
  rw[List.length_cons,Nat.add_sub_cancel]
  refine j7 fun i hi=>?_
  unfold oN
  rw[nw]
  have e1:(x::l).getD (i+1) zeroX=l[i]:=by
   rw[List.getD_eq_getElem?_getD,List.getElem?_cons_succ,aD hi];rfl
  have e2:nd 7 0 (i+1)=1:=by
   unfold nd
   rw[if_neg ah,if_neg ah,if_neg ah,if_pos ⟨rfl,aa⟩]
  rw[e1,e2,ea hi]
  unfold jQ
  by_cases h0:i=0
  ·rw[if_neg aa,if_pos h0]
  ·rw[if_pos aa,if_neg h0]
 rw[e]
 rfl
theorem J8 (q:Query):dH false (bR 9 false [] [q])=kT 19::iN::(dP (dH false) q++[iQ]):=by
 unfold bR
 rw[kv (fun _ _ h=>absurd rfl h)]
 simp only[iO,if_true,show ¬((9:Int)=1) by decide,show ¬((9:Int)=2) by decide,show ¬((9:Int)=3) by decide,if_false]
 rfl
theorem Ic (v:Val):dH false (dj v)=[eR v]:=by
 unfold dj
 rw[kv (fun h=>absurd rfl h)]
 simp only[iO,if_true]
theorem DF (q n:ByteArray):dH false (lg q n)=cF q++[nT n]:=by
 unfold lg
 rw[kv (fun _ h=>absurd rfl h)]
 simp only[iO,if_true,show ¬((2:Int)=1) by decide,if_false]
theorem DG {x:ByteArray} (h:iY x=true):d5 (fG x)=x:=by
 unfold iY at h
 unfold fG
 obtain⟨m,hm⟩:=Option.isSome_iff_exists.1 h
 have h2:=(d7.1 hm).2
 rw[hm]
 show d5 ((m:Nat):Int)=x
 rw[Cd (x:=x) h2.symm]
 show (⟨(Go.Lib.itoa ((m:Nat):Int)).toArray⟩:ByteArray)=_
 rw[l8]
end
section
variable {L:List Tok}
theorem GR {s:PS} (h:(asM L s).2.b=false):Su L (cQ (asM L s).1) s.a (asM L s).2.a:=by
 unfold asM at h ⊢
 split
 ·rename_i hc
  rw[if_pos hc] at h
  have h1:=DA h 0
  have h2:Su L ([kT 12]++[nT (mText L 2 (adv s)).1]) s.a (mText L 2 (adv s)).2.a:=(fu hc).app h1
  unfold cQ
  split
  ·exact Su.nil h2.1
  ·exact h2
 ·exact Su.nil (Nat.le_refl _)
theorem A9 {q:ByteArray} {l:List Tok} {a b:Nat} (h:Su L ([nT q]++([Ix]++l)) a b):Su L (cF q++l) a b:=by
 unfold cF
 split
 ·exact h.sub ((List.sublist_append_right _ _).trans (List.sublist_append_right _ _))
 ·exact h
theorem Aa {s:PS} (h:iZ L s 3=true):Su L [iT (fG (bv L s))] s.a (s.a+1):=by
 have h1:=Bj h 0
 have h2:iY (bv L s)=true:=I9 h
 unfold iT
 rw[DG h2];exact h1
variable {f:Nat->PM Expr} {q:PM Query}
theorem Cn.prim (okf:∀lv,OkM (L:=L) (f lv)) (okq:OkM (L:=L) q) (hf:∀lv:Nat,Cn L (f lv) (wr lv)) (hq:Cn L q (dP (dH false))):Cn L (dk L f q) (wr (9:Nat)):=fun s x s1 h hb=>by
 have l9:∀v,wr ((9:Nat):Int) (dj v)=[eR v]:=fun v=>by rw[kM (show (9:Int)<=lv 1 0 by decide),Ic]
 unfold dk at h
 simp only at h
 split at h
 ·rename_i hc
  injection h with h;injection h with e1 e2;subst e1 e2
  rw[l9];exact Aa hc
 split at h
 ·rename_i hc
  injection h with h;injection h with e1 e2;subst e1 e2
  rw[l9];exact Bj hc 0
 split at h
 ·rename_i hc
  injection h with h;injection h with e1 e2;subst e1 e2
  rw[l9];exact fu hc
 split at h
 ·rename_i hc
  injection h with h;injection h with e1 e2;subst e1 e2
  rw[l9];exact fu hc
 split at h
 ·rename_i hc
  injection h with h;injection h with e1 e2;subst e1 e2
  rw[l9];exact fu hc
 split at h
 ·rename_i hc
  split at h
  ·rename_i hd
   injection h with h;injection h with e1 e2;subst e1 e2
   rw[kM (show (9:Int)<=lv 2 0 by decide),DF]
   exact A9 ((Bj hc 0).app ((rN hd).app (DA hb 0)))
  ·injection h with h;injection h with e1 e2;subst e1 e2
   rw[kM (show (9:Int)<=lv 2 0 by decide),DF]
   exact Bj hc 0
 split at h
 ·rename_i hc
  split at h
  ·cases h
  ·rename_i e t ht
   injection h with h;injection h with e1 e2;subst e1 e2
   have hb2:=(Ok.must (L:=L) (s:=t) (c:=bt L t 41) fun h=>aK h).nb hb
   have h1:Su L (wr (1:Nat) e) (s.a+1) t.a:=hf 1 _ _ _ ht hb2
   exact ((rN hc).app ((h1.sub tM).app (iG hb))).sub (Ib _ _)
 split at h
 ·rename_i hc
  split at h
  ·cases h
  ·rename_i y t ht
   injection h with h;injection h with e1 e2;subst e1 e2
   have hb2:=(Ok.must (L:=L) (s:=t) (c:=bt L t 41) fun h=>aK h).nb hb
   have hb3:=(okq _ _ _ ht).nb hb2
   rw[kM (show (9:Int)<=lv 9 0 by decide),J8]
   have h1:Su L (dP (dH false) y) (must (bt L (adv s) 40) (adv s)).a t.a:=hq _ _ _ ht hb2
   exact (fu hc).app ((iG hb3).app (h1.app (iG hb)))
 ·injection h with h;injection h with e1 e2;subst e1 e2
  cases hb
theorem Cn.ors (okf:∀lv,OkM (L:=L) (f lv)) (okq:OkM (L:=L) q) (hf:∀lv:Nat,Cn L (f lv) (wr lv)) (hq:Cn L q (dP (dH false))):Cn L (kd L f) (sq [] (wr 1)):=fun s x s1 h hb=>by
 unfold kd at h
 split at h
 ·cases h
 ·rename_i e t ht
  have hb2:=(OkM.sep (okf 1) _ _ _ _ _ h).nb hb
  have h1:Su L (wr (1:Nat) e) s.a t.a:=hf 1 _ _ _ ht hb2
  refine Cn.sep [] (okf 1) (hf 1) _ _ _ _ _ s.a h hb (by simp) ?_
  rw[yA];exact h1
theorem Cn.inn (okf:∀lv,OkM (L:=L) (f lv)) (okq:OkM (L:=L) q) (hf:∀lv:Nat,Cn L (f lv) (wr lv)) (hq:Cn L q (dP (dH false))) (e:Expr) (n:Bool) (s:PS) (x:Expr) (s1:PS) (a:Nat) (h:sf L f q e n s=some (x,s1)) (hb:s1.b=false) (hs:Su L (wr 5 e++(bw n++[kT 17])) a s.a):Su L (wr (4:Nat) x) a s1.a:=by
 unfold sf at h
 simp only at h
 split at h
 ·split at h
  ·cases h
  ·rename_i y t ht
   injection h with h;injection h with e1 e2;subst e1 e2
   have hb2:=(Ok.must (L:=L) (s:=t) (c:=bt L t 41) fun h=>aK h).nb hb
   have hb3:=(okq _ _ _ ht).nb hb2
   rw[kM (show (4:Int)<=lv 8 0 by decide),DE]
   have h1:Su L (dP (dH false) y) (must (bt L s 40) s).a t.a:=hq _ _ _ ht hb2
   have:=hs.app ((iG hb3).app (h1.app (iG hb)))
   simpa [aL,iN,iQ] using this
 ·split at h
  ·cases h
  ·rename_i l t ht
   injection h with h;injection h with e1 e2;subst e1 e2
   have hb2:=(Ok.must (L:=L) (s:=t) (c:=bt L t 41) fun h=>aK h).nb hb
   have hb3:=(OkM.ors okf _ _ _ ht).nb hb2
   rw[kM (show (4:Int)<=lv 7 0 by decide),J7]
   have h1:Su L (sq [] (wr 1) l) (must (bt L s 40) s).a t.a:=Cn.ors okf okq hf hq _ _ _ ht hb2
   have:=hs.app ((iG hb3).app (h1.app (iG hb)))
   simpa [aL,iN,iQ] using this
theorem Cn.cmpT (okf:∀lv,OkM (L:=L) (f lv)) (okq:OkM (L:=L) q) (hf:∀lv:Nat,Cn L (f lv) (wr lv)) (hq:Cn L q (dP (dH false))) (e:Expr) (s:PS) (x:Expr) (s1:PS) (a:Nat) (h:cmpT L f q e s=some (x,s1)) (hb:s1.b=false) (hs:Su L (wr 5 e) a s.a):Su L (wr (4:Nat) x) a s1.a:=by
 unfold Go.Proofs.YtbodcedhmccenaaGreatDoor.cmpT at h
 simp only at h
 split at h
 ·rename_i hc
  injection h with h;injection h with e1 e2;subst e1 e2
  rw[kM (show (4:Int)<=lv 5 0 by decide),J5]
  exact hs.app ((fu hc).app (qq.app (mw hb)))
 ·have hn:Su L (bw (aw L s 15)) s.a (tkIf (aw L s 15) s).a:=qq
  split at h
  ·rename_i hc
   split at h
   ·cases h
   rename_i y t ht
   split at h
   ·cases h
   rename_i z u hu
   injection h with h;injection h with e1 e2;subst e1 e2
   have b2:=(okf 5 _ _ _ hu).nb hb
   have b3:=(Ok.must (L:=L) (s:=t) (c:=aw L t 13) fun h=>aA h).nb b2
   rw[kM (show (4:Int)<=lv 6 0 by decide),J6]
   have h1:Su L (wr (5:Nat) y) ((tkIf (aw L s 15) s).a+1) t.a:=hf 5 _ _ _ ht b3
   have h2:Su L (wr (5:Nat) z) (must (aw L t 13) t).a u.a:=hf 5 _ _ _ hu hb
   exact hs.app (hn.app ((fu hc).app (h1.app ((mw b2).app h2))))
  split at h
  ·rename_i hc
   exact Cn.inn okf okq hf hq e _ _ _ _ a h hb (hs.app (hn.app (fu hc)))
  ·injection h with h;injection h with e1 e2;subst e1 e2
   simp only[Bool.or_eq_false_iff] at hb
   have et:tkIf (aw L s 15) s=s:=by rw[hb.2];rfl
   show Su L (wr (4:Nat) e) a (tkIf (aw L s 15) s).a
   rw[et]
   exact hs.sub (uT ah _)
theorem Cn.cmp (okf:∀lv,OkM (L:=L) (f lv)) (okq:OkM (L:=L) q) (hf:∀lv:Nat,Cn L (f lv) (wr lv)) (hq:Cn L q (dP (dH false))):Cn L (iP L f q) (wr (4:Nat)):=fun s x s1 h hb=>by
 unfold iP at h
 split at h
 ·cases h
 ·rename_i e t ht
  split at h
  ·have b2:=(OkM.cmpT okf okq _ _ _ _ h).nb hb
   have h1:Su L (wr (5:Nat) e) s.a t.a:=hf 5 _ _ _ ht b2
   exact Cn.cmpT okf okq hf hq e _ _ _ s.a h hb h1
  ·rename_i ho
   split at h
   ·cases h
   ·rename_i y u hu
    injection h with h;injection h with e1 e2;subst e1 e2
    have b1:=(okf 5 _ _ _ hu).nb hb
    have b2:=(Ok.adv (L:=L) (du ho)).nb b1
    obtain⟨hh,hm⟩:=pn (L:=L) (s:=t) (l:=fX 4) ho
    have hop:=DB hm
    have h1:Su L (wr (5:Nat) e) s.a t.a:=hf 5 _ _ _ ht b2
    have h2:Su L [cy (cn L t 4)] t.a (t.a+1):=GP hh hop.2.2
    have h3:Su L (wr (5:Nat) y) (t.a+1) u.a:=hf 5 _ _ _ hu hb
    have hlv:lv 4 (cn L t 4:Nat)=4:=by
     unfold lv
     rw[if_pos rfl];exact hop.1
    have nk:∀k,nd 4 (cn L t 4:Nat) k=5:=fun k=>by
     unfold nd
     rw[hlv,if_neg ah,if_pos rfl,if_pos rfl]
    rw[kM (show ((4:Nat):Int)<=kP (ed _ _ _) by rw[DD (show cn L t 4∈fX 4 from hm)];exact Int.le_refl _),DC,nk,nk]
    exact h1.app (h2.app h3)
theorem Cn.stepE (okf:∀lv,OkM (L:=L) (f lv)) (okq:OkM (L:=L) q) (hf:∀lv:Nat,Cn L (f lv) (wr lv)) (hq:Cn L q (dP (dH false))) (lv:Nat):Cn L (stepE L f q lv) (wr lv):=fun s x s1 h hb=>by
 unfold Go.Proofs.YtbodcedhmccenaaGreatDoor.stepE at h
 split at h
 ·rename_i e3
  subst e3
  split at h
  ·rename_i hc
   split at h
   ·cases h
   ·rename_i y t ht
    injection h with h;injection h with e1 e2;subst e1 e2
    rw[kM (show (3:Int)<=Go.Proofs.YtbodcedhmccenaaGreatDoor.lv 3 15 by decide),GQ]
    have h1:Su L (wr (3:Nat) y) (s.a+1) t.a:=hf 3 _ _ _ ht hb
    have h2:Su L [cy 15] s.a (s.a+1):=fu hc
    exact h2.app h1
  ·exact (hf 4 _ _ _ h hb).sub (uT ah _)
 split at h
 ·rename_i e4
  subst e4
  exact Cn.cmp okf okq hf hq _ _ _ h hb
 rename_i n3 n4
 split at h
 ·rename_i e8
  subst e8
  split at h
  ·rename_i hc
   split at h
   ·cases h
   ·rename_i y t ht
    injection h with h;injection h with e1 e2;subst e1 e2
    rw[kM (show (8:Int)<=Go.Proofs.YtbodcedhmccenaaGreatDoor.lv 3 16 by decide),GQ]
    have h1:Su L (wr (8:Nat) y) (s.a+1) t.a:=hf 8 _ _ _ ht hb
    have h2:Su L [cy 16] s.a (s.a+1):=rN hc
    exact h2.app h1
  ·exact (hf 9 _ _ _ h hb).sub (uT ah _)
 split at h
 ·rename_i e9
  subst e9
  exact Cn.prim okf okq hf hq _ _ _ h hb
 ·split at h
  ·cases h
  ·rename_i e t ht
   have b2:=(OkM.chain (okf _) lv _ _ _ _ _ h).nb hb
   have h1:Su L (wr (lv+1:Nat) e) s.a t.a:=hf (lv+1) _ _ _ ht b2
   exact Cn.chain n4 (okf _) (hf (lv+1)) _ _ _ _ _ s.a h hb (h1.sub (uT aa _))
theorem Cn.item (okf:∀lv,OkM (L:=L) (f lv)) (okq:OkM (L:=L) q) (hf:∀lv:Nat,Cn L (f lv) (wr lv)) (hq:Cn L q (dP (dH false))):Cn L (dF L f) (cK (dH false)):=fun s x s1 h hb=>by
 unfold dF at h
 split at h
 ·rename_i hc
  injection h with h;injection h with e1 e2;subst e1 e2
  exact rN hc
 split at h
 ·rename_i hc
  injection h with h;injection h with e1 e2;subst e1 e2
  obtain⟨a1,a2,a3⟩:=vD hc
  have h2:Su L [Ix] (s.a+1) (s.a+1+1):=Dz a2 0
  have h3:Su L [Dp] (s.a+1+1) (s.a+1+1+1):=Dz (j:=2) a3 0
  exact A9 ((Bj a1 0).app (h2.app h3))
 split at h
 ·cases h
 ·rename_i e t ht
  injection h with h;injection h with e1 e2;subst e1 e2
  have b2:=(Ok.asM (L:=L) t).nb hb
  have h1:Su L (wr (1:Nat) e) s.a t.a:=hf 1 _ _ _ ht b2
  exact (h1.sub tM).app (GR hb)
theorem yB {s:PS} (h:(sourceM L s).2.b=false):Su L ([nT (mText L 2 s).1]++cQ (asM L (mText L 2 s).2).1) s.a (sourceM L s).2.a:=by
 have h1:(asM L (mText L 2 s).2).2.b=false:=h
 have b2:=(Ok.asM (L:=L) (mText L 2 s).2).nb h1
 exact (DA b2 0).app (GR h1)
theorem po {g:Expr->List Tok} {l:List Source} (x:Source):bd (dR g (l++[x])) (l++[x]).length=bd (dR g l) l.length++fy g l.length x:=by
 rw[aC,List.length_singleton,da]
 have e1:bd (dR g (l++[x])) l.length=bd (dR g l) l.length:=j7 fun i hi=>by
  unfold dR q8
  rw[List.getElem?_append_left hi]
 have e2:dR g (l++[x]) l.length=fy g l.length x:=by
  unfold dR q8
  rw[List.getElem?_append_right (Nat.le_refl _),Nat.sub_self];rfl
 rw[e1,e2]
theorem Cn.sources (okf:∀lv,OkM (L:=L) (f lv)) (okq:OkM (L:=L) q) (hf:∀lv:Nat,Cn L (f lv) (wr lv)) (hq:Cn L q (dP (dH false))):∀(n:Nat) (l:List Source) (s:PS) (x:List Source) (s1:PS) (a:Nat),bE L f n l s=some (x,s1)->s1.b=false->l≠[]->Su L (bd (dR (dH false) l) l.length) a s.a->Su L (bd (dR (dH false) x) x.length) a s1.a
 |0,_,_,_,_,_,h,_,_,_=>by cases h
 |n+1,l,s,x,s1,a,h,hb,hl,hs=>by
  have hp:0<l.length:=List.length_pos_iff.2 hl
  rw[bE] at h
  simp only at h
  split at h
  ·rename_i hc
   have b1:=(OkM.sources okf _ _ _ _ _ h).nb hb
   refine Cn.sources okf okq hf hq n _ _ _ _ a h hb (by simp) ?_
   rw[po]
   have e:fy (dH false) l.length (sourceM L (adv s)).1=[dQ]++([nT (mText L 2 (adv s)).1]++cQ (asM L (mText L 2 (adv s)).2).1):=by
    show (if 0<l.length then (if 0<([]:List Expr).length then [kT 4] else [dQ]) else [])++(nT _::(cQ _++[]))=_
    rw[if_pos hp,if_neg (by simp),List.append_nil];rfl
   rw[e]
   have h1:Su L [dQ] s.a (s.a+1):=rN hc
   have h2:Su L ([nT (mText L 2 (adv s)).1]++cQ (asM L (mText L 2 (adv s)).2).1) (s.a+1) (sourceM L (adv s)).2.a:=yB b1
   exact hs.app (h1.app h2)
  split at h
  ·rename_i hc
   split at h
   ·cases h
   ·rename_i y t ht
    have b1:=(OkM.sources okf _ _ _ _ _ h).nb hb
    have b2:=(okf 1 _ _ _ ht).nb b1
    have b3:=(Ok.must (L:=L) (s:=(sourceM L (adv s)).2) (c:=aw L (sourceM L (adv s)).2 5) fun h=>aA h).nb b2
    refine Cn.sources okf okq hf hq n _ _ _ _ a h hb (by simp) ?_
    rw[po]
    have e:fy (dH false) l.length ((sourceM L (adv s)).1.withOn [y])=[kT 4]++(([nT (mText L 2 (adv s)).1]++cQ (asM L (mText L 2 (adv s)).2).1)++([kT 5]++dH false y)):=by
     show (if 0<l.length then (if 0 < [y].length then [kT 4] else [dQ]) else [])++(nT _::(cQ _++(kT 5::dH false y)))=_
     rw[if_pos hp,if_pos (by simp)];rfl
    rw[e]
    have h1:Su L [kT 4] s.a (s.a+1):=fu hc
    have h2:Su L ([nT (mText L 2 (adv s)).1]++cQ (asM L (mText L 2 (adv s)).2).1) (s.a+1) (sourceM L (adv s)).2.a:=yB b3
    have h3:Su L (wr (1:Nat) y) (must (aw L (sourceM L (adv s)).2 5) (sourceM L (adv s)).2).a t.a:=hf 1 _ _ _ ht b1
    exact hs.app (h1.app (h2.app ((mw b2).app (h3.sub tM))))
  ·injection h with h;injection h with e1 e2
   rw[<-e1,<-e2];exact hs
theorem Cn.wher (okf:∀lv,OkM (L:=L) (f lv)) (okq:OkM (L:=L) q) (hf:∀lv:Nat,Cn L (f lv) (wr lv)) (hq:Cn L q (dP (dH false))):Cn L (dL L f) (nA (dH false)):=fun s x s1 h hb=>by
 unfold dL at h
 split at h
 ·rename_i hc
  split at h
  ·cases h
  ·rename_i y t ht
   injection h with h;injection h with e1 e2;subst e1 e2
   have h1:Su L (wr (1:Nat) y) (s.a+1) t.a:=hf 1 _ _ _ ht hb
   exact (fu hc).app (h1.sub tM)
 ·injection h with h;injection h with e1 e2;subst e1 e2
  exact Su.nil (Nat.le_refl _)
theorem Cn.sort (okf:∀lv,OkM (L:=L) (f lv)) (okq:OkM (L:=L) q) (hf:∀lv:Nat,Cn L (f lv) (wr lv)) (hq:Cn L q (dP (dH false))):Cn L (dV L f) (iF (dH false)):=fun s x s1 h hb=>by
 unfold dV at h
 split at h
 ·cases h
 ·rename_i y t ht
  split at h
  ·rename_i hc
   injection h with h;injection h with e1 e2;subst e1 e2
   have b2:=(Ok.adv (L:=L) (aA hc)).nb hb
   have h1:Su L (wr (1:Nat) y) s.a t.a:=hf 1 _ _ _ ht b2
   exact (h1.sub tM).app (Su.nil (Nat.le_succ _))
  ·injection h with h;injection h with e1 e2;subst e1 e2
   have b2:=(Ok.tkIf (L:=L) (s:=t) (c:=aw L t 10) fun h=>aA h).nb hb
   have h1:Su L (wr (1:Nat) y) s.a t.a:=hf 1 _ _ _ ht b2
   exact (h1.sub tM).app qq
theorem Cn.order (okf:∀lv,OkM (L:=L) (f lv)) (okq:OkM (L:=L) q) (hf:∀lv:Nat,Cn L (f lv) (wr lv)) (hq:Cn L q (dP (dH false))):Cn L (dY L f) (fun od=>bd (eY (dH false) od) od.length):=fun s x s1 h hb=>by
 unfold dY at h
 simp only at h
 split at h
 ·rename_i hc
  split at h
  ·cases h
  ·rename_i y t ht
   have b1:=(OkM.sep (OkM.sort okf) _ _ _ _ _ h).nb hb
   have b2:=(OkM.sort okf _ _ _ ht).nb b1
   refine Cn.sep [kT 7,kT 8] (OkM.sort okf) (Cn.sort okf okq hf hq) _ _ _ _ _ s.a h hb (by simp) ?_
   rw[yA]
   have h1:Su L ([kT 7]++[kT 8]) s.a (must (aw L (adv s) 8) (adv s)).a:=(fu hc).app (mw b2)
   exact h1.app (Cn.sort okf okq hf hq _ _ _ ht b1)
 ·injection h with h;injection h with e1 e2;subst e1 e2
  exact Su.nil (Nat.le_refl _)
theorem DH {s:PS} (h:(limitM L s).2.b=false):Su L (iR (limitM L s).1) s.a (limitM L s).2.a:=by
 unfold limitM at h ⊢
 split
 ·rename_i hc
  rw[if_pos hc] at h
  have h0:(mText L 3 (adv s)).2.b=false:=h
  obtain⟨h1,h2⟩:=xc h0
  have e:mNum L (adv s)=(fG (bv L (adv s)),adv (adv s)):=by unfold mNum;rw[h2]
  rw[e]
  have h3:Su L ([kT 11]++[iT (fG (bv L (adv s)))]) s.a (s.a+1+1):=(fu hc).app (Aa h1)
  unfold iR
  split
  ·exact h3
  ·exact Su.nil h3.1
 ·exact Su.nil (Nat.le_refl _)
theorem Cn.items (okf:∀lv,OkM (L:=L) (f lv)) (okq:OkM (L:=L) q) (hf:∀lv:Nat,Cn L (f lv) (wr lv)) (hq:Cn L q (dP (dH false))):Cn L (eu L f) (fun it=>bd (dd (dH false) it) it.length):=fun s x s1 h hb=>by
 unfold eu at h
 split at h
 ·cases h
 ·rename_i y t ht
  have b1:=(OkM.sep (OkM.item okf) _ _ _ _ _ h).nb hb
  have e:∀it,bd (dd (dH false) it) it.length=sq [] (cK (dH false)) it:=fun it=>j7 fun i _=>by
   unfold dd jQ
   by_cases h0:i=0
   ·rw[if_neg aa,if_pos h0]
   ·rw[if_pos aa,if_neg h0]
  simp only[e]
  refine Cn.sep [] (OkM.item okf) (Cn.item okf okq hf hq) _ _ _ _ _ s.a h hb (by simp) ?_
  rw[yA]
  exact Cn.item okf okq hf hq _ _ _ ht b1
theorem Cn.stepQ (okf:∀lv,OkM (L:=L) (f lv)) (okq:OkM (L:=L) q) (hf:∀lv:Nat,Cn L (f lv) (wr lv)) (hq:Cn L q (dP (dH false))):Cn L (stepQ L f) (dP (dH false)):=fun s x s1 h hb=>by
 unfold Go.Proofs.YtbodcedhmccenaaGreatDoor.stepQ at h
 simp only at h
 split at h
 ·cases h
 rename_i its s2 hi
 split at h
 ·cases h
 rename_i frs s4 hfr
 split at h
 ·cases h
 rename_i wh s5 hw
 split at h
 ·cases h
 rename_i od s6 ho
 injection h with h;injection h with e1 e2;subst e1 e2
 have b6:=(Ok.limitM (L:=L) s6).nb hb
 have b5:=(OkM.order okf _ _ _ ho).nb b6
 have b4:=(OkM.wher okf _ _ _ hw).nb b5
 have b3:=(OkM.sources okf _ _ _ _ _ hfr).nb b4
 have b3':=(Ok.sourceM (L:=L) (must (aw L s2 3) s2)).nb b3
 have b2:=(Ok.must (L:=L) (s:=s2) (c:=aw L s2 3) fun h=>aA h).nb b3'
 have b1:=(OkM.items okf _ _ _ hi).nb b2
 have b0:=(Ok.tkIf (L:=L) (s:=must (aw L s 1) s) (c:=aw L (must (aw L s 1) s) 2) fun h=>aA h).nb b1
 have hs0:Su L (bd (dR (dH false) [(sourceM L (must (aw L s2 3) s2)).1]) 1) (must (aw L s2 3) s2).a (sourceM L (must (aw L s2 3) s2)).2.a:=by
  have e:bd (dR (dH false) [(sourceM L (must (aw L s2 3) s2)).1]) 1=[nT (mText L 2 (must (aw L s2 3) s2)).1]++cQ (asM L (mText L 2 (must (aw L s2 3) s2)).2).1:=by
   have:=po (g:=dH false) (l:=[]) (sourceM L (must (aw L s2 3) s2)).1
   rw[List.nil_append,List.length_singleton] at this
   rw[this]
   show []++((if 0<0 then (if 0<([]:List Expr).length then [kT 4] else [dQ]) else [])++(nT _::(cQ _++[])))=_
   rw[if_neg aa,List.append_nil];rfl
  rw[e];exact yB b3
 have h3:=Cn.sources okf okq hf hq _ _ _ _ _ _ hfr b4 (by simp) hs0
 exact (mw b0).app (qq.app ((Cn.items okf okq hf hq _ _ _ hi b2).app ((mw b3').app (h3.app ((Cn.wher okf okq hf hq _ _ _ hw b5).app ((Cn.order okf okq hf hq _ _ _ ho b6).app (DH hb)))))))
theorem xd:∀n:Nat,(∀lv:Nat,Cn L ((pP L n).1 lv) (wr lv))/\Cn L (pP L n).2 (dP (dH false))
 |0=>⟨fun _ _ _ _ h=>(by cases h),fun _ _ _ h=>(by cases h)⟩
 |n+1=>⟨fun lv=>Cn.stepE (kF n).1 (kF n).2 (xd n).1 (xd n).2 lv,Cn.stepQ (kF n).1 (kF n).2 (xd n).1 (xd n).2⟩
end
theorem Id {L l:List Tok} {a:Nat} (h:Su L l 0 a):(l.map kt).Sublist (L.map kt):=by
 refine h.2.trans (List.Sublist.map kt ?_)
 unfold I8
 rw[List.drop_zero]
 exact List.take_sublist _ _
theorem DI {α:Type} {L:List Tok} {z:α} {m:Option (α×PS)} {pr:α->List Tok} (hz:m≠none) (hm:∀x s1,m=some (x,s1)->s1.b=false->Su L (pr x) 0 s1.a) (h:(f7 L z m).2 = -1):((pr (f7 L z m).1).map kt).Sublist (L.map kt):=by
 cases m with
 |none=>exact absurd rfl hz
 |some y=>
  obtain⟨x,s⟩:=y
  unfold f7 at h ⊢
  simp only at h ⊢
  by_cases h0:0<=kf L s
  ·rw[if_pos h0] at h;simp only at h;omega
  ·rw[if_neg h0]
   have hb:s.b=false:=by
    unfold kf at h0
    split at h0
    ·rename_i hc;exact hc.1
    ·exact absurd aa h0
   exact Id (hm x s rfl hb)
theorem Bl {L:List Tok} (h:(bI L).2 = -1):((dP (dH false) (bI L).1).map kt).Sublist (L.map kt):=by
 have hp:=xd (L:=L) (pD L)
 refine DI (pr:=dP (dH false)) (fun e=>?_) (fun x s1 hx hb=>?_) h
 ·obtain⟨x,s,hx⟩:=jw (L:=L) s0
  rw[e] at hx;cases hx
 ·exact hp.2 _ _ _ hx hb
theorem J9 {t u:Tok} (h:kt t=kt u):aJ t=aJ u/\tb t=tb u:=by
 obtain⟨k,x,a⟩:=t
 obtain⟨k',x',a'⟩:=u
 injection h with h1 h2
 have h1:k=k':=h1
 have h2:x=x':=h2
 subst h1 h2
 exact⟨rfl,rfl⟩
theorem Ja {t u t' u':Tok} (h:kt t=kt t') (k:kt u=kt u'):gU t u=gU t' u':=by
 obtain⟨k1,x1,a1⟩:=t
 obtain⟨k2,x2,a2⟩:=u
 obtain⟨k3,x3,a3⟩:=t'
 obtain⟨k4,x4,a4⟩:=u'
 injection h with h1 h2
 injection k with h3 h4
 have h1:k1=k3:=h1
 have h2:x1=x3:=h2
 have h3:k2=k4:=h3
 have h4:x2=x4:=h4
 subst h1 h2 h3 h4
 rfl
theorem Jb:∀ {l m:List Tok} {p p':Option Tok},l.map kt=m.map kt->p.map kt=p'.map kt->jl p l=jl p' m
 | [],[],_,_,_,_=>rfl
 | [],_::_,_,_,h,_=>by simp at h
 |_::_,[],_,_,h,_=>by simp at h
 |u::l,v::m,p,p',h,hp=>by
  rw[List.map_cons,List.map_cons] at h
  injection h with h1 h2
  have e:=Jb (p:=some u) (p':=some v) h2 (by simp [h1])
  simp only[jl,(J9 h1).2,e]
  congr 1
  unfold ir
  cases p with
  |none=>cases p' with
   |none=>rfl
   |some _=>simp at hp
  |some t=>cases p' with
   |none=>simp at hp
   |some t'=>
    simp at hp
    simp only[Ja hp h1]
theorem Ab (p:Option Tok) (u:Tok):(ir p u).length<=1:=by
 unfold ir
 split
 ·split<;>simp
 ·simp
theorem FW (p p':Option Tok) (l:List Tok):(jl p l).length<=(jl p' l).length+1:=by
 cases l with
 |nil=>simp [jl]
 |cons u r=>
  have:=Ab p u
  simp only[jl,aC]
  omega
theorem Ie {l m:List Tok} (h:l.Sublist m):(∀u,u∈m->aJ u=true)->∀p,(jl p l).length<=(jl p m).length:=by
 induction h with
 |slnil=>intro _ p;exact Nat.le_refl _
 | @cons l m a h ih=>
  intro ho p
  have h1:=ih (fun u hu=>ho u (by simp [hu])) p
  have h2:=FW p (some a) m
  obtain⟨c,r,e,_⟩:=iq (ho a (by simp))
  simp only[jl,aC,e,List.length_cons]
  omega
 | @cons_cons l m a h ih=>
  intro ho p
  have h1:=ih (fun u hu=>ho u (by simp [hu])) (some a)
  simp only[jl,aC]
  omega
theorem FX {l m:List Tok} (h:(l.map kt).Sublist (m.map kt)) (ho:∀u,u∈m->aJ u=true):(jl none l).length<=(jl none m).length/\∀u,u∈l->aJ u=true:=by
 obtain⟨l',h1,h2⟩:=List.sublist_map_iff.1 h
 refine⟨?_,fun u hu=>?_⟩
 ·rw[Jb (p':=none) h2 rfl]
  exact Ie h1 ho none
 ·have:kt u∈l'.map kt:=by rw[<-h2];exact List.mem_map_of_mem hu
  obtain⟨v,hv,e⟩:=List.mem_map.1 this
  rw[<-(J9 e).1]
  exact ho v (h1.subset hv)
section
variable {B:List UInt8}
theorem oD {q:UInt8}:∀ {n i:Nat} {l X:List UInt8} {e:Nat},cN B q n i l=some (X,e)->∃Y,X=l++Y/\e=i+(be q Y).length+1/\∀c,B[e]?=some c->c≠q
 |0,_,_,_,_,h=>by cases h
 |n+1,i,l,X,e,h=>by
  rw[cN] at h
  cases hb:B[i]? with
  |none=>rw[hb] at h;cases h
  |some b=>
   rw[hb] at h
   simp only at h
   split at h
   ·rename_i hq
    split at h
    ·obtain⟨Y,h1,h2,h3⟩:=oD h
     refine⟨q::Y,by rw[h1];simp,?_,h3⟩
     have:be q (q::Y)=q::q::be q Y:=by simp [be]
     rw[h2,this];simp only[List.length_cons];omega
    ·rename_i hn
     injection h with h;injection h with h1 h2;subst h1 h2
     exact⟨[],by simp,by simp [be],fun c hc e=>hn (by rw[hc,e])⟩
   ·rename_i hq
    obtain⟨Y,h1,h2,h3⟩:=oD h
    refine⟨b::Y,by rw[h1];simp,?_,h3⟩
    have:be q (b::Y)=b::be q Y:=by simp [be,hq]
    rw[h2,this];simp only[List.length_cons];omega
theorem tN (q:UInt8):∀l:List UInt8,l.length<=(be q l).length
 | []=>Nat.zero_le _
 |b::r=>by
  have:=tN q r
  have e:be q (b::r)=(if b=q then [q,q] else [b])++be q r:=by unfold be;rw[List.flatMap_cons]
  rw[e,aC,List.length_cons]
  by_cases h:b=q
  ·rw[if_pos h,List.length_cons,List.length_singleton];omega
  ·rw[if_neg h,List.length_singleton];omega
theorem FY (p:Nat):(aN B p (aS B p)).data.toList=(B.drop p).takeWhile (fun b=>bB b||bX b)/\aS B p=p+((B.drop p).takeWhile (fun b=>bB b||bX b)).length/\∀c,B[aS B p]?=some c->(bB c||bX c)=false:=by
 refine⟨?_,rfl,fun c hc=>?_⟩
 ·unfold aN aS
  rw[Nat.add_sub_cancel_left]
  show (B.drop p).take _=_
  exact List.prefix_iff_eq_take.1 (List.takeWhile_prefix _) |>.symm
 ·have e:=im (B:=B) (aS B p)
  have h2:aS B (aS B p)=aS B p:=by
   unfold aS
   have h3:((B.drop (p+((B.drop p).takeWhile fun b=>bB b||bX b).length)).takeWhile fun b=>bB b||bX b)=[]:=by
    rw[<-List.drop_drop]
    generalize B.drop p=l
    induction l with
    |nil=>rfl
    |cons y r ih=>
     rw[List.takeWhile_cons]
     split
     ·exact ih
     ·rename_i hy
      rw[List.length_nil,List.drop_zero,List.takeWhile_cons,if_neg hy]
   rw[h3];rfl
  rw[hc] at e
  simp only at e
  cases hp:(bB c||bX c) with
  |false=>rfl
  |true=>
   rw[if_pos hp] at e
   have:=lq (B:=B) (aS B p+1)
   omega
def JK (t:Tok) (c:UInt8):Prop:=(aZ t=true/\t.kind≠5/\t.kind≠4/\(bB c||bX c)=true)∨(cj t=true/\aZ t=false/\t.kind≠5/\t.kind≠4/\c=34)∨(t.kind=4/\c=39)∨(t.kind=5/\t.text.data.toList.headD 0=c)
theorem FZ {t u:Tok} {c:UInt8} (hg:gU t u=true) (hc:JK u c):gg t c=false:=by
 unfold gU at hg
 split at hg
 ·cases hg
 unfold ja at hg
 split at hg
 ·rename_i hh
  simp only[Bool.or_eq_true,Bool.and_eq_true,decide_eq_true_eq] at hh
  rcases hh with (⟨wt,wu⟩|⟨qt,qu⟩)|⟨t4,u4⟩
  ·have k5:t.kind≠5/\t.kind≠4:=by
    unfold aZ at wt
    simp only[Bool.or_eq_true,Bool.and_eq_true,decide_eq_true_eq] at wt
    omega
   have k5u:u.kind≠5/\u.kind≠4:=by
    unfold aZ at wu
    simp only[Bool.or_eq_true,Bool.and_eq_true,decide_eq_true_eq] at wu
    omega
   rcases hc with⟨_,_,_,h⟩|⟨_,h,_⟩|⟨h,_⟩|⟨h,_⟩
   ·unfold gg
    rw[if_neg k5.1,if_neg k5.2,if_pos wt,h];rfl
   ·rw[wu] at h;cases h
   ·exact absurd h k5u.2
   ·exact absurd h k5u.1
  ·unfold cj at qt qu
   simp only[Bool.and_eq_true,decide_eq_true_eq,Bool.not_eq_true'] at qt qu
   have wt:aZ t=false:=by
    unfold aZ
    rw[au aa,au aa,qt.2];simp
   have wu:aZ u=false:=by
    unfold aZ
    rw[au aa,au aa,qu.2];simp
   rcases hc with⟨h,_⟩|⟨_,_,_,_,h⟩|⟨h,_⟩|⟨h,_⟩
   ·rw[wu] at h;cases h
   ·unfold gg
    rw[if_neg aa,if_neg aa,if_neg (by rw[wt];simp),h];rfl
   ·omega
   ·omega
  ·rcases hc with⟨_,_,h,_⟩|⟨_,_,_,h,_⟩|⟨_,h⟩|⟨h,_⟩
   ·exact absurd u4 h
   ·exact absurd u4 h
   ·unfold gg
    rw[if_neg aa,if_pos t4,h];rfl
   ·omega
 ·unfold xI at hg
  split at hg
  ·cases hg
  rename_i k5
  have k5:t.kind=5:=Classical.not_not.1 k5
  split at hg
  ·cases hg
  rename_i u5
  have u5:u.kind=5:=Classical.not_not.1 u5
  have hc:u.text.data.toList.headD 0=c:=by
   rcases hc with⟨_,h,_⟩|⟨_,_,h,_⟩|⟨h,_⟩|⟨_,h⟩
   ·exact absurd u5 h
   ·exact absurd u5 h
   ·omega
   ·exact h
  unfold gg
  rw[if_pos k5]
  rw[hc] at hg
  split at hg
  ·rename_i e
   rw[decide_eq_true_eq] at hg
   rw[hg] at hc
   have hc:(45:UInt8)=c:=hc
   subst hc
   rw[e];rfl
  split at hg
  ·rename_i e
   rw[decide_eq_true_eq] at hg
   rw[hg] at hc
   have hc:(42:UInt8)=c:=hc
   subst hc
   rw[e];rfl
  split at hg
  ·rename_i e
   simp only[Bool.or_eq_true,decide_eq_true_eq] at hg
   rw[e]
   rcases hg with rfl|rfl<;>rfl
  split at hg
  ·rename_i e
   rw[decide_eq_true_eq] at hg
   subst hg
   rw[e];rfl
  ·cases hg
theorem G4 {p e:Nat} {b:UInt8} {t:Tok} (hb:B[p]?=some b) (hs:¬(b=45/\B[p+1]?=some 45) /\ ¬(b=47/\B[p+1]?=some 42)) (h:bg B p b=some (t,e)) :
 aJ t=true/\p<e/\e<=B.length/\((aZ t=true/\p+(tb t).length+2<=e)∨(p+(tb t).length<=e/\(∀c,B[e]?=some c->gg t c=true)/\JK t b)):=by
 obtain⟨h1,h2,ok⟩:=io hb h
 refine⟨ok,h1,h2,?_⟩
 have okf:¬aJ t=false:=by rw[ok];simp
 unfold bg at h
 split at h
 case h_2=>cases h
 rename_i t' e' hr
 split at h
 case isFalse=>cases h
 injection h with h;injection h with e1 e2;subst e1 e2
 unfold cD at hr
 simp only at hr
 obtain⟨r1,r2,r3⟩:=FY (B:=B) p
 have hd:∀Q:UInt8->Bool,Q b=true->∀c,((B.drop p).takeWhile Q).headD 0=c->c=b:=fun Q hq c hc=>by
  obtain⟨hl,hbe⟩:=List.getElem?_eq_some_iff.1 hb
  rw[List.drop_eq_getElem_cons hl,List.takeWhile_cons,hbe,if_pos hq] at hc
  exact hc.symm
 split at hr
 ·rename_i hl
  injection hr with hr;injection hr with e1 e2
  rw[<-e2]
  right
  split at e1
  ·rename_i hk
   subst e1
   have hpl:dm (aN B p (aS B p))=true:=by
    have o:=ok
    unfold aJ at o
    simp only[show ¬((2:Int)=1) by decide,if_false,if_true] at o
    unfold dm
    have h0:=hd (fun b=>bB b||bX b) (by simp [hl]) _ rfl
    rw[<-r1] at h0
    rw[o,h0,hk]
    have hnf:decide (48<=(b.toNat:Int)/\(b.toNat:Int)<=57)=false:=by
     have:bB b=true:=hl
     unfold bB jX at this
     simp only[Bool.or_eq_true,decide_eq_true_eq] at this
     rw[decide_eq_false_iff_not];omega
    rw[hnf,r1]
    simp only[Bool.not_false,Bool.true_and,decide_true]
    refine List.all_eq_true.2 fun x hx=>?_
    have tw:∀(l:List UInt8),x∈l.takeWhile (fun b=>bB b||bX b)->(bB x||bX x)=true:=fun l=>by
     induction l with
     |nil=>intro h;cases h
     |cons y r ih=>
      rw[List.takeWhile_cons]
      split
      ·rename_i hy
       intro h
       rcases List.mem_cons.1 h with rfl|h
       ·exact hy
       ·exact ih h
      ·intro h;cases h
    exact tw _ hx
   have hw:aZ ⟨2,aN B p (aS B p),p⟩=true:=by
    unfold aZ
    simp [hpl]
   have hX:tb ⟨2,aN B p (aS B p),p⟩=(aN B p (aS B p)).data.toList:=by
    have o:=ok
    unfold aJ at o
    simp only[show ¬((2:Int)=1) by decide,if_false,if_true,decide_eq_true_eq] at o
    unfold tb bU gA
    rw[if_neg okf,if_pos rfl,if_pos o,if_pos hpl]
   refine⟨by rw[hX,r1];omega,fun c hc=>?_,.inl ⟨hw,by show (2:Int)≠5;decide,by show (2:Int)≠4;decide,by simp [hl]⟩⟩
   unfold gg
   rw[if_neg (by show ¬(2:Int)=5;decide),if_neg (by show ¬(2:Int)=4;decide),if_pos hw,r3 c hc];rfl
  ·rename_i hk
   subst e1
   have hw:aZ ⟨1,bW (aN B p (aS B p)),p⟩=true:=rfl
   have hX:tb ⟨1,bW (aN B p (aS B p)),p⟩=(bW (aN B p (aS B p))).data.toList:=by
    unfold tb bU
    rw[if_neg okf,if_neg (by show ¬(1:Int)=2;decide),if_neg (by show ¬(1:Int)=4;decide)]
   have hlen:(bW (aN B p (aS B p))).data.toList.length=(aN B p (aS B p)).data.toList.length:=by
    unfold bW
    simp
   refine⟨by rw[hX,hlen,r1];omega,fun c hc=>?_,.inl ⟨hw,by show (1:Int)≠5;decide,by show (1:Int)≠4;decide,by simp [hl]⟩⟩
   unfold gg
   rw[if_neg (by show ¬(1:Int)=5;decide),if_neg (by show ¬(1:Int)=4;decide),if_pos hw,r3 c hc];rfl
 split at hr
 ·rename_i hnl hf
  injection hr with hr;injection hr with e1 e2
  rw[<-e2]
  subst e1
  right
  have hw:aZ ⟨3,aN B p (aS B p),p⟩=true:=by
   unfold aZ;simp
  have hX:tb ⟨3,aN B p (aS B p),p⟩=(aN B p (aS B p)).data.toList:=by
   unfold tb bU
   rw[if_neg okf,if_neg (by show ¬(3:Int)=2;decide),if_neg (by show ¬(3:Int)=4;decide)]
  refine⟨by rw[hX,r1];omega,fun c hc=>?_,.inl ⟨hw,by show (3:Int)≠5;decide,by show (3:Int)≠4;decide,by simp [hf]⟩⟩
  unfold gg
  rw[if_neg (by show ¬(3:Int)=5;decide),if_neg (by show ¬(3:Int)=4;decide),if_pos hw,r3 c hc];rfl
 split at hr
 ·rename_i _ _ hq
  rw[Option.map_eq_some_iff] at hr
  obtain⟨⟨X,e9⟩,hx,he⟩:=hr
  injection he with e1 e2
  have e2:e9=e':=e2
  subst e1 e2
  obtain⟨Y,y1,y2,y3⟩:=oD hx
  rw[List.nil_append] at y1
  subst y1
  have hge:=tN 34 X
  have o:=ok
  unfold aJ at o
  simp only[show ¬((2:Int)=1) by decide,if_false,if_true,decide_eq_true_eq] at o
  cases hp:dm ⟨X.toArray⟩ with
  |true=>
   left
   have hX:tb ⟨2,⟨X.toArray⟩,p⟩=X:=by
    unfold tb bU gA
    rw[if_neg okf,if_pos rfl,if_pos o,if_pos hp]
   refine⟨?_,by rw[hX];omega⟩
   unfold aZ
   simp [hp]
  |false=>
   right
   have hX:tb ⟨2,⟨X.toArray⟩,p⟩=34::(be 34 X++[34]):=by
    unfold tb bU gA
    rw[if_neg okf,if_pos rfl,if_pos o,if_neg (by rw[hp];simp)];rfl
   have hw:aZ ⟨2,⟨X.toArray⟩,p⟩=false:=by
    unfold aZ
    simp [hp]
   refine⟨by rw[hX];simp only[List.length_cons,aC,List.length_nil];omega,fun c hc=>?_,.inr (.inl ⟨?_,hw,by show (2:Int)≠5;decide,by show (2:Int)≠4;decide,hq⟩)⟩
   ·unfold gg
    rw[if_neg (by show ¬(2:Int)=5;decide),if_neg (by show ¬(2:Int)=4;decide),if_neg (by rw[hw];simp)]
    simp [y3 c hc]
   ·unfold cj
    simp [hp]
 split at hr
 ·rename_i _ _ _ hq
  rw[Option.map_eq_some_iff] at hr
  obtain⟨⟨X,e9⟩,hx,he⟩:=hr
  injection he with e1 e2
  have e2:e9=e':=e2
  subst e1 e2
  obtain⟨Y,y1,y2,y3⟩:=oD hx
  rw[List.nil_append] at y1
  subst y1
  right
  have hX:tb ⟨4,⟨X.toArray⟩,p⟩=39::(be 39 X++[39]):=by
   unfold tb bU
   rw[if_neg okf,if_neg (by show ¬(4:Int)=2;decide),if_pos rfl];rfl
  refine⟨by rw[hX];simp only[List.length_cons,aC,List.length_nil];omega,fun c hc=>?_,.inr (.inr (.inl ⟨rfl,hq⟩))⟩
  unfold gg
  rw[if_neg (by show ¬(4:Int)=5;decide),if_pos rfl]
  simp [y3 c hc]
 ·injection hr with hr;injection hr with e1 e2
  subst e1 e2
  right
  have osg:cW (aN B p (bQ B p))=true:=ok
  have hX:tb ⟨5,aN B p (bQ B p),p⟩=(aN B p (bQ B p)).data.toList:=by
   unfold tb bU
   rw[if_neg okf,if_neg (by show ¬(5:Int)=2;decide),if_neg (by show ¬(5:Int)=4;decide)]
  have hlt:p<B.length:=(List.getElem?_eq_some_iff.1 hb).1
  have hbe:B[p]=b:=(List.getElem?_eq_some_iff.1 hb).2
  have hsg:bQ B p=p+2∨bQ B p=p+1:=by
   unfold bQ
   split
   ·exact .inl rfl
   ·exact .inr rfl
  have hhd:(aN B p (bQ B p)).data.toList.headD 0=b:=by
   show ((B.drop p).take (bQ B p-p)).headD 0=b
   rw[List.drop_eq_getElem_cons hlt,hbe]
   rcases hsg with h|h
   ·rw[h,show p+2-p=2 by omega];rfl
   ·rw[h,show p+1-p=1 by omega];rfl
  refine⟨?_,fun c hc=>?_,.inr (.inr (.inr ⟨rfl,hhd⟩))⟩
  ·rw[hX]
   show p+((B.drop p).take (bQ B p-p)).length<=_
   have:=List.length_take_le (bQ B p-p) (B.drop p)
   omega
  ·unfold gg
   rw[if_pos rfl]
   simp only
   rcases hsg with h|h
   ·-- two bytes: no conditions
    rw[h] at hhd h1 h2 ⊢
    have hl2:(aN B p (p+2)).data.toList.length=2:=by
     show ((B.drop p).take (p+2-p)).length=2
     rw[List.length_take,List.length_drop];omega
    have ne:∀x:UInt8,aN B p (p+2)≠⟨#[x]⟩:=fun x e=>by rw[e] at hl2;simp at hl2
    rw[au (ne 45),au (ne 47),au (ne 60),au (ne 62)];rfl
   ·rw[h] at hc ⊢
    have hc1:aN B p (p+1)=⟨#[b]⟩:=by
     unfold aN
     rw[List.drop_eq_getElem_cons hlt,hbe,show p+1-p=1 by omega];rfl
    have hl2:p+1<B.length:=(List.getElem?_eq_some_iff.1 hc).1
    have hce:B[p+1]=c:=(List.getElem?_eq_some_iff.1 hc).2
    have hc2:aN B p (p+2)=⟨#[b,c]⟩:=by
     unfold aN
     rw[List.drop_eq_getElem_cons hlt,hbe,List.drop_eq_getElem_cons hl2,hce,show p+2-p=2 by omega];rfl
    have hns:cW ⟨#[b,c]⟩=false:=by
     unfold bQ at h
     rw[hc2] at h
     cases hh:cW ⟨#[b,c]⟩ with
     |false=>rfl
     |true=>rw[if_pos ⟨aa,hh⟩] at h;omega
    rw[tg] at hns
    rw[hc1]
    rw[hc] at hs
    simp only[ByteArray.mk.injEq,Array.mk.injEq,List.cons.injEq,and_true]
    revert hns
    by_cases e1:b=45<;>by_cases e2:b=47<;>by_cases e3:b=60<;>by_cases e4:b=62<;>simp_all
theorem oE:∀(n i p:Nat),dq B n i=some (p,true)->i<=p/\∀b,B[p]?=some b -> ¬(b=45/\B[p+1]?=some 45) /\ ¬(b=47/\B[p+1]?=some 42)
 |0,_,_,h=>by cases h
 |n+1,i,p,h=>by
  rw[dq] at h
  cases hb:B[i]? with
  |none=>
   rw[hb] at h
   injection h with h;injection h with h _;subst h
   exact⟨Nat.le_refl _,fun b e=>by rw[hb] at e;cases e⟩
  |some b=>
   rw[hb] at h
   simp only at h
   split at h
   ·have:=oE n _ _ h
    exact⟨aa,this.2⟩
   split at h
   ·have:=oE n _ _ h
    have g:=lp (B:=B) i
    exact⟨aa,this.2⟩
   rename_i h45
   split at h
   ·split at h
    ·rename_i e he
     have:=oE n _ _ h
     have g:=ke he
     exact⟨aa,this.2⟩
    ·injection h with h;injection h with _ h;cases h
   rename_i h47
   injection h with h;injection h with h _;subst h
   exact⟨Nat.le_refl _,fun b' e=>by rw[hb] at e;injection e with e;subst e;exact⟨h45,h47⟩⟩
theorem DJ:∀(n i:Nat) (acc L:List Tok) (prev:Option Tok) (loose:Bool),lj B n i acc=some (.inl L)->i<=B.length->(prev=none->loose=false)->(∀t,prev=some t->loose=false->∀c,B[i]?=some c->gg t c=true) ->
 ∃r,L=acc++r/\(jl prev r).length<=(B.length-i)+(if loose=true then 1 else 0)
 |0,_,_,_,_,_,h,_,_,_=>by cases h
 |n+1,i,acc,L,prev,loose,h,hi,hl,hf=>by
  rw[lj] at h
  split at h
  ·cases h
  rename_i p ok hp
  split at h
  ·injection h with h;cases h
  rename_i hok
  have hok:ok=true:=by simpa using hok
  subst hok
  obtain⟨g1,g2⟩:=oE _ _ _ hp
  split at h
  ·injection h with h;injection h with h;subst h
   exact⟨[],by simp,by simp [jl]⟩
  rename_i b hb
  split at h
  ·injection h with h;cases h
  rename_i u e he
  obtain⟨ou,h1,h2,hcase⟩:=G4 hb (g2 b hb) he
  have hlu:∃lu:Bool,(lu=true->aZ u=true/\p+(tb u).length+2<=e)/\(lu=false->p+(tb u).length<=e/\(∀c,B[e]?=some c->gg u c=true)/\JK u b):=by
   rcases hcase with hc|hc
   ·exact⟨true,fun _=>hc,fun h=>by cases h⟩
   ·exact⟨false,fun h=>(by cases h),fun _=>hc⟩
  obtain⟨lu,ht,hff⟩:=hlu
  obtain⟨r,hr,hlen⟩:=DJ n e _ L (some u) lu h h2 (fun h=>by cases h) (fun t e' hl' c hc=>by injection e' with e';subst e';exact (hff hl').2.1 c hc)
  refine⟨u::r,by rw[hr];simp,?_⟩
  have hg:=Ab prev u
  simp only[jl,aC]
  cases lu with
  |true=>
   have:=(ht rfl).2
   simp only[if_true] at hlen
   split<;>omega
  |false=>
   obtain⟨q1,_,q3⟩:=hff rfl
   simp only[Bool.false_eq_true,if_false] at hlen
   cases loose with
   |true=>simp only[if_true];omega
   |false=>
    simp only[Bool.false_eq_true,if_false]
    by_cases hpi:p=i
    ·have:(ir prev u).length=0:=by
      cases prev with
      |none=>rfl
      |some t=>
       unfold ir
       simp only
       split
       ·rename_i hgp
        have:=FZ hgp q3
        rw[hf t rfl rfl b (by rw[<-hpi];exact hb)] at this
        cases this
       ·rfl
     omega
    ·omega
end
theorem G5 {s:ByteArray} {L:List Tok} (h:fJ s = .inl L):(jl none L).length<=s.size/\s.size<=2000:=by
 unfold fJ at h
 split at h
 ·cases h
 rename_i hs
 cases hg:lj s.data.toList (s.data.toList.length+1) 0 [] with
 |none=>rw[hg] at h;cases h
 |some x=>
  rw[hg] at h
  have h:x = .inl L:=h
  subst h
  obtain⟨r,h1,h2⟩:=DJ _ _ _ _ none false hg (Nat.zero_le _) (fun _=>rfl) (fun t e=>by cases e)
  rw[List.nil_append] at h1
  subst h1
  rw[aE] at h2
  simp only[Bool.false_eq_true,if_false] at h2
  exact⟨aa,aa⟩
theorem G6 {x:Query} (h:fD x=true):hZ fmE x=true:=by
 unfold fD at h
 simp only[Bool.and_eq_true] at h
 exact h.1
theorem nx (full:Bool) {x:Query} (hok:fD x=true) (hr:RgQ x) (hs:bS (dP (dH full) x)≠⟨#[]⟩):aV (bS (dP (dH full) x))=(x,(0,0)):=by
 obtain⟨h1,h2⟩:=AH hs
 obtain⟨L,hL,hk⟩:=xW h1 h2
 unfold aV jj
 rw[hL]
 have e:=xU (full:=full) (G6 hok) hr hk
 simp only[e,hok,if_true]
 rw[if_neg aa]
 rfl
def Pr {α:Type} (m:PM α) (P:α->Prop):Prop:=∀s x s',m s=some (x,s')->P x
theorem DK {a b:Expr} (ha:Rg a) (hb:Rg b):∀k,k∈[a,b]->Rg k:=fun k hk=>by
 rcases List.mem_cons.1 hk with rfl|hk
 ·exact ha
 ·rw[List.mem_singleton.1 hk];exact hb
theorem rO {a:Expr} (ha:Rg a):∀k,k∈[a]->Rg k:=fun k hk=>by rw[List.mem_singleton.1 hk];exact ha
theorem pq {P:Query->Prop}:∀q,q∈([]:List Query)->P q:=fun q hq=>by cases hq
theorem Iy : -9223372036854775808<=zVal.num/\zVal.num<=9223372036854775807:=by decide
theorem DL {op:Nat} {a b:Expr} (ha:Rg a) (hb:Rg b):Rg (ed op a b):=.mk Iy (DK ha hb) pq pq
theorem GS {op:Int} {a:Expr} (ha:Rg a):Rg (se op a):=.mk Iy (rO ha) pq pq
theorem oF {k:Int} {n:Bool} {ks:List Expr} {qs:List Query} (hk:∀x,x∈ks->Rg x) (hq:∀q,q∈qs->RgQ q):Rg (bR k n ks qs):=.mk Iy hk (fun q h=>(hq q h).1) fun q h=>(hq q h).2
theorem rP {v:Val} (h : -9223372036854775808<=v.num/\v.num<=9223372036854775807):Rg (dj v):=.mk h (fun _ h=>by cases h) pq pq
theorem DM {a b:ByteArray}:Rg (lg a b):=.mk Iy (fun _ h=>by cases h) pq pq
theorem uU:Rg zExpr:=.mk Iy (fun _ h=>by cases h) pq pq
theorem Ac {q:Query} (h:RgQ q):∀x,x∈[q]->RgQ x:=fun x hx=>by rw[List.mem_singleton.1 hx];exact h
theorem Ad (x:ByteArray) : -9223372036854775808<=fG x/\fG x<=9223372036854775807:=by
 unfold fG
 cases h:gJ x.data.toList with
 |none=>exact⟨ah,ah⟩
 |some m=>
  have:=(d7.1 h).1
  show -9223372036854775808<=(m:Int)/\(m:Int)<=9223372036854775807
  omega
section
variable {L:List Tok} {f:Nat->PM Expr} {q:PM Query}
theorem Pr.chain {g:PM Expr} (hg:Pr g Rg) (lv:Nat):∀(n:Nat) (e:Expr) (s:PS) (x:Expr) (s':PS),Rg e->bP L g lv n e s=some (x,s')->Rg x
 |0,_,_,_,_,_,h=>by cases h
 |n+1,e,s,x,s',he,h=>by
  rw[bP] at h
  split at h
  ·injection h with h;injection h with hx h;subst hx h;exact he
  ·split at h
   ·cases h
   ·rename_i y s1 h1
    exact Pr.chain hg lv n _ _ _ _ (DL he (hg _ _ _ h1)) h
theorem Pr.sep {α:Type} {g:PM α} {P:α->Prop} (hg:Pr g P):∀(n:Nat) (l:List α) (s:PS) (x:List α) (s':PS),(∀y,y∈l->P y)->f9 L g n l s=some (x,s')->∀y,y∈x->P y
 |0,_,_,_,_,_,h=>by cases h
 |n+1,l,s,x,s',hl,h=>by
  rw[f9] at h
  split at h
  ·split at h
   ·cases h
   ·rename_i y s1 h1
    exact Pr.sep hg n _ _ _ _ (fun z hz=>by
     rcases List.mem_append.1 hz with hz|hz
     ·exact hl z hz
     ·rw[List.mem_singleton.1 hz];exact hg _ _ _ h1) h
  ·injection h with h;injection h with hx h;subst hx h;exact hl
theorem Ae {α:Type} {P:α->Prop} {a:α} (h:P a):∀y,y∈[a]->P y:=fun y hy=>by rw[List.mem_singleton.1 hy];exact h
theorem Pr.ors (hf:∀lv,Pr (f lv) Rg):Pr (kd L f) (fun l=>∀y,y∈l->Rg y):=fun s x s' h=>by
 unfold kd at h
 split at h
 ·cases h
 ·rename_i y s1 h1
  exact Pr.sep (hf 1) _ _ _ _ _ (Ae (hf 1 _ _ _ h1)) h
theorem Pr.inn (hf:∀lv,Pr (f lv) Rg) (hq:Pr q RgQ) (e:Expr) (he:Rg e) (n:Bool) (s:PS) (x:Expr) (s':PS) (h:sf L f q e n s=some (x,s')):Rg x:=by
 unfold sf at h
 simp only at h
 split at h
 ·split at h
  ·cases h
  ·rename_i y s1 h1
   injection h with h;injection h with hx h;subst hx h
   exact oF (rO he) (Ac (hq _ _ _ h1))
 ·split at h
  ·cases h
  ·rename_i y s1 h1
   injection h with h;injection h with hx h;subst hx h
   exact oF (fun k hk=>by
    rcases List.mem_cons.1 hk with rfl|hk
    ·exact he
    ·exact Pr.ors hf _ _ _ h1 k hk) pq
theorem Pr.cmpT (hf:∀lv,Pr (f lv) Rg) (hq:Pr q RgQ) (e:Expr) (he:Rg e) (s:PS) (x:Expr) (s':PS) (h:Go.Proofs.YtbodcedhmccenaaGreatDoor.cmpT L f q e s=some (x,s')):Rg x:=by
 unfold Go.Proofs.YtbodcedhmccenaaGreatDoor.cmpT at h
 simp only at h
 split at h
 ·injection h with h;injection h with hx h;subst hx h
  exact oF (rO he) pq
 ·split at h
  ·split at h
   ·cases h
   ·rename_i y s1 h1
    split at h
    ·cases h
    ·rename_i z s2 h2
     injection h with h;injection h with hx h;subst hx h
     exact oF (fun k hk=>by
      rcases List.mem_cons.1 hk with rfl|hk
      ·exact he
      ·exact DK (hf 5 _ _ _ h1) (hf 5 _ _ _ h2) k hk) pq
  ·split at h
   ·exact Pr.inn hf hq e he _ _ _ _ h
   ·injection h with h;injection h with hx h;subst hx h;exact he
theorem Pr.cmp (hf:∀lv,Pr (f lv) Rg) (hq:Pr q RgQ):Pr (iP L f q) Rg:=fun s x s' h=>by
 unfold iP at h
 split at h
 ·cases h
 ·rename_i y s1 h1
  split at h
  ·exact Pr.cmpT hf hq _ (hf 5 _ _ _ h1) _ _ _ h
  ·split at h
   ·cases h
   ·rename_i z s2 h2
    injection h with h;injection h with hx h;subst hx h
    exact DL (hf 5 _ _ _ h1) (hf 5 _ _ _ h2)
theorem Pr.prim (hf:∀lv,Pr (f lv) Rg) (hq:Pr q RgQ):Pr (dk L f q) Rg:=fun s x s' h=>by
 unfold dk at h
 simp only at h
 split at h
 ·injection h with h;injection h with hx h;subst hx h;exact rP (Ad _)
 split at h
 ·injection h with h;injection h with hx h;subst hx h;exact rP (v:=⟨2,0,_⟩) ⟨(by decide:(-9223372036854775808:Int)<=0),(by decide:(0:Int)<=9223372036854775807)⟩
 split at h
 ·injection h with h;injection h with hx h;subst hx h;exact rP Iy
 split at h
 ·injection h with h;injection h with hx h;subst hx h;exact rP (v:=⟨3,1,_⟩) ah
 split at h
 ·injection h with h;injection h with hx h;subst hx h;exact rP (v:=⟨3,0,_⟩) ah
 split at h
 ·split at h
  ·injection h with h;injection h with hx h;subst hx h;exact DM
  ·injection h with h;injection h with hx h;subst hx h;exact DM
 split at h
 ·split at h
  ·cases h
  ·rename_i y s1 h1
   injection h with h;injection h with hx h;subst hx h
   exact hf 1 _ _ _ h1
 split at h
 ·split at h
  ·cases h
  ·rename_i y s1 h1
   injection h with h;injection h with hx h;subst hx h
   exact oF (fun _ h=>by cases h) (Ac (hq _ _ _ h1))
 ·injection h with h;injection h with hx h;subst hx h;exact uU
theorem Pr.stepE (hf:∀lv,Pr (f lv) Rg) (hq:Pr q RgQ) (lv:Nat):Pr (Go.Proofs.YtbodcedhmccenaaGreatDoor.stepE L f q lv) Rg:=fun s x s' h=>by
 unfold Go.Proofs.YtbodcedhmccenaaGreatDoor.stepE at h
 split at h
 ·split at h
  ·split at h
   ·cases h
   ·rename_i y s1 h1
    injection h with h;injection h with hx h;subst hx h
    exact GS (hf 3 _ _ _ h1)
  ·exact hf 4 _ _ _ h
 split at h
 ·exact Pr.cmp hf hq _ _ _ h
 split at h
 ·split at h
  ·split at h
   ·cases h
   ·rename_i y s1 h1
    injection h with h;injection h with hx h;subst hx h
    exact GS (hf 8 _ _ _ h1)
  ·exact hf 9 _ _ _ h
 split at h
 ·exact Pr.prim hf hq _ _ _ h
 ·split at h
  ·cases h
  ·rename_i y s1 h1
   exact Pr.chain (hf _) lv _ _ _ _ _ (hf _ _ _ _ h1) h
def RgI:Item->Prop | .mk _ _ e _=>Rg e
def DN (x:Source):Prop:=∀e,e∈x.on->Rg e
def RgK:SortKey->Prop | .mk e _=>Rg e
theorem Pr.item (hf:∀lv,Pr (f lv) Rg):Pr (dF L f) RgI:=fun s x s' h=>by
 unfold dF at h
 split at h
 ·injection h with h;injection h with hx h;subst hx h;exact uU
 split at h
 ·injection h with h;injection h with hx h;subst hx h;exact uU
 split at h
 ·cases h
 ·rename_i y s1 h1
  injection h with h;injection h with hx h;subst hx h
  exact hf 1 _ _ _ h1
theorem Pr.sources (hf:∀lv,Pr (f lv) Rg):∀(n:Nat) (l:List Source) (s:PS) (x:List Source) (s':PS),(∀y,y∈l->DN y)->bE L f n l s=some (x,s')->∀y,y∈x->DN y
 |0,_,_,_,_,_,h=>by cases h
 |n+1,l,s,x,s',hl,h=>by
  rw[bE] at h
  have add:∀z:Source,DN z->∀y,y∈l++[z]->DN y:=fun z hz y hy=>by
   rcases List.mem_append.1 hy with hy|hy
   ·exact hl y hy
   ·rw[List.mem_singleton.1 hy];exact hz
  split at h
  ·exact Pr.sources hf n _ _ _ _ (add _ fun e he=>by cases he) h
  simp only at h
  split at h
  ·split at h
   ·cases h
   ·rename_i y s1 h1
    exact Pr.sources hf n _ _ _ _ (add ((sourceM L (adv s)).1.withOn [y]) (rO (hf 1 _ _ _ h1))) h
  ·injection h with h;injection h with hx h;subst hx h;exact hl
theorem Pr.wher (hf:∀lv,Pr (f lv) Rg):Pr (dL L f) (fun l=>∀y,y∈l->Rg y):=fun s x s' h=>by
 unfold dL at h
 split at h
 ·split at h
  ·cases h
  ·rename_i y s1 h1
   injection h with h;injection h with hx h;subst hx h
   exact rO (hf 1 _ _ _ h1)
 ·injection h with h;injection h with hx h;subst hx h;exact fun _ h=>by cases h
theorem Pr.sort (hf:∀lv,Pr (f lv) Rg):Pr (dV L f) RgK:=fun s x s' h=>by
 unfold dV at h
 split at h
 ·cases h
 ·rename_i y s1 h1
  split at h
  ·injection h with h;injection h with hx h;subst hx h;exact hf 1 _ _ _ h1
  ·injection h with h;injection h with hx h;subst hx h;exact hf 1 _ _ _ h1
theorem Pr.order (hf:∀lv,Pr (f lv) Rg):Pr (dY L f) (fun l=>∀y,y∈l->RgK y):=fun s x s' h=>by
 unfold dY at h
 simp only at h
 split at h
 ·split at h
  ·cases h
  ·rename_i y s1 h1
   exact Pr.sep (Pr.sort hf) _ _ _ _ _ (Ae (Pr.sort hf _ _ _ h1)) h
 ·injection h with h;injection h with hx h;subst hx h;exact fun _ h=>by cases h
theorem Pr.items (hf:∀lv,Pr (f lv) Rg):Pr (eu L f) (fun l=>∀y,y∈l->RgI y):=fun s x s' h=>by
 unfold eu at h
 split at h
 ·cases h
 ·rename_i y s1 h1
  exact Pr.sep (Pr.item hf) _ _ _ _ _ (Ae (Pr.item hf _ _ _ h1)) h
theorem DO {d:Bool} {it:List Item} {fr:List Source} {wh:List Expr} {od:List SortKey} {li:Int} (h1:∀y,y∈it->RgI y) (h2:∀y,y∈fr->DN y) (h3:∀y,y∈wh->Rg y) (h4:∀y,y∈od->RgK y) (h5:li<=9223372036854775807):RgQ (.mk d it fr wh od li):=by
 refine⟨h5,fun x hx=>?_⟩
 simp only[exprsQ,List.mem_append,List.mem_flatMap,List.mem_map] at hx
 rcases hx with ((hx|⟨y,hy,hx⟩)|hx)|⟨y,hy,rfl⟩
 ·unfold aY at hx
  rw[List.mem_map] at hx
  obtain⟨y,hy,rfl⟩:=hx
  have:=h1 y (List.mem_filter.1 hy).1
  obtain⟨a,b,c,d⟩:=y
  exact this
 ·exact h2 y hy x hx
 ·exact h3 x hx
 ·have:=h4 y hy
  obtain⟨a,b⟩:=y
  exact this
theorem DP (s:PS):(limitM L s).1<=9223372036854775807:=by
 unfold limitM
 split
 ·exact (Ad _).2
 ·exact (by decide:(-1:Int)<=9223372036854775807)
theorem Pr.stepQ (hf:∀lv,Pr (f lv) Rg):Pr (Go.Proofs.YtbodcedhmccenaaGreatDoor.stepQ L f) RgQ:=fun s x s' h=>by
 unfold Go.Proofs.YtbodcedhmccenaaGreatDoor.stepQ at h
 simp only at h
 split at h
 ·cases h
 rename_i its s2 h1
 split at h
 ·cases h
 rename_i frs s4 h2
 split at h
 ·cases h
 rename_i wh s5 h3
 split at h
 ·cases h
 rename_i od s6 h4
 injection h with h;injection h with hx h;subst hx h
 exact DO (Pr.items hf _ _ _ h1) (Pr.sources hf _ _ _ _ _ (Ae fun e he=>by cases he) h2) (Pr.wher hf _ _ _ h3) (Pr.order hf _ _ _ h4) (DP _)
theorem Af:∀k,(∀lv,Pr ((pP L k).1 lv) Rg)/\Pr (pP L k).2 RgQ
 |0=>⟨fun _ _ _ _ h=>(by cases h),fun _ _ _ h=>(by cases h)⟩
 |k+1=>⟨fun lv=>Pr.stepE (Af k).1 (Af k).2 lv,Pr.stepQ (Af k).1⟩
theorem xe:RgQ zQuery:=DO (fun _ h=>by cases h) (fun _ h=>by cases h) (fun _ h=>by cases h) (fun _ h=>by cases h) ah
theorem DQ {α:Type} {P:α->Prop} (z:α) (hz:P z) (o:Option (α×PS)) (h:∀x s,o=some (x,s)->P x):P (f7 L z o).1:=by
 unfold f7
 cases o with
 |none=>exact hz
 |some p=>
  obtain⟨x,s⟩:=p
  simp only
  split
  ·exact hz
  ·exact h x s rfl
theorem xg:RgQ (bI L).1:=DQ _ xe _ fun x s h=>(Af (pD L)).2 _ _ _ h
end
theorem xh {α:Type} {z:α} {take:List Tok->α×Int} {ok:α->Bool} {s:ByteArray} (h:(jj z take ok s).2.1=0):∃L,fJ s = .inl L/\(take L).2<0/\ok (take L).1=true/\(jj z take ok s).1=(take L).1:=by
 unfold jj at h ⊢
 split at h
 ·rename_i p hl;cases h
 ·rename_i L hl
  simp only at h
  unfold rI at h
  by_cases h0:0<=(take L).2
  ·rw[if_pos h0] at h;cases h
  rw[if_neg h0] at h
  by_cases h1:ok (take L).1=true
  ·rw[hl]
   exact⟨L,rfl,aa,h1,by simp only[if_neg h0,if_pos h1]⟩
  ·rw[if_neg h1] at h;cases h
theorem Bm {α:Type} {L:List Tok} {z:α} {m:Option (α×PS)} (h:(f7 L z m).2<0):(f7 L z m).2 = -1:=by
 unfold f7 at h ⊢
 split
 ·simp only at h;omega
 ·split
  ·rename_i h0
   simp only[if_pos h0] at h;omega
  ·rfl
theorem DR {l L:List Tok} {s:ByteArray} (hx:fJ s = .inl L) (hs:(l.map kt).Sublist (L.map kt)) (hne:l≠[]):bS l≠⟨#[]⟩:=by
 obtain⟨h1,h2⟩:=G5 hx
 obtain⟨h3,h4⟩:=FX hs (lY hx).2
 have h5:=xV l none h4
 have h6:0<l.length:=List.length_pos_iff.2 hne
 unfold bS
 rw[if_pos (List.all_eq_true.2 h4),oT,if_neg aa]
 intro e
 have:(jl none l)=[]:=by
  injection e with e
  have:=congrArg Array.toList e
  exact this
 rw[this] at h5
 simp only[List.length_nil] at h5;omega
theorem Ig (g:Expr->List Tok) (q:Query):dP g q≠[]:=by
 obtain⟨d,it,fr,wh,od,li⟩:=q
 simp [dP]
theorem xj {s:ByteArray} (h:(aV s).2.1=0):bS (dP (dH false) (aV s).1)≠⟨#[]⟩/\aV (bS (dP (dH false) (aV s).1))=((aV s).1,(0,0))/\fD (aV s).1=true:=by
 obtain⟨L,h1,h2,h3,h4⟩:=xh (z:=zQuery) (take:=bI) (ok:=fD) h
 have h4:(aV s).1=(bI L).1:=h4
 rw[h4]
 have h5:=Bl (Bm h2)
 have h6:=DR h1 h5 (Ig _ _)
 exact⟨h6,nx false h3 xg h6,h3⟩
theorem xk (l:List Tok):(bS l).size<=2000:=by
 unfold bS
 split
 ·split
  ·exact Nat.zero_le _
  ·rename_i h
   show (eE l l.length).toArray.size<=2000
   rw[List.size_toArray];omega
 ·exact Nat.zero_le _
end Go.Proofs.YtbodcedhmccenaaGreatDoor
