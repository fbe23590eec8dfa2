/-
  Parsing texts of expressions.
  Conditions: none.
-/
import Derived.Test.YtbodcedhmccenaaGreatDoorSC2
import Derived.Test.YtbodcedhmccenaaGreatDoorSD2
import Derived.Test.YtbodcedhmccenaaGreatDoorSE
import Derived.Test.YtbodcedhmccenaaGreatDoorSG
set_option linter.unusedVariables false
set_option linter.unusedSimpArgs false
set_option linter.unusedSectionVars false
set_option maxRecDepth 8000
namespace Go.Proofs.YtbodcedhmccenaaGreatDoor
open Go Go.Dv
open Go.Vc (D d5 d6 cM bo)
theorem nq {s:ByteArray} {L:List Tok} (h:fw s = .inl L):L.length<=2000/\∀t∈L,bg t=true:=by
 unfold fw at h
 split at h
 ·cases h
 ·obtain⟨rr,hrr⟩:=mK (B:=s.data.toList) (s.data.toList.length+1) 0 [] (by omega) (by omega)
  rw[hrr] at h
  have h:rr = .inl L:=h
  subst h
  have:=rB (by omega) hrr (fun t ht=>by cases ht)
  rw[aD] at this
  simp only[List.length_nil] at this
  exact⟨by omega,this.1⟩
def ms (L:List Tok) (n:Nat) (i:Int):Int:=if i<L.length then (L.getD i.toNat ⟨0,z0,0⟩).at_ else n
def qI (L:List Tok) (n:Nat) (i:Int) (ok:Bool):Int×Int:=if 0<=i then (2,ms L n i) else if ok=true then (0,0) else (3,0)
def fF {α:Type} (z:α) (take:List Tok->α×Int) (ok:α->Bool) (s:ByteArray):α×(Int×Int):=match fw s with
 |.inr p=>(z,(1,p))
 |.inl L=>(if 0<=(take L).2 then z else if ok (take L).1=true then (take L).1 else z,qI L s.size (take L).2 (ok (take L).1))
def gQ (f:Int×Int):List C:=[.v (.int .i64 f.1),.v (.int .i64 f.2)]
theorem wO (L:List Tok) (hL:L.length<=1048576) (hT:∀t∈L,t.text.size<=1048576) (i:Int) (h0:0<=i) (s:ByteArray):Cl Tryz.prog 72 [.c (.sl L.length (L.flatMap Tok.row) none),vi i,vs s] [] fun r _=>r = .ag (gQ (2,ms L s.size i)):=by
 obtain⟨j,rfl⟩:∃j:Nat,i=j:=⟨i.toNat,by omega⟩
 refine ah ab false Tryz.func72 rfl (by kernel_rfl) ?_
 simp only[Tryz.f72,tt,seval]
 refine fun _=>aa (fun hlt=>?_) (fun hge=>?_)
 ·have hl:j<L.length:=by omega
  have hx:L[j]?=some L[j]:=az hl
  have e:ms L s.size j=(L[j]).at_:=by
   unfold ms
   rw[if_pos hlt,Int.toNat_natCast,List.getD_eq_getElem?_getD,hx];rfl
  have i0:((0:Int)<=(j:Int))=True:=eq_true (by omega)
  have iL:((j:Int)<(L.length:Int))=True:=eq_true hlt
  have iT:(j<L.length)=True:=eq_true hl
  rw[e]
  generalize L[j]=tk at *
  simp only[tt,seval,bP hx cn,i0,iL,Tok.row]
  refine⟨.ag (gQ (2,tk.at_)),[],rfl,ai ?_⟩
  simp only[tt,seval,gQ]
 ·have e:ms L s.size j=s.size:=by unfold ms;rw[if_neg hge]
  rw[e]
  refine fun _=>?_
  refine⟨.ag (gQ (2,(s.size:Nat))),[],rfl,ai ?_⟩
  simp only[tt,seval,gQ]
noncomputable def bj:ByteArray->Expr×(Int×Int):=fF zExpr bK oh
set_option maxHeartbeats 2000000 in
theorem vw (s:ByteArray):Cl Tryz.prog 26 [vs s] [] fun r _=>r = .tu [(ar (bj s).1.row,false),(gQ (bj s).2,false)]:=by
 have cl:=EK s
 refine ah ab false Tryz.func26 rfl (by kernel_rfl) ?_
 simp only[Tryz.f26,tt,seval]
 cases hlx:fw s with
 |inr p=>
  have e:bj s=(zExpr,(1,(p:Int))):=by unfold bj fF;rw[hlx]
  rw[hlx] at cl
  rw[e]
  have h0:(0<=(p:Int))=True:=eq_true (by omega)
  refine cZ (cl) ?_ ?_<;>simp only[tt,seval,rb]
  simp only[tt,seval,h0]
  refine⟨.tu [(ar (zExpr).row,false),(gQ (1,(p:Int)),false)],[],rfl,ai ?_⟩
  simp only[tt,seval,gQ,dm,zExpr,bC,z0,ae,zExpr]
 |inl L=>
  have hs:=qx hlx
  obtain⟨hL2,hok⟩:=nq hlx
  have hL:L.length<=1048576:=by omega
  have h40:∀t∈L,t.text.size<=40:=fun t ht=>yu (hok t ht)
  have hT:∀t∈L,t.text.size<=1048576:=fun t ht=>Nat.le_trans (h40 t ht) (by omega)
  have e:bj s=(if 0<=(bK L).2 then zExpr else if oh (bK L).1=true then (bK L).1 else zExpr,qI L s.size (bK L).2 (oh (bK L).1)):=by unfold bj fF;rw[hlx]
  have hsz:=qH h40 hL2
  have ct:=wc L hL hT
  rw[hlx] at cl
  rw[e]
  generalize (bK L).2=i at *
  generalize (bK L).1=x at *
  have ck:=qB x (by omega)
  obtain⟨k1,p1,n1,v1,q1,m1,ks1,ss1⟩:=x
  simp only[ae] at ct ck
  refine cZ (cl) ?_ ?_<;>simp only[tt,seval,rb]
  refine cZ (ct) ?_ ?_<;>simp only[tt,seval]
  by_cases hi:0<=i
  ·have h0:(0<=i)=True:=eq_true hi
   simp only[tt,seval,h0]
   have cf:=wO L hL hT i hi s
   have ef:qI L s.size i (oh (Expr.mk k1 p1 n1 v1 q1 m1 ks1 ss1))=(2,ms L s.size i):=if_pos hi
   rw[ef]
   refine cZ (cf) ?_ ?_<;>simp only[tt,seval,gQ]
   refine⟨.tu [(ar (zExpr).row,false),(gQ (2,ms L s.size i),false)],[],rfl,ai ?_⟩
   simp only[tt,seval,gQ,dm,zExpr,bC,z0,ae,zExpr]
  ·have h0:(0<=i)=False:=eq_false hi
   simp only[tt,seval,h0]
   refine cZ (ck) ?_ ?_<;>simp only[tt,seval]
   cases ho:oh (Expr.mk k1 p1 n1 v1 q1 m1 ks1 ss1) with
   |true=>
    have ef:qI L s.size i true=(0,0):=by unfold qI;rw[if_neg hi,if_pos rfl]
    rw[ef]
    simp only[tt,seval]
    refine⟨.tu [(ar (Expr.mk k1 p1 n1 v1 q1 m1 ks1 ss1).row,false),(gQ (0,0),false)],[],rfl,ai ?_⟩
    simp only[tt,seval,gQ,ae]
   |false=>
    have ef:qI L s.size i false=(3,0):=by unfold qI;rw[if_neg hi,if_neg (by simp)]
    rw[ef]
    simp only[tt,seval]
    refine⟨.tu [(ar (zExpr).row,false),(gQ (3,0),false)],[],rfl,ai ?_⟩
    simp only[tt,seval,gQ,dm,zExpr,bC,z0,ae,zExpr]
end Go.Proofs.YtbodcedhmccenaaGreatDoor
set_option maxRecDepth 8000
namespace Go.Proofs.YtbodcedhmccenaaGreatDoor
open Go Go.Dv Go.Cv
open Go.Vc (D d5 d6 cM bo)
theorem BV {L:List Tok} {α:Type} (z x:α) (s:PS) (ha:s.a<=L.length):((ff L z (some (x,s))).2 = -1∨0<=(ff L z (some (x,s))).2)/\(ff L z (some (x,s))).2<=L.length:=by
 unfold ff
 simp only
 split
 ·rename_i h
  refine⟨.inr h,?_⟩
  show fM L s<=_
  unfold fM
  split<;>omega
 ·exact⟨.inl rfl,by show (-1:Int)<=_;omega⟩
theorem BW {L:List Tok}:((bK L).2 = -1∨0<=(bK L).2)/\(bK L).2<=L.length:=by
 obtain⟨x,s,h⟩:=jc (L:=L) 1 (by omega) (by omega) s0
 have ha:=(eh (L:=L) 1 _ _ _ h).2.1 (Nat.zero_le _)
 unfold bK
 rw[h];exact BV _ _ _ ha
set_option maxHeartbeats 2000000 in
theorem vx (L:List Tok) (hL:L.length<=1048576) (hT:∀t∈L,t.text.size<=1048576) (h40:∀t∈L,t.text.size<=40) (hL2:L.length<=2000):Cl Tryz.prog 81 [.c (.sl L.length (L.flatMap Tok.row) none),.c (.p 9000 0)] [[.v (.int .i64 0),.v (.int .i64 0),.v (.bool false),.v (.int .i64 0),.v (.int .i64 0),.v (.string ByteArray.empty),.v (.string ByteArray.empty),.v (.string ByteArray.empty),.v (.slice none 0 0),.v (.slice none 0 0)]] fun r os=>r = .tu [([.v (.int .i64 (bK L).2)],true),([.v (.bool (oh (bK L).1))],true)]/\∃Fk Fs,os=[aw (bK L).1.row [Fk,Fs]]:=by
 have hsz:=qH h40 hL2
 have ct:=vf L hL hT
 generalize (bK L).2=i at *
 generalize (bK L).1=x at *
 have ck:=s9 x (by omega)
 obtain⟨k1,p1,n1,v1,q1,m1,ks1,ss1⟩:=x
 simp only[dm,ae,aw] at ct ck ⊢
 refine ah ab true Tryz.func81 rfl (by kernel_rfl) ?_
 simp only[Tryz.f81,tt,seval]
 refine eb (ct) ?_ ?_ ?_
 ·decide
 ·simp only[tt,seval]
 rintro r ⟨Fk,Fs,rfl⟩
 simp only[tt,seval]
 refine cZ (ck) ?_ ?_<;>simp only[tt,seval]
 refine⟨.tu [([.v (.int .i64 i)],true),([.v (.bool (oh (Expr.mk k1 p1 n1 v1 q1 m1 ks1 ss1)))],true)],[aw (Expr.mk k1 p1 n1 v1 q1 m1 ks1 ss1).row [Fk,Fs]],⟨rfl,Fk,Fs,by first|rfl|simp only[ae,aw]⟩,ai ?_⟩
 simp only[tt,seval,ae,aw]
 first|done|((try refine⟨by omega,?_⟩);exact aG fun x=>by (try simp only[List.flatten_append,List.count_append]);omega)
theorem tJ (s:ByteArray) (p:Nat) (hlx:fw s = .inr p):Cl Tryz.prog 67 [vs s,.c (.fn 81 [] [9000])] [[.v (.int .i64 0),.v (.int .i64 0),.v (.bool false),.v (.int .i64 0),.v (.int .i64 0),.v (.string ByteArray.empty),.v (.string ByteArray.empty),.v (.string ByteArray.empty),.v (.slice none 0 0),.v (.slice none 0 0)]] fun r os=>r = .ag (gQ (1,(p:Int)))/\os=[[.v (.int .i64 0),.v (.int .i64 0),.v (.bool false),.v (.int .i64 0),.v (.int .i64 0),.v (.string ByteArray.empty),.v (.string ByteArray.empty),.v (.string ByteArray.empty),.v (.slice none 0 0),.v (.slice none 0 0)]]:=by
 have cl:=BC s
 rw[hlx] at cl
 have h0:(0<=(p:Int))=True:=eq_true (by omega)
 refine ah ab true Tryz.func67 rfl (by kernel_rfl) ?_
 simp only[Tryz.f67,tt,seval]
 refine cZ (cl) ?_ ?_<;>simp only[tt,seval,rb]
 simp only[tt,seval,h0]
 refine⟨.ag (gQ (1,(p:Int))),[[.v (.int .i64 0),.v (.int .i64 0),.v (.bool false),.v (.int .i64 0),.v (.int .i64 0),.v (.string ByteArray.empty),.v (.string ByteArray.empty),.v (.string ByteArray.empty),.v (.slice none 0 0),.v (.slice none 0 0)]],⟨rfl,rfl⟩,ai ?_⟩
 simp only[tt,seval,gQ]
 first|done|exact Sb.refl _|((try refine⟨by omega,?_⟩);exact aG fun x=>by (try simp only[fb]);omega)
set_option maxHeartbeats 4000000 in
theorem tK (s:ByteArray) (L:List Tok) (hlx:fw s = .inl L):Cl Tryz.prog 67 [vs s,.c (.fn 81 [] [9000])] [[.v (.int .i64 0),.v (.int .i64 0),.v (.bool false),.v (.int .i64 0),.v (.int .i64 0),.v (.string ByteArray.empty),.v (.string ByteArray.empty),.v (.string ByteArray.empty),.v (.slice none 0 0),.v (.slice none 0 0)]] fun r os=>r = .ag (gQ (qI L s.size (bK L).2 (oh (bK L).1)))/\∃Fk Fs,os=[aw (bK L).1.row [Fk,Fs]]:=by
 have cl:=BC s
 have hs:=qx hlx
 obtain⟨hL2,hok⟩:=nq hlx
 have hL:L.length<=1048576:=by omega
 have h40:∀t∈L,t.text.size<=40:=fun t ht=>yu (hok t ht)
 have hT:∀t∈L,t.text.size<=1048576:=fun t ht=>Nat.le_trans (h40 t ht) (by omega)
 have ct:=vx L hL hT h40 hL2
 have hb:((bK L).2 = -1∨0<=(bK L).2)/\(bK L).2<=L.length:=BW
 rw[hlx] at cl
 generalize (bK L).2=i at *
 generalize (bK L).1=x at *
 obtain⟨k1,p1,n1,v1,q1,m1,ks1,ss1⟩:=x
 simp only[dm,ae,aw] at ct ⊢
 refine ah ab true Tryz.func67 rfl (by kernel_rfl) ?_
 simp only[Tryz.f67,tt,seval]
 refine cZ (cl) ?_ ?_<;>simp only[tt,seval,rb]
 refine CallQ.intro (ct) ?_ ?_ ?_
 ·decide
 ·simp only[tt,seval]
 rintro r os ⟨rfl,Fk,Fs,rfl⟩ hos
 simp only[tt,seval]
 refine fun _=>?_
 by_cases hi:i=L.length
 ·have h0:(i=(L.length:Int))=True:=eq_true hi
  have ef:qI L s.size i (oh (Expr.mk k1 p1 n1 v1 q1 m1 ks1 ss1))=(2,(s.size:Int)):=by
   unfold qI ms
   rw[if_pos (by omega),if_neg (by omega)]
  rw[ef]
  simp only[tt,seval,h0]
  refine fun _=>?_
  refine⟨.ag (gQ (2,(s.size:Int))),[aw (Expr.mk k1 p1 n1 v1 q1 m1 ks1 ss1).row [Fk,Fs]],⟨rfl,Fk,Fs,by first|rfl|simp only[ae,aw]⟩,ai ?_⟩
  simp only[tt,seval,gQ,ae,aw]
  first|done|((try refine⟨by omega,?_⟩);exact aG fun x=>by (try simp only[List.flatten_append,List.count_append]);omega)
 ·have h0:(i=(L.length:Int))=False:=eq_false hi
  simp only[tt,seval,h0]
  by_cases h1:0<=i
  ·have h1':(0<=i)=True:=eq_true h1
   obtain⟨j,rfl⟩:∃j:Nat,i=j:=⟨i.toNat,by omega⟩
   have hl:j<L.length:=by omega
   have hx:L[j]?=some L[j]:=az hl
   have ef:qI L s.size (j:Int) (oh (Expr.mk k1 p1 n1 v1 q1 m1 ks1 ss1))=(2,(L[j]).at_):=by
    unfold qI ms
    rw[if_pos h1,if_pos (by omega),Int.toNat_natCast,List.getD_eq_getElem?_getD,hx];rfl
   have i0:((0:Int)<=(j:Int))=True:=eq_true (by omega)
   have iL:((j:Int)<(L.length:Int))=True:=eq_true (by omega)
   have iT:(j<L.length)=True:=eq_true hl
   rw[ef]
   generalize L[j]=tk at *
   simp only[tt,seval,h1',bP hx cn,iL,Tok.row]
   refine⟨.ag (gQ (2,tk.at_)),[aw (Expr.mk k1 p1 n1 v1 q1 m1 ks1 ss1).row [Fk,Fs]],⟨rfl,Fk,Fs,by first|rfl|simp only[ae,aw]⟩,ai ?_⟩
   simp only[tt,seval,gQ,ae,aw]
   first|done|((try refine⟨by omega,?_⟩);exact aG fun x=>by (try simp only[List.flatten_append,List.count_append]);omega)
  ·have h1':(0<=i)=False:=eq_false h1
   simp only[tt,seval,h1']
   cases ho:oh (Expr.mk k1 p1 n1 v1 q1 m1 ks1 ss1) with
   |true=>
    have ef:qI L s.size i true=(0,0):=by unfold qI;rw[if_neg h1,if_pos rfl]
    rw[ef]
    simp only[tt,seval]
    refine⟨.ag (gQ (0,0)),[aw (Expr.mk k1 p1 n1 v1 q1 m1 ks1 ss1).row [Fk,Fs]],⟨rfl,Fk,Fs,by first|rfl|simp only[ae,aw]⟩,ai ?_⟩
    simp only[tt,seval,gQ,ae,aw]
    first|done|((try refine⟨by omega,?_⟩);exact aG fun x=>by (try simp only[List.flatten_append,List.count_append]);omega)
   |false=>
    have ef:qI L s.size i false=(3,0):=by unfold qI;rw[if_neg h1,if_neg (by simp)]
    rw[ef]
    simp only[tt,seval]
    refine⟨.ag (gQ (3,0)),[aw (Expr.mk k1 p1 n1 v1 q1 m1 ks1 ss1).row [Fk,Fs]],⟨rfl,Fk,Fs,by first|rfl|simp only[ae,aw]⟩,ai ?_⟩
    simp only[tt,seval,gQ,ae,aw]
    first|done|((try refine⟨by omega,?_⟩);exact aG fun x=>by (try simp only[List.flatten_append,List.count_append]);omega)
set_option maxHeartbeats 4000000 in
theorem tL (s:ByteArray):Cl Tryz.prog 25 [vs s] [] fun r _=>∃Fk Fs,r = .tu [(aw (bj s).1.row [Fk,Fs],false),(gQ (bj s).2,false)]:=by
 cases hlx:fw s with
 |inr p=>
  have e:bj s=(zExpr,(1,(p:Int))):=by unfold bj fF;rw[hlx]
  have cp:=tJ s p hlx
  rw[e]
  refine ah ab true Tryz.func25 rfl (by kernel_rfl) ?_
  simp only[Tryz.f25,tt,seval]
  refine cS (cp) ?_ ?_<;>simp only[tt,seval,gQ]
  refine dDrawn.intro [] (.take 0 (.br 1 (.br 2 (.br 3 .done .nobr) .nobr) (.br 2 (.take 1 (.br 3 .done .nobr)) .nobr))) (by kernel_rfl) ?_
  simp only[tt,seval]
  all_goals
   repeat' with_reducible refine aa ?_ ?_
   all_goals
    refine⟨.tu [(aw (zExpr).row [[],[]],false),(gQ (1,(p:Int)),false)],[],⟨[],[],by first|rfl|simp only[gQ,Stmt.row_mk,ay,eg,bY,ERow.row_mk,srow,rW,aw,Val.row,lc]⟩,ai ?_⟩
    simp only[tt,seval,gQ,dm,zExpr,bC,z0,ae,aw]
    first|done|exact Sb.refl _|((try refine⟨by omega,?_⟩);exact aG fun x=>by (try simp only[fb]);omega)
 |inl L=>
  have e:bj s=(if 0<=(bK L).2 then zExpr else if oh (bK L).1=true then (bK L).1 else zExpr,qI L s.size (bK L).2 (oh (bK L).1)):=by unfold bj fF;rw[hlx]
  have cp:=tK s L hlx
  rw[e]
  generalize (bK L).2=i at *
  generalize (bK L).1=x at *
  obtain⟨k1,p1,n1,v1,q1,m1,ks1,ss1⟩:=x
  simp only[ae,aw] at cp
  by_cases hi:0<=i
  ·have ef:qI L s.size i (oh (Expr.mk k1 p1 n1 v1 q1 m1 ks1 ss1))=(2,ms L s.size i):=if_pos hi
   rw[if_pos hi,ef]
   rw[ef] at cp
   refine ah ab true Tryz.func25 rfl (by kernel_rfl) ?_
   simp only[Tryz.f25,tt,seval]
   refine CallQ.intro (cp) ?_ ?_ ?_
   ·decide
   ·simp only[tt,seval]
   rintro r os ⟨rfl,Fk,Fs,rfl⟩ hos
   simp only[tt,seval,gQ]
   refine dDrawn.intro [] (.take 0 (.br 1 (.br 2 (.br 3 .done .nobr) .nobr) (.br 2 (.take 1 (.br 3 .done .nobr)) .nobr))) (by kernel_rfl) ?_
   simp only[tt,seval]
   all_goals
    repeat' with_reducible refine aa ?_ ?_
    all_goals
     refine⟨.tu [(aw (zExpr).row [[],[]],false),(gQ (2,ms L s.size i),false)],[],⟨[],[],by first|rfl|simp only[gQ,Stmt.row_mk,ay,eg,bY,ERow.row_mk,srow,rW,aw,Val.row,lc]⟩,ai ?_⟩
     simp only[tt,seval,gQ,dm,zExpr,bC,z0,ae,aw]
     first|done|exact Sb.refl _|((try refine⟨by omega,?_⟩);exact aG fun x=>by (try simp only[List.flatten_append,List.count_append,List.count_nil]);omega)
  ·rw[if_neg hi]
   cases ho:oh (Expr.mk k1 p1 n1 v1 q1 m1 ks1 ss1) with
   |true=>
    have ef:qI L s.size i true=(0,0):=by unfold qI;rw[if_neg hi,if_pos rfl]
    rw[if_pos rfl,ef]
    rw[ho] at cp
    rw[ef] at cp
    refine ah ab true Tryz.func25 rfl (by kernel_rfl) ?_
    simp only[Tryz.f25,tt,seval]
    refine CallQ.intro (cp) ?_ ?_ ?_
    ·decide
    ·simp only[tt,seval]
    rintro r os ⟨rfl,Fk,Fs,rfl⟩ hos
    simp only[tt,seval,gQ,ae,aw]
    refine dDrawn.intro [] (.take 0 (.br 1 (.br 2 (.br 3 .done .nobr) .nobr) (.br 2 (.take 1 (.br 3 .done .nobr)) .nobr))) (by kernel_rfl) ?_
    simp only[tt,seval]
    all_goals
     repeat' with_reducible refine aa ?_ ?_
     all_goals
      refine⟨.tu [(aw ((Expr.mk k1 p1 n1 v1 q1 m1 ks1 ss1)).row [Fk,Fs],false),(gQ (0,0),false)],[],⟨Fk,Fs,by first|rfl|simp only[gQ,ae,aw]⟩,ai ?_⟩
      simp only[tt,seval,gQ,dm,ae,aw]
      first|done|exact Sb.refl _|((try refine⟨by omega,?_⟩);exact aG fun x=>by (try simp only[fb]);omega)
   |false=>
    have ef:qI L s.size i false=(3,0):=by unfold qI;rw[if_neg hi,if_neg (by simp)]
    rw[if_neg (by simp),ef]
    rw[ho] at cp
    rw[ef] at cp
    refine ah ab true Tryz.func25 rfl (by kernel_rfl) ?_
    simp only[Tryz.f25,tt,seval]
    refine CallQ.intro (cp) ?_ ?_ ?_
    ·decide
    ·simp only[tt,seval]
    rintro r os ⟨rfl,Fk,Fs,rfl⟩ hos
    simp only[tt,seval,gQ]
    refine dDrawn.intro [] (.take 0 (.br 1 (.br 2 (.br 3 .done .nobr) .nobr) (.br 2 (.take 1 (.br 3 .done .nobr)) .nobr))) (by kernel_rfl) ?_
    simp only[tt,seval]
    all_goals
     repeat' with_reducible refine aa ?_ ?_
     all_goals
      refine⟨.tu [(aw (zExpr).row [[],[]],false),(gQ (3,0),false)],[],⟨[],[],by first|rfl|simp only[gQ,Stmt.row_mk,ay,eg,bY,ERow.row_mk,srow,rW,aw,Val.row,lc]⟩,ai ?_⟩
      simp only[tt,seval,gQ,dm,zExpr,bC,z0,ae,aw]
      first|done|exact Sb.refl _|((try refine⟨by omega,?_⟩);exact aG fun x=>by (try simp only[List.flatten_append,List.count_append,List.count_nil]);omega)
end Go.Proofs.YtbodcedhmccenaaGreatDoor
