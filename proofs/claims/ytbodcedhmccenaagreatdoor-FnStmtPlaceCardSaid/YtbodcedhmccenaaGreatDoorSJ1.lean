/-
  The reference's printer.
  Conditions: none.
-/
import Derived.Test.YtbodcedhmccenaaGreatDoorSF1
set_option linter.unusedVariables false
set_option linter.unusedSimpArgs false
set_option linter.unusedSectionVars false
set_option maxRecDepth 8000
namespace Go.Proofs.YtbodcedhmccenaaGreatDoor
open Go Go.Dv
open Go.Vc (D d5 d6 cM bo)
theorem dg (l:List Tok) (k:Int) (s:ByteArray) (a:Int):l.flatMap Tok.row++[int k,str s,int a]=(l++[Tok.mk k s a]).flatMap Tok.row:=by rw[List.flatMap_append];rfl
theorem ri (l:List Tok) (k:Int) (s:ByteArray) (a:Int) (k':Int) (s':ByteArray) (a':Int):l.flatMap Tok.row++[int k,str s,int a,int k',str s',int a']=(l++[Tok.mk k s a,Tok.mk k' s' a']).flatMap Tok.row:=by rw[List.flatMap_append];rfl
theorem cO (l:List Tok) (t:Tok):l.length+1=(l++[t]).length:=by simp
theorem pe (l:List Tok) (t u:Tok):l.length+2=(l++[t,u]).length:=by simp
theorem mt {l m:List Tok} (h:l=m):(S.c (.ow 150 (l).length ((l).flatMap Tok.row) none):S) = .c (.ow 150 (m).length ((m).flatMap Tok.row) none):=by rw[h]
theorem Dh {a b:Tok} (h:a=b):(S.ag (ar a.row):S) = .ag (ar b.row):=by rw[h]
theorem bi (k:Nat) (h1:1<=k) (h2:k<=28):Cl Tryz.prog 137 [vi k] [] fun r _=>r = .ag (ar (kT k).row):=by
 refine ah ab false Tryz.func137 rfl (by kernel_rfl) ?_
 simp only[Tryz.f137,tt,seval]
 refine cZ (rv k h1 h2) ?_ ?_<;>simp only[tt,seval]
 exact⟨_,_,rfl,ak rfl⟩
theorem aU (s:ByteArray):Cl Tryz.prog 138 [vs s] [] fun r _=>r = .ag (ar (gT s).row):=by
 refine ah ab false Tryz.func138 rfl (by kernel_rfl) ?_
 simp only[Tryz.f138,tt,seval]
 exact⟨_,_,rfl,ak rfl⟩
theorem cH (s:ByteArray):Cl Tryz.prog 167 [vs s] [] fun r _=>r = .ag (ar (nT s).row):=by
 refine ah ab false Tryz.func167 rfl (by kernel_rfl) ?_
 simp only[Tryz.f167,tt,seval]
 exact⟨_,_,rfl,ak rfl⟩
theorem tM (op:Int):Cl Tryz.prog 169 [vi op] [] fun r _=>r = .ag (ar (eC op).row):=by
 refine ah ab false Tryz.func169 rfl (by kernel_rfl) ?_
 simp only[Tryz.f169,tt,seval]
 by_cases h1:op=1
 ·simp only[tt,seval,av h1]
  refine cZ (mD op) ?_ ?_<;>simp only[tt,seval]
  exact⟨_,_,Dh (by rw[eC,if_pos (.inl h1)]),ak rfl⟩
 simp only[tt,seval,au h1]
 by_cases h2:op=2
 ·simp only[tt,seval,av h2]
  refine cZ (mD op) ?_ ?_<;>simp only[tt,seval]
  exact⟨_,_,Dh (by rw[eC,if_pos (.inr (.inl h2))]),ak rfl⟩
 simp only[tt,seval,au h2]
 refine aa (fun h3=>?_) (fun h3=>?_)
 ·skip
  refine cZ (mD op) ?_ ?_<;>simp only[tt,seval]
  exact⟨_,_,Dh (by rw[eC,if_pos (.inr (.inr h3))]),ak rfl⟩
 refine cZ (mD op) ?_ ?_<;>simp only[tt,seval]
 refine cZ (aU (qW op)) ?_ ?_<;>simp only[tt,seval,gT,Tok.row]
 exact⟨_,_,Dh (by rw[eC,if_neg (fun h=>h.elim h1 fun h=>h.elim h2 h3)]),ak rfl⟩
theorem BX (v:Val) (h0 : -9223372036854775808<=v.num) (h1:v.num<=9223372036854775807):Cl Tryz.prog 166 [.ag (ar v.row)] [] fun r _=>r = .ag (ar (kQ v).row):=by
 rw[Val.row]
 refine ah ab false Tryz.func166 rfl (by kernel_rfl) ?_
 simp only[Tryz.f166,tt,seval]
 refine aa (fun k1=>?_) (fun k1=>?_)
 ·skip
  refine cZ (mA v.num h0 h1) ?_ ?_<;>simp only[tt,seval]
  exact⟨_,_,Dh (by rw[kQ,if_pos k1]),ak rfl⟩
 refine aa (fun k2=>?_) (fun k2=>?_)
 ·exact⟨_,_,Dh (by rw[kQ,if_neg k1,if_pos k2]),ak rfl⟩
 refine aa (fun k3=>?_) (fun k3=>?_)
 ·refine aa (fun k4=>?_) (fun k4=>?_)
  ·skip
   refine cZ (bi 21 (by omega) (by omega)) ?_ ?_<;>simp only[tt,seval,kT,Tok.row]
   exact⟨_,_,Dh (by rw[kQ,if_neg k1,if_neg k2,if_pos k3,if_pos k4]),ak rfl⟩
  ·skip
   refine cZ (bi 22 (by omega) (by omega)) ?_ ?_<;>simp only[tt,seval,kT,Tok.row]
   exact⟨_,_,Dh (by rw[kQ,if_neg k1,if_neg k2,if_pos k3,if_neg k4]),ak rfl⟩
 refine cZ (bi 20 (by omega) (by omega)) ?_ ?_<;>simp only[tt,seval,kT,Tok.row]
 exact⟨_,_,Dh (by rw[kQ,if_neg k1,if_neg k2,if_neg k3]),ak rfl⟩
theorem nr (out:List Tok) (e:Expr) (h:out.length<=1000000):Cl Tryz.prog 170 [.c (.ow 150 (out).length ((out).flatMap Tok.row) none),.ag (ar e.row)] [] fun r _=>r = .c (.ow 150 (out++dR e.not).length ((out++dR e.not).flatMap Tok.row) none):=by
 obtain⟨kind,op,not,val,qual,name,kids,sub⟩:=e
 rw[ae]
 refine ah ab false Tryz.func170 rfl (by kernel_rfl) ?_
 simp only[Tryz.f170,tt,seval]
 cases not
 case true=>
  simp only[tt,seval]
  refine cZ (bi 15 (by omega) (by omega)) ?_ ?_<;>simp only[tt,seval,kT,Tok.row]
  refine⟨by kernel_rfl,⟨by simp only[maxLen];(try simp only[ll] at *);omega,by (try simp only[ll] at *);omega⟩,?_⟩
  rw[dg (out),cO (out) (Tok.mk 1 (kw 15) 0)]
  refine⟨_,[],mt (l:=out++[(Tok.mk 1 (kw 15) 0)]) (by rfl),ai ?_⟩
  simp only[tt,seval]
 case false=>
  simp only[tt,seval]
  refine⟨_,[],mt (l:=out) (by exact (List.append_nil _).symm),ai ?_⟩
  simp only[tt,seval]
theorem nt (out:List Tok) (a:ByteArray) (h:out.length<=1000000):Cl Tryz.prog 237 [.c (.ow 150 (out).length ((out).flatMap Tok.row) none),vs a] [] fun r _=>r = .c (.ow 150 (out++kf a).length ((out++kf a).flatMap Tok.row) none):=by
 refine ah ab false Tryz.func237 rfl (by kernel_rfl) ?_
 simp only[Tryz.f237,tt,seval]
 refine aa (fun ha=>?_) (fun ha=>?_)
 ·skip
  refine⟨_,[],mt (l:=out) (by rw[kf,if_pos ha,List.append_nil]),ai ?_⟩
  simp only[tt,seval]
 ·try simp only[tt,seval]
  refine cZ (bi 12 (by omega) (by omega)) ?_ ?_<;>simp only[tt,seval,kT,Tok.row]
  refine cZ (cH a) ?_ ?_<;>simp only[tt,seval,nT,Tok.row]
  refine⟨by kernel_rfl,⟨by simp only[maxLen];(try simp only[ll] at *);omega,by (try simp only[ll] at *);omega⟩,?_⟩
  rw[ri (out),pe (out) (Tok.mk 1 (kw 12) 0) (Tok.mk 2 a 0)]
  refine⟨_,[],mt (l:=out++[(Tok.mk 1 (kw 12) 0),(Tok.mk 2 a 0)]) (by rw[kf,if_neg ha];rfl),ai ?_⟩
  simp only[tt,seval]
def qU (full:Bool) (e:Expr) (l:List Tok):Prop:=∀out:List Tok,out.length+l.length<=1000000->Cl Tryz.prog 80 [.c (.ow 150 (out).length ((out).flatMap Tok.row) none),.ag (ar e.row),vb full] [] fun r _=>r = .c (.ow 150 (out++l).length ((out++l).flatMap Tok.row) none)
set_option maxHeartbeats 1000000 in
theorem BZ (kind op:Int) (not:Bool) (val:Val) (qual name:ByteArray) (kids:List Expr) (sub:List Query) (full:Bool) (k:Nat) (hk:k<kids.length) (l:List Tok) (hx:qU full kids[k] l) (out:List Tok) (hroom:out.length+(rf (Ef full kind op kids k) l).length<=1000000) :
 Cl Tryz.prog 168 [.c (.ow 150 (out).length ((out).flatMap Tok.row) none),.ag (ar (Expr.mk kind op not val qual name kids sub).row),vi k,vb full] [] fun r _=>r = .c (.ow 150 (out++rf (Ef full kind op kids k) l).length ((out++rf (Ef full kind op kids k) l).flatMap Tok.row) none):=by
 obtain⟨it,bD⟩:∃it,it=kids[k]:=⟨_,rfl⟩
 have hw:(Ef full kind op kids k)=(ud kind op kids k||(full&&decide (Co it<9))):=by rw[Ef,List.getD_eq_getElem?_getD,az hk,bD];rfl
 rw[hw] at hroom ⊢
 rw[<-bD] at hx
 rw[ae]
 refine ah ab false Tryz.func168 rfl (by kernel_rfl) ?_
 simp only[Tryz.f168,tt,seval]
 refine⟨by omega,by omega,_,aE aJ (az hk),Expr.ne _ _,?_⟩
 rw[<-bD]
 have hxl:=l7 it
 obtain⟨k0,o0,n0,v0,q0,m0,ks0,ss0⟩:=it
 rw[ae] at hxl
 rw[ae]
 simp only[tt,seval]
 refine cZ (yQ kind op not val qual name kids sub k hk) ?_ ?_<;>simp only[tt,seval,ae]
 have hx:∀out:List Tok,out.length+l.length<=1000000->Cl Tryz.prog 80 [.c (.ow 150 (out).length ((out).flatMap Tok.row) none),.ag (ar (Expr.mk k0 o0 n0 v0 q0 m0 ks0 ss0).row),vb full] [] fun r _=>r = .c (.ow 150 (out++l).length ((out++l).flatMap Tok.row) none):=hx
 rw[ae] at hx
 generalize Co (Expr.mk k0 o0 n0 v0 q0 m0 ks0 ss0)=lv0 at *
 cases hw1:ud kind op kids k
 case true=>
  rw[hw1] at hroom
  simp only[tt,seval]
  have hroom:out.length+(tC::(l++[tD])).length<=1000000:=hroom
  simp only[ll] at hroom
  apply bx 0
  case h1=>
   refine dDrawn.intro [32] (.take 0 (.take 5 (.br 1 (.br 2 (.br 3 (.take 4 (.br 6 (.take 7 .done) .nobr)) (.br 4 (.br 3 (.br 6 (.take 7 .done) .nobr) .nobr) .nobr)) (.br 4 (.br 2 (.br 3 (.br 6 (.take 7 .done) .nobr) .nobr) .nobr) .nobr)) (.br 4 (.br 1 (.br 2 (.br 3 (.br 6 (.take 7 .done) .nobr) .nobr) .nobr) .nobr) .nobr)))) (by kernel_rfl) ?_
   simp only[tt,seval]
   all_goals repeat' first|refine cj ?_ ?_|refine aO ?_ ?_
   all_goals
    refine cZ (aU ⟨#[40]⟩) ?_ ?_<;>simp only[tt,seval,gT,Tok.row]
   all_goals repeat' first|refine gE ?_ ?_|refine cK ?_ ?_|refine cL ?_ ?_
   all_goals
    refine⟨by kernel_rfl,⟨by simp only[maxLen];(try simp only[ll] at *);omega,by (try simp only[ll] at *);omega⟩,?_⟩
    rw[dg (out),cO (out) (Tok.mk 5 ⟨#[40]⟩ 0)]
   all_goals repeat' first|refine cj ?_ ?_|refine aO ?_ ?_
   all_goals
    refine cZ (hx (out++[(Tok.mk 5 ⟨#[40]⟩ 0)]) (by (try simp only[ll] at *);omega)) ?_ ?_
    ·simp only[tt,seval]
     decide
    simp only[tt,seval]
   all_goals exact⟨rfl,rfl,rfl⟩
  case h2=>
   intro f' hj0
   simp only[tt,seval,hj0]
   refine cZ (aU ⟨#[41]⟩) ?_ ?_<;>simp only[tt,seval,gT,Tok.row]
   refine⟨by kernel_rfl,⟨by simp only[maxLen];(try simp only[ll] at *);omega,by (try simp only[ll] at *);omega⟩,?_⟩
   rw[dg (out++[(Tok.mk 5 ⟨#[40]⟩ 0)]++l),cO (out++[(Tok.mk 5 ⟨#[40]⟩ 0)]++l) (Tok.mk 5 ⟨#[41]⟩ 0)]
   refine⟨_,[],mt (l:=out++[(Tok.mk 5 ⟨#[40]⟩ 0)]++l++[(Tok.mk 5 ⟨#[41]⟩ 0)]) (by skip;simp [rf,tC,tD,gT]),ai ?_⟩
   simp only[tt,seval]
 case false=>
  simp only[tt,seval]
  cases full
  case false=>
   rw[hw1] at hroom
   simp only[tt,seval]
   have hroom:out.length+l.length<=1000000:=hroom
   refine cZ (hx out hroom) ?_ ?_<;>simp only[tt,seval]
   refine⟨_,[],mt (l:=out++l) (by skip;simp [rf]),ai ?_⟩
   simp only[tt,seval]
  case true=>
   simp only[tt,seval]
   refine cZ (hxl) ?_ ?_<;>simp only[tt,seval]
   rw[hw1] at hroom
   refine aa (fun h9=>?_) (fun h9=>?_)
   ·rw[av h9] at hroom ⊢
    have hroom:out.length+(tC::(l++[tD])).length<=1000000:=hroom
    simp only[ll] at hroom
    apply bx 0
    case h1=>
     refine dDrawn.intro [32] (.take 0 (.take 5 (.br 1 (.br 2 (.br 3 (.take 4 (.br 6 (.take 7 .done) .nobr)) (.br 4 (.br 3 (.br 6 (.take 7 .done) .nobr) .nobr) .nobr)) (.br 4 (.br 2 (.br 3 (.br 6 (.take 7 .done) .nobr) .nobr) .nobr) .nobr)) (.br 4 (.br 1 (.br 2 (.br 3 (.br 6 (.take 7 .done) .nobr) .nobr) .nobr) .nobr) .nobr)))) (by kernel_rfl) ?_
     simp only[tt,seval]
     all_goals repeat' first|refine cj ?_ ?_|refine aO ?_ ?_
     all_goals
      refine cZ (aU ⟨#[40]⟩) ?_ ?_<;>simp only[tt,seval,gT,Tok.row]
     all_goals repeat' first|refine gE ?_ ?_|refine cK ?_ ?_|refine cL ?_ ?_
     all_goals
      refine⟨by kernel_rfl,⟨by simp only[maxLen];(try simp only[ll] at *);omega,by (try simp only[ll] at *);omega⟩,?_⟩
      rw[dg (out),cO (out) (Tok.mk 5 ⟨#[40]⟩ 0)]
     all_goals repeat' first|refine cj ?_ ?_|refine aO ?_ ?_
     all_goals
      refine cZ (hx (out++[(Tok.mk 5 ⟨#[40]⟩ 0)]) (by (try simp only[ll] at *);omega)) ?_ ?_
      ·simp only[tt,seval]
       decide
      simp only[tt,seval]
     all_goals exact⟨rfl,rfl,rfl⟩
    case h2=>
     intro f' hj0
     simp only[tt,seval,hj0]
     refine cZ (aU ⟨#[41]⟩) ?_ ?_<;>simp only[tt,seval,gT,Tok.row]
     refine⟨by kernel_rfl,⟨by simp only[maxLen];(try simp only[ll] at *);omega,by (try simp only[ll] at *);omega⟩,?_⟩
     rw[dg (out++[(Tok.mk 5 ⟨#[40]⟩ 0)]++l),cO (out++[(Tok.mk 5 ⟨#[40]⟩ 0)]++l) (Tok.mk 5 ⟨#[41]⟩ 0)]
     refine⟨_,[],mt (l:=out++[(Tok.mk 5 ⟨#[40]⟩ 0)]++l++[(Tok.mk 5 ⟨#[41]⟩ 0)]) (by skip;simp [rf,tC,tD,gT]),ai ?_⟩
     simp only[tt,seval]
   ·rw[au h9] at hroom ⊢
    have hroom:out.length+l.length<=1000000:=hroom
    refine cZ (hx out hroom) ?_ ?_<;>simp only[tt,seval]
    refine⟨_,[],mt (l:=out++l) (by skip;simp [rf]),ai ?_⟩
    simp only[tt,seval]
theorem Di {full:Bool} {g:Expr->List Tok} {kind op:Int} {kids:List Expr} {k:Nat} (hk:k<kids.length):df full g kind op kids k=rf (Ef full kind op kids k) (g kids[k]):=by rw[df,List.getD_eq_getElem?_getD,az hk];rfl
theorem H2 (q:Query):(q.row=[])=False:=eq_false fun h=>Query.ne q [] (by rw[h];rfl)
theorem Dj {l:List Query} {q:Query} (h:l=[q]) (C:List D->Prop):(∃ds',l.flatMap Query.row=ds' /\ ¬ds'=[]/\C ds')=C q.row:=by
 subst h
 have e:[q].flatMap Query.row=q.row:=by simp
 rw[e]
 exact propext ⟨fun ⟨_,h1,_,h3⟩=>h1▸h3,fun h=>⟨_,rfl,fun h0=>(H2 q▸h0:False),h⟩⟩
def FG (full:Bool) (q:Query) (l:List Tok):Prop:=∀out:List Tok,out.length+l.length<=1000000->Cl Tryz.prog 65 [.c (.ow 150 (out).length ((out).flatMap Tok.row) none),.ag (ar q.row),vb full] [] fun r _=>r = .c (.ow 150 (out++l).length ((out++l).flatMap Tok.row) none)
set_option maxHeartbeats 4000000 in
theorem tN (kind op:Int) (not:Bool) (val:Val) (qual name:ByteArray) (kids:List Expr) (sub:List Query) (full:Bool) (gf:Expr->Bool) (g:Expr->List Tok) (hf:vL gf (Expr.mk kind op not val qual name kids sub)=true) (hnum : -9223372036854775808<=val.num/\val.num<=9223372036854775807) (hg:∀x∈kids,qU full x (g x)) (hgq:∀q∈sub,FG full q (qC g q)):qU full (Expr.mk kind op not val qual name kids sub) (yl full g (Expr.mk kind op not val qual name kids sub)):=by
 intro out hroom
 have hkid:∀k (hk:k<kids.length) (out:List Tok),out.length+(df full g kind op kids k).length<=1000000->Cl Tryz.prog 168 [.c (.ow 150 (out).length ((out).flatMap Tok.row) none),.ag (ar (Expr.mk kind op not val qual name kids sub).row),vi k,vb full] [] fun r _=>r = .c (.ow 150 (out++df full g kind op kids k).length ((out++df full g kind op kids k).flatMap Tok.row) none):=fun k hk out hr=>by
  rw[Di hk] at hr ⊢
  exact BZ kind op not val qual name kids sub full k hk _ (hg _ (aK hk)) out hr
 have hsp:=(qE hf).1
 clear hf hg
 rw[ae]
 rcases oQ hsp with⟨rfl,hl,hk0,hs0⟩|⟨rfl,hn,hm,hk0,hs0⟩|⟨rfl,ho,hk0,hs0⟩|⟨rfl,ho,hk0,hs0⟩|⟨rfl,hk0,hs0⟩|⟨rfl,hk0,hs0⟩|⟨rfl,hk0,hs0⟩|⟨rfl,hk0,hs0⟩|⟨rfl,hk0,hs0⟩
 ·skip
  have e:yl full g (Expr.mk 1 op not val qual name kids sub)=[kQ val]:=rfl
  rw[e] at hroom ⊢
  clear e
  simp only[ll] at hroom
  refine ah ab false Tryz.func80 rfl (by kernel_rfl) ?_
  simp only[Tryz.f80,tt,seval]
  refine cZ (BX val hnum.1 hnum.2) ?_ ?_<;>simp only[tt,seval,Tok.row,Val.row]
  refine⟨by kernel_rfl,⟨by simp only[maxLen];(try simp only[ll] at *);omega,by (try simp only[ll] at *);omega⟩,?_⟩
  rw[dg (out),cO (out) (Tok.mk (kQ val).kind (kQ val).text (kQ val).at_)]
  refine⟨_,[],mt (l:=out++[(Tok.mk (kQ val).kind (kQ val).text (kQ val).at_)]) (by rfl),ai ?_⟩
  simp only[tt,seval]
 ·skip
  have e:yl full g (Expr.mk 2 op not val qual name kids sub)=ke qual++[nT name]:=rfl
  rw[e] at hroom ⊢
  clear e
  simp only[ll] at hroom
  refine ah ab false Tryz.func80 rfl (by kernel_rfl) ?_
  simp only[Tryz.f80,tt,seval]
  refine aa (fun hq=>?_) (fun hq=>?_)
  ·have hq:¬qual=⟨#[]⟩:=by simpa using hq
   rw[ke,if_neg hq] at hroom ⊢
   simp only[ll] at hroom
   simp only[tt,seval]
   refine cZ (cH qual) ?_ ?_<;>simp only[tt,seval,nT,Tok.row]
   refine cZ (aU ⟨#[46]⟩) ?_ ?_<;>simp only[tt,seval,gT,Tok.row]
   refine⟨by kernel_rfl,⟨by simp only[maxLen];(try simp only[ll] at *);omega,by (try simp only[ll] at *);omega⟩,?_⟩
   rw[ri (out),pe (out) (Tok.mk 2 qual 0) (Tok.mk 5 ⟨#[46]⟩ 0)]
   refine cZ (cH name) ?_ ?_<;>simp only[tt,seval,nT,Tok.row]
   refine⟨by kernel_rfl,⟨by simp only[maxLen];(try simp only[ll] at *);omega,by (try simp only[ll] at *);omega⟩,?_⟩
   rw[dg (out++[(Tok.mk 2 qual 0),(Tok.mk 5 ⟨#[46]⟩ 0)]),cO (out++[(Tok.mk 2 qual 0),(Tok.mk 5 ⟨#[46]⟩ 0)]) (Tok.mk 2 name 0)]
   refine⟨_,[],mt (l:=out++[(Tok.mk 2 qual 0),(Tok.mk 5 ⟨#[46]⟩ 0)]++[(Tok.mk 2 name 0)]) (by simp [FE,gT]),ai ?_⟩
   simp only[tt,seval]
  ·have hq:qual=⟨#[]⟩:=by simpa using hq
   rw[ke,if_pos hq] at hroom ⊢
   simp only[ll] at hroom
   simp only[tt,seval]
   refine cZ (cH name) ?_ ?_<;>simp only[tt,seval,nT,Tok.row]
   refine⟨by kernel_rfl,⟨by simp only[maxLen];(try simp only[ll] at *);omega,by (try simp only[ll] at *);omega⟩,?_⟩
   rw[dg (out),cO (out) (Tok.mk 2 name 0)]
   refine⟨_,[],mt (l:=out++[(Tok.mk 2 name 0)]) (by rfl),ai ?_⟩
   simp only[tt,seval]
 ·skip
  have e:yl full g (Expr.mk 3 op not val qual name kids sub)=eC op::df full g 3 op kids 0:=rfl
  rw[e] at hroom ⊢
  clear e
  have hkid0:=hkid 0 (by omega)
  generalize df full g 3 op kids 0=a0 at *
  simp only[ll] at hroom
  refine ah ab false Tryz.func80 rfl (by kernel_rfl) ?_
  simp only[Tryz.f80,tt,seval]
  apply bx 6
  case h1=>
   refine dDrawn.intro [46] (.take 0 (.take 1 (.take 2 (.take 7 (.br 3 (.br 4 (.br 5 (.take 6 (.br 8 (.take 9 .done) .nobr)) (.br 6 (.br 5 (.br 8 (.take 9 .done) .nobr) .nobr) .nobr)) (.br 6 (.br 4 (.br 5 (.br 8 (.take 9 .done) .nobr) .nobr) .nobr) .nobr)) (.br 6 (.br 3 (.br 4 (.br 5 (.br 8 (.take 9 .done) .nobr) .nobr) .nobr) .nobr) .nobr)))))) (by kernel_rfl) ?_
   simp only[tt,seval]
   all_goals repeat' first|refine cj ?_ ?_|refine aO ?_ ?_
   all_goals
    refine cZ (tM op) ?_ ?_<;>simp only[tt,seval,Tok.row]
   all_goals repeat' first|refine gE ?_ ?_|refine cK ?_ ?_|refine cL ?_ ?_
   all_goals
    refine⟨by kernel_rfl,⟨by simp only[maxLen];(try simp only[ll] at *);omega,by (try simp only[ll] at *);omega⟩,?_⟩
    rw[dg (out),cO (out) (Tok.mk (eC op).kind (eC op).text (eC op).at_)]
   all_goals repeat' first|refine cj ?_ ?_|refine aO ?_ ?_
   all_goals
    refine cZ (hkid0 (out++[(Tok.mk (eC op).kind (eC op).text (eC op).at_)]) (by (try simp only[ll] at *);omega)) ?_ ?_
    ·simp only[tt,seval,ae]
     decide
    simp only[tt,seval,ae]
   all_goals exact⟨rfl,rfl,rfl⟩
  case h2=>
   intro f' hj0
   simp only[tt,seval,hj0]
   refine⟨_,[],mt (l:=out++[(Tok.mk (eC op).kind (eC op).text (eC op).at_)]++a0) (by simp),ai ?_⟩
   simp only[tt,seval]
 ·skip
  have e:yl full g (Expr.mk 4 op not val qual name kids sub)=df full g 4 op kids 0++(eC op::df full g 4 op kids 1):=rfl
  rw[e] at hroom ⊢
  clear e
  have hkid0:=hkid 0 (by omega)
  generalize df full g 4 op kids 0=a0 at *
  have hkid1:=hkid 1 (by omega)
  generalize df full g 4 op kids 1=a1 at *
  simp only[ll] at hroom
  refine ah ab false Tryz.func80 rfl (by kernel_rfl) ?_
  simp only[Tryz.f80,tt,seval]
  refine cZ (hkid0 (out) (by (try simp only[ll] at *);omega)) ?_ ?_<;>simp only[tt,seval,ae]
  apply bx 6
  case h1=>
   refine dDrawn.intro [80] (.take 0 (.take 1 (.take 2 (.take 7 (.br 3 (.br 4 (.br 5 (.take 6 (.br 8 (.take 9 .done) .nobr)) (.br 6 (.br 5 (.br 8 (.take 9 .done) .nobr) .nobr) .nobr)) (.br 6 (.br 4 (.br 5 (.br 8 (.take 9 .done) .nobr) .nobr) .nobr) .nobr)) (.br 6 (.br 3 (.br 4 (.br 5 (.br 8 (.take 9 .done) .nobr) .nobr) .nobr) .nobr) .nobr)))))) (by kernel_rfl) ?_
   simp only[tt,seval]
   all_goals repeat' first|refine cj ?_ ?_|refine aO ?_ ?_
   all_goals
    refine cZ (tM op) ?_ ?_<;>simp only[tt,seval,Tok.row]
   all_goals repeat' first|refine gE ?_ ?_|refine cK ?_ ?_|refine cL ?_ ?_
   all_goals
    refine⟨by kernel_rfl,⟨by simp only[maxLen];(try simp only[ll] at *);omega,by (try simp only[ll] at *);omega⟩,?_⟩
    rw[dg (out++a0),cO (out++a0) (Tok.mk (eC op).kind (eC op).text (eC op).at_)]
   all_goals repeat' first|refine cj ?_ ?_|refine aO ?_ ?_
   all_goals
    refine cZ (hkid1 (out++a0++[(Tok.mk (eC op).kind (eC op).text (eC op).at_)]) (by (try simp only[ll] at *);omega)) ?_ ?_
    ·simp only[tt,seval,ae]
     decide
    simp only[tt,seval,ae]
   all_goals exact⟨rfl,rfl,rfl⟩
  case h2=>
   intro f' hj0
   simp only[tt,seval,hj0]
   refine⟨_,[],mt (l:=out++a0++[(Tok.mk (eC op).kind (eC op).text (eC op).at_)]++a1) (by simp [b9]),ai ?_⟩
   simp only[tt,seval]
 ·skip
  have e:yl full g (Expr.mk 5 op not val qual name kids sub)=df full g 5 op kids 0++(kT 16::(dR not++[kT 20])):=rfl
  rw[e] at hroom ⊢
  clear e
  have hkid0:=hkid 0 (by omega)
  generalize df full g 5 op kids 0=a0 at *
  simp only[ll] at hroom
  refine ah ab false Tryz.func80 rfl (by kernel_rfl) ?_
  simp only[Tryz.f80,tt,seval]
  refine cZ (hkid0 (out) (by (try simp only[ll] at *);omega)) ?_ ?_<;>simp only[tt,seval,ae]
  apply bx 6
  case h1=>
   refine dDrawn.intro [88] (.take 0 (.br 1 (.br 2 (.br 3 (.take 4 (.br 5 (.br 6 (.br 7 (.br 8 (.take 9 .done) .nobr) .nobr) .nobr) .nobr)) (.br 4 (.br 3 (.br 5 (.br 6 (.br 7 (.br 8 (.take 9 .done) .nobr) .nobr) .nobr) .nobr) .nobr) .nobr)) (.br 4 (.br 2 (.br 3 (.br 5 (.br 6 (.br 7 (.br 8 (.take 9 .done) .nobr) .nobr) .nobr) .nobr) .nobr) .nobr) .nobr)) (.br 4 (.br 1 (.br 2 (.br 3 (.br 5 (.br 6 (.br 7 (.br 8 (.take 9 .done) .nobr) .nobr) .nobr) .nobr) .nobr) .nobr) .nobr) .nobr))) (by kernel_rfl) ?_
   simp only[tt,seval]
   all_goals repeat' first|refine cj ?_ ?_|refine aO ?_ ?_
   all_goals
    refine cZ (bi 16 (by omega) (by omega)) ?_ ?_<;>simp only[tt,seval,kT,Tok.row]
   all_goals repeat' first|refine gE ?_ ?_|refine cK ?_ ?_|refine cL ?_ ?_
   all_goals
    refine⟨by kernel_rfl,⟨by simp only[maxLen];(try simp only[ll] at *);omega,by (try simp only[ll] at *);omega⟩,?_⟩
    rw[dg (out++a0),cO (out++a0) (Tok.mk 1 (kw 16) 0)]
   all_goals repeat' first|refine cj ?_ ?_|refine aO ?_ ?_
   all_goals
    refine cZ (nr (out++a0++[(Tok.mk 1 (kw 16) 0)]) (Expr.mk 5 op not val qual name kids sub) (by (try simp only[ll] at *);omega)) ?_ ?_
    ·simp only[tt,seval,ae]
     decide
    simp only[tt,seval,ae,Expr.not]
   all_goals repeat' first|refine cj ?_ ?_|refine aO ?_ ?_
   all_goals
    refine cZ (bi 20 (by omega) (by omega)) ?_ ?_<;>simp only[tt,seval,kT,Tok.row]
   all_goals repeat' first|refine gE ?_ ?_|refine cK ?_ ?_|refine cL ?_ ?_
   all_goals
    refine⟨by kernel_rfl,⟨by simp only[maxLen];(try simp only[ll] at *);omega,by (try simp only[ll] at *);omega⟩,?_⟩
    rw[dg (out++a0++[(Tok.mk 1 (kw 16) 0)]++dR not),cO (out++a0++[(Tok.mk 1 (kw 16) 0)]++dR not) (Tok.mk 1 (kw 20) 0)]
   all_goals exact⟨rfl,rfl,rfl⟩
  case h2=>
   intro f' hj0
   simp only[tt,seval,hj0]
   refine⟨_,[],mt (l:=out++a0++[(Tok.mk 1 (kw 16) 0)]++dR not++[(Tok.mk 1 (kw 20) 0)]) (by simp [kT,dR,b9]),ai ?_⟩
   simp only[tt,seval]
 ·skip
  have e:yl full g (Expr.mk 6 op not val qual name kids sub)=df full g 6 op kids 0++(dR not++(kT 18::(df full g 6 op kids 1++(kT 13::df full g 6 op kids 2)))):=rfl
  rw[e] at hroom ⊢
  clear e
  have hkid0:=hkid 0 (by omega)
  generalize df full g 6 op kids 0=a0 at *
  have hkid1:=hkid 1 (by omega)
  generalize df full g 6 op kids 1=a1 at *
  have hkid2:=hkid 2 (by omega)
  generalize df full g 6 op kids 2=a2 at *
  simp only[ll] at hroom
  refine ah ab false Tryz.func80 rfl (by kernel_rfl) ?_
  simp only[Tryz.f80,tt,seval]
  refine cZ (hkid0 (out) (by (try simp only[ll] at *);omega)) ?_ ?_<;>simp only[tt,seval,ae]
  apply dx 0 4 2
  case h1=>
   refine dDrawn.intro [96,102] (.take 0 (.take 1 (.take 7 (.br 2 (.br 3 (.br 4 (.br 5 (.take 6 (.br 8 (.take 9 .done) .nobr)) (.br 6 (.br 5 (.br 8 (.take 9 .done) .nobr) .nobr) .nobr)) (.br 6 (.br 4 (.br 5 (.br 8 (.take 9 .done) .nobr) .nobr) .nobr) .nobr)) (.br 6 (.br 3 (.br 4 (.br 5 (.br 8 (.take 9 .done) .nobr) .nobr) .nobr) .nobr) .nobr)) (.br 6 (.br 2 (.br 3 (.br 4 (.br 5 (.br 8 (.take 9 .done) .nobr) .nobr) .nobr) .nobr) .nobr) .nobr))))) (by kernel_rfl) ?_
   simp only[tt,seval]
   all_goals repeat' first|refine cj ?_ ?_|refine aO ?_ ?_
   all_goals
    refine cZ (nr (out++a0) (Expr.mk 6 op not val qual name kids sub) (by (try simp only[ll] at *);omega)) ?_ ?_
    ·simp only[tt,seval,ae]
     decide
    simp only[tt,seval,ae,Expr.not]
   all_goals repeat' first|refine cj ?_ ?_|refine aO ?_ ?_
   all_goals
    refine cZ (bi 18 (by omega) (by omega)) ?_ ?_<;>simp only[tt,seval,kT,Tok.row]
   all_goals repeat' first|refine gE ?_ ?_|refine cK ?_ ?_|refine cL ?_ ?_
   all_goals
    refine⟨by kernel_rfl,⟨by simp only[maxLen];(try simp only[ll] at *);omega,by (try simp only[ll] at *);omega⟩,?_⟩
    rw[dg (out++a0++dR not),cO (out++a0++dR not) (Tok.mk 1 (kw 18) 0)]
   all_goals repeat' first|refine cj ?_ ?_|refine aO ?_ ?_
   all_goals
    refine cZ (hkid1 (out++a0++dR not++[(Tok.mk 1 (kw 18) 0)]) (by (try simp only[ll] at *);omega)) ?_ ?_
    ·simp only[tt,seval,ae]
     decide
    simp only[tt,seval,ae]
   all_goals exact⟨rfl,rfl,rfl,rfl,rfl⟩
  case h2=>
   intro f' hj0 hj1 hj2
   simp only[tt,seval]
   apply bx 6
   case h1=>
    refine dDrawn.intro [109] (.take 0 (.take 5 (.br 1 (.br 2 (.br 3 (.take 4 (.br 6 (.take 7 .done) .nobr)) (.br 4 (.br 3 (.br 6 (.take 7 .done) .nobr) .nobr) .nobr)) (.br 4 (.br 2 (.br 3 (.br 6 (.take 7 .done) .nobr) .nobr) .nobr) .nobr)) (.br 4 (.br 1 (.br 2 (.br 3 (.br 6 (.take 7 .done) .nobr) .nobr) .nobr) .nobr) .nobr)))) (by kernel_rfl) ?_
    simp only[tt,seval]
    all_goals try simp only[tt,seval,hj0,hj1,hj2]
    all_goals repeat' first|refine cj ?_ ?_|refine aO ?_ ?_
    all_goals
     refine cZ (bi 13 (by omega) (by omega)) ?_ ?_<;>simp only[tt,seval,kT,Tok.row,hj1]
    all_goals repeat' first|refine gE ?_ ?_|refine cK ?_ ?_|refine cL ?_ ?_
    all_goals
     refine⟨by kernel_rfl,⟨by simp only[maxLen];(try simp only[ll] at *);omega,by (try simp only[ll] at *);omega⟩,?_⟩
     rw[dg (out++a0++dR not++[(Tok.mk 1 (kw 18) 0)]++a1),cO (out++a0++dR not++[(Tok.mk 1 (kw 18) 0)]++a1) (Tok.mk 1 (kw 13) 0)]
    all_goals repeat' first|refine cj ?_ ?_|refine aO ?_ ?_
    all_goals
     refine cZ (hkid2 (out++a0++dR not++[(Tok.mk 1 (kw 18) 0)]++a1++[(Tok.mk 1 (kw 13) 0)]) (by (try simp only[ll] at *);omega)) ?_ ?_
     ·simp only[tt,seval,ae]
      decide
     simp only[tt,seval,ae]
    all_goals exact⟨rfl,rfl,rfl⟩
   case h2=>
    intro f' hj0
    simp only[tt,seval,hj0]
    refine⟨_,[],mt (l:=out++a0++dR not++[(Tok.mk 1 (kw 18) 0)]++a1++[(Tok.mk 1 (kw 13) 0)]++a2) (by simp [kT,dR,b9]),ai ?_⟩
    simp only[tt,seval]
 ·skip
  have e:yl full g (Expr.mk 7 op not val qual name kids sub)=df full g 7 op kids 0++(dR not++(kT 17::tC::((bJ (yj full g 7 op kids) (kids.length-1))++[tD]))):=rfl
  rw[e] at hroom ⊢
  clear e
  simp only[ll] at hroom
  refine ah ab false Tryz.func80 rfl (by kernel_rfl) ?_
  simp only[Tryz.f80,tt,seval]
  have hkid0:=hkid 0 (by omega)
  obtain⟨a0,ha0⟩:∃a0,a0=df full g 7 op kids 0:=⟨_,rfl⟩
  rw[<-ha0] at hkid0 hroom ⊢
  refine cZ (hkid0 (out) (by (try simp only[ll] at *);omega)) ?_ ?_<;>simp only[tt,seval,ae]
  refine cZ (nr (out++a0) (Expr.mk 7 op not val qual name kids sub) (by (try simp only[ll] at *);omega)) ?_ ?_<;>simp only[tt,seval,ae,Expr.not]
  refine cZ (bi 17 (by omega) (by omega)) ?_ ?_<;>simp only[tt,seval,kT,Tok.row]
  refine cZ (aU ⟨#[40]⟩) ?_ ?_<;>simp only[tt,seval,gT,Tok.row]
  refine⟨by kernel_rfl,⟨by simp only[maxLen];(try simp only[ll] at *);omega,by (try simp only[ll] at *);omega⟩,?_⟩
  rw[ri (out++a0++dR not),pe (out++a0++dR not) (Tok.mk 1 (kw 17) 0) (Tok.mk 5 ⟨#[40]⟩ 0)]
  obtain⟨L0,hL0⟩:∃L0,L0=out++a0++dR not++[(Tok.mk 1 (kw 17) 0),(Tok.mk 5 ⟨#[40]⟩ 0)]:=⟨_,rfl⟩
  have hL0l:L0.length=out.length+a0.length+(dR not).length+2:=by rw[hL0];simp only[ll]
  rw[<-hL0]
  refine dLoop.gh [.ren 116 10147] ⟨by decide,by decide,?_⟩
  refine dLoop0.intro (fun f L p=>∃(j:Nat) (es:List Tok),f 7=vi (j+1:Nat)/\f 0 = .c (.s 10147 es.length)/\j<=kids.length-1/\es=L0++bJ (yj full g 7 op kids) j/\L=[(10147,.arr 150 es.length (es.flatMap Tok.row) none),(4,.str [.v (.int .i64 7),.v (.int .i64 op),.v (.bool not),.v (.int .i64 val.kind),.v (.int .i64 val.num),.v (.string val.text),.v (.string qual),.v (.string name),.sl kids.length (kids.flatMap Expr.row) none,.sl sub.length (sub.flatMap Query.row) none])]/\p=none) (fun f _ _=>(kids.length-bq (f 7)).toNat) [(10147,.arr 150 L0.length (L0.flatMap Tok.row) none),(4,.str [.v (.int .i64 7),.v (.int .i64 op),.v (.bool not),.v (.int .i64 val.kind),.v (.int .i64 val.num),.v (.string val.text),.v (.string qual),.v (.string name),.sl kids.length (kids.flatMap Expr.row) none,.sl sub.length (sub.flatMap Query.row) none])] none ⟨ac rfl (ac rfl (al _)),an _,?_⟩ ?_
  ·simp only[tt,seval]
   exact⟨0,L0,rfl,rfl,by omega,(List.append_nil _).symm,rfl⟩
  ·rintro g' L p ⟨j,es,hi,hx,hjn,hes0,rfl,rfl⟩
   simp only[tt,seval] at hi hx
   simp only[tt,seval,hi,hx]
   refine fun _=>aa (fun hlt=>?_) (fun hge=>?_)
   ·have hlt:j<kids.length-1:=by omega
    have hst:=dA (yj full g 7 op kids) j
    have hlt2:=iQ (yj full g 7 op kids) hlt
    have hel:es.length=L0.length+(bJ (yj full g 7 op kids) j).length:=by rw[hes0,aB]
    have hlen:(L0++bJ (yj full g 7 op kids) (kids.length-1)).length+1<=1000000:=by simp only[ll] at *;omega
    simp only[ll] at hlen
    refine aa (fun hc=>?_) (fun hc=>?_)
    ·have hj0:0<j:=by omega
     have hfj:yj full g 7 op kids j=[(Tok.mk 5 ⟨#[44]⟩ 0)]++df full g 7 op kids (j+1):=by rw[yj,oP,if_pos hj0];rfl
     rw[hfj] at hst hlt2
     simp only[ll] at hlt2
     have hkj:=hkid (j+1) (by omega)
     generalize df full g 7 op kids (j+1)=aj at *
     refine cZ (aU ⟨#[44]⟩) ?_ ?_<;>simp only[tt,seval,gT,Tok.row,hi]
     refine⟨by kernel_rfl,⟨by simp only[maxLen];(try simp only[ll] at *);omega,by (try simp only[ll] at *);omega⟩,?_⟩
     rw[dg (es),cO (es) (Tok.mk 5 ⟨#[44]⟩ 0)]
     refine cZ (hkj (es++[(Tok.mk 5 ⟨#[44]⟩ 0)]) (by (try simp only[ll] at *);omega)) ?_ ?_<;>simp only[tt,seval,ae,hi]
     rw[aq (n:=((j+1:Nat):Int)+1) (by omega) (by omega)]
     exact⟨[(10147,.arr 150 (es++[(Tok.mk 5 ⟨#[44]⟩ 0)]++aj).length ((es++[(Tok.mk 5 ⟨#[44]⟩ 0)]++aj).flatMap Tok.row) none),(4,.str [.v (.int .i64 7),.v (.int .i64 op),.v (.bool not),.v (.int .i64 val.kind),.v (.int .i64 val.num),.v (.string val.text),.v (.string qual),.v (.string name),.sl kids.length (kids.flatMap Expr.row) none,.sl sub.length (sub.flatMap Query.row) none])],none,ac rfl (ac rfl (al _)),an _,⟨j+1,es++[(Tok.mk 5 ⟨#[44]⟩ 0)]++aj,rfl,rfl,by omega,by rw[hst,hes0];simp [b9],rfl,rfl⟩,by simp only[bq];omega⟩
    ·have hj0:j=0:=by omega
     subst hj0
     have hfj:yj full g 7 op kids 0=df full g 7 op kids (0+1):=by rw[yj,oP,if_neg (Nat.lt_irrefl 0)];rfl
     rw[hfj] at hst hlt2
     have hkj:=hkid (0+1) (by omega)
     generalize df full g 7 op kids (0+1)=aj at *
     simp only[tt,seval]
     refine cZ (hkj es (by (try simp only[ll] at *);omega)) ?_ ?_<;>simp only[tt,seval,ae,hi]
     try rw[aq (n:=(2:Int)) (by omega) (by omega)]
     exact⟨[(10147,.arr 150 (es++aj).length ((es++aj).flatMap Tok.row) none),(4,.str [.v (.int .i64 7),.v (.int .i64 op),.v (.bool not),.v (.int .i64 val.kind),.v (.int .i64 val.num),.v (.string val.text),.v (.string qual),.v (.string name),.sl kids.length (kids.flatMap Expr.row) none,.sl sub.length (sub.flatMap Query.row) none])],none,ac rfl (ac rfl (al _)),an _,⟨0+1,es++aj,rfl,rfl,by omega,by rw[hst,hes0];simp [b9],rfl,rfl⟩,by simp only[bq];omega⟩
   ·have hje:j=kids.length-1:=by omega
    rw[hje] at hes0
    have hel:es.length=L0.length+(bJ (yj full g 7 op kids) (kids.length-1)).length:=by rw[hes0,aB]
    refine cZ (aU ⟨#[41]⟩) ?_ ?_<;>simp only[tt,seval,gT,Tok.row]
    refine⟨by kernel_rfl,⟨by simp only[maxLen];(try simp only[ll] at *);omega,by (try simp only[ll] at *);omega⟩,?_⟩
    rw[dg (es),cO (es) (Tok.mk 5 ⟨#[41]⟩ 0)]
    refine⟨_,[],mt (l:=es++[(Tok.mk 5 ⟨#[41]⟩ 0)]) (by rw[hes0,hL0];simp [tC,tD,gT,kT,dR,b9]),ai ?_⟩
    simp only[tt,seval]
 ·skip
  obtain⟨q,hsub⟩:=qF hs0
  have hsl:sb g sub=qC g q:=by rw[hsub];rfl
  have hq:=hgq q (by rw[hsub];simp)
  have hpos:((0:Int)<sub.length)=True:=eq_true (by omega)
  have e:yl full g (Expr.mk 8 op not val qual name kids sub)=df full g 8 op kids 0++(dR not++(kT 17::tC::(sb g sub++[tD]))):=rfl
  rw[e] at hroom ⊢
  clear e
  have hkid0:=hkid 0 (by omega)
  generalize df full g 8 op kids 0=a0 at *
  simp only[ll] at hroom
  refine ah ab false Tryz.func80 rfl (by kernel_rfl) ?_
  simp only[Tryz.f80,tt,seval]
  rw[hsl] at hroom ⊢
  refine cZ (hkid0 (out) (by (try simp only[ll] at *);omega)) ?_ ?_<;>simp only[tt,seval,ae]
  refine cZ (nr (out++a0) (Expr.mk 8 op not val qual name kids sub) (by (try simp only[ll] at *);omega)) ?_ ?_<;>simp only[tt,seval,ae,Expr.not]
  refine cZ (bi 17 (by omega) (by omega)) ?_ ?_<;>simp only[tt,seval,kT,Tok.row]
  refine cZ (aU ⟨#[40]⟩) ?_ ?_<;>simp only[tt,seval,gT,Tok.row]
  refine⟨by kernel_rfl,⟨by simp only[maxLen];(try simp only[ll] at *);omega,by (try simp only[ll] at *);omega⟩,?_⟩
  rw[ri (out++a0++dR not),pe (out++a0++dR not) (Tok.mk 1 (kw 17) 0) (Tok.mk 5 ⟨#[40]⟩ 0)]
  simp only[tt,seval,Dj hsub,hpos,jv (Query.row_len q),Query.row_len]
  refine cZ (hq (out++a0++dR not++[(Tok.mk 1 (kw 17) 0),(Tok.mk 5 ⟨#[40]⟩ 0)]) (by (try simp only[ll] at *);omega)) ?_ ?_<;>simp only[tt,seval]
  refine cZ (aU ⟨#[41]⟩) ?_ ?_<;>simp only[tt,seval,gT,Tok.row]
  refine⟨by kernel_rfl,⟨by simp only[maxLen];(try simp only[ll] at *);omega,by (try simp only[ll] at *);omega⟩,?_⟩
  rw[dg (out++a0++dR not++[(Tok.mk 1 (kw 17) 0),(Tok.mk 5 ⟨#[40]⟩ 0)]++qC g q),cO (out++a0++dR not++[(Tok.mk 1 (kw 17) 0),(Tok.mk 5 ⟨#[40]⟩ 0)]++qC g q) (Tok.mk 5 ⟨#[41]⟩ 0)]
  refine⟨_,[],mt (l:=out++a0++dR not++[(Tok.mk 1 (kw 17) 0),(Tok.mk 5 ⟨#[40]⟩ 0)]++qC g q++[(Tok.mk 5 ⟨#[41]⟩ 0)]) (by simp [tC,tD,gT,kT,dR,b9]),ai ?_⟩
  simp only[tt,seval]
 ·skip
  obtain⟨q,hsub⟩:=qF hs0
  have hsl:sb g sub=qC g q:=by rw[hsub];rfl
  have hq:=hgq q (by rw[hsub];simp)
  have hpos:((0:Int)<sub.length)=True:=eq_true (by omega)
  have e:yl full g (Expr.mk 9 op not val qual name kids sub)=kT 19::tC::(sb g sub++[tD]):=rfl
  rw[e] at hroom ⊢
  clear e
  simp only[ll] at hroom
  refine ah ab false Tryz.func80 rfl (by kernel_rfl) ?_
  simp only[Tryz.f80,tt,seval]
  rw[hsl] at hroom ⊢
  apply bx 0
  case h1=>
   refine dDrawn.intro [59] (.take 0 (.take 5 (.take 9 (.br 1 (.br 2 (.br 3 (.br 4 (.take 6 (.take 7 (.take 8 (.br 10 (.take 11 .done) .nobr)))) (.br 6 (.take 7 (.br 4 (.take 8 (.br 10 (.take 11 .done) .nobr)) (.br 8 (.br 4 (.br 10 (.take 11 .done) .nobr) .nobr) .nobr))) .nobr)) (.br 6 (.take 7 (.br 3 (.br 4 (.take 8 (.br 10 (.take 11 .done) .nobr)) (.br 8 (.br 4 (.br 10 (.take 11 .done) .nobr) .nobr) .nobr)) (.br 8 (.br 3 (.br 4 (.br 10 (.take 11 .done) .nobr) .nobr) .nobr) .nobr))) .nobr)) (.br 6 (.take 7 (.br 2 (.br 3 (.br 4 (.take 8 (.br 10 (.take 11 .done) .nobr)) (.br 8 (.br 4 (.br 10 (.take 11 .done) .nobr) .nobr) .nobr)) (.br 8 (.br 3 (.br 4 (.br 10 (.take 11 .done) .nobr) .nobr) .nobr) .nobr)) (.br 8 (.br 2 (.br 3 (.br 4 (.br 10 (.take 11 .done) .nobr) .nobr) .nobr) .nobr) .nobr))) .nobr)) (.br 6 (.take 7 (.br 1 (.br 2 (.br 3 (.br 4 (.take 8 (.br 10 (.take 11 .done) .nobr)) (.br 8 (.br 4 (.br 10 (.take 11 .done) .nobr) .nobr) .nobr)) (.br 8 (.br 3 (.br 4 (.br 10 (.take 11 .done) .nobr) .nobr) .nobr) .nobr)) (.br 8 (.br 2 (.br 3 (.br 4 (.br 10 (.take 11 .done) .nobr) .nobr) .nobr) .nobr) .nobr)) (.br 8 (.br 1 (.br 2 (.br 3 (.br 4 (.br 10 (.take 11 .done) .nobr) .nobr) .nobr) .nobr) .nobr) .nobr))) .nobr))))) (by kernel_rfl) ?_
   simp only[tt,seval]
   all_goals try simp only[tt,seval,Dj hsub,hpos,jv (Query.row_len q),Query.row_len]
   all_goals repeat' first|refine cj ?_ ?_|refine aO ?_ ?_
   all_goals
    refine cZ (bi 19 (by omega) (by omega)) ?_ ?_<;>simp only[tt,seval,kT,Tok.row,Dj hsub,hpos,jv (Query.row_len q),Query.row_len]
   all_goals repeat' first|refine cj ?_ ?_|refine aO ?_ ?_
   all_goals
    refine cZ (aU ⟨#[40]⟩) ?_ ?_<;>simp only[tt,seval,gT,Tok.row,Dj hsub,hpos,jv (Query.row_len q),Query.row_len]
   all_goals repeat' first|refine gE ?_ ?_|refine cK ?_ ?_|refine cL ?_ ?_
   all_goals
    refine⟨by kernel_rfl,⟨by simp only[maxLen];(try simp only[ll] at *);omega,by (try simp only[ll] at *);omega⟩,?_⟩
    rw[ri (out),pe (out) (Tok.mk 1 (kw 19) 0) (Tok.mk 5 ⟨#[40]⟩ 0)]
   all_goals repeat' first|refine cj ?_ ?_|refine aO ?_ ?_
   all_goals
    refine cZ (hq (out++[(Tok.mk 1 (kw 19) 0),(Tok.mk 5 ⟨#[40]⟩ 0)]) (by (try simp only[ll] at *);omega)) ?_ ?_
    ·simp only[tt,seval]
     decide
    simp only[tt,seval]
   all_goals exact⟨rfl,rfl,rfl⟩
  case h2=>
   intro f' hj0
   simp only[tt,seval,hj0]
   refine cZ (aU ⟨#[41]⟩) ?_ ?_<;>simp only[tt,seval,kT,gT,Tok.row]
   refine⟨by kernel_rfl,⟨by simp only[maxLen];(try simp only[ll] at *);omega,by (try simp only[ll] at *);omega⟩,?_⟩
   rw[dg (out++[(Tok.mk 1 (kw 19) 0),(Tok.mk 5 ⟨#[40]⟩ 0)]++qC g q),cO (out++[(Tok.mk 1 (kw 19) 0),(Tok.mk 5 ⟨#[40]⟩ 0)]++qC g q) (Tok.mk 5 ⟨#[41]⟩ 0)]
   refine⟨_,[],mt (l:=out++[(Tok.mk 1 (kw 19) 0),(Tok.mk 5 ⟨#[40]⟩ 0)]++qC g q++[(Tok.mk 5 ⟨#[41]⟩ 0)]) (by simp [tC,tD,gT,b9]),ai ?_⟩
   simp only[tt,seval]
set_option maxHeartbeats 1000000 in
theorem sf (full:Bool) (x:Item) (g:Expr->List Tok) (hg:x.star=false->qU full x.e (g x.e)) (out:List Tok) (hroom:out.length+(il g x).length<=1000000):Cl Tryz.prog 139 [.c (.ow 150 (out).length ((out).flatMap Tok.row) none),.ag (ar x.row),vb full] [] fun r _=>r = .c (.ow 150 (out++il g x).length ((out++il g x).flatMap Tok.row) none):=by
 obtain⟨star,qual,⟨k0,o0,n0,v0,q0,m0,ks0,ss0⟩,as_⟩:=x
 cases star
 case false=>
  have hx:∀out:List Tok,out.length+(g (Expr.mk k0 o0 n0 v0 q0 m0 ks0 ss0)).length<=1000000->Cl Tryz.prog 80 [.c (.ow 150 (out).length ((out).flatMap Tok.row) none),.ag (ar (Expr.mk k0 o0 n0 v0 q0 m0 ks0 ss0).row),vb full] [] fun r _=>r = .c (.ow 150 (out++g (Expr.mk k0 o0 n0 v0 q0 m0 ks0 ss0)).length ((out++g (Expr.mk k0 o0 n0 v0 q0 m0 ks0 ss0)).flatMap Tok.row) none):=hg rfl
  have e:il g (.mk false qual (Expr.mk k0 o0 n0 v0 q0 m0 ks0 ss0) as_)=g (Expr.mk k0 o0 n0 v0 q0 m0 ks0 ss0)++kf as_:=rfl
  rw[e] at hroom ⊢
  clear e
  generalize g (Expr.mk k0 o0 n0 v0 q0 m0 ks0 ss0)=l at *
  simp only[ll] at hroom
  rw[ae] at hx
  rw[Item.row_mk,ae]
  refine ah ab false Tryz.func139 rfl (by kernel_rfl) ?_
  simp only[Tryz.f139,tt,seval]
  apply bx 6
  case h1=>
   refine dDrawn.intro [14,17] (.take 0 (.take 1 (.take 2 (.take 3 (.take 5 (.br 4 (.take 6 (.br 7 (.take 8 .done) .nobr)) (.br 6 (.br 4 (.br 7 (.take 8 .done) .nobr) .nobr) .nobr))))))) (by kernel_rfl) ?_
   simp only[tt,seval]
   all_goals repeat' first|refine cj ?_ ?_|refine aO ?_ ?_
   all_goals
    refine cZ (hx out (by (try simp only[ll] at *);omega)) ?_ ?_
    ·simp only[tt,seval]
     decide
    simp only[tt,seval]
   all_goals repeat' first|refine cj ?_ ?_|refine aO ?_ ?_
   all_goals
    refine cZ (nt (out++l) as_ (by (try simp only[ll] at *);omega)) ?_ ?_
    ·simp only[tt,seval]
     decide
    simp only[tt,seval]
   all_goals exact⟨rfl,rfl,rfl⟩
  case h2=>
   intro f' hj0
   simp only[tt,seval,hj0]
   refine⟨_,[],mt (l:=out++l++kf as_) (by simp [b9]),ai ?_⟩
   simp only[tt,seval]
 case true=>
  have e:il g (.mk true qual (Expr.mk k0 o0 n0 v0 q0 m0 ks0 ss0) as_)=ke qual++[EO]:=rfl
  rw[e] at hroom ⊢
  clear e
  simp only[ll] at hroom
  rw[Item.row_mk,ae]
  refine ah ab false Tryz.func139 rfl (by kernel_rfl) ?_
  simp only[Tryz.f139,tt,seval]
  refine aa (fun hq=>?_) (fun hq=>?_)
  ·have hq:¬qual=⟨#[]⟩:=by simpa using hq
   rw[ke,if_neg hq] at hroom ⊢
   simp only[ll] at hroom
   simp only[tt,seval]
   refine cZ (cH qual) ?_ ?_<;>simp only[tt,seval,nT,Tok.row]
   refine cZ (aU ⟨#[46]⟩) ?_ ?_<;>simp only[tt,seval,gT,Tok.row]
   refine⟨by kernel_rfl,⟨by simp only[maxLen];(try simp only[ll] at *);omega,by (try simp only[ll] at *);omega⟩,?_⟩
   rw[ri (out),pe (out) (Tok.mk 2 qual 0) (Tok.mk 5 ⟨#[46]⟩ 0)]
   refine cZ (aU ⟨#[42]⟩) ?_ ?_<;>simp only[tt,seval,gT,Tok.row]
   refine⟨by kernel_rfl,⟨by simp only[maxLen];(try simp only[ll] at *);omega,by (try simp only[ll] at *);omega⟩,?_⟩
   rw[dg (out++[(Tok.mk 2 qual 0),(Tok.mk 5 ⟨#[46]⟩ 0)]),cO (out++[(Tok.mk 2 qual 0),(Tok.mk 5 ⟨#[46]⟩ 0)]) (Tok.mk 5 ⟨#[42]⟩ 0)]
   refine⟨_,[],mt (l:=out++[(Tok.mk 2 qual 0),(Tok.mk 5 ⟨#[46]⟩ 0)]++[(Tok.mk 5 ⟨#[42]⟩ 0)]) (by simp [gT,FE,EO,b9]),ai ?_⟩
   simp only[tt,seval]
  ·have hq:qual=⟨#[]⟩:=by simpa using hq
   rw[ke,if_pos hq] at hroom ⊢
   simp only[ll] at hroom
   simp only[tt,seval]
   refine cZ (aU ⟨#[42]⟩) ?_ ?_<;>simp only[tt,seval,gT,Tok.row]
   refine⟨by kernel_rfl,⟨by simp only[maxLen];(try simp only[ll] at *);omega,by (try simp only[ll] at *);omega⟩,?_⟩
   rw[dg (out),cO (out) (Tok.mk 5 ⟨#[42]⟩ 0)]
   refine⟨_,[],mt (l:=out++[(Tok.mk 5 ⟨#[42]⟩ 0)]) (by simp [gT,EO]),ai ?_⟩
   simp only[tt,seval]
set_option maxHeartbeats 1000000 in
theorem mu (full:Bool) (l:List Expr) (g:Expr->List Tok) (hll:l.length<=1048576) (hg:∀x∈l,qU full x (g x)) (out:List Tok) (hroom:out.length+(vN g l).length<=1000000):Cl Tryz.prog 141 [.c (.ow 150 (out).length ((out).flatMap Tok.row) none),.c (.sl l.length (l.flatMap Expr.row) none),vb full] [] fun r _=>r = .c (.ow 150 (out++vN g l).length ((out++vN g l).flatMap Tok.row) none):=by
 refine ah ab false Tryz.func141 rfl (by kernel_rfl) ?_
 simp only[Tryz.f141,tt,seval]
 refine fun _=>?_
 rcases hL:l with _|⟨e,r⟩
 ·rw[hL] at hroom
  simp only[tt,seval]
  refine⟨_,[],mt (l:=out) (by exact (List.append_nil _).symm),ai ?_⟩
  simp only[tt,seval]
 ·rw[<-hL]
  have hlen:l.length=r.length+1:=by rw[hL];rfl
  have hw:vN g l=kT 6::g e:=by rw[hL];rfl
  have hx:∀out:List Tok,out.length+(g e).length<=1000000->Cl Tryz.prog 80 [.c (.ow 150 (out).length ((out).flatMap Tok.row) none),.ag (ar e.row),vb full] [] fun r _=>r = .c (.ow 150 (out++g e).length ((out++g e).flatMap Tok.row) none):=hg e (by rw[hL];simp)
  have hpos:((0:Int)<l.length)=True:=eq_true (by omega)
  rw[hw] at hroom ⊢
  clear hw
  generalize g e=le at *
  simp only[ll] at hroom
  simp only[tt,seval,show (¬(l.length:Int)=0) from by omega]
  apply bx 6
  case h1=>
   refine dDrawn.intro [19] (.take 0 (.take 4 (.take 5 (.take 7 (.br 1 (.br 2 (.br 3 (.take 6 (.br 8 (.take 9 .done) .nobr)) (.br 6 (.br 3 (.br 8 (.take 9 .done) .nobr) .nobr) .nobr)) (.br 6 (.br 2 (.br 3 (.br 8 (.take 9 .done) .nobr) .nobr) .nobr) .nobr)) (.br 6 (.br 1 (.br 2 (.br 3 (.br 8 (.take 9 .done) .nobr) .nobr) .nobr) .nobr) .nobr)))))) (by kernel_rfl) ?_
   simp only[tt,seval]
   all_goals try simp only[tt,seval,A7 hL aJ,hpos,dw (aJ e),aJ]
   all_goals repeat' first|refine cj ?_ ?_|refine aO ?_ ?_
   all_goals
    refine cZ (bi 6 (by omega) (by omega)) ?_ ?_<;>simp only[tt,seval,kT,Tok.row,dw (aJ e),aJ]
   all_goals repeat' first|refine gE ?_ ?_|refine cK ?_ ?_|refine cL ?_ ?_
   all_goals
    refine⟨by kernel_rfl,⟨by simp only[maxLen];(try simp only[ll] at *);omega,by (try simp only[ll] at *);omega⟩,?_⟩
    rw[dg (out),cO (out) (Tok.mk 1 (kw 6) 0)]
   all_goals repeat' first|refine cj ?_ ?_|refine aO ?_ ?_
   all_goals
    refine cZ (hx (out++[(Tok.mk 1 (kw 6) 0)]) (by (try simp only[ll] at *);omega)) ?_ ?_
    ·simp only[tt,seval]
     decide
    simp only[tt,seval]
   all_goals exact⟨rfl,rfl,rfl⟩
  case h2=>
   intro f' hj0
   simp only[tt,seval,hj0]
   refine⟨_,[],mt (l:=out++[(Tok.mk 1 (kw 6) 0)]++le) (by simp [kT,b9]),ai ?_⟩
   simp only[tt,seval]
set_option maxHeartbeats 4000000 in
theorem zJ (full:Bool) (from_:List Source) (g:Expr->List Tok) (hsz:cR from_<=1048576) (hg:∀s∈from_,∀x∈s.on,qU full x (g x)) (out:List Tok) (hroom:out.length+(bJ (lH g from_) from_.length).length<=1000000):Cl Tryz.prog 140 [.c (.ow 150 (out).length ((out).flatMap Tok.row) none),.c (.sl from_.length (from_.flatMap Source.row) none),vb full] [] fun r _=>r = .c (.ow 150 (out++bJ (lH g from_) from_.length).length ((out++bJ (lH g from_) from_.length).flatMap Tok.row) none):=by
 have hfl:from_.length<=1048576:=by rw[bX] at hsz;omega
 refine ah ab false Tryz.func140 rfl (by kernel_rfl) ?_
 simp only[Tryz.f140,tt,seval]
 refine dLoop.gh [.ren 9500 10078] ⟨by decide,by decide,?_⟩
 refine dLoop0.introR (fun f L p=>∃(i:Nat) (es:List Tok),f 7=vi i/\f 0 = .c (.s 10078 es.length)/\i<=from_.length/\es=out++bJ (lH g from_) i/\L=[(10078,.arr 150 (es).length ((es).flatMap Tok.row) none)]/\p=none) (fun f _ _=>(from_.length-bq (f 7)).toNat) [(10078,.arr 150 (out).length ((out).flatMap Tok.row) none)] none ⟨ac rfl (al _),an _,?_⟩ ?_
 ·simp only[tt,seval]
  exact⟨0,out,rfl,rfl,by omega,(List.append_nil _).symm,rfl⟩
 ·rintro g' L p ⟨i,es,h7,h0,hi,hes0,rfl,rfl⟩
  simp only[tt,seval] at h7 h0
  simp only[tt,seval,h7,h0,Int.ofNat_lt]
  refine fun _=>aa (fun hlt=>?_) (fun hge=>?_)
  ·have hlt:i<from_.length:=by omega
   have hst:=dA (lH g from_) i
   have hlt2:=iQ (lH g from_) hlt
   have hel:es.length=out.length+(bJ (lH g from_) i).length:=by rw[hes0,aB]
   obtain⟨it,bD⟩:∃it,it=from_[i]:=⟨_,rfl⟩
   have hx:from_[i]?=some it:=by rw[bD];exact az hlt
   have hss:lH g from_ i=vq g i it:=by rw[lH,dP hlt,bD]
   rw[hss] at hst hlt2
   have hgi:=hg it (by rw[bD];exact aK hlt)
   have hso:=dX cA (show it∈from_ by rw[bD];exact aK hlt)
   rw[bX] at hsz
   obtain⟨table,as_,on⟩:=it
   rw[dF,aC] at hso
   have hon:on.length<=1048576:=by omega
   have hol:(on.length<=9223372036854775807)=True:=eq_true (by omega)
   have i0:((0:Int)<=(i:Int))=True:=eq_true (by omega)
   have iL:((i:Int)<(from_.length:Int))=True:=eq_true (by omega)
   rcases hL:on with _|⟨e,r⟩
   ·have hle:Ch g on=[]:=by rw[hL];rfl
    have hlen:on.length=0:=by rw[hL];rfl
    have op:¬(0:Int)<on.length:=by omega
    have oz:(on.length:Int)=0:=by omega
    by_cases hi0:i=0
    ·have ip:¬(0:Int)<i:=by omega
     have hsrc:vq g i (Source.mk table as_ on)=[]++(nT table::(kf as_++[])):=by
      show (if 0<i then (if 0<on.length then [kT 4] else [yi]) else [])++(nT table::(kf as_++Ch g on))=_
      rw[hle]
      rw[if_neg (by omega)]
     rw[hsrc] at hlt2
     simp only[ll] at hlt2
     simp only[tt,seval,h7,h0,au ip]
     apply eB 0 7 1 2
     case h1=>
      refine dDrawn.intro [58] (.take 0 (.take 1 (.take 2 (.take 3 (.take 4 (.take 5 (.take 9 (.take 10 (.take 11 (.take 12 (.br 6 (.br 7 (.br 8 (.take 13 (.br 14 (.take 15 .done) .nobr)) (.br 13 (.br 8 (.br 14 (.take 15 .done) .nobr) .nobr) .nobr)) (.br 13 (.br 7 (.br 8 (.br 14 (.take 15 .done) .nobr) .nobr) .nobr) .nobr)) (.br 13 (.br 6 (.br 7 (.br 8 (.br 14 (.take 15 .done) .nobr) .nobr) .nobr) .nobr) .nobr)))))))))))) (by kernel_rfl) ?_
      simp only[tt,seval]
      all_goals try simp only[tt,seval,h7,h0,bP hx Source.row_len,i0,iL,Source.row_mk]
      all_goals repeat' first|refine cj ?_ ?_|refine aO ?_ ?_
      all_goals
       refine cZ (cH table) ?_ ?_<;>simp only[tt,seval,nT,Tok.row]
      all_goals repeat' first|refine gE ?_ ?_|refine cK ?_ ?_|refine cL ?_ ?_
      all_goals
       refine⟨by kernel_rfl,⟨by simp only[maxLen];(try simp only[ll] at *);omega,by (try simp only[ll] at *);omega⟩,?_⟩
       rw[dg (es),cO (es) (Tok.mk 2 table 0)]
      all_goals repeat' first|refine cj ?_ ?_|refine aO ?_ ?_
      all_goals
       refine cZ (nt (es++[(Tok.mk 2 table 0)]) as_ (by (try simp only[ll] at *);omega)) ?_ ?_
       ·simp only[tt,seval]
        decide
       simp only[tt,seval,h7]
      all_goals exact⟨rfl,rfl,rfl,rfl,rfl,rfl⟩
     case h2=>
      intro f' hj0 hj1 hj2 hj3
      simp only[tt,seval,hj2,hj1,bP hx Source.row_len,i0,iL,hol,Source.row_mk,au op]
      try rw[f5 i (by omega)]
      refine⟨[.ren 10058 10078],by decide,by decide,?_⟩
      simp only[tt,seval,mn,hj0]
      exact⟨[(10078,.arr 150 (es++[(Tok.mk 2 table 0)]++kf as_).length ((es++[(Tok.mk 2 table 0)]++kf as_).flatMap Tok.row) none)],none,ac rfl (al _),an _,⟨i+1,es++[(Tok.mk 2 table 0)]++kf as_,rfl,rfl,by omega,by rw[hst,hes0,hsrc];simp [nT,b9],rfl,rfl⟩,by simp only[bq];omega⟩
    ·have ip:(0:Int)<i:=by omega
     have hsrc:vq g i (Source.mk table as_ on)=[yi]++(nT table::(kf as_++[])):=by
      show (if 0<i then (if 0<on.length then [kT 4] else [yi]) else [])++(nT table::(kf as_++Ch g on))=_
      rw[hle]
      rw[if_pos (by omega)];rw[if_neg (by omega)]
     rw[hsrc] at hlt2
     simp only[ll] at hlt2
     simp only[tt,seval,h7,h0,bP hx Source.row_len,i0,iL,hol,Source.row_mk,av ip,au op,av oz]
     refine cZ (aU ⟨#[44]⟩) ?_ ?_<;>simp only[tt,seval,gT,Tok.row]
     refine⟨by kernel_rfl,⟨by simp only[maxLen];(try simp only[ll] at *);omega,by (try simp only[ll] at *);omega⟩,?_⟩
     rw[dg (es),cO (es) (Tok.mk 5 ⟨#[44]⟩ 0)]
     apply eB 0 7 1 2
     case h1=>
      refine dDrawn.intro [58] (.take 0 (.take 1 (.take 2 (.take 3 (.take 4 (.take 5 (.take 9 (.take 10 (.take 11 (.take 12 (.br 6 (.br 7 (.br 8 (.take 13 (.br 14 (.take 15 .done) .nobr)) (.br 13 (.br 8 (.br 14 (.take 15 .done) .nobr) .nobr) .nobr)) (.br 13 (.br 7 (.br 8 (.br 14 (.take 15 .done) .nobr) .nobr) .nobr) .nobr)) (.br 13 (.br 6 (.br 7 (.br 8 (.br 14 (.take 15 .done) .nobr) .nobr) .nobr) .nobr) .nobr)))))))))))) (by kernel_rfl) ?_
      simp only[tt,seval]
      all_goals try simp only[tt,seval,h7,bP hx Source.row_len,i0,iL,Source.row_mk]
      all_goals repeat' first|refine cj ?_ ?_|refine aO ?_ ?_
      all_goals
       refine cZ (cH table) ?_ ?_<;>simp only[tt,seval,nT,Tok.row]
      all_goals repeat' first|refine gE ?_ ?_|refine cK ?_ ?_|refine cL ?_ ?_
      all_goals
       refine⟨by kernel_rfl,⟨by simp only[maxLen];(try simp only[ll] at *);omega,by (try simp only[ll] at *);omega⟩,?_⟩
       rw[dg (es++[(Tok.mk 5 ⟨#[44]⟩ 0)]),cO (es++[(Tok.mk 5 ⟨#[44]⟩ 0)]) (Tok.mk 2 table 0)]
      all_goals repeat' first|refine cj ?_ ?_|refine aO ?_ ?_
      all_goals
       refine cZ (nt (es++[(Tok.mk 5 ⟨#[44]⟩ 0)]++[(Tok.mk 2 table 0)]) as_ (by (try simp only[ll] at *);omega)) ?_ ?_
       ·simp only[tt,seval]
        decide
       simp only[tt,seval,h7]
      all_goals exact⟨rfl,rfl,rfl,rfl,rfl,rfl⟩
     case h2=>
      intro f' hj0 hj1 hj2 hj3
      simp only[tt,seval,hj2,hj1,bP hx Source.row_len,i0,iL,hol,Source.row_mk,au op]
      try rw[f5 i (by omega)]
      refine⟨[.ren 10058 10078],by decide,by decide,?_⟩
      simp only[tt,seval,mn,hj0]
      exact⟨[(10078,.arr 150 (es++[(Tok.mk 5 ⟨#[44]⟩ 0)]++[(Tok.mk 2 table 0)]++kf as_).length ((es++[(Tok.mk 5 ⟨#[44]⟩ 0)]++[(Tok.mk 2 table 0)]++kf as_).flatMap Tok.row) none)],none,ac rfl (al _),an _,⟨i+1,es++[(Tok.mk 5 ⟨#[44]⟩ 0)]++[(Tok.mk 2 table 0)]++kf as_,rfl,rfl,by omega,by rw[hst,hes0,hsrc];simp [yi,gT,nT,b9],rfl,rfl⟩,by simp only[bq];omega⟩
   ·have hle0:Ch g on=kT 5::g e:=by rw[hL];rfl
    have hlen:on.length=r.length+1:=by rw[hL];rfl
    have hxe:=hgi e (by show e∈on;rw[hL];simp)
    obtain⟨le,hle1⟩:∃le,le=g e:=⟨_,rfl⟩
    have hle:Ch g on=kT 5::le:=by rw[hle0,hle1]
    rw[<-hle1] at hxe
    have hxe:∀out:List Tok,out.length+le.length<=1000000->Cl Tryz.prog 80 [.c (.ow 150 (out).length ((out).flatMap Tok.row) none),.ag (ar e.row),vb full] [] fun r _=>r = .c (.ow 150 (out++le).length ((out++le).flatMap Tok.row) none):=hxe
    have hpos:((0:Int)<on.length)=True:=eq_true (by omega)
    have op:(0:Int)<on.length:=by omega
    have oz:¬(on.length:Int)=0:=by omega
    by_cases hi0:i=0
    ·have ip:¬(0:Int)<i:=by omega
     have hsrc:vq g i (Source.mk table as_ on)=[]++(nT table::(kf as_++(kT 5::le))):=by
      show (if 0<i then (if 0<on.length then [kT 4] else [yi]) else [])++(nT table::(kf as_++Ch g on))=_
      rw[hle]
      rw[if_neg (by omega)]
     rw[hsrc] at hlt2
     simp only[ll] at hlt2
     simp only[tt,seval,h7,h0,au ip]
     apply eB 0 7 1 2
     case h1=>
      refine dDrawn.intro [58] (.take 0 (.take 1 (.take 2 (.take 3 (.take 4 (.take 5 (.take 9 (.take 10 (.take 11 (.take 12 (.br 6 (.br 7 (.br 8 (.take 13 (.br 14 (.take 15 .done) .nobr)) (.br 13 (.br 8 (.br 14 (.take 15 .done) .nobr) .nobr) .nobr)) (.br 13 (.br 7 (.br 8 (.br 14 (.take 15 .done) .nobr) .nobr) .nobr) .nobr)) (.br 13 (.br 6 (.br 7 (.br 8 (.br 14 (.take 15 .done) .nobr) .nobr) .nobr) .nobr) .nobr)))))))))))) (by kernel_rfl) ?_
      simp only[tt,seval]
      all_goals try simp only[tt,seval,h7,h0,bP hx Source.row_len,i0,iL,Source.row_mk]
      all_goals repeat' first|refine cj ?_ ?_|refine aO ?_ ?_
      all_goals
       refine cZ (cH table) ?_ ?_<;>simp only[tt,seval,nT,Tok.row]
      all_goals repeat' first|refine gE ?_ ?_|refine cK ?_ ?_|refine cL ?_ ?_
      all_goals
       refine⟨by kernel_rfl,⟨by simp only[maxLen];(try simp only[ll] at *);omega,by (try simp only[ll] at *);omega⟩,?_⟩
       rw[dg (es),cO (es) (Tok.mk 2 table 0)]
      all_goals repeat' first|refine cj ?_ ?_|refine aO ?_ ?_
      all_goals
       refine cZ (nt (es++[(Tok.mk 2 table 0)]) as_ (by (try simp only[ll] at *);omega)) ?_ ?_
       ·simp only[tt,seval]
        decide
       simp only[tt,seval,h7]
      all_goals exact⟨rfl,rfl,rfl,rfl,rfl,rfl⟩
     case h2=>
      intro f' hj0 hj1 hj2 hj3
      simp only[tt,seval,hj2,hj1,bP hx Source.row_len,i0,iL,hol,Source.row_mk,av op]
      apply eB 0 7 1 2
      case h1=>
       refine dDrawn.intro [78] (.take 0 (.take 4 (.take 5 (.take 6 (.take 7 (.take 11 (.br 1 (.br 2 (.br 3 (.take 8 (.take 9 (.take 10 (.br 12 (.take 13 .done) .nobr)))) (.br 8 (.take 9 (.br 3 (.take 10 (.br 12 (.take 13 .done) .nobr)) (.br 10 (.br 3 (.br 12 (.take 13 .done) .nobr) .nobr) .nobr))) .nobr)) (.br 8 (.take 9 (.br 2 (.br 3 (.take 10 (.br 12 (.take 13 .done) .nobr)) (.br 10 (.br 3 (.br 12 (.take 13 .done) .nobr) .nobr) .nobr)) (.br 10 (.br 2 (.br 3 (.br 12 (.take 13 .done) .nobr) .nobr) .nobr) .nobr))) .nobr)) (.br 8 (.take 9 (.br 1 (.br 2 (.br 3 (.take 10 (.br 12 (.take 13 .done) .nobr)) (.br 10 (.br 3 (.br 12 (.take 13 .done) .nobr) .nobr) .nobr)) (.br 10 (.br 2 (.br 3 (.br 12 (.take 13 .done) .nobr) .nobr) .nobr) .nobr)) (.br 10 (.br 1 (.br 2 (.br 3 (.br 12 (.take 13 .done) .nobr) .nobr) .nobr) .nobr) .nobr))) .nobr)))))))) (by kernel_rfl) ?_
       simp only[tt,seval]
       all_goals try simp only[tt,seval,hj0,hj1,hj2,hj3,bP hx Source.row_len,i0,iL,Source.row_mk,hpos,A7 hL aJ,dw (aJ e),aJ]
       all_goals repeat' first|refine cj ?_ ?_|refine aO ?_ ?_
       all_goals
        refine cZ (bi 5 (by omega) (by omega)) ?_ ?_<;>simp only[tt,seval,kT,Tok.row,hpos,A7 hL aJ,dw (aJ e),aJ]
       all_goals repeat' first|refine gE ?_ ?_|refine cK ?_ ?_|refine cL ?_ ?_
       all_goals
        refine⟨by kernel_rfl,⟨by simp only[maxLen];(try simp only[ll] at *);omega,by (try simp only[ll] at *);omega⟩,?_⟩
        rw[dg (es++[(Tok.mk 2 table 0)]++kf as_),cO (es++[(Tok.mk 2 table 0)]++kf as_) (Tok.mk 1 (kw 5) 0)]
       all_goals repeat' first|refine cj ?_ ?_|refine aO ?_ ?_
       all_goals
        refine cZ (hxe (es++[(Tok.mk 2 table 0)]++kf as_++[(Tok.mk 1 (kw 5) 0)]) (by (try simp only[ll] at *);omega)) ?_ ?_
        ·simp only[tt,seval]
         decide
        simp only[tt,seval,hj1,hj2,hj3]
       all_goals exact⟨rfl,rfl,rfl,rfl,rfl,rfl⟩
      case h2=>
       intro f' hj0 hj1 hj2 hj3
       simp only[tt,seval,hj1]
       try rw[f5 i (by omega)]
       refine⟨[],?_⟩
       simp only[tt,seval,mn,hj0]
       exact⟨[(10078,.arr 150 (es++[(Tok.mk 2 table 0)]++kf as_++[(Tok.mk 1 (kw 5) 0)]++le).length ((es++[(Tok.mk 2 table 0)]++kf as_++[(Tok.mk 1 (kw 5) 0)]++le).flatMap Tok.row) none)],none,ac rfl (al _),an _,⟨i+1,es++[(Tok.mk 2 table 0)]++kf as_++[(Tok.mk 1 (kw 5) 0)]++le,rfl,rfl,by omega,by rw[hst,hes0,hsrc];simp [kT,nT,b9],rfl,rfl⟩,by simp only[bq];omega⟩
    ·have ip:(0:Int)<i:=by omega
     have hsrc:vq g i (Source.mk table as_ on)=[kT 4]++(nT table::(kf as_++(kT 5::le))):=by
      show (if 0<i then (if 0<on.length then [kT 4] else [yi]) else [])++(nT table::(kf as_++Ch g on))=_
      rw[hle]
      rw[if_pos (by omega)];rw[if_pos (by omega)]
     rw[hsrc] at hlt2
     simp only[ll] at hlt2
     simp only[tt,seval,h7,h0,bP hx Source.row_len,i0,iL,hol,Source.row_mk,av ip,av op,au oz]
     refine cZ (bi 4 (by omega) (by omega)) ?_ ?_<;>simp only[tt,seval,kT,Tok.row,h7,bP hx Source.row_len,i0,iL,hol,Source.row_mk,av ip,au oz]
     refine⟨by kernel_rfl,⟨by simp only[maxLen];(try simp only[ll] at *);omega,by (try simp only[ll] at *);omega⟩,?_⟩
     rw[dg (es),cO (es) (Tok.mk 1 (kw 4) 0)]
     apply eB 0 7 1 2
     case h1=>
      refine dDrawn.intro [58] (.take 0 (.take 1 (.take 2 (.take 3 (.take 4 (.take 5 (.take 9 (.take 10 (.take 11 (.take 12 (.br 6 (.br 7 (.br 8 (.take 13 (.br 14 (.take 15 .done) .nobr)) (.br 13 (.br 8 (.br 14 (.take 15 .done) .nobr) .nobr) .nobr)) (.br 13 (.br 7 (.br 8 (.br 14 (.take 15 .done) .nobr) .nobr) .nobr) .nobr)) (.br 13 (.br 6 (.br 7 (.br 8 (.br 14 (.take 15 .done) .nobr) .nobr) .nobr) .nobr) .nobr)))))))))))) (by kernel_rfl) ?_
      simp only[tt,seval]
      all_goals try simp only[tt,seval,h7,bP hx Source.row_len,i0,iL,Source.row_mk]
      all_goals repeat' first|refine cj ?_ ?_|refine aO ?_ ?_
      all_goals
       refine cZ (cH table) ?_ ?_<;>simp only[tt,seval,nT,Tok.row]
      all_goals repeat' first|refine gE ?_ ?_|refine cK ?_ ?_|refine cL ?_ ?_
      all_goals
       refine⟨by kernel_rfl,⟨by simp only[maxLen];(try simp only[ll] at *);omega,by (try simp only[ll] at *);omega⟩,?_⟩
       rw[dg (es++[(Tok.mk 1 (kw 4) 0)]),cO (es++[(Tok.mk 1 (kw 4) 0)]) (Tok.mk 2 table 0)]
      all_goals repeat' first|refine cj ?_ ?_|refine aO ?_ ?_
      all_goals
       refine cZ (nt (es++[(Tok.mk 1 (kw 4) 0)]++[(Tok.mk 2 table 0)]) as_ (by (try simp only[ll] at *);omega)) ?_ ?_
       ·simp only[tt,seval]
        decide
       simp only[tt,seval,h7]
      all_goals exact⟨rfl,rfl,rfl,rfl,rfl,rfl⟩
     case h2=>
      intro f' hj0 hj1 hj2 hj3
      simp only[tt,seval,hj2,hj1,bP hx Source.row_len,i0,iL,hol,Source.row_mk,av op]
      apply eB 0 7 1 2
      case h1=>
       refine dDrawn.intro [78] (.take 0 (.take 4 (.take 5 (.take 6 (.take 7 (.take 11 (.br 1 (.br 2 (.br 3 (.take 8 (.take 9 (.take 10 (.br 12 (.take 13 .done) .nobr)))) (.br 8 (.take 9 (.br 3 (.take 10 (.br 12 (.take 13 .done) .nobr)) (.br 10 (.br 3 (.br 12 (.take 13 .done) .nobr) .nobr) .nobr))) .nobr)) (.br 8 (.take 9 (.br 2 (.br 3 (.take 10 (.br 12 (.take 13 .done) .nobr)) (.br 10 (.br 3 (.br 12 (.take 13 .done) .nobr) .nobr) .nobr)) (.br 10 (.br 2 (.br 3 (.br 12 (.take 13 .done) .nobr) .nobr) .nobr) .nobr))) .nobr)) (.br 8 (.take 9 (.br 1 (.br 2 (.br 3 (.take 10 (.br 12 (.take 13 .done) .nobr)) (.br 10 (.br 3 (.br 12 (.take 13 .done) .nobr) .nobr) .nobr)) (.br 10 (.br 2 (.br 3 (.br 12 (.take 13 .done) .nobr) .nobr) .nobr) .nobr)) (.br 10 (.br 1 (.br 2 (.br 3 (.br 12 (.take 13 .done) .nobr) .nobr) .nobr) .nobr) .nobr))) .nobr)))))))) (by kernel_rfl) ?_
       simp only[tt,seval]
       all_goals try simp only[tt,seval,hj0,hj1,hj2,hj3,bP hx Source.row_len,i0,iL,Source.row_mk,hpos,A7 hL aJ,dw (aJ e),aJ]
       all_goals repeat' first|refine cj ?_ ?_|refine aO ?_ ?_
       all_goals
        refine cZ (bi 5 (by omega) (by omega)) ?_ ?_<;>simp only[tt,seval,kT,Tok.row,hpos,A7 hL aJ,dw (aJ e),aJ]
       all_goals repeat' first|refine gE ?_ ?_|refine cK ?_ ?_|refine cL ?_ ?_
       all_goals
        refine⟨by kernel_rfl,⟨by simp only[maxLen];(try simp only[ll] at *);omega,by (try simp only[ll] at *);omega⟩,?_⟩
        rw[dg (es++[(Tok.mk 1 (kw 4) 0)]++[(Tok.mk 2 table 0)]++kf as_),cO (es++[(Tok.mk 1 (kw 4) 0)]++[(Tok.mk 2 table 0)]++kf as_) (Tok.mk 1 (kw 5) 0)]
       all_goals repeat' first|refine cj ?_ ?_|refine aO ?_ ?_
       all_goals
        refine cZ (hxe (es++[(Tok.mk 1 (kw 4) 0)]++[(Tok.mk 2 table 0)]++kf as_++[(Tok.mk 1 (kw 5) 0)]) (by (try simp only[ll] at *);omega)) ?_ ?_
        ·simp only[tt,seval]
         decide
        simp only[tt,seval,hj1,hj2,hj3]
       all_goals exact⟨rfl,rfl,rfl,rfl,rfl,rfl⟩
      case h2=>
       intro f' hj0 hj1 hj2 hj3
       simp only[tt,seval,hj1]
       try rw[f5 i (by omega)]
       refine⟨[],?_⟩
       simp only[tt,seval,mn,hj0]
       exact⟨[(10078,.arr 150 (es++[(Tok.mk 1 (kw 4) 0)]++[(Tok.mk 2 table 0)]++kf as_++[(Tok.mk 1 (kw 5) 0)]++le).length ((es++[(Tok.mk 1 (kw 4) 0)]++[(Tok.mk 2 table 0)]++kf as_++[(Tok.mk 1 (kw 5) 0)]++le).flatMap Tok.row) none)],none,ac rfl (al _),an _,⟨i+1,es++[(Tok.mk 1 (kw 4) 0)]++[(Tok.mk 2 table 0)]++kf as_++[(Tok.mk 1 (kw 5) 0)]++le,rfl,rfl,by omega,by rw[hst,hes0,hsrc];simp [kT,nT,b9],rfl,rfl⟩,by simp only[bq];omega⟩
  ·have hie:i=from_.length:=by omega
   subst hie
   subst hes0
   refine⟨_,[],mt (l:=out++bJ (lH g from_) from_.length) (by rfl),ai ?_⟩
   simp only[tt,seval]
theorem pr (e:Expr) (d:Bool) (r:List D):(SortKey.mk e d).row++r=e.row++(bool d::r):=by rw[SortKey.row_mk,b9];rfl
theorem GJ (e:Expr) (r:List D):List.drop 10 (e.row++r)=r:=by
 have:=List.drop_left (l₁ := e.row) (l₂ := r)
 rwa[aJ] at this
set_option maxHeartbeats 4000000 in
theorem lU (full:Bool) (gf:Expr->Bool) (g:Expr->List Tok) (q:Query) (hf:eO gf q=true) (hlim:q.lim<=9223372036854775807) (hsz:szQuery q<=1048576) (hg:∀x∈exprsQ q,qU full x (g x)):FG full q (qC g q):=by
 intro out hroom
 obtain⟨distinct,items,from_,where_,order,limit⟩:=q
 obtain⟨_,_,_,_,hl1,_,_,_⟩:=jw hf
 have hlim:limit<=9223372036854775807:=hlim
 rw[cV,cU,aC,bN] at hsz
 have eq:exprsQ (.mk distinct items from_ where_ order limit)=bd items++from_.flatMap Source.on++where_++order.map SortKey.e:=rfl
 rw[eq] at hg
 have hgI:∀x∈items,x.star=false->qU full x.e (g x.e):=fun x hx hs=>hg _ (by
  simp only[List.mem_append,bd,List.mem_map,List.mem_filter]
  exact .inl (.inl (.inl ⟨_,⟨hx,by rw[hs];rfl⟩,rfl⟩)))
 have hgS:∀s∈from_,∀x∈s.on,qU full x (g x):=fun s hs x hx=>hg _ (by
  simp only[List.mem_append,List.mem_flatMap]
  exact .inl (.inl (.inr ⟨_,hs,hx⟩)))
 have hgW:∀x∈where_,qU full x (g x):=fun x hx=>hg _ (by simp [hx])
 have hgO:∀k∈order,qU full k.e (g k.e):=fun k hk=>hg _ (by
  simp only[List.mem_append,List.mem_map]
  exact .inr ⟨_,hk,rfl⟩)
 have hsf:cR from_<=1048576:=by omega
 clear hf hg eq
 rw[ay]
 obtain⟨dl,hdl⟩:∃dl,dl=(if distinct=true then [kT 2] else []):=⟨_,rfl⟩
 have e:qC g (.mk distinct items from_ where_ order limit)=kT 1::(dl++(bJ (lT g items) items.length++(kT 3::(bJ (lH g from_) from_.length++(vN g where_++(bJ (rh g order) order.length++zH limit)))))):=by rw[hdl];rfl
 rw[e] at hroom ⊢
 clear e
 simp only[ll] at hroom
 refine ah ab false Tryz.func65 rfl (by kernel_rfl) ?_
 simp only[Tryz.f65,tt,seval]
 refine cZ (bi 1 (by omega) (by omega)) ?_ ?_<;>simp only[tt,seval,kT,Tok.row]
 refine⟨by kernel_rfl,⟨by simp only[maxLen];(try simp only[ll] at *);omega,by (try simp only[ll] at *);omega⟩,?_⟩
 rw[dg (out),cO (out) (Tok.mk 1 (kw 1) 0)]
 refine aa (fun hd=>?_) (fun hd=>?_)
 all_goals first
  | (have hd1:dl=[(Tok.mk 1 (kw 2) 0)]:=by rw[hdl,if_pos hd];rfl
     have hd2:dl.length=1:=by rw[hd1];rfl
     refine eb (bi 2 (by omega) (by omega)) ?_ ?_ ?_
     ·decide
     ·simp only[tt,seval]
     rintro r rfl
     simp only[tt,seval,kT,Tok.row]
     refine⟨by kernel_rfl,⟨by simp only[maxLen];(try simp only[ll] at *);omega,by (try simp only[ll] at *);omega⟩,?_⟩
     rw[dg (out++[(Tok.mk 1 (kw 1) 0)]),cO (out++[(Tok.mk 1 (kw 1) 0)]) (Tok.mk 1 (kw 2) 0)]
     rw[<-hd1]
     refine dLoop.gh [.ren 18 10039] ⟨by decide,by decide,?_⟩)
  | (have hd1:dl=[]:=by rw[hdl,hd];rfl
     rw[show out++[(Tok.mk 1 (kw 1) 0)]=out++[(Tok.mk 1 (kw 1) 0)]++dl by rw[hd1,List.append_nil]]
     refine dLoop.gh [.ren 12 10039] ⟨by decide,by decide,?_⟩)
 all_goals
  obtain⟨L1,hL1⟩:∃L1,L1=out++[(Tok.mk 1 (kw 1) 0)]++dl:=⟨_,rfl⟩
  rw[<-hL1]
  have hel1:L1.length=out.length+1+dl.length:=by rw[hL1];simp only[ll]
  refine dLoop0.intro (fun f L p=>∃(i:Nat) (es:List Tok),f 7=vi i/\f 0 = .c (.s 10039 es.length)/\i<=items.length/\es=L1++bJ (lT g items) i/\L=[(10039,.arr 150 (es).length ((es).flatMap Tok.row) none),(4,.str [.v (.bool distinct),.sl items.length (items.flatMap Item.row) none,.sl from_.length (from_.flatMap Source.row) none,.sl where_.length (where_.flatMap Expr.row) none,.sl order.length (order.flatMap SortKey.row) none,.v (.int .i64 limit)])]/\p=none) (fun f _ _=>(items.length-bq (f 7)).toNat) [(10039,.arr 150 (L1).length ((L1).flatMap Tok.row) none),(4,.str [.v (.bool distinct),.sl items.length (items.flatMap Item.row) none,.sl from_.length (from_.flatMap Source.row) none,.sl where_.length (where_.flatMap Expr.row) none,.sl order.length (order.flatMap SortKey.row) none,.v (.int .i64 limit)])] none ⟨ac rfl (ac rfl (al _)),an _,?_⟩ ?_
  ·simp only[tt,seval]
   exact⟨0,L1,rfl,rfl,by omega,(List.append_nil _).symm,rfl⟩
  rintro g' L p ⟨i,es,h7,h0,hi,hes0,rfl,rfl⟩
  simp only[tt,seval] at h7 h0
  simp only[tt,seval,h7,h0,Int.ofNat_lt]
  refine fun _=>aa (fun hlt=>?_) (fun hge=>?_)
  ·have hlt:i<items.length:=by omega
   have hst:=dA (lT g items) i
   have hlt2:=iQ (lT g items) hlt
   have hel:es.length=L1.length+(bJ (lT g items) i).length:=by rw[hes0,aB]
   obtain⟨it,bD⟩:∃it,it=items[i]:=⟨_,rfl⟩
   have hx:items[i]?=some it:=by rw[bD];exact az hlt
   have hit2:lT g items i=oP i++il g it:=by rw[lT,dP hlt,bD]
   rw[hit2] at hlt2
   have hgi:=hgI it (by rw[bD];exact aK hlt)
   have i0:((0:Int)<=(i:Int))=True:=eq_true (by omega)
   have iL:((i:Int)<(items.length:Int))=True:=eq_true (by omega)
   have iT:(i<items.length)=True:=eq_true hlt
   refine aa (fun hc=>?_) (fun hc=>?_)
   ·have hcl:oP i=[(Tok.mk 5 ⟨#[44]⟩ 0)]:=if_pos (by omega)
    rw[hcl] at hlt2 hit2
    simp only[ll] at hlt2
    refine cZ (aU ⟨#[44]⟩) ?_ ?_<;>simp only[tt,seval,gT,iT,Tok.row,h7]
    refine⟨by kernel_rfl,⟨by simp only[maxLen];(try simp only[ll] at *);omega,by (try simp only[ll] at *);omega⟩,?_⟩
    rw[dg (es),cO (es) (Tok.mk 5 ⟨#[44]⟩ 0)]
    simp only[tt,seval,bP hx Item.row_len,i0,iL,Item.tk,Item.row_len]
    refine cZ (sf full it g hgi (es++[(Tok.mk 5 ⟨#[44]⟩ 0)]) (by (try simp only[ll] at *);omega)) ?_ ?_<;>simp only[tt,seval,h7]
    try rw[f5 i (by omega)]
    exact⟨[(10039,.arr 150 (es++[(Tok.mk 5 ⟨#[44]⟩ 0)]++il g it).length ((es++[(Tok.mk 5 ⟨#[44]⟩ 0)]++il g it).flatMap Tok.row) none),(4,.str [.v (.bool distinct),.sl items.length (items.flatMap Item.row) none,.sl from_.length (from_.flatMap Source.row) none,.sl where_.length (where_.flatMap Expr.row) none,.sl order.length (order.flatMap SortKey.row) none,.v (.int .i64 limit)])],none,ac rfl (ac rfl (al _)),an _,⟨i+1,es++[(Tok.mk 5 ⟨#[44]⟩ 0)]++il g it,rfl,rfl,by omega,by rw[hst,hes0,hit2];simp [b9],rfl,rfl⟩,by simp only[bq];omega⟩
   ·have hcl:oP i=[]:=if_neg (by omega)
    rw[hcl] at hlt2 hit2
    simp only[ll] at hlt2
    simp only[tt,seval,bP hx Item.row_len,i0,iT,Item.tk,Item.row_len]
    refine cZ (sf full it g hgi (es) (by (try simp only[ll] at *);omega)) ?_ ?_<;>simp only[tt,seval,h7]
    try rw[f5 i (by omega)]
    exact⟨[(10039,.arr 150 (es++il g it).length ((es++il g it).flatMap Tok.row) none),(4,.str [.v (.bool distinct),.sl items.length (items.flatMap Item.row) none,.sl from_.length (from_.flatMap Source.row) none,.sl where_.length (where_.flatMap Expr.row) none,.sl order.length (order.flatMap SortKey.row) none,.v (.int .i64 limit)])],none,ac rfl (ac rfl (al _)),an _,⟨i+1,es++il g it,rfl,rfl,by omega,by rw[hst,hes0,hit2];simp [b9],rfl,rfl⟩,by simp only[bq];omega⟩
  have hie:i=items.length:=by omega
  subst hie
  have hel2:es.length=L1.length+(bJ (lT g items) items.length).length:=by rw[hes0,aB]
  clear hi hge
  apply dx 0 4 2
  case h1=>
   refine dDrawn.intro [47] (.take 0 (.take 4 (.take 6 (.br 1 (.br 2 (.br 3 (.take 5 (.br 7 (.take 8 .done) .nobr)) (.br 5 (.br 3 (.br 7 (.take 8 .done) .nobr) .nobr) .nobr)) (.br 5 (.br 2 (.br 3 (.br 7 (.take 8 .done) .nobr) .nobr) .nobr) .nobr)) (.br 5 (.br 1 (.br 2 (.br 3 (.br 7 (.take 8 .done) .nobr) .nobr) .nobr) .nobr) .nobr))))) (by kernel_rfl) ?_
   simp only[tt,seval]
   all_goals repeat' first|refine cj ?_ ?_|refine aO ?_ ?_
   all_goals
    refine cZ (bi 3 (by omega) (by omega)) ?_ ?_<;>simp only[tt,seval,kT,Tok.row,h0]
   all_goals repeat' first|refine gE ?_ ?_|refine cK ?_ ?_|refine cL ?_ ?_
   all_goals
    refine⟨by kernel_rfl,⟨by simp only[maxLen];(try simp only[ll] at *);omega,by (try simp only[ll] at *);omega⟩,?_⟩
    rw[dg (es),cO (es) (Tok.mk 1 (kw 3) 0)]
   all_goals repeat' first|refine cj ?_ ?_|refine aO ?_ ?_
   all_goals
    refine cZ (zJ full from_ g hsf hgS (es++[(Tok.mk 1 (kw 3) 0)]) (by (try simp only[ll] at *);omega)) ?_ ?_
    ·simp only[tt,seval]
     decide
    simp only[tt,seval]
   all_goals exact⟨rfl,rfl,rfl,rfl,rfl⟩
  case h2=>
   intro f' hj0 hj1 hj2
   simp only[tt,seval,hj0,hj1,hj2]
   refine cZ (mu full where_ g (by omega) hgW (es++[(Tok.mk 1 (kw 3) 0)]++bJ (lH g from_) from_.length) (by (try simp only[ll] at *);omega)) ?_ ?_<;>simp only[tt,seval]
   obtain⟨L5,hL5⟩:∃L5,L5=es++[(Tok.mk 1 (kw 3) 0)]++bJ (lH g from_) from_.length++vN g where_:=⟨_,rfl⟩
   have hel5:L5.length=es.length+1+(bJ (lH g from_) from_.length).length+(vN g where_).length:=by rw[hL5];simp only[ll]
   rw[<-hL5]
   refine dLoop.gh [.ren 10052 10079] ⟨by decide,by decide,?_⟩
   refine dLoop0.introR (fun f L p=>∃(i:Nat) (es:List Tok),f 8=vi i/\f 0 = .c (.s 10079 es.length)/\i<=order.length/\es=L5++bJ (rh g order) i/\L=[(10079,.arr 150 (es).length ((es).flatMap Tok.row) none),(4,.str [.v (.bool distinct),.sl items.length (items.flatMap Item.row) none,.sl from_.length (from_.flatMap Source.row) none,.sl where_.length (where_.flatMap Expr.row) none,.sl order.length (order.flatMap SortKey.row) none,.v (.int .i64 limit)])]/\p=none) (fun f _ _=>(order.length-bq (f 8)).toNat) [(10079,.arr 150 (L5).length ((L5).flatMap Tok.row) none),(4,.str [.v (.bool distinct),.sl items.length (items.flatMap Item.row) none,.sl from_.length (from_.flatMap Source.row) none,.sl where_.length (where_.flatMap Expr.row) none,.sl order.length (order.flatMap SortKey.row) none,.v (.int .i64 limit)])] none ⟨ac rfl (ac rfl (al _)),an _,?_⟩ ?_
   ·simp only[tt,seval]
    exact⟨0,L5,rfl,rfl,by omega,(List.append_nil _).symm,rfl⟩
   rintro g' L p ⟨i,ez,h8,hz0,hi,hez0,rfl,rfl⟩
   simp only[tt,seval] at h8 hz0
   simp only[tt,seval,h8,hz0,hj1,Int.ofNat_lt]
   refine fun _=>aa (fun hlt=>?_) (fun hge=>?_)
   ·have hlt:i<order.length:=by omega
    have hst:=dA (rh g order) i
    have hlt2:=iQ (rh g order) hlt
    have hel:ez.length=L5.length+(bJ (rh g order) i).length:=by rw[hez0,aB]
    obtain⟨it,bD⟩:∃it,it=order[i]:=⟨_,rfl⟩
    have hx:order[i]?=some it:=by rw[bD];exact az hlt
    have hit2:rh g order i=(if i=0 then [kT 7,kT 8] else [yi])++BO g it:=by rw[rh,dP hlt,bD]
    have hge:=hgO it (by rw[bD];exact aK hlt)
    have i0:((0:Int)<=(i:Int))=True:=eq_true (by omega)
    have iL:((i:Int)<(order.length:Int))=True:=eq_true (by omega)
    obtain⟨e,desc⟩:=it
    have hge:∀out:List Tok,out.length+(g e).length<=1000000->Cl Tryz.prog 80 [.c (.ow 150 (out).length ((out).flatMap Tok.row) none),.ag (ar e.row),vb full] [] fun r _=>r = .c (.ow 150 (out++g e).length ((out++g e).flatMap Tok.row) none):=hge
    have hkt:BO g (SortKey.mk e desc)=g e++(if desc=true then [kT 10] else []):=rfl
    rw[hkt] at hit2
    rw[hit2] at hlt2
    have hop:0<=(if desc=true then [kT 10] else []).length:=Nat.zero_le _
    refine aa (fun hc=>?_) (fun hc=>?_)
    ·have hc:i=0:=by omega
     rw[if_pos hc] at hlt2 hit2
     simp only[ll] at hlt2
     refine cZ (bi 7 (by omega) (by omega)) ?_ ?_<;>simp only[tt,seval,kT,Tok.row]
     refine cZ (bi 8 (by omega) (by omega)) ?_ ?_<;>simp only[tt,seval,kT,Tok.row,h8,hj1,hj2]
     refine⟨by kernel_rfl,⟨by simp only[maxLen];(try simp only[ll] at *);omega,by (try simp only[ll] at *);omega⟩,?_⟩
     rw[ri (ez),pe (ez) (Tok.mk 1 (kw 7) 0) (Tok.mk 1 (kw 8) 0)]
     simp only[tt,seval,bP hx SortKey.row_len,i0,iL,pr,Expr.tk,aJ]
     refine cZ (hge (ez++[(Tok.mk 1 (kw 7) 0),(Tok.mk 1 (kw 8) 0)]) (by (try simp only[ll] at *);omega)) ?_ ?_<;>simp only[tt,seval,h8,hj1,bP hx SortKey.row_len,i0,iL,pr,GJ]
     refine aa (fun hd=>?_) (fun hd=>?_)
     ·subst hd
      rw[if_pos rfl] at hlt2 hit2
      simp only[ll] at hlt2
      refine cZ (bi 10 (by omega) (by omega)) ?_ ?_<;>simp only[tt,seval,kT,Tok.row,h8]
      refine⟨by kernel_rfl,⟨by simp only[maxLen];(try simp only[ll] at *);omega,by (try simp only[ll] at *);omega⟩,?_⟩
      rw[dg (ez++[(Tok.mk 1 (kw 7) 0),(Tok.mk 1 (kw 8) 0)]++g e),cO (ez++[(Tok.mk 1 (kw 7) 0),(Tok.mk 1 (kw 8) 0)]++g e) (Tok.mk 1 (kw 10) 0)]
      try rw[f5 i (by omega)]
      refine⟨[.ren 89 10079],by decide,by decide,?_⟩
      simp only[tt,seval,mn]
      exact⟨[(10079,.arr 150 (ez++[(Tok.mk 1 (kw 7) 0),(Tok.mk 1 (kw 8) 0)]++g e++[(Tok.mk 1 (kw 10) 0)]).length ((ez++[(Tok.mk 1 (kw 7) 0),(Tok.mk 1 (kw 8) 0)]++g e++[(Tok.mk 1 (kw 10) 0)]).flatMap Tok.row) none),(4,.str [.v (.bool distinct),.sl items.length (items.flatMap Item.row) none,.sl from_.length (from_.flatMap Source.row) none,.sl where_.length (where_.flatMap Expr.row) none,.sl order.length (order.flatMap SortKey.row) none,.v (.int .i64 limit)])],none,ac rfl (ac rfl (al _)),an _,⟨i+1,ez++[(Tok.mk 1 (kw 7) 0),(Tok.mk 1 (kw 8) 0)]++g e++[(Tok.mk 1 (kw 10) 0)],rfl,rfl,by omega,by rw[hst,hez0,hit2];simp [kT,b9],rfl,rfl⟩,by simp only[bq];omega⟩
     ·subst hd
      rw[if_neg Bool.false_ne_true] at hlt2 hit2
      try rw[f5 i (by omega)]
      refine⟨[],?_⟩
      simp only[tt,seval,mn]
      exact⟨[(10079,.arr 150 (ez++[(Tok.mk 1 (kw 7) 0),(Tok.mk 1 (kw 8) 0)]++g e).length ((ez++[(Tok.mk 1 (kw 7) 0),(Tok.mk 1 (kw 8) 0)]++g e).flatMap Tok.row) none),(4,.str [.v (.bool distinct),.sl items.length (items.flatMap Item.row) none,.sl from_.length (from_.flatMap Source.row) none,.sl where_.length (where_.flatMap Expr.row) none,.sl order.length (order.flatMap SortKey.row) none,.v (.int .i64 limit)])],none,ac rfl (ac rfl (al _)),an _,⟨i+1,ez++[(Tok.mk 1 (kw 7) 0),(Tok.mk 1 (kw 8) 0)]++g e,rfl,rfl,by omega,by rw[hst,hez0,hit2];simp [kT,b9],rfl,rfl⟩,by simp only[bq];omega⟩
    ·have hc:¬i=0:=by omega
     rw[if_neg hc] at hlt2 hit2
     simp only[ll] at hlt2
     refine cZ (aU ⟨#[44]⟩) ?_ ?_<;>simp only[tt,seval,gT,Tok.row,h8,hj1,hj2]
     refine⟨by kernel_rfl,⟨by simp only[maxLen];(try simp only[ll] at *);omega,by (try simp only[ll] at *);omega⟩,?_⟩
     rw[dg (ez),cO (ez) (Tok.mk 5 ⟨#[44]⟩ 0)]
     simp only[tt,seval,bP hx SortKey.row_len,i0,iL,pr,Expr.tk,aJ]
     refine cZ (hge (ez++[(Tok.mk 5 ⟨#[44]⟩ 0)]) (by (try simp only[ll] at *);omega)) ?_ ?_<;>simp only[tt,seval,h8,hj1,bP hx SortKey.row_len,i0,iL,pr,GJ]
     refine aa (fun hd=>?_) (fun hd=>?_)
     ·subst hd
      rw[if_pos rfl] at hlt2 hit2
      simp only[ll] at hlt2
      refine cZ (bi 10 (by omega) (by omega)) ?_ ?_<;>simp only[tt,seval,kT,Tok.row,h8]
      refine⟨by kernel_rfl,⟨by simp only[maxLen];(try simp only[ll] at *);omega,by (try simp only[ll] at *);omega⟩,?_⟩
      rw[dg (ez++[(Tok.mk 5 ⟨#[44]⟩ 0)]++g e),cO (ez++[(Tok.mk 5 ⟨#[44]⟩ 0)]++g e) (Tok.mk 1 (kw 10) 0)]
      try rw[f5 i (by omega)]
      refine⟨[.ren 89 10079],by decide,by decide,?_⟩
      simp only[tt,seval,mn]
      exact⟨[(10079,.arr 150 (ez++[(Tok.mk 5 ⟨#[44]⟩ 0)]++g e++[(Tok.mk 1 (kw 10) 0)]).length ((ez++[(Tok.mk 5 ⟨#[44]⟩ 0)]++g e++[(Tok.mk 1 (kw 10) 0)]).flatMap Tok.row) none),(4,.str [.v (.bool distinct),.sl items.length (items.flatMap Item.row) none,.sl from_.length (from_.flatMap Source.row) none,.sl where_.length (where_.flatMap Expr.row) none,.sl order.length (order.flatMap SortKey.row) none,.v (.int .i64 limit)])],none,ac rfl (ac rfl (al _)),an _,⟨i+1,ez++[(Tok.mk 5 ⟨#[44]⟩ 0)]++g e++[(Tok.mk 1 (kw 10) 0)],rfl,rfl,by omega,by rw[hst,hez0,hit2];simp [yi,gT,kT,b9],rfl,rfl⟩,by simp only[bq];omega⟩
     ·subst hd
      rw[if_neg Bool.false_ne_true] at hlt2 hit2
      try rw[f5 i (by omega)]
      refine⟨[],?_⟩
      simp only[tt,seval,mn]
      exact⟨[(10079,.arr 150 (ez++[(Tok.mk 5 ⟨#[44]⟩ 0)]++g e).length ((ez++[(Tok.mk 5 ⟨#[44]⟩ 0)]++g e).flatMap Tok.row) none),(4,.str [.v (.bool distinct),.sl items.length (items.flatMap Item.row) none,.sl from_.length (from_.flatMap Source.row) none,.sl where_.length (where_.flatMap Expr.row) none,.sl order.length (order.flatMap SortKey.row) none,.v (.int .i64 limit)])],none,ac rfl (ac rfl (al _)),an _,⟨i+1,ez++[(Tok.mk 5 ⟨#[44]⟩ 0)]++g e,rfl,rfl,by omega,by rw[hst,hez0,hit2];simp [yi,gT,b9],rfl,rfl⟩,by simp only[bq];omega⟩
   have hie:i=order.length:=by omega
   subst hie
   have hel6:ez.length=L5.length+(bJ (rh g order) order.length).length:=by rw[hez0,aB]
   refine aa (fun hlm=>?_) (fun hlm=>?_)
   ·rw[zH,if_pos hlm] at hroom ⊢
    simp only[ll] at hroom
    apply bx 0
    case h1=>
     refine dDrawn.intro [] (iO [0,4,6,3,9,10,13,15,16]) (by kernel_rfl) ?_
     simp only[tt,seval]
     all_goals try simp only[tt,seval,hz0,hj1]
     all_goals repeat' first|refine cj ?_ ?_|refine aO ?_ ?_
     all_goals
      refine cZ (bi 11 (by omega) (by omega)) ?_ ?_<;>simp only[tt,seval,kT,Tok.row]
     all_goals repeat' first|refine cj ?_ ?_|refine aO ?_ ?_
     all_goals
      refine cZ (mA limit (by omega) hlim) ?_ ?_<;>simp only[tt,seval]
     all_goals repeat' first|refine gE ?_ ?_|refine cK ?_ ?_|refine cL ?_ ?_
     all_goals
      refine⟨by kernel_rfl,⟨by simp only[maxLen];(try simp only[ll] at *);omega,by (try simp only[ll] at *);omega⟩,?_⟩
      rw[ri (ez),pe (ez) (Tok.mk 1 (kw 11) 0) (Tok.mk 3 (fo limit) 0)]
     all_goals exact⟨rfl,rfl,rfl⟩
    case h2=>
     intro f' hk0
     simp only[tt,seval,hk0]
     refine⟨_,[],mt (l:=ez++[(Tok.mk 1 (kw 11) 0),(Tok.mk 3 (fo limit) 0)]) (by rw[hez0,hL5,hes0,hL1];simp [kT,iT,b9]),ai ?_⟩
     simp only[tt,seval]
   ·rw[zH,if_neg hlm] at hroom ⊢
    simp only[ll] at hroom
    simp only[tt,seval]
    refine⟨_,[],mt (l:=ez) (by rw[hez0,hL5,hes0,hL1];simp [b9]),ai ?_⟩
    simp only[tt,seval]
theorem om (full:Bool) (e:Expr):fmE e=true->Rg e->szExpr e<=1048576->qU full e (pd full e):=by
 refine qD (F1:=vL) (F2:=A0) (F3:=yl full) (P:=fun e f n t=>f=true->Rg e->szExpr e<=1048576->qU full e t) (fun e gf gn g hg hf hr hsz=>?_) e
 have hb:∀x,fq x e->gf x=true->qU full x (g x):=fun x hx hx'=>hg x hx hx' (ym hr hx) (Nat.le_trans (gY hx) hsz)
 have hs:∀q∈e.sub,q.lim<=9223372036854775807/\szQuery q<=1048576:=fun q hq=>⟨(BP hr hq).1,Nat.le_trans (lX hq) hsz⟩
 obtain⟨kind,op,not,val,qual,name,kids,sub⟩:=e
 obtain⟨h1,h2,h3⟩:=qE hf
 refine tN kind op not val qual name kids sub full gf g hf hr.num (fun x hx=>hb x (.inl hx) (h2 x hx)) fun q hq=>?_
 refine lU full gf g q (h3 q hq) (hs q hq).1 (hs q hq).2 fun x hx=>hb x (.inr ⟨q,hq,hx⟩) ?_
 have h4:=h3 q hq
 obtain⟨d,it,fr,wh,od,li⟩:=q
 exact (jw h4).2.2.2.2.2.2.2 x hx
theorem qJ (full:Bool) (e:Expr) (hr:Rg e) (h:oh e=true):fmE e=true/\(pd full e).length<=1000000/\(∀t∈pd full e,t.text.size<=1048576)/\(gy (pd full e) (pd full e).length).length<=50000000:=by
 simp only[oh,Bool.and_eq_true,decide_eq_true_eq] at h
 have hs:=wK full e h.2.2 hr
 exact⟨h.2.2,Nat.le_trans hs.1 (by omega),fun t ht=>Nat.le_trans (hs.2 t ht) (by decide),BS hs (by omega)⟩
noncomputable def im (e:Expr):List Tok:=if oh e=true then pd false e else []
theorem nu (e:Expr) (hr:Rg e):(∀t∈im e,t.text.size<=1048576)/\(gy (im e) (im e).length).length<=50000000:=by
 unfold im
 split
 ·rename_i h
  exact (qJ false e hr h).2.2
 ·exact⟨fun t h=>(by cases h),(by decide)⟩
theorem tO (e:Expr) (hr:Rg e) (hsz:szExpr e<=1048576):Cl Tryz.prog 37 [.ag (ar e.row)] [] fun r _=>r = .c (.sl (im e).length ((im e).flatMap Tok.row) none):=by
 have c1:=qB e hsz
 have ht:=qJ false e hr
 have he:=om false e
 unfold im
 generalize pd false e=l at *
 cases hb:oh e
 case false=>
  rw[hb] at c1
  obtain⟨kind,op,not,val,qual,name,kids,sub⟩:=e
  rw[ae] at c1 ⊢
  refine ah ab false Tryz.func37 rfl (by kernel_rfl) ?_
  simp only[Tryz.f37,tt,seval]
  refine cZ (c1) ?_ ?_<;>simp only[tt,seval]
  refine⟨_,[],rfl,ai ?_⟩
  simp only[tt,seval]
 case true=>
  rw[hb] at c1
  obtain⟨hf,h1,h2,h3⟩:=ht hb
  have he:∀out:List Tok,out.length+l.length<=1000000->Cl Tryz.prog 80 [.c (.ow 150 (out).length ((out).flatMap Tok.row) none),.ag (ar e.row),vb false] [] fun r _=>r = .c (.ow 150 (out++l).length ((out++l).flatMap Tok.row) none):=he hf hr hsz
  obtain⟨kind,op,not,val,qual,name,kids,sub⟩:=e
  rw[ae] at c1 he ⊢
  refine ah ab false Tryz.func37 rfl (by kernel_rfl) ?_
  simp only[Tryz.f37,tt,seval]
  refine cZ (c1) ?_ ?_<;>simp only[tt,seval]
  refine cZ (he [] (by simp only[List.length_nil];omega)) ?_ ?_<;>simp only[tt,seval]
  refine⟨_,[],rfl,ai ?_⟩
  simp only[tt,seval]
theorem wP (e:Expr) (hr:Rg e) (hsz:szExpr e<=1048576):Cl Tryz.prog 32 [.ag (ar e.row)] [] fun r _=>r=vs (fV (im e)):=by
 have c1:=tO e hr hsz
 have sp:=uc (im e) (nu e hr).1 (nu e hr).2
 generalize im e=l at *
 obtain⟨kind,op,not,val,qual,name,kids,sub⟩:=e
 rw[ae] at c1 ⊢
 refine ah ab false Tryz.func32 rfl (by kernel_rfl) ?_
 simp only[Tryz.f32,tt,seval]
 refine cZ (c1) ?_ ?_<;>simp only[tt,seval]
 refine cZ (sp) ?_ ?_<;>simp only[tt,seval]
 exact⟨_,_,rfl,ak rfl⟩
end Go.Proofs.YtbodcedhmccenaaGreatDoor
