/-
  The reference's printer.
  Conditions: none.
-/
import Derived.Test.YtdmomaomffhidaaGreatDoorQYF1
set_option linter.unusedVariables false
set_option linter.unusedSimpArgs false
set_option linter.unusedSectionVars false
set_option linter.unnecessarySimpa false
set_option maxRecDepth 8000
namespace Go.Proofs.YtdmomaomffhidaaGreatDoor
open Go Go.Dv
open Go.Vc (D dm dq cV bq)
theorem eE (l:List Tok) (k:Int) (s:ByteArray) (a:Int):l.flatMap Tok.row++[int k,str s,int a]=(l++[Tok.mk k s a]).flatMap Tok.row:=by rw[List.flatMap_append];rfl
theorem xt (l:List Tok) (k:Int) (s:ByteArray) (a:Int) (k':Int) (s':ByteArray) (a':Int):l.flatMap Tok.row++[int k,str s,int a,int k',str s',int a']=(l++[Tok.mk k s a,Tok.mk k' s' a']).flatMap Tok.row:=by rw[List.flatMap_append];rfl
theorem dF (l:List Tok) (t:Tok):l.length+1=(l++[t]).length:=by simp
theorem sZ (l:List Tok) (t u:Tok):l.length+2=(l++[t,u]).length:=by simp
theorem qh {l m:List Tok} (h:l=m):(S.c (.ow 129 (l).length ((l).flatMap Tok.row) none):S) = .c (.ow 129 (m).length ((m).flatMap Tok.row) none):=by rw[h]
theorem ki {l m:List Tok} {x:C} (h:l=m):([[.ow 129 (l).length ((l).flatMap Tok.row) none,x]]:List (List C))=[[.ow 129 (m).length ((m).flatMap Tok.row) none,x]]:=by rw[h]
theorem FX {a b:Tok} (h:a=b):(S.ag (aw a.row):S) = .ag (aw b.row):=by rw[h]
theorem bK (k:Nat) (h1:1<=k) (h2:k<=28):Cl Tryz.prog 114 [vi k] [] fun r _=>r = .ag (aw (kT k).row):=by
 refine ai ac false Tryz.func114 rfl ae ?_
 simp only[Tryz.f114,tt,seval]
 refine cZ (AF k h1 h2) ?_ ?_<;>simp only[tt,seval]
 exact⟨_,_,rfl,ao rfl⟩
theorem bS (s:ByteArray):Cl Tryz.prog 115 [vs s] [] fun r _=>r = .ag (aw (gT s).row):=by
 refine ai ac false Tryz.func115 rfl ae ?_
 simp only[Tryz.f115,tt,seval]
 exact⟨_,_,rfl,ao rfl⟩
theorem eV (s:ByteArray):Cl Tryz.prog 143 [vs s] [] fun r _=>r = .ag (aw (nT s).row):=by
 refine ai ac false Tryz.func143 rfl ae ?_
 simp only[Tryz.f143,tt,seval]
 exact⟨_,_,rfl,ao rfl⟩
theorem Ao (op:Int):Cl Tryz.prog 145 [vi op] [] fun r _=>r = .ag (aw (cE op).row):=by
 refine ai ac false Tryz.func145 rfl ae ?_
 simp only[Tryz.f145,tt,seval]
 by_cases h1:op=1
 ·simp only[tt,seval,ax h1]
  refine cZ (nX op) ?_ ?_<;>simp only[tt,seval]
  exact⟨_,_,FX (by rw[cE,if_pos (.inl h1)]),ao rfl⟩
 simp only[tt,seval,aB h1]
 by_cases h2:op=2
 ·simp only[tt,seval,ax h2]
  refine cZ (nX op) ?_ ?_<;>simp only[tt,seval]
  exact⟨_,_,FX (by rw[cE,if_pos (.inr (.inl h2))]),ao rfl⟩
 simp only[tt,seval,aB h2]
 refine ab (fun h3=>?_) (fun h3=>?_)
 ·skip
  refine cZ (nX op) ?_ ?_<;>simp only[tt,seval]
  exact⟨_,_,FX (by rw[cE,if_pos (.inr (.inr h3))]),ao rfl⟩
 refine cZ (nX op) ?_ ?_<;>simp only[tt,seval]
 refine cZ (bS (j8 op)) ?_ ?_<;>simp only[tt,seval,gT,Tok.row]
 exact⟨_,_,FX (by rw[cE,if_neg (fun h=>h.elim h1 fun h=>h.elim h2 h3)]),ao rfl⟩
theorem DP (v:Val) (h0 : -9223372036854775808<=v.num) (h1:v.num<=9223372036854775807):Cl Tryz.prog 142 [.ag (aw v.row)] [] fun r _=>r = .ag (aw (eP v).row):=by
 rw[Val.row]
 refine ai ac false Tryz.func142 rfl ae ?_
 simp only[Tryz.f142,tt,seval]
 refine ab (fun k1=>?_) (fun k1=>?_)
 ·skip
  refine cZ (qZ v.num h0 h1) ?_ ?_<;>simp only[tt,seval]
  exact⟨_,_,FX (by rw[eP,if_pos k1]),ao rfl⟩
 refine ab (fun k2=>?_) (fun k2=>?_)
 ·exact⟨_,_,FX (by rw[eP,if_neg k1,if_pos k2]),ao rfl⟩
 refine ab (fun k3=>?_) (fun k3=>?_)
 ·refine ab (fun k4=>?_) (fun k4=>?_)
  ·skip
   refine cZ (bK 21 aa aa) ?_ ?_<;>simp only[tt,seval,kT,Tok.row]
   exact⟨_,_,FX (by rw[eP,if_neg k1,if_neg k2,if_pos k3,if_pos k4]),ao rfl⟩
  ·skip
   refine cZ (bK 22 aa aa) ?_ ?_<;>simp only[tt,seval,kT,Tok.row]
   exact⟨_,_,FX (by rw[eP,if_neg k1,if_neg k2,if_pos k3,if_neg k4]),ao rfl⟩
 refine cZ (bK 20 aa aa) ?_ ?_<;>simp only[tt,seval,kT,Tok.row]
 exact⟨_,_,FX (by rw[eP,if_neg k1,if_neg k2,if_neg k3]),ao rfl⟩
theorem oN (out:List Tok) (e:Expr) (h:out.length<=1000000):Cl Tryz.prog 146 [.c (.ow 129 (out).length ((out).flatMap Tok.row) none),.ag (aw e.row)] [] fun r _=>r = .c (.ow 129 (out++bA e.not).length ((out++bA e.not).flatMap Tok.row) none):=by
 obtain⟨kind,op,not,val,qual,name,kids,sub⟩:=e
 rw[am]
 refine ai ac false Tryz.func146 rfl ae ?_
 simp only[Tryz.f146,tt,seval]
 cases not
 case true=>
  simp only[tt,seval]
  refine cZ (bK 15 aa aa) ?_ ?_<;>simp only[tt,seval,kT,Tok.row]
  refine jh ?_
  rw[eE (out),dF (out) (Tok.mk 1 (kw 15) 0)]
  refine⟨_,[],qh (l:=out++[(Tok.mk 1 (kw 15) 0)]) (by rfl),aq ?_⟩
  simp only[tt,seval]
 case false=>
  simp only[tt,seval]
  refine⟨_,[],qh (l:=out) (by exact (List.append_nil _).symm),aq ?_⟩
  simp only[tt,seval]
theorem oO (out:List Tok) (a:ByteArray) (h:out.length<=1000000):Cl Tryz.prog 198 [.c (.ow 129 (out).length ((out).flatMap Tok.row) none),vs a] [] fun r _=>r = .c (.ow 129 (out++cP a).length ((out++cP a).flatMap Tok.row) none):=by
 refine ai ac false Tryz.func198 rfl ae ?_
 simp only[Tryz.f198,tt,seval]
 refine ab (fun ha=>?_) (fun ha=>?_)
 ·skip
  refine⟨_,[],qh (l:=out) (by rw[cP,if_pos ha,List.append_nil]),aq ?_⟩
  simp only[tt,seval]
 ·try simp only[tt,seval]
  refine cZ (bK 12 aa aa) ?_ ?_<;>simp only[tt,seval,kT,Tok.row]
  refine cZ (eV a) ?_ ?_<;>simp only[tt,seval,nT,Tok.row]
  refine jh ?_
  rw[xt (out),sZ (out) (Tok.mk 1 (kw 12) 0) (Tok.mk 2 a 0)]
  refine⟨_,[],qh (l:=out++[(Tok.mk 1 (kw 12) 0),(Tok.mk 2 a 0)]) (by rw[cP,if_neg ha];rfl),aq ?_⟩
  simp only[tt,seval]
def Ap (full:Bool) (e:Expr) (l:List Tok):Prop:=∀out:List Tok,out.length+l.length<=1000000->Cl Tryz.prog 60 [.c (.ow 129 (out).length ((out).flatMap Tok.row) none),.ag (aw e.row),vb full] [] fun r _=>r = .c (.ow 129 (out++l).length ((out++l).flatMap Tok.row) none)
set_option maxHeartbeats 1000000 in
theorem DQ (kind op:Int) (not:Bool) (val:Val) (qual name:ByteArray) (kids:List Expr) (sub:List Query) (full:Bool) (k:Nat) (hk:k<kids.length) (l:List Tok) (hx:Ap full kids[k] l) (out:List Tok) (hroom:out.length+(kf (Bu full kind op kids k) l).length<=1000000) :
 Cl Tryz.prog 144 [.c (.ow 129 (out).length ((out).flatMap Tok.row) none),.ag (aw (Expr.mk kind op not val qual name kids sub).row),vi k,vb full] [] fun r _=>r = .c (.ow 129 (out++kf (Bu full kind op kids k) l).length ((out++kf (Bu full kind op kids k) l).flatMap Tok.row) none):=by
 obtain⟨it,bu⟩:∃it,it=kids[k]:=⟨_,rfl⟩
 have hw:(Bu full kind op kids k)=(l4 kind op kids k||(full&&decide (lC it<9))):=by rw[Bu,List.getD_eq_getElem?_getD,aC hk,bu];rfl
 rw[hw] at hroom ⊢
 rw[<-bu] at hx
 rw[am]
 refine ai ac false Tryz.func144 rfl ae ?_
 simp only[Tryz.f144,tt,seval]
 refine⟨aa,aa,_,aI aJ (aC hk),Expr.ne _ _,?_⟩
 rw[<-bu]
 have hxl:=pe it
 obtain⟨k0,o0,n0,v0,q0,m0,ks0,ss0⟩:=it
 rw[am] at hxl
 rw[am]
 simp only[tt,seval]
 refine cZ (AH kind op not val qual name kids sub k hk) ?_ ?_<;>simp only[tt,seval,am]
 have hx:∀out:List Tok,out.length+l.length<=1000000->Cl Tryz.prog 60 [.c (.ow 129 (out).length ((out).flatMap Tok.row) none),.ag (aw (Expr.mk k0 o0 n0 v0 q0 m0 ks0 ss0).row),vb full] [] fun r _=>r = .c (.ow 129 (out++l).length ((out++l).flatMap Tok.row) none):=hx
 rw[am] at hx
 generalize lC (Expr.mk k0 o0 n0 v0 q0 m0 ks0 ss0)=lv0 at *
 cases hw1:l4 kind op kids k
 case true=>
  rw[hw1] at hroom
  simp only[tt,seval]
  have hroom:out.length+(jb::(l++[je])).length<=1000000:=hroom
  simp only[ll] at hroom
  apply ey 0
  case h1=>
   refine dDrawn.intro [32] (.take 0 (.take 5 (.br 1 (.br 2 (.br 3 (.take 4 (.br 6 (.take 7 .done) .nobr)) (.br 4 (.br 3 (.br 6 (.take 7 .done) .nobr) .nobr) .nobr)) (.br 4 (.br 2 (.br 3 (.br 6 (.take 7 .done) .nobr) .nobr) .nobr) .nobr)) (.br 4 (.br 1 (.br 2 (.br 3 (.br 6 (.take 7 .done) .nobr) .nobr) .nobr) .nobr) .nobr)))) ae ?_
   simp only[tt,seval]
   all_goals repeat' first|refine fI ?_ ?_|refine cv ?_ ?_
   all_goals
    refine cZ (bS ⟨#[40]⟩) ?_ ?_<;>simp only[tt,seval,gT,Tok.row]
   all_goals repeat' first|refine rT ?_ ?_|refine j1 ?_ ?_|refine j2 ?_ ?_
   all_goals
    refine jh ?_
    rw[eE (out),dF (out) (Tok.mk 5 ⟨#[40]⟩ 0)]
   all_goals repeat' first|refine fI ?_ ?_|refine cv ?_ ?_
   all_goals
    refine cZ (hx (out++[(Tok.mk 5 ⟨#[40]⟩ 0)]) ar) ?_ ?_
    ·simp only[tt,seval]
     decide
    simp only[tt,seval]
   all_goals exact⟨rfl,rfl,rfl⟩
  case h2=>
   intro f' hj0
   simp only[tt,seval,hj0]
   refine cZ (bS ⟨#[41]⟩) ?_ ?_<;>simp only[tt,seval,gT,Tok.row]
   refine jh ?_
   rw[eE (out++[(Tok.mk 5 ⟨#[40]⟩ 0)]++l),dF (out++[(Tok.mk 5 ⟨#[40]⟩ 0)]++l) (Tok.mk 5 ⟨#[41]⟩ 0)]
   refine⟨_,[],qh (l:=out++[(Tok.mk 5 ⟨#[40]⟩ 0)]++l++[(Tok.mk 5 ⟨#[41]⟩ 0)]) (by skip;simp [kf,jb,je,gT]),aq ?_⟩
   simp only[tt,seval]
 case false=>
  simp only[tt,seval]
  cases full
  case false=>
   rw[hw1] at hroom
   simp only[tt,seval]
   have hroom:out.length+l.length<=1000000:=hroom
   refine cZ (hx out hroom) ?_ ?_<;>simp only[tt,seval]
   refine⟨_,[],qh (l:=out++l) (by skip;simp [kf]),aq ?_⟩
   simp only[tt,seval]
  case true=>
   simp only[tt,seval]
   refine cZ (hxl) ?_ ?_<;>simp only[tt,seval]
   rw[hw1] at hroom
   refine ab (fun h9=>?_) (fun h9=>?_)
   ·rw[ax h9] at hroom ⊢
    have hroom:out.length+(jb::(l++[je])).length<=1000000:=hroom
    simp only[ll] at hroom
    apply ey 0
    case h1=>
     refine dDrawn.intro [32] (.take 0 (.take 5 (.br 1 (.br 2 (.br 3 (.take 4 (.br 6 (.take 7 .done) .nobr)) (.br 4 (.br 3 (.br 6 (.take 7 .done) .nobr) .nobr) .nobr)) (.br 4 (.br 2 (.br 3 (.br 6 (.take 7 .done) .nobr) .nobr) .nobr) .nobr)) (.br 4 (.br 1 (.br 2 (.br 3 (.br 6 (.take 7 .done) .nobr) .nobr) .nobr) .nobr) .nobr)))) ae ?_
     simp only[tt,seval]
     all_goals repeat' first|refine fI ?_ ?_|refine cv ?_ ?_
     all_goals
      refine cZ (bS ⟨#[40]⟩) ?_ ?_<;>simp only[tt,seval,gT,Tok.row]
     all_goals repeat' first|refine rT ?_ ?_|refine j1 ?_ ?_|refine j2 ?_ ?_
     all_goals
      refine jh ?_
      rw[eE (out),dF (out) (Tok.mk 5 ⟨#[40]⟩ 0)]
     all_goals repeat' first|refine fI ?_ ?_|refine cv ?_ ?_
     all_goals
      refine cZ (hx (out++[(Tok.mk 5 ⟨#[40]⟩ 0)]) ar) ?_ ?_
      ·simp only[tt,seval]
       decide
      simp only[tt,seval]
     all_goals exact⟨rfl,rfl,rfl⟩
    case h2=>
     intro f' hj0
     simp only[tt,seval,hj0]
     refine cZ (bS ⟨#[41]⟩) ?_ ?_<;>simp only[tt,seval,gT,Tok.row]
     refine jh ?_
     rw[eE (out++[(Tok.mk 5 ⟨#[40]⟩ 0)]++l),dF (out++[(Tok.mk 5 ⟨#[40]⟩ 0)]++l) (Tok.mk 5 ⟨#[41]⟩ 0)]
     refine⟨_,[],qh (l:=out++[(Tok.mk 5 ⟨#[40]⟩ 0)]++l++[(Tok.mk 5 ⟨#[41]⟩ 0)]) (by skip;simp [kf,jb,je,gT]),aq ?_⟩
     simp only[tt,seval]
   ·rw[aB h9] at hroom ⊢
    have hroom:out.length+l.length<=1000000:=hroom
    refine cZ (hx out hroom) ?_ ?_<;>simp only[tt,seval]
    refine⟨_,[],qh (l:=out++l) (by skip;simp [kf]),aq ?_⟩
    simp only[tt,seval]
theorem Aq {full:Bool} {g:Expr->List Tok} {kind op:Int} {kids:List Expr} {k:Nat} (hk:k<kids.length):aO full g kind op kids k=kf (Bu full kind op kids k) (g kids[k]):=by rw[aO,List.getD_eq_getElem?_getD,aC hk];rfl
theorem Lq (q:Query):(q.row=[])=False:=eq_false fun h=>Query.ne q [] (by rw[h];rfl)
theorem Bx {l:List Query} {q:Query} (h:l=[q]) (C:List D->Prop):(∃ds',l.flatMap Query.row=ds' /\ ¬ds'=[]/\C ds')=C q.row:=by
 subst h
 have e:[q].flatMap Query.row=q.row:=by simp
 rw[e]
 exact propext ⟨fun ⟨_,h1,_,h3⟩=>h1▸h3,fun h=>⟨_,rfl,fun h0=>(Lq q▸h0:False),h⟩⟩
def Kx (full:Bool) (q:Query) (l:List Tok):Prop:=∀out:List Tok,out.length+l.length<=1000000->Cl Tryz.prog 48 [.c (.ow 129 (out).length ((out).flatMap Tok.row) none),.ag (aw q.row),vb full] [] fun r _=>r = .c (.ow 129 (out++l).length ((out++l).flatMap Tok.row) none)
set_option maxHeartbeats 4000000 in
theorem vp (kind op:Int) (not:Bool) (val:Val) (qual name:ByteArray) (kids:List Expr) (sub:List Query) (full:Bool) (gf:Expr->Bool) (g:Expr->List Tok) (hf:u7 gf (Expr.mk kind op not val qual name kids sub)=true) (hnum : -9223372036854775808<=val.num/\val.num<=9223372036854775807) (hg:∀x∈kids,Ap full x (g x)) (hgq:∀q∈sub,Kx full q (dL g q)):Ap full (Expr.mk kind op not val qual name kids sub) (jc full g (Expr.mk kind op not val qual name kids sub)):=by
 intro out hroom
 have hkid:∀k (hk:k<kids.length) (out:List Tok),out.length+(aO full g kind op kids k).length<=1000000->Cl Tryz.prog 144 [.c (.ow 129 (out).length ((out).flatMap Tok.row) none),.ag (aw (Expr.mk kind op not val qual name kids sub).row),vi k,vb full] [] fun r _=>r = .c (.ow 129 (out++aO full g kind op kids k).length ((out++aO full g kind op kids k).flatMap Tok.row) none):=fun k hk out hr=>by
  rw[Aq hk] at hr ⊢
  exact DQ kind op not val qual name kids sub full k hk _ (hg _ (aM hk)) out hr
 have hsp:=(kh hf).1
 clear hf hg
 rw[am]
 rcases jw hsp with⟨rfl,hl,hk0,hs0⟩|⟨rfl,hn,hm,hk0,hs0⟩|⟨rfl,ho,hk0,hs0⟩|⟨rfl,ho,hk0,hs0⟩|⟨rfl,hk0,hs0⟩|⟨rfl,hk0,hs0⟩|⟨rfl,hk0,hs0⟩|⟨rfl,hk0,hs0⟩|⟨rfl,hk0,hs0⟩
 ·skip
  have e:jc full g (Expr.mk 1 op not val qual name kids sub)=[eP val]:=rfl
  rw[e] at hroom ⊢
  clear e
  simp only[ll] at hroom
  refine ai ac false Tryz.func60 rfl ae ?_
  simp only[Tryz.f60,tt,seval]
  refine cZ (DP val hnum.1 hnum.2) ?_ ?_<;>simp only[tt,seval,Tok.row,Val.row]
  refine jh ?_
  rw[eE (out),dF (out) (Tok.mk (eP val).kind (eP val).text (eP val).at_)]
  refine⟨_,[],qh (l:=out++[(Tok.mk (eP val).kind (eP val).text (eP val).at_)]) (by rfl),aq ?_⟩
  simp only[tt,seval]
 ·skip
  have e:jc full g (Expr.mk 2 op not val qual name kids sub)=cA qual++[nT name]:=rfl
  rw[e] at hroom ⊢
  clear e
  simp only[ll] at hroom
  refine ai ac false Tryz.func60 rfl ae ?_
  simp only[Tryz.f60,tt,seval]
  refine ab (fun hq=>?_) (fun hq=>?_)
  ·have hq:¬qual=⟨#[]⟩:=by simpa using hq
   rw[cA,if_neg hq] at hroom ⊢
   simp only[ll] at hroom
   simp only[tt,seval]
   refine cZ (eV qual) ?_ ?_<;>simp only[tt,seval,nT,Tok.row]
   refine cZ (bS ⟨#[46]⟩) ?_ ?_<;>simp only[tt,seval,gT,Tok.row]
   refine jh ?_
   rw[xt (out),sZ (out) (Tok.mk 2 qual 0) (Tok.mk 5 ⟨#[46]⟩ 0)]
   refine cZ (eV name) ?_ ?_<;>simp only[tt,seval,nT,Tok.row]
   refine jh ?_
   rw[eE (out++[(Tok.mk 2 qual 0),(Tok.mk 5 ⟨#[46]⟩ 0)]),dF (out++[(Tok.mk 2 qual 0),(Tok.mk 5 ⟨#[46]⟩ 0)]) (Tok.mk 2 name 0)]
   refine⟨_,[],qh (l:=out++[(Tok.mk 2 qual 0),(Tok.mk 5 ⟨#[46]⟩ 0)]++[(Tok.mk 2 name 0)]) (by simp [IU,gT]),aq ?_⟩
   simp only[tt,seval]
  ·have hq:qual=⟨#[]⟩:=by simpa using hq
   rw[cA,if_pos hq] at hroom ⊢
   simp only[ll] at hroom
   simp only[tt,seval]
   refine cZ (eV name) ?_ ?_<;>simp only[tt,seval,nT,Tok.row]
   refine jh ?_
   rw[eE (out),dF (out) (Tok.mk 2 name 0)]
   refine⟨_,[],qh (l:=out++[(Tok.mk 2 name 0)]) (by rfl),aq ?_⟩
   simp only[tt,seval]
 ·skip
  have e:jc full g (Expr.mk 3 op not val qual name kids sub)=cE op::aO full g 3 op kids 0:=rfl
  rw[e] at hroom ⊢
  clear e
  have hkid0:=hkid 0 aa
  generalize aO full g 3 op kids 0=a0 at *
  simp only[ll] at hroom
  refine ai ac false Tryz.func60 rfl ae ?_
  simp only[Tryz.f60,tt,seval]
  apply ey 6
  case h1=>
   refine dDrawn.intro [46] (.take 0 (.take 1 (.take 2 (.take 7 (.br 3 (.br 4 (.br 5 (.take 6 (.br 8 (.take 9 .done) .nobr)) (.br 6 (.br 5 (.br 8 (.take 9 .done) .nobr) .nobr) .nobr)) (.br 6 (.br 4 (.br 5 (.br 8 (.take 9 .done) .nobr) .nobr) .nobr) .nobr)) (.br 6 (.br 3 (.br 4 (.br 5 (.br 8 (.take 9 .done) .nobr) .nobr) .nobr) .nobr) .nobr)))))) ae ?_
   simp only[tt,seval]
   all_goals repeat' first|refine fI ?_ ?_|refine cv ?_ ?_
   all_goals
    refine cZ (Ao op) ?_ ?_<;>simp only[tt,seval,Tok.row]
   all_goals repeat' first|refine rT ?_ ?_|refine j1 ?_ ?_|refine j2 ?_ ?_
   all_goals
    refine jh ?_
    rw[eE (out),dF (out) (Tok.mk (cE op).kind (cE op).text (cE op).at_)]
   all_goals repeat' first|refine fI ?_ ?_|refine cv ?_ ?_
   all_goals
    refine cZ (hkid0 (out++[(Tok.mk (cE op).kind (cE op).text (cE op).at_)]) ar) ?_ ?_
    ·simp only[tt,seval,am]
     decide
    simp only[tt,seval,am]
   all_goals exact⟨rfl,rfl,rfl⟩
  case h2=>
   intro f' hj0
   simp only[tt,seval,hj0]
   refine⟨_,[],qh (l:=out++[(Tok.mk (cE op).kind (cE op).text (cE op).at_)]++a0) (by simp),aq ?_⟩
   simp only[tt,seval]
 ·skip
  have e:jc full g (Expr.mk 4 op not val qual name kids sub)=aO full g 4 op kids 0++(cE op::aO full g 4 op kids 1):=rfl
  rw[e] at hroom ⊢
  clear e
  have hkid0:=hkid 0 aa
  generalize aO full g 4 op kids 0=a0 at *
  have hkid1:=hkid 1 aa
  generalize aO full g 4 op kids 1=a1 at *
  simp only[ll] at hroom
  refine ai ac false Tryz.func60 rfl ae ?_
  simp only[Tryz.f60,tt,seval]
  refine cZ (hkid0 (out) ar) ?_ ?_<;>simp only[tt,seval,am]
  apply ey 6
  case h1=>
   refine dDrawn.intro [80] (.take 0 (.take 1 (.take 2 (.take 7 (.br 3 (.br 4 (.br 5 (.take 6 (.br 8 (.take 9 .done) .nobr)) (.br 6 (.br 5 (.br 8 (.take 9 .done) .nobr) .nobr) .nobr)) (.br 6 (.br 4 (.br 5 (.br 8 (.take 9 .done) .nobr) .nobr) .nobr) .nobr)) (.br 6 (.br 3 (.br 4 (.br 5 (.br 8 (.take 9 .done) .nobr) .nobr) .nobr) .nobr) .nobr)))))) ae ?_
   simp only[tt,seval]
   all_goals repeat' first|refine fI ?_ ?_|refine cv ?_ ?_
   all_goals
    refine cZ (Ao op) ?_ ?_<;>simp only[tt,seval,Tok.row]
   all_goals repeat' first|refine rT ?_ ?_|refine j1 ?_ ?_|refine j2 ?_ ?_
   all_goals
    refine jh ?_
    rw[eE (out++a0),dF (out++a0) (Tok.mk (cE op).kind (cE op).text (cE op).at_)]
   all_goals repeat' first|refine fI ?_ ?_|refine cv ?_ ?_
   all_goals
    refine cZ (hkid1 (out++a0++[(Tok.mk (cE op).kind (cE op).text (cE op).at_)]) ar) ?_ ?_
    ·simp only[tt,seval,am]
     decide
    simp only[tt,seval,am]
   all_goals exact⟨rfl,rfl,rfl⟩
  case h2=>
   intro f' hj0
   simp only[tt,seval,hj0]
   refine⟨_,[],qh (l:=out++a0++[(Tok.mk (cE op).kind (cE op).text (cE op).at_)]++a1) (by simp [aL]),aq ?_⟩
   simp only[tt,seval]
 ·skip
  have e:jc full g (Expr.mk 5 op not val qual name kids sub)=aO full g 5 op kids 0++(kT 16::(bA not++[kT 20])):=rfl
  rw[e] at hroom ⊢
  clear e
  have hkid0:=hkid 0 aa
  generalize aO full g 5 op kids 0=a0 at *
  simp only[ll] at hroom
  refine ai ac false Tryz.func60 rfl ae ?_
  simp only[Tryz.f60,tt,seval]
  refine cZ (hkid0 (out) ar) ?_ ?_<;>simp only[tt,seval,am]
  apply ey 6
  case h1=>
   refine dDrawn.intro [88] (.take 0 (.br 1 (.br 2 (.br 3 (.take 4 (.br 5 (.br 6 (.br 7 (.br 8 (.take 9 .done) .nobr) .nobr) .nobr) .nobr)) (.br 4 (.br 3 (.br 5 (.br 6 (.br 7 (.br 8 (.take 9 .done) .nobr) .nobr) .nobr) .nobr) .nobr) .nobr)) (.br 4 (.br 2 (.br 3 (.br 5 (.br 6 (.br 7 (.br 8 (.take 9 .done) .nobr) .nobr) .nobr) .nobr) .nobr) .nobr) .nobr)) (.br 4 (.br 1 (.br 2 (.br 3 (.br 5 (.br 6 (.br 7 (.br 8 (.take 9 .done) .nobr) .nobr) .nobr) .nobr) .nobr) .nobr) .nobr) .nobr))) ae ?_
   simp only[tt,seval]
   all_goals repeat' first|refine fI ?_ ?_|refine cv ?_ ?_
   all_goals
    refine cZ (bK 16 aa aa) ?_ ?_<;>simp only[tt,seval,kT,Tok.row]
   all_goals repeat' first|refine rT ?_ ?_|refine j1 ?_ ?_|refine j2 ?_ ?_
   all_goals
    refine jh ?_
    rw[eE (out++a0),dF (out++a0) (Tok.mk 1 (kw 16) 0)]
   all_goals repeat' first|refine fI ?_ ?_|refine cv ?_ ?_
   all_goals
    refine cZ (oN (out++a0++[(Tok.mk 1 (kw 16) 0)]) (Expr.mk 5 op not val qual name kids sub) ar) ?_ ?_
    ·simp only[tt,seval,am]
     decide
    simp only[tt,seval,am,Expr.not]
   all_goals repeat' first|refine fI ?_ ?_|refine cv ?_ ?_
   all_goals
    refine cZ (bK 20 aa aa) ?_ ?_<;>simp only[tt,seval,kT,Tok.row]
   all_goals repeat' first|refine rT ?_ ?_|refine j1 ?_ ?_|refine j2 ?_ ?_
   all_goals
    refine jh ?_
    rw[eE (out++a0++[(Tok.mk 1 (kw 16) 0)]++bA not),dF (out++a0++[(Tok.mk 1 (kw 16) 0)]++bA not) (Tok.mk 1 (kw 20) 0)]
   all_goals exact⟨rfl,rfl,rfl⟩
  case h2=>
   intro f' hj0
   simp only[tt,seval,hj0]
   refine⟨_,[],qh (l:=out++a0++[(Tok.mk 1 (kw 16) 0)]++bA not++[(Tok.mk 1 (kw 20) 0)]) (by simp [kT,bA,aL]),aq ?_⟩
   simp only[tt,seval]
 ·skip
  have e:jc full g (Expr.mk 6 op not val qual name kids sub)=aO full g 6 op kids 0++(bA not++(kT 18::(aO full g 6 op kids 1++(kT 13::aO full g 6 op kids 2)))):=rfl
  rw[e] at hroom ⊢
  clear e
  have hkid0:=hkid 0 aa
  generalize aO full g 6 op kids 0=a0 at *
  have hkid1:=hkid 1 aa
  generalize aO full g 6 op kids 1=a1 at *
  have hkid2:=hkid 2 aa
  generalize aO full g 6 op kids 2=a2 at *
  simp only[ll] at hroom
  refine ai ac false Tryz.func60 rfl ae ?_
  simp only[Tryz.f60,tt,seval]
  refine cZ (hkid0 (out) ar) ?_ ?_<;>simp only[tt,seval,am]
  apply tY 0 4 2
  case h1=>
   refine dDrawn.intro [96,102] (.take 0 (.take 1 (.take 7 (.br 2 (.br 3 (.br 4 (.br 5 (.take 6 (.br 8 (.take 9 .done) .nobr)) (.br 6 (.br 5 (.br 8 (.take 9 .done) .nobr) .nobr) .nobr)) (.br 6 (.br 4 (.br 5 (.br 8 (.take 9 .done) .nobr) .nobr) .nobr) .nobr)) (.br 6 (.br 3 (.br 4 (.br 5 (.br 8 (.take 9 .done) .nobr) .nobr) .nobr) .nobr) .nobr)) (.br 6 (.br 2 (.br 3 (.br 4 (.br 5 (.br 8 (.take 9 .done) .nobr) .nobr) .nobr) .nobr) .nobr) .nobr))))) ae ?_
   simp only[tt,seval]
   all_goals repeat' first|refine fI ?_ ?_|refine cv ?_ ?_
   all_goals
    refine cZ (oN (out++a0) (Expr.mk 6 op not val qual name kids sub) ar) ?_ ?_
    ·simp only[tt,seval,am]
     decide
    simp only[tt,seval,am,Expr.not]
   all_goals repeat' first|refine fI ?_ ?_|refine cv ?_ ?_
   all_goals
    refine cZ (bK 18 aa aa) ?_ ?_<;>simp only[tt,seval,kT,Tok.row]
   all_goals repeat' first|refine rT ?_ ?_|refine j1 ?_ ?_|refine j2 ?_ ?_
   all_goals
    refine jh ?_
    rw[eE (out++a0++bA not),dF (out++a0++bA not) (Tok.mk 1 (kw 18) 0)]
   all_goals repeat' first|refine fI ?_ ?_|refine cv ?_ ?_
   all_goals
    refine cZ (hkid1 (out++a0++bA not++[(Tok.mk 1 (kw 18) 0)]) ar) ?_ ?_
    ·simp only[tt,seval,am]
     decide
    simp only[tt,seval,am]
   all_goals exact⟨rfl,rfl,rfl,rfl,rfl⟩
  case h2=>
   intro f' hj0 hj1 hj2
   simp only[tt,seval]
   apply ey 6
   case h1=>
    refine dDrawn.intro [109] (.take 0 (.take 5 (.br 1 (.br 2 (.br 3 (.take 4 (.br 6 (.take 7 .done) .nobr)) (.br 4 (.br 3 (.br 6 (.take 7 .done) .nobr) .nobr) .nobr)) (.br 4 (.br 2 (.br 3 (.br 6 (.take 7 .done) .nobr) .nobr) .nobr) .nobr)) (.br 4 (.br 1 (.br 2 (.br 3 (.br 6 (.take 7 .done) .nobr) .nobr) .nobr) .nobr) .nobr)))) ae ?_
    simp only[tt,seval]
    all_goals try simp only[tt,seval,hj0,hj1,hj2]
    all_goals repeat' first|refine fI ?_ ?_|refine cv ?_ ?_
    all_goals
     refine cZ (bK 13 aa aa) ?_ ?_<;>simp only[tt,seval,kT,Tok.row,hj1]
    all_goals repeat' first|refine rT ?_ ?_|refine j1 ?_ ?_|refine j2 ?_ ?_
    all_goals
     refine jh ?_
     rw[eE (out++a0++bA not++[(Tok.mk 1 (kw 18) 0)]++a1),dF (out++a0++bA not++[(Tok.mk 1 (kw 18) 0)]++a1) (Tok.mk 1 (kw 13) 0)]
    all_goals repeat' first|refine fI ?_ ?_|refine cv ?_ ?_
    all_goals
     refine cZ (hkid2 (out++a0++bA not++[(Tok.mk 1 (kw 18) 0)]++a1++[(Tok.mk 1 (kw 13) 0)]) ar) ?_ ?_
     ·simp only[tt,seval,am]
      decide
     simp only[tt,seval,am]
    all_goals exact⟨rfl,rfl,rfl⟩
   case h2=>
    intro f' hj0
    simp only[tt,seval,hj0]
    refine⟨_,[],qh (l:=out++a0++bA not++[(Tok.mk 1 (kw 18) 0)]++a1++[(Tok.mk 1 (kw 13) 0)]++a2) (by simp [kT,bA,aL]),aq ?_⟩
    simp only[tt,seval]
 ·skip
  have e:jc full g (Expr.mk 7 op not val qual name kids sub)=aO full g 7 op kids 0++(bA not++(kT 17::jb::((bf (oX full g 7 op kids) (kids.length-1))++[je]))):=rfl
  rw[e] at hroom ⊢
  clear e
  simp only[ll] at hroom
  refine ai ac false Tryz.func60 rfl ae ?_
  simp only[Tryz.f60,tt,seval]
  have hkid0:=hkid 0 aa
  obtain⟨a0,ha0⟩:∃a0,a0=aO full g 7 op kids 0:=⟨_,rfl⟩
  rw[<-ha0] at hkid0 hroom ⊢
  refine cZ (hkid0 (out) ar) ?_ ?_<;>simp only[tt,seval,am]
  refine cZ (oN (out++a0) (Expr.mk 7 op not val qual name kids sub) ar) ?_ ?_<;>simp only[tt,seval,am,Expr.not]
  refine cZ (bK 17 aa aa) ?_ ?_<;>simp only[tt,seval,kT,Tok.row]
  refine cZ (bS ⟨#[40]⟩) ?_ ?_<;>simp only[tt,seval,gT,Tok.row]
  refine jh ?_
  rw[xt (out++a0++bA not),sZ (out++a0++bA not) (Tok.mk 1 (kw 17) 0) (Tok.mk 5 ⟨#[40]⟩ 0)]
  obtain⟨L0,hL0⟩:∃L0,L0=out++a0++bA not++[(Tok.mk 1 (kw 17) 0),(Tok.mk 5 ⟨#[40]⟩ 0)]:=⟨_,rfl⟩
  have hL0l:L0.length=out.length+a0.length+(bA not).length+2:=by rw[hL0];simp only[ll]
  rw[<-hL0]
  refine dLoop.gh [.ren 116 10147] ⟨ah,ah,?_⟩
  refine dLoop0.intro (fun f L p=>∃(j:Nat) (es:List Tok),f 7=vi (j+1:Nat)/\f 0 = .c (.s 10147 es.length)/\j<=kids.length-1/\es=L0++bf (oX full g 7 op kids) j/\L=[(10147,.arr 129 es.length (es.flatMap Tok.row) none),(4,.str [.v (.int .i64 7),.v (.int .i64 op),.v (.bool not),.v (.int .i64 val.kind),.v (.int .i64 val.num),.v (.string val.text),.v (.string qual),.v (.string name),.sl kids.length (kids.flatMap Expr.row) none,.sl sub.length (sub.flatMap Query.row) none])]/\p=none) (fun f _ _=>(kids.length-fH (f 7)).toNat) [(10147,.arr 129 L0.length (L0.flatMap Tok.row) none),(4,.str [.v (.int .i64 7),.v (.int .i64 op),.v (.bool not),.v (.int .i64 val.kind),.v (.int .i64 val.num),.v (.string val.text),.v (.string qual),.v (.string name),.sl kids.length (kids.flatMap Expr.row) none,.sl sub.length (sub.flatMap Query.row) none])] none ⟨ak rfl (ak rfl (ap _)),au _,?_⟩ ?_
  ·simp only[tt,seval]
   exact⟨0,L0,rfl,rfl,aa,(List.append_nil _).symm,rfl⟩
  ·rintro g' L p ⟨j,es,hi,hx,hjn,hes0,rfl,rfl⟩
   simp only[tt,seval] at hi hx
   simp only[tt,seval,hi,hx]
   refine fun _=>ab (fun hlt=>?_) (fun hge=>?_)
   ·have hlt:j<kids.length-1:=by omega
    have hst:=dd (oX full g 7 op kids) j
    have hlt2:=jv (oX full g 7 op kids) hlt
    have hel:es.length=L0.length+(bf (oX full g 7 op kids) j).length:=by rw[hes0,aD]
    have hlen:(L0++bf (oX full g 7 op kids) (kids.length-1)).length+1<=1000000:=by simp only[ll] at *;omega
    simp only[ll] at hlen
    refine ab (fun hc=>?_) (fun hc=>?_)
    ·have hj0:0<j:=by omega
     have hfj:oX full g 7 op kids j=[(Tok.mk 5 ⟨#[44]⟩ 0)]++aO full g 7 op kids (j+1):=by rw[oX,kg,if_pos hj0];rfl
     rw[hfj] at hst hlt2
     simp only[ll] at hlt2
     have hkj:=hkid (j+1) aa
     generalize aO full g 7 op kids (j+1)=aj at *
     refine cZ (bS ⟨#[44]⟩) ?_ ?_<;>simp only[tt,seval,gT,Tok.row,hi]
     refine jh ?_
     rw[eE (es),dF (es) (Tok.mk 5 ⟨#[44]⟩ 0)]
     refine cZ (hkj (es++[(Tok.mk 5 ⟨#[44]⟩ 0)]) ar) ?_ ?_<;>simp only[tt,seval,am,hi]
     rw[aE (n:=((j+1:Nat):Int)+1) aa aa]
     exact⟨[(10147,.arr 129 (es++[(Tok.mk 5 ⟨#[44]⟩ 0)]++aj).length ((es++[(Tok.mk 5 ⟨#[44]⟩ 0)]++aj).flatMap Tok.row) none),(4,.str [.v (.int .i64 7),.v (.int .i64 op),.v (.bool not),.v (.int .i64 val.kind),.v (.int .i64 val.num),.v (.string val.text),.v (.string qual),.v (.string name),.sl kids.length (kids.flatMap Expr.row) none,.sl sub.length (sub.flatMap Query.row) none])],none,ak rfl (ak rfl (ap _)),au _,⟨j+1,es++[(Tok.mk 5 ⟨#[44]⟩ 0)]++aj,rfl,rfl,aa,by rw[hst,hes0];simp [aL],rfl,rfl⟩,az⟩
    ·have hj0:j=0:=by omega
     subst hj0
     have hfj:oX full g 7 op kids 0=aO full g 7 op kids (0+1):=by rw[oX,kg,if_neg (Nat.lt_irrefl 0)];rfl
     rw[hfj] at hst hlt2
     have hkj:=hkid (0+1) aa
     generalize aO full g 7 op kids (0+1)=aj at *
     simp only[tt,seval]
     refine cZ (hkj es ar) ?_ ?_<;>simp only[tt,seval,am,hi]
     try rw[aE (n:=(2:Int)) aa aa]
     exact⟨[(10147,.arr 129 (es++aj).length ((es++aj).flatMap Tok.row) none),(4,.str [.v (.int .i64 7),.v (.int .i64 op),.v (.bool not),.v (.int .i64 val.kind),.v (.int .i64 val.num),.v (.string val.text),.v (.string qual),.v (.string name),.sl kids.length (kids.flatMap Expr.row) none,.sl sub.length (sub.flatMap Query.row) none])],none,ak rfl (ak rfl (ap _)),au _,⟨0+1,es++aj,rfl,rfl,aa,by rw[hst,hes0];simp [aL],rfl,rfl⟩,az⟩
   ·have hje:j=kids.length-1:=by omega
    rw[hje] at hes0
    have hel:es.length=L0.length+(bf (oX full g 7 op kids) (kids.length-1)).length:=by rw[hes0,aD]
    refine cZ (bS ⟨#[41]⟩) ?_ ?_<;>simp only[tt,seval,gT,Tok.row]
    refine jh ?_
    rw[eE (es),dF (es) (Tok.mk 5 ⟨#[41]⟩ 0)]
    refine⟨_,[],qh (l:=es++[(Tok.mk 5 ⟨#[41]⟩ 0)]) (by rw[hes0,hL0];simp [jb,je,gT,kT,bA,aL]),aq ?_⟩
    simp only[tt,seval]
 ·skip
  obtain⟨q,hsub⟩:=jx hs0
  have hsl:lf g sub=dL g q:=by rw[hsub];rfl
  have hq:=hgq q (by rw[hsub];simp)
  have hpos:((0:Int)<sub.length)=True:=eq_true aa
  have e:jc full g (Expr.mk 8 op not val qual name kids sub)=aO full g 8 op kids 0++(bA not++(kT 17::jb::(lf g sub++[je]))):=rfl
  rw[e] at hroom ⊢
  clear e
  have hkid0:=hkid 0 aa
  generalize aO full g 8 op kids 0=a0 at *
  simp only[ll] at hroom
  refine ai ac false Tryz.func60 rfl ae ?_
  simp only[Tryz.f60,tt,seval]
  rw[hsl] at hroom ⊢
  refine cZ (hkid0 (out) ar) ?_ ?_<;>simp only[tt,seval,am]
  refine cZ (oN (out++a0) (Expr.mk 8 op not val qual name kids sub) ar) ?_ ?_<;>simp only[tt,seval,am,Expr.not]
  refine cZ (bK 17 aa aa) ?_ ?_<;>simp only[tt,seval,kT,Tok.row]
  refine cZ (bS ⟨#[40]⟩) ?_ ?_<;>simp only[tt,seval,gT,Tok.row]
  refine jh ?_
  rw[xt (out++a0++bA not),sZ (out++a0++bA not) (Tok.mk 1 (kw 17) 0) (Tok.mk 5 ⟨#[40]⟩ 0)]
  simp only[tt,seval,Bx hsub,hpos,gE (Query.row_len q),Query.row_len]
  refine cZ (hq (out++a0++bA not++[(Tok.mk 1 (kw 17) 0),(Tok.mk 5 ⟨#[40]⟩ 0)]) ar) ?_ ?_<;>simp only[tt,seval]
  refine cZ (bS ⟨#[41]⟩) ?_ ?_<;>simp only[tt,seval,gT,Tok.row]
  refine jh ?_
  rw[eE (out++a0++bA not++[(Tok.mk 1 (kw 17) 0),(Tok.mk 5 ⟨#[40]⟩ 0)]++dL g q),dF (out++a0++bA not++[(Tok.mk 1 (kw 17) 0),(Tok.mk 5 ⟨#[40]⟩ 0)]++dL g q) (Tok.mk 5 ⟨#[41]⟩ 0)]
  refine⟨_,[],qh (l:=out++a0++bA not++[(Tok.mk 1 (kw 17) 0),(Tok.mk 5 ⟨#[40]⟩ 0)]++dL g q++[(Tok.mk 5 ⟨#[41]⟩ 0)]) (by simp [jb,je,gT,kT,bA,aL]),aq ?_⟩
  simp only[tt,seval]
 ·skip
  obtain⟨q,hsub⟩:=jx hs0
  have hsl:lf g sub=dL g q:=by rw[hsub];rfl
  have hq:=hgq q (by rw[hsub];simp)
  have hpos:((0:Int)<sub.length)=True:=eq_true aa
  have e:jc full g (Expr.mk 9 op not val qual name kids sub)=kT 19::jb::(lf g sub++[je]):=rfl
  rw[e] at hroom ⊢
  clear e
  simp only[ll] at hroom
  refine ai ac false Tryz.func60 rfl ae ?_
  simp only[Tryz.f60,tt,seval]
  rw[hsl] at hroom ⊢
  apply ey 0
  case h1=>
   refine dDrawn.intro [59] (.take 0 (.take 5 (.take 9 (.br 1 (.br 2 (.br 3 (.br 4 (.take 6 (.take 7 (.take 8 (.br 10 (.take 11 .done) .nobr)))) (.br 6 (.take 7 (.br 4 (.take 8 (.br 10 (.take 11 .done) .nobr)) (.br 8 (.br 4 (.br 10 (.take 11 .done) .nobr) .nobr) .nobr))) .nobr)) (.br 6 (.take 7 (.br 3 (.br 4 (.take 8 (.br 10 (.take 11 .done) .nobr)) (.br 8 (.br 4 (.br 10 (.take 11 .done) .nobr) .nobr) .nobr)) (.br 8 (.br 3 (.br 4 (.br 10 (.take 11 .done) .nobr) .nobr) .nobr) .nobr))) .nobr)) (.br 6 (.take 7 (.br 2 (.br 3 (.br 4 (.take 8 (.br 10 (.take 11 .done) .nobr)) (.br 8 (.br 4 (.br 10 (.take 11 .done) .nobr) .nobr) .nobr)) (.br 8 (.br 3 (.br 4 (.br 10 (.take 11 .done) .nobr) .nobr) .nobr) .nobr)) (.br 8 (.br 2 (.br 3 (.br 4 (.br 10 (.take 11 .done) .nobr) .nobr) .nobr) .nobr) .nobr))) .nobr)) (.br 6 (.take 7 (.br 1 (.br 2 (.br 3 (.br 4 (.take 8 (.br 10 (.take 11 .done) .nobr)) (.br 8 (.br 4 (.br 10 (.take 11 .done) .nobr) .nobr) .nobr)) (.br 8 (.br 3 (.br 4 (.br 10 (.take 11 .done) .nobr) .nobr) .nobr) .nobr)) (.br 8 (.br 2 (.br 3 (.br 4 (.br 10 (.take 11 .done) .nobr) .nobr) .nobr) .nobr) .nobr)) (.br 8 (.br 1 (.br 2 (.br 3 (.br 4 (.br 10 (.take 11 .done) .nobr) .nobr) .nobr) .nobr) .nobr) .nobr))) .nobr))))) ae ?_
   simp only[tt,seval]
   all_goals try simp only[tt,seval,Bx hsub,hpos,gE (Query.row_len q),Query.row_len]
   all_goals repeat' first|refine fI ?_ ?_|refine cv ?_ ?_
   all_goals
    refine cZ (bK 19 aa aa) ?_ ?_<;>simp only[tt,seval,kT,Tok.row,Bx hsub,hpos,gE (Query.row_len q),Query.row_len]
   all_goals repeat' first|refine fI ?_ ?_|refine cv ?_ ?_
   all_goals
    refine cZ (bS ⟨#[40]⟩) ?_ ?_<;>simp only[tt,seval,gT,Tok.row,Bx hsub,hpos,gE (Query.row_len q),Query.row_len]
   all_goals repeat' first|refine rT ?_ ?_|refine j1 ?_ ?_|refine j2 ?_ ?_
   all_goals
    refine jh ?_
    rw[xt (out),sZ (out) (Tok.mk 1 (kw 19) 0) (Tok.mk 5 ⟨#[40]⟩ 0)]
   all_goals repeat' first|refine fI ?_ ?_|refine cv ?_ ?_
   all_goals
    refine cZ (hq (out++[(Tok.mk 1 (kw 19) 0),(Tok.mk 5 ⟨#[40]⟩ 0)]) ar) ?_ ?_
    ·simp only[tt,seval]
     decide
    simp only[tt,seval]
   all_goals exact⟨rfl,rfl,rfl⟩
  case h2=>
   intro f' hj0
   simp only[tt,seval,hj0]
   refine cZ (bS ⟨#[41]⟩) ?_ ?_<;>simp only[tt,seval,kT,gT,Tok.row]
   refine jh ?_
   rw[eE (out++[(Tok.mk 1 (kw 19) 0),(Tok.mk 5 ⟨#[40]⟩ 0)]++dL g q),dF (out++[(Tok.mk 1 (kw 19) 0),(Tok.mk 5 ⟨#[40]⟩ 0)]++dL g q) (Tok.mk 5 ⟨#[41]⟩ 0)]
   refine⟨_,[],qh (l:=out++[(Tok.mk 1 (kw 19) 0),(Tok.mk 5 ⟨#[40]⟩ 0)]++dL g q++[(Tok.mk 5 ⟨#[41]⟩ 0)]) (by simp [jb,je,gT,aL]),aq ?_⟩
   simp only[tt,seval]
set_option maxHeartbeats 1000000 in
theorem uc (full:Bool) (x:Item) (g:Expr->List Tok) (hg:x.star=false->Ap full x.e (g x.e)) (out:List Tok) (hroom:out.length+(cH g x).length<=1000000):Cl Tryz.prog 116 [.c (.ow 129 (out).length ((out).flatMap Tok.row) none),.ag (aw x.row),vb full] [] fun r _=>r = .c (.ow 129 (out++cH g x).length ((out++cH g x).flatMap Tok.row) none):=by
 obtain⟨star,qual,⟨k0,o0,n0,v0,q0,m0,ks0,ss0⟩,as_⟩:=x
 cases star
 case false=>
  have hx:∀out:List Tok,out.length+(g (Expr.mk k0 o0 n0 v0 q0 m0 ks0 ss0)).length<=1000000->Cl Tryz.prog 60 [.c (.ow 129 (out).length ((out).flatMap Tok.row) none),.ag (aw (Expr.mk k0 o0 n0 v0 q0 m0 ks0 ss0).row),vb full] [] fun r _=>r = .c (.ow 129 (out++g (Expr.mk k0 o0 n0 v0 q0 m0 ks0 ss0)).length ((out++g (Expr.mk k0 o0 n0 v0 q0 m0 ks0 ss0)).flatMap Tok.row) none):=hg rfl
  have e:cH g (.mk false qual (Expr.mk k0 o0 n0 v0 q0 m0 ks0 ss0) as_)=g (Expr.mk k0 o0 n0 v0 q0 m0 ks0 ss0)++cP as_:=rfl
  rw[e] at hroom ⊢
  clear e
  generalize g (Expr.mk k0 o0 n0 v0 q0 m0 ks0 ss0)=l at *
  simp only[ll] at hroom
  rw[am] at hx
  rw[Item.row_mk,am]
  refine ai ac false Tryz.func116 rfl ae ?_
  simp only[Tryz.f116,tt,seval]
  apply ey 6
  case h1=>
   refine dDrawn.intro [14,17] (.take 0 (.take 1 (.take 2 (.take 3 (.take 5 (.br 4 (.take 6 (.br 7 (.take 8 .done) .nobr)) (.br 6 (.br 4 (.br 7 (.take 8 .done) .nobr) .nobr) .nobr))))))) ae ?_
   simp only[tt,seval]
   all_goals repeat' first|refine fI ?_ ?_|refine cv ?_ ?_
   all_goals
    refine cZ (hx out ar) ?_ ?_
    ·simp only[tt,seval]
     decide
    simp only[tt,seval]
   all_goals repeat' first|refine fI ?_ ?_|refine cv ?_ ?_
   all_goals
    refine cZ (oO (out++l) as_ ar) ?_ ?_
    ·simp only[tt,seval]
     decide
    simp only[tt,seval]
   all_goals exact⟨rfl,rfl,rfl⟩
  case h2=>
   intro f' hj0
   simp only[tt,seval,hj0]
   refine⟨_,[],qh (l:=out++l++cP as_) (by simp [aL]),aq ?_⟩
   simp only[tt,seval]
 case true=>
  have e:cH g (.mk true qual (Expr.mk k0 o0 n0 v0 q0 m0 ks0 ss0) as_)=cA qual++[DE]:=rfl
  rw[e] at hroom ⊢
  clear e
  simp only[ll] at hroom
  rw[Item.row_mk,am]
  refine ai ac false Tryz.func116 rfl ae ?_
  simp only[Tryz.f116,tt,seval]
  refine ab (fun hq=>?_) (fun hq=>?_)
  ·have hq:¬qual=⟨#[]⟩:=by simpa using hq
   rw[cA,if_neg hq] at hroom ⊢
   simp only[ll] at hroom
   simp only[tt,seval]
   refine cZ (eV qual) ?_ ?_<;>simp only[tt,seval,nT,Tok.row]
   refine cZ (bS ⟨#[46]⟩) ?_ ?_<;>simp only[tt,seval,gT,Tok.row]
   refine jh ?_
   rw[xt (out),sZ (out) (Tok.mk 2 qual 0) (Tok.mk 5 ⟨#[46]⟩ 0)]
   refine cZ (bS ⟨#[42]⟩) ?_ ?_<;>simp only[tt,seval,gT,Tok.row]
   refine jh ?_
   rw[eE (out++[(Tok.mk 2 qual 0),(Tok.mk 5 ⟨#[46]⟩ 0)]),dF (out++[(Tok.mk 2 qual 0),(Tok.mk 5 ⟨#[46]⟩ 0)]) (Tok.mk 5 ⟨#[42]⟩ 0)]
   refine⟨_,[],qh (l:=out++[(Tok.mk 2 qual 0),(Tok.mk 5 ⟨#[46]⟩ 0)]++[(Tok.mk 5 ⟨#[42]⟩ 0)]) (by simp [gT,IU,DE,aL]),aq ?_⟩
   simp only[tt,seval]
  ·have hq:qual=⟨#[]⟩:=by simpa using hq
   rw[cA,if_pos hq] at hroom ⊢
   simp only[ll] at hroom
   simp only[tt,seval]
   refine cZ (bS ⟨#[42]⟩) ?_ ?_<;>simp only[tt,seval,gT,Tok.row]
   refine jh ?_
   rw[eE (out),dF (out) (Tok.mk 5 ⟨#[42]⟩ 0)]
   refine⟨_,[],qh (l:=out++[(Tok.mk 5 ⟨#[42]⟩ 0)]) (by simp [gT,DE]),aq ?_⟩
   simp only[tt,seval]
set_option maxHeartbeats 1000000 in
theorem yQ (full:Bool) (l:List Expr) (g:Expr->List Tok) (hll:l.length<=1048576) (hg:∀x∈l,Ap full x (g x)) (out:List Tok) (hroom:out.length+(nS g l).length<=1000000):Cl Tryz.prog 118 [.c (.ow 129 (out).length ((out).flatMap Tok.row) none),.c (.sl l.length (l.flatMap Expr.row) none),vb full] [] fun r _=>r = .c (.ow 129 (out++nS g l).length ((out++nS g l).flatMap Tok.row) none):=by
 refine ai ac false Tryz.func118 rfl ae ?_
 simp only[Tryz.f118,tt,seval]
 refine fun _=>?_
 rcases hL:l with _|⟨e,r⟩
 ·rw[hL] at hroom
  simp only[tt,seval]
  refine⟨_,[],qh (l:=out) (by exact (List.append_nil _).symm),aq ?_⟩
  simp only[tt,seval]
 ·rw[<-hL]
  have hlen:l.length=r.length+1:=by rw[hL];rfl
  have hw:nS g l=kT 6::g e:=by rw[hL];rfl
  have hx:∀out:List Tok,out.length+(g e).length<=1000000->Cl Tryz.prog 60 [.c (.ow 129 (out).length ((out).flatMap Tok.row) none),.ag (aw e.row),vb full] [] fun r _=>r = .c (.ow 129 (out++g e).length ((out++g e).flatMap Tok.row) none):=hg e (by rw[hL];simp)
  have hpos:((0:Int)<l.length)=True:=eq_true aa
  rw[hw] at hroom ⊢
  clear hw
  generalize g e=le at *
  simp only[ll] at hroom
  simp only[tt,seval,show (¬(l.length:Int)=0) from by omega]
  apply ey 6
  case h1=>
   refine dDrawn.intro [19] (.take 0 (.take 4 (.take 5 (.take 7 (.br 1 (.br 2 (.br 3 (.take 6 (.br 8 (.take 9 .done) .nobr)) (.br 6 (.br 3 (.br 8 (.take 9 .done) .nobr) .nobr) .nobr)) (.br 6 (.br 2 (.br 3 (.br 8 (.take 9 .done) .nobr) .nobr) .nobr) .nobr)) (.br 6 (.br 1 (.br 2 (.br 3 (.br 8 (.take 9 .done) .nobr) .nobr) .nobr) .nobr) .nobr)))))) ae ?_
   simp only[tt,seval]
   all_goals try simp only[tt,seval,vL hL aJ,hpos,cT (aJ e),aJ]
   all_goals repeat' first|refine fI ?_ ?_|refine cv ?_ ?_
   all_goals
    refine cZ (bK 6 aa aa) ?_ ?_<;>simp only[tt,seval,kT,Tok.row,cT (aJ e),aJ]
   all_goals repeat' first|refine rT ?_ ?_|refine j1 ?_ ?_|refine j2 ?_ ?_
   all_goals
    refine jh ?_
    rw[eE (out),dF (out) (Tok.mk 1 (kw 6) 0)]
   all_goals repeat' first|refine fI ?_ ?_|refine cv ?_ ?_
   all_goals
    refine cZ (hx (out++[(Tok.mk 1 (kw 6) 0)]) ar) ?_ ?_
    ·simp only[tt,seval]
     decide
    simp only[tt,seval]
   all_goals exact⟨rfl,rfl,rfl⟩
  case h2=>
   intro f' hj0
   simp only[tt,seval,hj0]
   refine⟨_,[],qh (l:=out++[(Tok.mk 1 (kw 6) 0)]++le) (by simp [kT,aL]),aq ?_⟩
   simp only[tt,seval]
set_option maxHeartbeats 4000000 in
theorem Bz (full:Bool) (from_:List Source) (g:Expr->List Tok) (hsz:cB from_<=1048576) (hg:∀s∈from_,∀x∈s.on,Ap full x (g x)) (out:List Tok) (hroom:out.length+(bf (dO g from_) from_.length).length<=1000000):Cl Tryz.prog 117 [.c (.ow 129 (out).length ((out).flatMap Tok.row) none),.c (.sl from_.length (from_.flatMap Source.row) none),vb full] [] fun r _=>r = .c (.ow 129 (out++bf (dO g from_) from_.length).length ((out++bf (dO g from_) from_.length).flatMap Tok.row) none):=by
 have hfl:from_.length<=1048576:=by rw[cX] at hsz;omega
 refine ai ac false Tryz.func117 rfl ae ?_
 simp only[Tryz.f117,tt,seval]
 refine dLoop.gh [.ren 9500 10078] ⟨ah,ah,?_⟩
 refine dLoop0.introR (fun f L p=>∃(i:Nat) (es:List Tok),f 7=vi i/\f 0 = .c (.s 10078 es.length)/\i<=from_.length/\es=out++bf (dO g from_) i/\L=[(10078,.arr 129 (es).length ((es).flatMap Tok.row) none)]/\p=none) (fun f _ _=>(from_.length-fH (f 7)).toNat) [(10078,.arr 129 (out).length ((out).flatMap Tok.row) none)] none ⟨ak rfl (ap _),au _,?_⟩ ?_
 ·simp only[tt,seval]
  exact⟨0,out,rfl,rfl,aa,(List.append_nil _).symm,rfl⟩
 ·rintro g' L p ⟨i,es,h7,h0,hi,hes0,rfl,rfl⟩
  simp only[tt,seval] at h7 h0
  simp only[tt,seval,h7,h0,Int.ofNat_lt]
  refine fun _=>ab (fun hlt=>?_) (fun hge=>?_)
  ·have hlt:i<from_.length:=by omega
   have hst:=dd (dO g from_) i
   have hlt2:=jv (dO g from_) hlt
   have hel:es.length=out.length+(bf (dO g from_) i).length:=by rw[hes0,aD]
   obtain⟨it,bu⟩:∃it,it=from_[i]:=⟨_,rfl⟩
   have hx:from_[i]?=some it:=by rw[bu];exact aC hlt
   have hss:dO g from_ i=fK g i it:=by rw[dO,dX hlt,bu]
   rw[hss] at hst hlt2
   have hgi:=hg it (by rw[bu];exact aM hlt)
   have hso:=fP cF (show it∈from_ by rw[bu];exact aM hlt)
   rw[cX] at hsz
   obtain⟨table,as_,on⟩:=it
   rw[cM,aP] at hso
   have hon:on.length<=1048576:=by omega
   have hol:(on.length<=9223372036854775807)=True:=eq_true aa
   have i0:((0:Int)<=(i:Int))=True:=eq_true aa
   have iL:((i:Int)<(from_.length:Int))=True:=eq_true aa
   rcases hL:on with _|⟨e,r⟩
   ·have hle:sc g on=[]:=by rw[hL];rfl
    have hlen:on.length=0:=by rw[hL];rfl
    have op:¬(0:Int)<on.length:=by omega
    have oz:(on.length:Int)=0:=by omega
    by_cases hi0:i=0
    ·have ip:¬(0:Int)<i:=by omega
     have hsrc:fK g i (Source.mk table as_ on)=[]++(nT table::(cP as_++[])):=by
      show (if 0<i then (if 0<on.length then [kT 4] else [dM]) else [])++(nT table::(cP as_++sc g on))=_
      rw[hle]
      rw[if_neg aa]
     rw[hsrc] at hlt2
     simp only[ll] at hlt2
     simp only[tt,seval,h7,h0,aB ip]
     apply iH 0 7 1 2
     case h1=>
      refine dDrawn.intro [58] (.take 0 (.take 1 (.take 2 (.take 3 (.take 4 (.take 5 (.take 9 (.take 10 (.take 11 (.take 12 (.br 6 (.br 7 (.br 8 (.take 13 (.br 14 (.take 15 .done) .nobr)) (.br 13 (.br 8 (.br 14 (.take 15 .done) .nobr) .nobr) .nobr)) (.br 13 (.br 7 (.br 8 (.br 14 (.take 15 .done) .nobr) .nobr) .nobr) .nobr)) (.br 13 (.br 6 (.br 7 (.br 8 (.br 14 (.take 15 .done) .nobr) .nobr) .nobr) .nobr) .nobr)))))))))))) ae ?_
      simp only[tt,seval]
      all_goals try simp only[tt,seval,h7,h0,cW hx Source.row_len,i0,iL,Source.row_mk]
      all_goals repeat' first|refine fI ?_ ?_|refine cv ?_ ?_
      all_goals
       refine cZ (eV table) ?_ ?_<;>simp only[tt,seval,nT,Tok.row]
      all_goals repeat' first|refine rT ?_ ?_|refine j1 ?_ ?_|refine j2 ?_ ?_
      all_goals
       refine jh ?_
       rw[eE (es),dF (es) (Tok.mk 2 table 0)]
      all_goals repeat' first|refine fI ?_ ?_|refine cv ?_ ?_
      all_goals
       refine cZ (oO (es++[(Tok.mk 2 table 0)]) as_ ar) ?_ ?_
       ·simp only[tt,seval]
        decide
       simp only[tt,seval,h7]
      all_goals exact⟨rfl,rfl,rfl,rfl,rfl,rfl⟩
     case h2=>
      intro f' hj0 hj1 hj2 hj3
      simp only[tt,seval,hj2,hj1,cW hx Source.row_len,i0,iL,hol,Source.row_mk,aB op]
      try rw[eR i aa]
      refine⟨[.ren 10058 10078],ah,ah,?_⟩
      simp only[tt,seval,oF,hj0]
      exact⟨[(10078,.arr 129 (es++[(Tok.mk 2 table 0)]++cP as_).length ((es++[(Tok.mk 2 table 0)]++cP as_).flatMap Tok.row) none)],none,ak rfl (ap _),au _,⟨i+1,es++[(Tok.mk 2 table 0)]++cP as_,rfl,rfl,aa,by rw[hst,hes0,hsrc];simp [nT,aL],rfl,rfl⟩,az⟩
    ·have ip:(0:Int)<i:=by omega
     have hsrc:fK g i (Source.mk table as_ on)=[dM]++(nT table::(cP as_++[])):=by
      show (if 0<i then (if 0<on.length then [kT 4] else [dM]) else [])++(nT table::(cP as_++sc g on))=_
      rw[hle]
      rw[if_pos aa];rw[if_neg aa]
     rw[hsrc] at hlt2
     simp only[ll] at hlt2
     simp only[tt,seval,h7,h0,cW hx Source.row_len,i0,iL,hol,Source.row_mk,ax ip,aB op,ax oz]
     refine cZ (bS ⟨#[44]⟩) ?_ ?_<;>simp only[tt,seval,gT,Tok.row]
     refine jh ?_
     rw[eE (es),dF (es) (Tok.mk 5 ⟨#[44]⟩ 0)]
     apply iH 0 7 1 2
     case h1=>
      refine dDrawn.intro [58] (.take 0 (.take 1 (.take 2 (.take 3 (.take 4 (.take 5 (.take 9 (.take 10 (.take 11 (.take 12 (.br 6 (.br 7 (.br 8 (.take 13 (.br 14 (.take 15 .done) .nobr)) (.br 13 (.br 8 (.br 14 (.take 15 .done) .nobr) .nobr) .nobr)) (.br 13 (.br 7 (.br 8 (.br 14 (.take 15 .done) .nobr) .nobr) .nobr) .nobr)) (.br 13 (.br 6 (.br 7 (.br 8 (.br 14 (.take 15 .done) .nobr) .nobr) .nobr) .nobr) .nobr)))))))))))) ae ?_
      simp only[tt,seval]
      all_goals try simp only[tt,seval,h7,cW hx Source.row_len,i0,iL,Source.row_mk]
      all_goals repeat' first|refine fI ?_ ?_|refine cv ?_ ?_
      all_goals
       refine cZ (eV table) ?_ ?_<;>simp only[tt,seval,nT,Tok.row]
      all_goals repeat' first|refine rT ?_ ?_|refine j1 ?_ ?_|refine j2 ?_ ?_
      all_goals
       refine jh ?_
       rw[eE (es++[(Tok.mk 5 ⟨#[44]⟩ 0)]),dF (es++[(Tok.mk 5 ⟨#[44]⟩ 0)]) (Tok.mk 2 table 0)]
      all_goals repeat' first|refine fI ?_ ?_|refine cv ?_ ?_
      all_goals
       refine cZ (oO (es++[(Tok.mk 5 ⟨#[44]⟩ 0)]++[(Tok.mk 2 table 0)]) as_ ar) ?_ ?_
       ·simp only[tt,seval]
        decide
       simp only[tt,seval,h7]
      all_goals exact⟨rfl,rfl,rfl,rfl,rfl,rfl⟩
     case h2=>
      intro f' hj0 hj1 hj2 hj3
      simp only[tt,seval,hj2,hj1,cW hx Source.row_len,i0,iL,hol,Source.row_mk,aB op]
      try rw[eR i aa]
      refine⟨[.ren 10058 10078],ah,ah,?_⟩
      simp only[tt,seval,oF,hj0]
      exact⟨[(10078,.arr 129 (es++[(Tok.mk 5 ⟨#[44]⟩ 0)]++[(Tok.mk 2 table 0)]++cP as_).length ((es++[(Tok.mk 5 ⟨#[44]⟩ 0)]++[(Tok.mk 2 table 0)]++cP as_).flatMap Tok.row) none)],none,ak rfl (ap _),au _,⟨i+1,es++[(Tok.mk 5 ⟨#[44]⟩ 0)]++[(Tok.mk 2 table 0)]++cP as_,rfl,rfl,aa,by rw[hst,hes0,hsrc];simp [dM,gT,nT,aL],rfl,rfl⟩,az⟩
   ·have hle0:sc g on=kT 5::g e:=by rw[hL];rfl
    have hlen:on.length=r.length+1:=by rw[hL];rfl
    have hxe:=hgi e (by show e∈on;rw[hL];simp)
    obtain⟨le,hle1⟩:∃le,le=g e:=⟨_,rfl⟩
    have hle:sc g on=kT 5::le:=by rw[hle0,hle1]
    rw[<-hle1] at hxe
    have hxe:∀out:List Tok,out.length+le.length<=1000000->Cl Tryz.prog 60 [.c (.ow 129 (out).length ((out).flatMap Tok.row) none),.ag (aw e.row),vb full] [] fun r _=>r = .c (.ow 129 (out++le).length ((out++le).flatMap Tok.row) none):=hxe
    have hpos:((0:Int)<on.length)=True:=eq_true aa
    have op:(0:Int)<on.length:=by omega
    have oz:¬(on.length:Int)=0:=by omega
    by_cases hi0:i=0
    ·have ip:¬(0:Int)<i:=by omega
     have hsrc:fK g i (Source.mk table as_ on)=[]++(nT table::(cP as_++(kT 5::le))):=by
      show (if 0<i then (if 0<on.length then [kT 4] else [dM]) else [])++(nT table::(cP as_++sc g on))=_
      rw[hle]
      rw[if_neg aa]
     rw[hsrc] at hlt2
     simp only[ll] at hlt2
     simp only[tt,seval,h7,h0,aB ip]
     apply iH 0 7 1 2
     case h1=>
      refine dDrawn.intro [58] (.take 0 (.take 1 (.take 2 (.take 3 (.take 4 (.take 5 (.take 9 (.take 10 (.take 11 (.take 12 (.br 6 (.br 7 (.br 8 (.take 13 (.br 14 (.take 15 .done) .nobr)) (.br 13 (.br 8 (.br 14 (.take 15 .done) .nobr) .nobr) .nobr)) (.br 13 (.br 7 (.br 8 (.br 14 (.take 15 .done) .nobr) .nobr) .nobr) .nobr)) (.br 13 (.br 6 (.br 7 (.br 8 (.br 14 (.take 15 .done) .nobr) .nobr) .nobr) .nobr) .nobr)))))))))))) ae ?_
      simp only[tt,seval]
      all_goals try simp only[tt,seval,h7,h0,cW hx Source.row_len,i0,iL,Source.row_mk]
      all_goals repeat' first|refine fI ?_ ?_|refine cv ?_ ?_
      all_goals
       refine cZ (eV table) ?_ ?_<;>simp only[tt,seval,nT,Tok.row]
      all_goals repeat' first|refine rT ?_ ?_|refine j1 ?_ ?_|refine j2 ?_ ?_
      all_goals
       refine jh ?_
       rw[eE (es),dF (es) (Tok.mk 2 table 0)]
      all_goals repeat' first|refine fI ?_ ?_|refine cv ?_ ?_
      all_goals
       refine cZ (oO (es++[(Tok.mk 2 table 0)]) as_ ar) ?_ ?_
       ·simp only[tt,seval]
        decide
       simp only[tt,seval,h7]
      all_goals exact⟨rfl,rfl,rfl,rfl,rfl,rfl⟩
     case h2=>
      intro f' hj0 hj1 hj2 hj3
      simp only[tt,seval,hj2,hj1,cW hx Source.row_len,i0,iL,hol,Source.row_mk,ax op]
      apply iH 0 7 1 2
      case h1=>
       refine dDrawn.intro [78] (.take 0 (.take 4 (.take 5 (.take 6 (.take 7 (.take 11 (.br 1 (.br 2 (.br 3 (.take 8 (.take 9 (.take 10 (.br 12 (.take 13 .done) .nobr)))) (.br 8 (.take 9 (.br 3 (.take 10 (.br 12 (.take 13 .done) .nobr)) (.br 10 (.br 3 (.br 12 (.take 13 .done) .nobr) .nobr) .nobr))) .nobr)) (.br 8 (.take 9 (.br 2 (.br 3 (.take 10 (.br 12 (.take 13 .done) .nobr)) (.br 10 (.br 3 (.br 12 (.take 13 .done) .nobr) .nobr) .nobr)) (.br 10 (.br 2 (.br 3 (.br 12 (.take 13 .done) .nobr) .nobr) .nobr) .nobr))) .nobr)) (.br 8 (.take 9 (.br 1 (.br 2 (.br 3 (.take 10 (.br 12 (.take 13 .done) .nobr)) (.br 10 (.br 3 (.br 12 (.take 13 .done) .nobr) .nobr) .nobr)) (.br 10 (.br 2 (.br 3 (.br 12 (.take 13 .done) .nobr) .nobr) .nobr) .nobr)) (.br 10 (.br 1 (.br 2 (.br 3 (.br 12 (.take 13 .done) .nobr) .nobr) .nobr) .nobr) .nobr))) .nobr)))))))) ae ?_
       simp only[tt,seval]
       all_goals try simp only[tt,seval,hj0,hj1,hj2,hj3,cW hx Source.row_len,i0,iL,Source.row_mk,hpos,vL hL aJ,cT (aJ e),aJ]
       all_goals repeat' first|refine fI ?_ ?_|refine cv ?_ ?_
       all_goals
        refine cZ (bK 5 aa aa) ?_ ?_<;>simp only[tt,seval,kT,Tok.row,hpos,vL hL aJ,cT (aJ e),aJ]
       all_goals repeat' first|refine rT ?_ ?_|refine j1 ?_ ?_|refine j2 ?_ ?_
       all_goals
        refine jh ?_
        rw[eE (es++[(Tok.mk 2 table 0)]++cP as_),dF (es++[(Tok.mk 2 table 0)]++cP as_) (Tok.mk 1 (kw 5) 0)]
       all_goals repeat' first|refine fI ?_ ?_|refine cv ?_ ?_
       all_goals
        refine cZ (hxe (es++[(Tok.mk 2 table 0)]++cP as_++[(Tok.mk 1 (kw 5) 0)]) ar) ?_ ?_
        ·simp only[tt,seval]
         decide
        simp only[tt,seval,hj1,hj2,hj3]
       all_goals exact⟨rfl,rfl,rfl,rfl,rfl,rfl⟩
      case h2=>
       intro f' hj0 hj1 hj2 hj3
       simp only[tt,seval,hj1]
       try rw[eR i aa]
       refine⟨[],?_⟩
       simp only[tt,seval,oF,hj0]
       exact⟨[(10078,.arr 129 (es++[(Tok.mk 2 table 0)]++cP as_++[(Tok.mk 1 (kw 5) 0)]++le).length ((es++[(Tok.mk 2 table 0)]++cP as_++[(Tok.mk 1 (kw 5) 0)]++le).flatMap Tok.row) none)],none,ak rfl (ap _),au _,⟨i+1,es++[(Tok.mk 2 table 0)]++cP as_++[(Tok.mk 1 (kw 5) 0)]++le,rfl,rfl,aa,by rw[hst,hes0,hsrc];simp [kT,nT,aL],rfl,rfl⟩,az⟩
    ·have ip:(0:Int)<i:=by omega
     have hsrc:fK g i (Source.mk table as_ on)=[kT 4]++(nT table::(cP as_++(kT 5::le))):=by
      show (if 0<i then (if 0<on.length then [kT 4] else [dM]) else [])++(nT table::(cP as_++sc g on))=_
      rw[hle]
      rw[if_pos aa];rw[if_pos aa]
     rw[hsrc] at hlt2
     simp only[ll] at hlt2
     simp only[tt,seval,h7,h0,cW hx Source.row_len,i0,iL,hol,Source.row_mk,ax ip,ax op,aB oz]
     refine cZ (bK 4 aa aa) ?_ ?_<;>simp only[tt,seval,kT,Tok.row,h7,cW hx Source.row_len,i0,iL,hol,Source.row_mk,ax ip,aB oz]
     refine jh ?_
     rw[eE (es),dF (es) (Tok.mk 1 (kw 4) 0)]
     apply iH 0 7 1 2
     case h1=>
      refine dDrawn.intro [58] (.take 0 (.take 1 (.take 2 (.take 3 (.take 4 (.take 5 (.take 9 (.take 10 (.take 11 (.take 12 (.br 6 (.br 7 (.br 8 (.take 13 (.br 14 (.take 15 .done) .nobr)) (.br 13 (.br 8 (.br 14 (.take 15 .done) .nobr) .nobr) .nobr)) (.br 13 (.br 7 (.br 8 (.br 14 (.take 15 .done) .nobr) .nobr) .nobr) .nobr)) (.br 13 (.br 6 (.br 7 (.br 8 (.br 14 (.take 15 .done) .nobr) .nobr) .nobr) .nobr) .nobr)))))))))))) ae ?_
      simp only[tt,seval]
      all_goals try simp only[tt,seval,h7,cW hx Source.row_len,i0,iL,Source.row_mk]
      all_goals repeat' first|refine fI ?_ ?_|refine cv ?_ ?_
      all_goals
       refine cZ (eV table) ?_ ?_<;>simp only[tt,seval,nT,Tok.row]
      all_goals repeat' first|refine rT ?_ ?_|refine j1 ?_ ?_|refine j2 ?_ ?_
      all_goals
       refine jh ?_
       rw[eE (es++[(Tok.mk 1 (kw 4) 0)]),dF (es++[(Tok.mk 1 (kw 4) 0)]) (Tok.mk 2 table 0)]
      all_goals repeat' first|refine fI ?_ ?_|refine cv ?_ ?_
      all_goals
       refine cZ (oO (es++[(Tok.mk 1 (kw 4) 0)]++[(Tok.mk 2 table 0)]) as_ ar) ?_ ?_
       ·simp only[tt,seval]
        decide
       simp only[tt,seval,h7]
      all_goals exact⟨rfl,rfl,rfl,rfl,rfl,rfl⟩
     case h2=>
      intro f' hj0 hj1 hj2 hj3
      simp only[tt,seval,hj2,hj1,cW hx Source.row_len,i0,iL,hol,Source.row_mk,ax op]
      apply iH 0 7 1 2
      case h1=>
       refine dDrawn.intro [78] (.take 0 (.take 4 (.take 5 (.take 6 (.take 7 (.take 11 (.br 1 (.br 2 (.br 3 (.take 8 (.take 9 (.take 10 (.br 12 (.take 13 .done) .nobr)))) (.br 8 (.take 9 (.br 3 (.take 10 (.br 12 (.take 13 .done) .nobr)) (.br 10 (.br 3 (.br 12 (.take 13 .done) .nobr) .nobr) .nobr))) .nobr)) (.br 8 (.take 9 (.br 2 (.br 3 (.take 10 (.br 12 (.take 13 .done) .nobr)) (.br 10 (.br 3 (.br 12 (.take 13 .done) .nobr) .nobr) .nobr)) (.br 10 (.br 2 (.br 3 (.br 12 (.take 13 .done) .nobr) .nobr) .nobr) .nobr))) .nobr)) (.br 8 (.take 9 (.br 1 (.br 2 (.br 3 (.take 10 (.br 12 (.take 13 .done) .nobr)) (.br 10 (.br 3 (.br 12 (.take 13 .done) .nobr) .nobr) .nobr)) (.br 10 (.br 2 (.br 3 (.br 12 (.take 13 .done) .nobr) .nobr) .nobr) .nobr)) (.br 10 (.br 1 (.br 2 (.br 3 (.br 12 (.take 13 .done) .nobr) .nobr) .nobr) .nobr) .nobr))) .nobr)))))))) ae ?_
       simp only[tt,seval]
       all_goals try simp only[tt,seval,hj0,hj1,hj2,hj3,cW hx Source.row_len,i0,iL,Source.row_mk,hpos,vL hL aJ,cT (aJ e),aJ]
       all_goals repeat' first|refine fI ?_ ?_|refine cv ?_ ?_
       all_goals
        refine cZ (bK 5 aa aa) ?_ ?_<;>simp only[tt,seval,kT,Tok.row,hpos,vL hL aJ,cT (aJ e),aJ]
       all_goals repeat' first|refine rT ?_ ?_|refine j1 ?_ ?_|refine j2 ?_ ?_
       all_goals
        refine jh ?_
        rw[eE (es++[(Tok.mk 1 (kw 4) 0)]++[(Tok.mk 2 table 0)]++cP as_),dF (es++[(Tok.mk 1 (kw 4) 0)]++[(Tok.mk 2 table 0)]++cP as_) (Tok.mk 1 (kw 5) 0)]
       all_goals repeat' first|refine fI ?_ ?_|refine cv ?_ ?_
       all_goals
        refine cZ (hxe (es++[(Tok.mk 1 (kw 4) 0)]++[(Tok.mk 2 table 0)]++cP as_++[(Tok.mk 1 (kw 5) 0)]) ar) ?_ ?_
        ·simp only[tt,seval]
         decide
        simp only[tt,seval,hj1,hj2,hj3]
       all_goals exact⟨rfl,rfl,rfl,rfl,rfl,rfl⟩
      case h2=>
       intro f' hj0 hj1 hj2 hj3
       simp only[tt,seval,hj1]
       try rw[eR i aa]
       refine⟨[],?_⟩
       simp only[tt,seval,oF,hj0]
       exact⟨[(10078,.arr 129 (es++[(Tok.mk 1 (kw 4) 0)]++[(Tok.mk 2 table 0)]++cP as_++[(Tok.mk 1 (kw 5) 0)]++le).length ((es++[(Tok.mk 1 (kw 4) 0)]++[(Tok.mk 2 table 0)]++cP as_++[(Tok.mk 1 (kw 5) 0)]++le).flatMap Tok.row) none)],none,ak rfl (ap _),au _,⟨i+1,es++[(Tok.mk 1 (kw 4) 0)]++[(Tok.mk 2 table 0)]++cP as_++[(Tok.mk 1 (kw 5) 0)]++le,rfl,rfl,aa,by rw[hst,hes0,hsrc];simp [kT,nT,aL],rfl,rfl⟩,az⟩
  ·have hie:i=from_.length:=by omega
   subst hie
   subst hes0
   refine⟨_,[],qh (l:=out++bf (dO g from_) from_.length) (by rfl),aq ?_⟩
   simp only[tt,seval]
theorem qM (e:Expr) (d:Bool) (r:List D):(SortKey.mk e d).row++r=e.row++(bool d::r):=by rw[SortKey.row_mk,aL];rfl
theorem Ky (e:Expr) (r:List D):List.drop 10 (e.row++r)=r:=by
 have:=List.drop_left (l₁ := e.row) (l₂ := r)
 rwa[aJ] at this
set_option maxHeartbeats 4000000 in
theorem mU (full:Bool) (gf:Expr->Bool) (g:Expr->List Tok) (q:Query) (hf:iK gf q=true) (hlim:q.lim<=9223372036854775807) (hsz:szQuery q<=1048576) (hg:∀x∈exprsQ q,Ap full x (g x)):Kx full q (dL g q):=by
 intro out hroom
 obtain⟨distinct,items,from_,where_,order,limit⟩:=q
 obtain⟨_,_,_,_,hl1,_,_,_⟩:=eQ hf
 have hlim:limit<=9223372036854775807:=hlim
 rw[bU,dS,aP,cK] at hsz
 have eq:exprsQ (.mk distinct items from_ where_ order limit)=aU items++from_.flatMap Source.on++where_++order.map SortKey.e:=rfl
 rw[eq] at hg
 have hgI:∀x∈items,x.star=false->Ap full x.e (g x.e):=fun x hx hs=>hg _ (by
  simp only[List.mem_append,aU,List.mem_map,List.mem_filter]
  exact .inl (.inl (.inl ⟨_,⟨hx,by rw[hs];rfl⟩,rfl⟩)))
 have hgS:∀s∈from_,∀x∈s.on,Ap full x (g x):=fun s hs x hx=>hg _ (by
  simp only[List.mem_append,List.mem_flatMap]
  exact .inl (.inl (.inr ⟨_,hs,hx⟩)))
 have hgW:∀x∈where_,Ap full x (g x):=fun x hx=>hg _ (by simp [hx])
 have hgO:∀k∈order,Ap full k.e (g k.e):=fun k hk=>hg _ (by
  simp only[List.mem_append,List.mem_map]
  exact .inr ⟨_,hk,rfl⟩)
 have hsf:cB from_<=1048576:=by omega
 clear hf hg eq
 rw[aG]
 obtain⟨dl,hdl⟩:∃dl,dl=(if distinct=true then [kT 2] else []):=⟨_,rfl⟩
 have e:dL g (.mk distinct items from_ where_ order limit)=kT 1::(dl++(bf (dk g items) items.length++(kT 3::(bf (dO g from_) from_.length++(nS g where_++(bf (eU g order) order.length++jg limit)))))):=by rw[hdl];rfl
 rw[e] at hroom ⊢
 clear e
 simp only[ll] at hroom
 refine ai ac false Tryz.func48 rfl ae ?_
 simp only[Tryz.f48,tt,seval]
 refine cZ (bK 1 aa aa) ?_ ?_<;>simp only[tt,seval,kT,Tok.row]
 refine jh ?_
 rw[eE (out),dF (out) (Tok.mk 1 (kw 1) 0)]
 refine ab (fun hd=>?_) (fun hd=>?_)
 all_goals first
  | (have hd1:dl=[(Tok.mk 1 (kw 2) 0)]:=by rw[hdl,if_pos hd];rfl
     have hd2:dl.length=1:=by rw[hd1];rfl
     refine iZ (bK 2 aa aa) ?_ ?_ ?_
     ·decide
     ·simp only[tt,seval]
     rintro r rfl
     simp only[tt,seval,kT,Tok.row]
     refine jh ?_
     rw[eE (out++[(Tok.mk 1 (kw 1) 0)]),dF (out++[(Tok.mk 1 (kw 1) 0)]) (Tok.mk 1 (kw 2) 0)]
     rw[<-hd1]
     refine dLoop.gh [.ren 18 10039] ⟨ah,ah,?_⟩)
  | (have hd1:dl=[]:=by rw[hdl,hd];rfl
     rw[show out++[(Tok.mk 1 (kw 1) 0)]=out++[(Tok.mk 1 (kw 1) 0)]++dl by rw[hd1,List.append_nil]]
     refine dLoop.gh [.ren 12 10039] ⟨ah,ah,?_⟩)
 all_goals
  obtain⟨L1,hL1⟩:∃L1,L1=out++[(Tok.mk 1 (kw 1) 0)]++dl:=⟨_,rfl⟩
  rw[<-hL1]
  have hel1:L1.length=out.length+1+dl.length:=by rw[hL1];simp only[ll]
  refine dLoop0.intro (fun f L p=>∃(i:Nat) (es:List Tok),f 7=vi i/\f 0 = .c (.s 10039 es.length)/\i<=items.length/\es=L1++bf (dk g items) i/\L=[(10039,.arr 129 (es).length ((es).flatMap Tok.row) none),(4,.str [.v (.bool distinct),.sl items.length (items.flatMap Item.row) none,.sl from_.length (from_.flatMap Source.row) none,.sl where_.length (where_.flatMap Expr.row) none,.sl order.length (order.flatMap SortKey.row) none,.v (.int .i64 limit)])]/\p=none) (fun f _ _=>(items.length-fH (f 7)).toNat) [(10039,.arr 129 (L1).length ((L1).flatMap Tok.row) none),(4,.str [.v (.bool distinct),.sl items.length (items.flatMap Item.row) none,.sl from_.length (from_.flatMap Source.row) none,.sl where_.length (where_.flatMap Expr.row) none,.sl order.length (order.flatMap SortKey.row) none,.v (.int .i64 limit)])] none ⟨ak rfl (ak rfl (ap _)),au _,?_⟩ ?_
  ·simp only[tt,seval]
   exact⟨0,L1,rfl,rfl,aa,(List.append_nil _).symm,rfl⟩
  rintro g' L p ⟨i,es,h7,h0,hi,hes0,rfl,rfl⟩
  simp only[tt,seval] at h7 h0
  simp only[tt,seval,h7,h0,Int.ofNat_lt]
  refine fun _=>ab (fun hlt=>?_) (fun hge=>?_)
  ·have hlt:i<items.length:=by omega
   have hst:=dd (dk g items) i
   have hlt2:=jv (dk g items) hlt
   have hel:es.length=L1.length+(bf (dk g items) i).length:=by rw[hes0,aD]
   obtain⟨it,bu⟩:∃it,it=items[i]:=⟨_,rfl⟩
   have hx:items[i]?=some it:=by rw[bu];exact aC hlt
   have hit2:dk g items i=kg i++cH g it:=by rw[dk,dX hlt,bu]
   rw[hit2] at hlt2
   have hgi:=hgI it (by rw[bu];exact aM hlt)
   have i0:((0:Int)<=(i:Int))=True:=eq_true aa
   have iL:((i:Int)<(items.length:Int))=True:=eq_true aa
   have iT:(i<items.length)=True:=eq_true hlt
   refine ab (fun hc=>?_) (fun hc=>?_)
   ·have hcl:kg i=[(Tok.mk 5 ⟨#[44]⟩ 0)]:=if_pos aa
    rw[hcl] at hlt2 hit2
    simp only[ll] at hlt2
    refine cZ (bS ⟨#[44]⟩) ?_ ?_<;>simp only[tt,seval,gT,iT,Tok.row,h7]
    refine jh ?_
    rw[eE (es),dF (es) (Tok.mk 5 ⟨#[44]⟩ 0)]
    simp only[tt,seval,cW hx Item.row_len,i0,iL,Item.tk,Item.row_len]
    refine cZ (uc full it g hgi (es++[(Tok.mk 5 ⟨#[44]⟩ 0)]) ar) ?_ ?_<;>simp only[tt,seval,h7]
    try rw[eR i aa]
    exact⟨[(10039,.arr 129 (es++[(Tok.mk 5 ⟨#[44]⟩ 0)]++cH g it).length ((es++[(Tok.mk 5 ⟨#[44]⟩ 0)]++cH g it).flatMap Tok.row) none),(4,.str [.v (.bool distinct),.sl items.length (items.flatMap Item.row) none,.sl from_.length (from_.flatMap Source.row) none,.sl where_.length (where_.flatMap Expr.row) none,.sl order.length (order.flatMap SortKey.row) none,.v (.int .i64 limit)])],none,ak rfl (ak rfl (ap _)),au _,⟨i+1,es++[(Tok.mk 5 ⟨#[44]⟩ 0)]++cH g it,rfl,rfl,aa,by rw[hst,hes0,hit2];simp [aL],rfl,rfl⟩,az⟩
   ·have hcl:kg i=[]:=if_neg aa
    rw[hcl] at hlt2 hit2
    simp only[ll] at hlt2
    simp only[tt,seval,cW hx Item.row_len,i0,iT,Item.tk,Item.row_len]
    refine cZ (uc full it g hgi (es) ar) ?_ ?_<;>simp only[tt,seval,h7]
    try rw[eR i aa]
    exact⟨[(10039,.arr 129 (es++cH g it).length ((es++cH g it).flatMap Tok.row) none),(4,.str [.v (.bool distinct),.sl items.length (items.flatMap Item.row) none,.sl from_.length (from_.flatMap Source.row) none,.sl where_.length (where_.flatMap Expr.row) none,.sl order.length (order.flatMap SortKey.row) none,.v (.int .i64 limit)])],none,ak rfl (ak rfl (ap _)),au _,⟨i+1,es++cH g it,rfl,rfl,aa,by rw[hst,hes0,hit2];simp [aL],rfl,rfl⟩,az⟩
  have hie:i=items.length:=by omega
  subst hie
  have hel2:es.length=L1.length+(bf (dk g items) items.length).length:=by rw[hes0,aD]
  clear hi hge
  apply tY 0 4 2
  case h1=>
   refine dDrawn.intro [47] (.take 0 (.take 4 (.take 6 (.br 1 (.br 2 (.br 3 (.take 5 (.br 7 (.take 8 .done) .nobr)) (.br 5 (.br 3 (.br 7 (.take 8 .done) .nobr) .nobr) .nobr)) (.br 5 (.br 2 (.br 3 (.br 7 (.take 8 .done) .nobr) .nobr) .nobr) .nobr)) (.br 5 (.br 1 (.br 2 (.br 3 (.br 7 (.take 8 .done) .nobr) .nobr) .nobr) .nobr) .nobr))))) ae ?_
   simp only[tt,seval]
   all_goals repeat' first|refine fI ?_ ?_|refine cv ?_ ?_
   all_goals
    refine cZ (bK 3 aa aa) ?_ ?_<;>simp only[tt,seval,kT,Tok.row,h0]
   all_goals repeat' first|refine rT ?_ ?_|refine j1 ?_ ?_|refine j2 ?_ ?_
   all_goals
    refine jh ?_
    rw[eE (es),dF (es) (Tok.mk 1 (kw 3) 0)]
   all_goals repeat' first|refine fI ?_ ?_|refine cv ?_ ?_
   all_goals
    refine cZ (Bz full from_ g hsf hgS (es++[(Tok.mk 1 (kw 3) 0)]) ar) ?_ ?_
    ·simp only[tt,seval]
     decide
    simp only[tt,seval]
   all_goals exact⟨rfl,rfl,rfl,rfl,rfl⟩
  case h2=>
   intro f' hj0 hj1 hj2
   simp only[tt,seval,hj0,hj1,hj2]
   refine cZ (yQ full where_ g aa hgW (es++[(Tok.mk 1 (kw 3) 0)]++bf (dO g from_) from_.length) ar) ?_ ?_<;>simp only[tt,seval]
   obtain⟨L5,hL5⟩:∃L5,L5=es++[(Tok.mk 1 (kw 3) 0)]++bf (dO g from_) from_.length++nS g where_:=⟨_,rfl⟩
   have hel5:L5.length=es.length+1+(bf (dO g from_) from_.length).length+(nS g where_).length:=by rw[hL5];simp only[ll]
   rw[<-hL5]
   refine dLoop.gh [.ren 10052 10079] ⟨ah,ah,?_⟩
   refine dLoop0.introR (fun f L p=>∃(i:Nat) (es:List Tok),f 8=vi i/\f 0 = .c (.s 10079 es.length)/\i<=order.length/\es=L5++bf (eU g order) i/\L=[(10079,.arr 129 (es).length ((es).flatMap Tok.row) none),(4,.str [.v (.bool distinct),.sl items.length (items.flatMap Item.row) none,.sl from_.length (from_.flatMap Source.row) none,.sl where_.length (where_.flatMap Expr.row) none,.sl order.length (order.flatMap SortKey.row) none,.v (.int .i64 limit)])]/\p=none) (fun f _ _=>(order.length-fH (f 8)).toNat) [(10079,.arr 129 (L5).length ((L5).flatMap Tok.row) none),(4,.str [.v (.bool distinct),.sl items.length (items.flatMap Item.row) none,.sl from_.length (from_.flatMap Source.row) none,.sl where_.length (where_.flatMap Expr.row) none,.sl order.length (order.flatMap SortKey.row) none,.v (.int .i64 limit)])] none ⟨ak rfl (ak rfl (ap _)),au _,?_⟩ ?_
   ·simp only[tt,seval]
    exact⟨0,L5,rfl,rfl,aa,(List.append_nil _).symm,rfl⟩
   rintro g' L p ⟨i,ez,h8,hz0,hi,hez0,rfl,rfl⟩
   simp only[tt,seval] at h8 hz0
   simp only[tt,seval,h8,hz0,hj1,Int.ofNat_lt]
   refine fun _=>ab (fun hlt=>?_) (fun hge=>?_)
   ·have hlt:i<order.length:=by omega
    have hst:=dd (eU g order) i
    have hlt2:=jv (eU g order) hlt
    have hel:ez.length=L5.length+(bf (eU g order) i).length:=by rw[hez0,aD]
    obtain⟨it,bu⟩:∃it,it=order[i]:=⟨_,rfl⟩
    have hx:order[i]?=some it:=by rw[bu];exact aC hlt
    have hit2:eU g order i=(if i=0 then [kT 7,kT 8] else [dM])++j3 g it:=by rw[eU,dX hlt,bu]
    have hge:=hgO it (by rw[bu];exact aM hlt)
    have i0:((0:Int)<=(i:Int))=True:=eq_true aa
    have iL:((i:Int)<(order.length:Int))=True:=eq_true aa
    obtain⟨e,desc⟩:=it
    have hge:∀out:List Tok,out.length+(g e).length<=1000000->Cl Tryz.prog 60 [.c (.ow 129 (out).length ((out).flatMap Tok.row) none),.ag (aw e.row),vb full] [] fun r _=>r = .c (.ow 129 (out++g e).length ((out++g e).flatMap Tok.row) none):=hge
    have hkt:j3 g (SortKey.mk e desc)=g e++(if desc=true then [kT 10] else []):=rfl
    rw[hkt] at hit2
    rw[hit2] at hlt2
    have hop:0<=(if desc=true then [kT 10] else []).length:=Nat.zero_le _
    refine ab (fun hc=>?_) (fun hc=>?_)
    ·have hc:i=0:=by omega
     rw[if_pos hc] at hlt2 hit2
     simp only[ll] at hlt2
     refine cZ (bK 7 aa aa) ?_ ?_<;>simp only[tt,seval,kT,Tok.row]
     refine cZ (bK 8 aa aa) ?_ ?_<;>simp only[tt,seval,kT,Tok.row,h8,hj1,hj2]
     refine jh ?_
     rw[xt (ez),sZ (ez) (Tok.mk 1 (kw 7) 0) (Tok.mk 1 (kw 8) 0)]
     simp only[tt,seval,cW hx SortKey.row_len,i0,iL,qM,Expr.tk,aJ]
     refine cZ (hge (ez++[(Tok.mk 1 (kw 7) 0),(Tok.mk 1 (kw 8) 0)]) ar) ?_ ?_<;>simp only[tt,seval,h8,hj1,cW hx SortKey.row_len,i0,iL,qM,Ky]
     refine ab (fun hd=>?_) (fun hd=>?_)
     ·subst hd
      rw[if_pos rfl] at hlt2 hit2
      simp only[ll] at hlt2
      refine cZ (bK 10 aa aa) ?_ ?_<;>simp only[tt,seval,kT,Tok.row,h8]
      refine jh ?_
      rw[eE (ez++[(Tok.mk 1 (kw 7) 0),(Tok.mk 1 (kw 8) 0)]++g e),dF (ez++[(Tok.mk 1 (kw 7) 0),(Tok.mk 1 (kw 8) 0)]++g e) (Tok.mk 1 (kw 10) 0)]
      try rw[eR i aa]
      refine⟨[.ren 89 10079],ah,ah,?_⟩
      simp only[tt,seval,oF]
      exact⟨[(10079,.arr 129 (ez++[(Tok.mk 1 (kw 7) 0),(Tok.mk 1 (kw 8) 0)]++g e++[(Tok.mk 1 (kw 10) 0)]).length ((ez++[(Tok.mk 1 (kw 7) 0),(Tok.mk 1 (kw 8) 0)]++g e++[(Tok.mk 1 (kw 10) 0)]).flatMap Tok.row) none),(4,.str [.v (.bool distinct),.sl items.length (items.flatMap Item.row) none,.sl from_.length (from_.flatMap Source.row) none,.sl where_.length (where_.flatMap Expr.row) none,.sl order.length (order.flatMap SortKey.row) none,.v (.int .i64 limit)])],none,ak rfl (ak rfl (ap _)),au _,⟨i+1,ez++[(Tok.mk 1 (kw 7) 0),(Tok.mk 1 (kw 8) 0)]++g e++[(Tok.mk 1 (kw 10) 0)],rfl,rfl,aa,by rw[hst,hez0,hit2];simp [kT,aL],rfl,rfl⟩,az⟩
     ·subst hd
      rw[if_neg Bool.false_ne_true] at hlt2 hit2
      try rw[eR i aa]
      refine⟨[],?_⟩
      simp only[tt,seval,oF]
      exact⟨[(10079,.arr 129 (ez++[(Tok.mk 1 (kw 7) 0),(Tok.mk 1 (kw 8) 0)]++g e).length ((ez++[(Tok.mk 1 (kw 7) 0),(Tok.mk 1 (kw 8) 0)]++g e).flatMap Tok.row) none),(4,.str [.v (.bool distinct),.sl items.length (items.flatMap Item.row) none,.sl from_.length (from_.flatMap Source.row) none,.sl where_.length (where_.flatMap Expr.row) none,.sl order.length (order.flatMap SortKey.row) none,.v (.int .i64 limit)])],none,ak rfl (ak rfl (ap _)),au _,⟨i+1,ez++[(Tok.mk 1 (kw 7) 0),(Tok.mk 1 (kw 8) 0)]++g e,rfl,rfl,aa,by rw[hst,hez0,hit2];simp [kT,aL],rfl,rfl⟩,az⟩
    ·have hc:¬i=0:=by omega
     rw[if_neg hc] at hlt2 hit2
     simp only[ll] at hlt2
     refine cZ (bS ⟨#[44]⟩) ?_ ?_<;>simp only[tt,seval,gT,Tok.row,h8,hj1,hj2]
     refine jh ?_
     rw[eE (ez),dF (ez) (Tok.mk 5 ⟨#[44]⟩ 0)]
     simp only[tt,seval,cW hx SortKey.row_len,i0,iL,qM,Expr.tk,aJ]
     refine cZ (hge (ez++[(Tok.mk 5 ⟨#[44]⟩ 0)]) ar) ?_ ?_<;>simp only[tt,seval,h8,hj1,cW hx SortKey.row_len,i0,iL,qM,Ky]
     refine ab (fun hd=>?_) (fun hd=>?_)
     ·subst hd
      rw[if_pos rfl] at hlt2 hit2
      simp only[ll] at hlt2
      refine cZ (bK 10 aa aa) ?_ ?_<;>simp only[tt,seval,kT,Tok.row,h8]
      refine jh ?_
      rw[eE (ez++[(Tok.mk 5 ⟨#[44]⟩ 0)]++g e),dF (ez++[(Tok.mk 5 ⟨#[44]⟩ 0)]++g e) (Tok.mk 1 (kw 10) 0)]
      try rw[eR i aa]
      refine⟨[.ren 89 10079],ah,ah,?_⟩
      simp only[tt,seval,oF]
      exact⟨[(10079,.arr 129 (ez++[(Tok.mk 5 ⟨#[44]⟩ 0)]++g e++[(Tok.mk 1 (kw 10) 0)]).length ((ez++[(Tok.mk 5 ⟨#[44]⟩ 0)]++g e++[(Tok.mk 1 (kw 10) 0)]).flatMap Tok.row) none),(4,.str [.v (.bool distinct),.sl items.length (items.flatMap Item.row) none,.sl from_.length (from_.flatMap Source.row) none,.sl where_.length (where_.flatMap Expr.row) none,.sl order.length (order.flatMap SortKey.row) none,.v (.int .i64 limit)])],none,ak rfl (ak rfl (ap _)),au _,⟨i+1,ez++[(Tok.mk 5 ⟨#[44]⟩ 0)]++g e++[(Tok.mk 1 (kw 10) 0)],rfl,rfl,aa,by rw[hst,hez0,hit2];simp [dM,gT,kT,aL],rfl,rfl⟩,az⟩
     ·subst hd
      rw[if_neg Bool.false_ne_true] at hlt2 hit2
      try rw[eR i aa]
      refine⟨[],?_⟩
      simp only[tt,seval,oF]
      exact⟨[(10079,.arr 129 (ez++[(Tok.mk 5 ⟨#[44]⟩ 0)]++g e).length ((ez++[(Tok.mk 5 ⟨#[44]⟩ 0)]++g e).flatMap Tok.row) none),(4,.str [.v (.bool distinct),.sl items.length (items.flatMap Item.row) none,.sl from_.length (from_.flatMap Source.row) none,.sl where_.length (where_.flatMap Expr.row) none,.sl order.length (order.flatMap SortKey.row) none,.v (.int .i64 limit)])],none,ak rfl (ak rfl (ap _)),au _,⟨i+1,ez++[(Tok.mk 5 ⟨#[44]⟩ 0)]++g e,rfl,rfl,aa,by rw[hst,hez0,hit2];simp [dM,gT,aL],rfl,rfl⟩,az⟩
   have hie:i=order.length:=by omega
   subst hie
   have hel6:ez.length=L5.length+(bf (eU g order) order.length).length:=by rw[hez0,aD]
   refine ab (fun hlm=>?_) (fun hlm=>?_)
   ·rw[jg,if_pos hlm] at hroom ⊢
    simp only[ll] at hroom
    apply ey 0
    case h1=>
     refine dDrawn.intro [] (dW [0,4,6,3,9,10,13,15,16]) ae ?_
     simp only[tt,seval]
     all_goals try simp only[tt,seval,hz0,hj1]
     all_goals repeat' first|refine fI ?_ ?_|refine cv ?_ ?_
     all_goals
      refine cZ (bK 11 aa aa) ?_ ?_<;>simp only[tt,seval,kT,Tok.row]
     all_goals repeat' first|refine fI ?_ ?_|refine cv ?_ ?_
     all_goals
      refine cZ (qZ limit aa hlim) ?_ ?_<;>simp only[tt,seval]
     all_goals repeat' first|refine rT ?_ ?_|refine j1 ?_ ?_|refine j2 ?_ ?_
     all_goals
      refine jh ?_
      rw[xt (ez),sZ (ez) (Tok.mk 1 (kw 11) 0) (Tok.mk 3 (df limit) 0)]
     all_goals exact⟨rfl,rfl,rfl⟩
    case h2=>
     intro f' hk0
     simp only[tt,seval,hk0]
     refine⟨_,[],qh (l:=ez++[(Tok.mk 1 (kw 11) 0),(Tok.mk 3 (df limit) 0)]) (by rw[hez0,hL5,hes0,hL1];simp [kT,iT,aL]),aq ?_⟩
     simp only[tt,seval]
   ·rw[jg,if_neg hlm] at hroom ⊢
    simp only[ll] at hroom
    simp only[tt,seval]
    refine⟨_,[],qh (l:=ez) (by rw[hez0,hL5,hes0,hL1];simp [aL]),aq ?_⟩
    simp only[tt,seval]
theorem BA (full:Bool) (e:Expr):fmE e=true->Rg e->szExpr e<=1048576->Ap full e (dG full e):=by
 refine kQ (F1:=u7) (F2:=Ab) (F3:=jc full) (P:=fun e f n t=>f=true->Rg e->szExpr e<=1048576->Ap full e t) (fun e gf gn g hg hf hr hsz=>?_) e
 have hb:∀x,eX x e->gf x=true->Ap full x (g x):=fun x hx hx'=>hg x hx hx' (qL hr hx) (Nat.le_trans (gN hx) hsz)
 have hs:∀q∈e.sub,q.lim<=9223372036854775807/\szQuery q<=1048576:=fun q hq=>⟨(vj hr hq).1,Nat.le_trans (lH hq) hsz⟩
 obtain⟨kind,op,not,val,qual,name,kids,sub⟩:=e
 obtain⟨h1,h2,h3⟩:=kh hf
 refine vp kind op not val qual name kids sub full gf g hf hr.num (fun x hx=>hb x (.inl hx) (h2 x hx)) fun q hq=>?_
 refine mU full gf g q (h3 q hq) (hs q hq).1 (hs q hq).2 fun x hx=>hb x (.inr ⟨q,hq,hx⟩) ?_
 have h4:=h3 q hq
 obtain⟨d,it,fr,wh,od,li⟩:=q
 exact (eQ h4).2.2.2.2.2.2.2 x hx
end Go.Proofs.YtdmomaomffhidaaGreatDoor
