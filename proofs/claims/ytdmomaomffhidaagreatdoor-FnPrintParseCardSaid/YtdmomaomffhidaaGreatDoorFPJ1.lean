/-
  The reference's printer.
  Conditions: none.
-/
import Derived.Test.YtdmomaomffhidaaGreatDoorFPF1
set_option linter.unusedVariables false
set_option linter.unusedSimpArgs false
set_option linter.unusedSectionVars false
set_option linter.unnecessarySimpa false
set_option maxRecDepth 8000
namespace Go.Proofs.YtdmomaomffhidaaGreatDoor
open Go Go.Dv
open Go.Vc (D cU cV cF b0)
theorem ey (l:List Tok) (k:Int) (s:ByteArray) (a:Int):l.flatMap Tok.row++[int k,str s,int a]=(l++[Tok.mk k s a]).flatMap Tok.row:=by rw[List.flatMap_append];rfl
theorem xm (l:List Tok) (k:Int) (s:ByteArray) (a:Int) (k':Int) (s':ByteArray) (a':Int):l.flatMap Tok.row++[int k,str s,int a,int k',str s',int a']=(l++[Tok.mk k s a,Tok.mk k' s' a']).flatMap Tok.row:=by rw[List.flatMap_append];rfl
theorem dB (l:List Tok) (t:Tok):l.length+1=(l++[t]).length:=by simp
theorem sN (l:List Tok) (t u:Tok):l.length+2=(l++[t,u]).length:=by simp
theorem pU {l m:List Tok} (h:l=m):(S.c (.ow 129 (l).length ((l).flatMap Tok.row) none):S) = .c (.ow 129 (m).length ((m).flatMap Tok.row) none):=by rw[h]
theorem jT {l m:List Tok} {x:C} (h:l=m):([[.ow 129 (l).length ((l).flatMap Tok.row) none,x]]:List (List C))=[[.ow 129 (m).length ((m).flatMap Tok.row) none,x]]:=by rw[h]
theorem FV {a b:Tok} (h:a=b):(S.ag (ar a.row):S) = .ag (ar b.row):=by rw[h]
theorem bM (k:Nat) (h1:1<=k) (h2:k<=28):Cl Tryz.prog 114 [vi k] [] fun r _=>r = .ag (ar (kT k).row):=by
 refine ai ac false Tryz.func114 rfl ae ?_
 simp only[Tryz.f114,tt,seval]
 refine cZ (AF k h1 h2) ?_ ?_<;>simp only[tt,seval]
 exact⟨_,_,rfl,am rfl⟩
theorem bR (s:ByteArray):Cl Tryz.prog 115 [vs s] [] fun r _=>r = .ag (ar (gT s).row):=by
 refine ai ac false Tryz.func115 rfl ae ?_
 simp only[Tryz.f115,tt,seval]
 exact⟨_,_,rfl,am rfl⟩
theorem eP (s:ByteArray):Cl Tryz.prog 143 [vs s] [] fun r _=>r = .ag (ar (nT s).row):=by
 refine ai ac false Tryz.func143 rfl ae ?_
 simp only[Tryz.f143,tt,seval]
 exact⟨_,_,rfl,am rfl⟩
theorem Aj (op:Int):Cl Tryz.prog 145 [vi op] [] fun r _=>r = .ag (ar (d5 op).row):=by
 refine ai ac false Tryz.func145 rfl ae ?_
 simp only[Tryz.f145,tt,seval]
 by_cases h1:op=1
 ·simp only[tt,seval,aw h1]
  refine cZ (nH op) ?_ ?_<;>simp only[tt,seval]
  exact⟨_,_,FV (by rw[d5,if_pos (.inl h1)]),am rfl⟩
 simp only[tt,seval,ax h1]
 by_cases h2:op=2
 ·simp only[tt,seval,aw h2]
  refine cZ (nH op) ?_ ?_<;>simp only[tt,seval]
  exact⟨_,_,FV (by rw[d5,if_pos (.inr (.inl h2))]),am rfl⟩
 simp only[tt,seval,ax h2]
 refine ab (fun h3=>?_) (fun h3=>?_)
 ·skip
  refine cZ (nH op) ?_ ?_<;>simp only[tt,seval]
  exact⟨_,_,FV (by rw[d5,if_pos (.inr (.inr h3))]),am rfl⟩
 refine cZ (nH op) ?_ ?_<;>simp only[tt,seval]
 refine cZ (bR (j1 op)) ?_ ?_<;>simp only[tt,seval,gT,Tok.row]
 exact⟨_,_,FV (by rw[d5,if_neg (fun h=>h.elim h1 fun h=>h.elim h2 h3)]),am rfl⟩
theorem DM (v:Val) (h0 : -9223372036854775808<=v.num) (h1:v.num<=9223372036854775807):Cl Tryz.prog 142 [.ag (ar v.row)] [] fun r _=>r = .ag (ar (eX v).row):=by
 rw[Val.row]
 refine ai ac false Tryz.func142 rfl ae ?_
 simp only[Tryz.f142,tt,seval]
 refine ab (fun k1=>?_) (fun k1=>?_)
 ·skip
  refine cZ (qM v.num h0 h1) ?_ ?_<;>simp only[tt,seval]
  exact⟨_,_,FV (by rw[eX,if_pos k1]),am rfl⟩
 refine ab (fun k2=>?_) (fun k2=>?_)
 ·exact⟨_,_,FV (by rw[eX,if_neg k1,if_pos k2]),am rfl⟩
 refine ab (fun k3=>?_) (fun k3=>?_)
 ·refine ab (fun k4=>?_) (fun k4=>?_)
  ·skip
   refine cZ (bM 21 aa aa) ?_ ?_<;>simp only[tt,seval,kT,Tok.row]
   exact⟨_,_,FV (by rw[eX,if_neg k1,if_neg k2,if_pos k3,if_pos k4]),am rfl⟩
  ·skip
   refine cZ (bM 22 aa aa) ?_ ?_<;>simp only[tt,seval,kT,Tok.row]
   exact⟨_,_,FV (by rw[eX,if_neg k1,if_neg k2,if_pos k3,if_neg k4]),am rfl⟩
 refine cZ (bM 20 aa aa) ?_ ?_<;>simp only[tt,seval,kT,Tok.row]
 exact⟨_,_,FV (by rw[eX,if_neg k1,if_neg k2,if_neg k3]),am rfl⟩
theorem oo (out:List Tok) (e:Expr) (h:out.length<=1000000):Cl Tryz.prog 146 [.c (.ow 129 (out).length ((out).flatMap Tok.row) none),.ag (ar e.row)] [] fun r _=>r = .c (.ow 129 (out++bE e.not).length ((out++bE e.not).flatMap Tok.row) none):=by
 obtain⟨kind,op,not,val,qual,name,kids,sub⟩:=e
 rw[ak]
 refine ai ac false Tryz.func146 rfl ae ?_
 simp only[Tryz.f146,tt,seval]
 cases not
 case true=>
  simp only[tt,seval]
  refine cZ (bM 15 aa aa) ?_ ?_<;>simp only[tt,seval,kT,Tok.row]
  refine j3 ?_
  rw[ey (out),dB (out) (Tok.mk 1 (kw 15) 0)]
  refine⟨_,[],pU (l:=out++[(Tok.mk 1 (kw 15) 0)]) (by rfl),ap ?_⟩
  simp only[tt,seval]
 case false=>
  simp only[tt,seval]
  refine⟨_,[],pU (l:=out) (by exact (List.append_nil _).symm),ap ?_⟩
  simp only[tt,seval]
theorem oA (out:List Tok) (a:ByteArray) (h:out.length<=1000000):Cl Tryz.prog 198 [.c (.ow 129 (out).length ((out).flatMap Tok.row) none),vs a] [] fun r _=>r = .c (.ow 129 (out++dh a).length ((out++dh a).flatMap Tok.row) none):=by
 refine ai ac false Tryz.func198 rfl ae ?_
 simp only[Tryz.f198,tt,seval]
 refine ab (fun ha=>?_) (fun ha=>?_)
 ·skip
  refine⟨_,[],pU (l:=out) (by rw[dh,if_pos ha,List.append_nil]),ap ?_⟩
  simp only[tt,seval]
 ·try simp only[tt,seval]
  refine cZ (bM 12 aa aa) ?_ ?_<;>simp only[tt,seval,kT,Tok.row]
  refine cZ (eP a) ?_ ?_<;>simp only[tt,seval,nT,Tok.row]
  refine j3 ?_
  rw[xm (out),sN (out) (Tok.mk 1 (kw 12) 0) (Tok.mk 2 a 0)]
  refine⟨_,[],pU (l:=out++[(Tok.mk 1 (kw 12) 0),(Tok.mk 2 a 0)]) (by rw[dh,if_neg ha];rfl),ap ?_⟩
  simp only[tt,seval]
def Al (full:Bool) (e:Expr) (l:List Tok):Prop:=∀out:List Tok,out.length+l.length<=1000000->Cl Tryz.prog 60 [.c (.ow 129 (out).length ((out).flatMap Tok.row) none),.ag (ar e.row),vb full] [] fun r _=>r = .c (.ow 129 (out++l).length ((out++l).flatMap Tok.row) none)
set_option maxHeartbeats 1000000 in
theorem DN (kind op:Int) (not:Bool) (val:Val) (qual name:ByteArray) (kids:List Expr) (sub:List Query) (full:Bool) (k:Nat) (hk:k<kids.length) (l:List Tok) (hx:Al full kids[k] l) (out:List Tok) (hroom:out.length+(kY (Bw full kind op kids k) l).length<=1000000) :
 Cl Tryz.prog 144 [.c (.ow 129 (out).length ((out).flatMap Tok.row) none),.ag (ar (Expr.mk kind op not val qual name kids sub).row),vi k,vb full] [] fun r _=>r = .c (.ow 129 (out++kY (Bw full kind op kids k) l).length ((out++kY (Bw full kind op kids k) l).flatMap Tok.row) none):=by
 obtain⟨it,bt⟩:∃it,it=kids[k]:=⟨_,rfl⟩
 have hw:(Bw full kind op kids k)=(lp kind op kids k||(full&&decide (nv it<9))):=by rw[Bw,List.getD_eq_getElem?_getD,aA hk,bt];rfl
 rw[hw] at hroom ⊢
 rw[<-bt] at hx
 rw[ak]
 refine ai ac false Tryz.func144 rfl ae ?_
 simp only[Tryz.f144,tt,seval]
 refine⟨aa,aa,_,aD aI (aA hk),Expr.ne _ _,?_⟩
 rw[<-bt]
 have hxl:=oP it
 obtain⟨k0,o0,n0,v0,q0,m0,ks0,ss0⟩:=it
 rw[ak] at hxl
 rw[ak]
 simp only[tt,seval]
 refine cZ (AJ kind op not val qual name kids sub k hk) ?_ ?_<;>simp only[tt,seval,ak]
 have hx:∀out:List Tok,out.length+l.length<=1000000->Cl Tryz.prog 60 [.c (.ow 129 (out).length ((out).flatMap Tok.row) none),.ag (ar (Expr.mk k0 o0 n0 v0 q0 m0 ks0 ss0).row),vb full] [] fun r _=>r = .c (.ow 129 (out++l).length ((out++l).flatMap Tok.row) none):=hx
 rw[ak] at hx
 generalize nv (Expr.mk k0 o0 n0 v0 q0 m0 ks0 ss0)=lv0 at *
 cases hw1:lp kind op kids k
 case true=>
  rw[hw1] at hroom
  simp only[tt,seval]
  have hroom:out.length+(jY::(l++[kA])).length<=1000000:=hroom
  simp only[ll] at hroom
  apply ed 0
  case h1=>
   refine dDrawn.intro [32] (.take 0 (.take 5 (.br 1 (.br 2 (.br 3 (.take 4 (.br 6 (.take 7 .done) .nobr)) (.br 4 (.br 3 (.br 6 (.take 7 .done) .nobr) .nobr) .nobr)) (.br 4 (.br 2 (.br 3 (.br 6 (.take 7 .done) .nobr) .nobr) .nobr) .nobr)) (.br 4 (.br 1 (.br 2 (.br 3 (.br 6 (.take 7 .done) .nobr) .nobr) .nobr) .nobr) .nobr)))) ae ?_
   simp only[tt,seval]
   all_goals repeat' first|refine ft ?_ ?_|refine cn ?_ ?_
   all_goals
    refine cZ (bR ⟨#[40]⟩) ?_ ?_<;>simp only[tt,seval,gT,Tok.row]
   all_goals repeat' first|refine rG ?_ ?_|refine iR ?_ ?_|refine iS ?_ ?_
   all_goals
    refine j3 ?_
    rw[ey (out),dB (out) (Tok.mk 5 ⟨#[40]⟩ 0)]
   all_goals repeat' first|refine ft ?_ ?_|refine cn ?_ ?_
   all_goals
    refine cZ (hx (out++[(Tok.mk 5 ⟨#[40]⟩ 0)]) au) ?_ ?_
    ·simp only[tt,seval]
     decide
    simp only[tt,seval]
   all_goals exact⟨rfl,rfl,rfl⟩
  case h2=>
   intro f' hj0
   simp only[tt,seval,hj0]
   refine cZ (bR ⟨#[41]⟩) ?_ ?_<;>simp only[tt,seval,gT,Tok.row]
   refine j3 ?_
   rw[ey (out++[(Tok.mk 5 ⟨#[40]⟩ 0)]++l),dB (out++[(Tok.mk 5 ⟨#[40]⟩ 0)]++l) (Tok.mk 5 ⟨#[41]⟩ 0)]
   refine⟨_,[],pU (l:=out++[(Tok.mk 5 ⟨#[40]⟩ 0)]++l++[(Tok.mk 5 ⟨#[41]⟩ 0)]) (by skip;simp [kY,jY,kA,gT]),ap ?_⟩
   simp only[tt,seval]
 case false=>
  simp only[tt,seval]
  cases full
  case false=>
   rw[hw1] at hroom
   simp only[tt,seval]
   have hroom:out.length+l.length<=1000000:=hroom
   refine cZ (hx out hroom) ?_ ?_<;>simp only[tt,seval]
   refine⟨_,[],pU (l:=out++l) (by skip;simp [kY]),ap ?_⟩
   simp only[tt,seval]
  case true=>
   simp only[tt,seval]
   refine cZ (hxl) ?_ ?_<;>simp only[tt,seval]
   rw[hw1] at hroom
   refine ab (fun h9=>?_) (fun h9=>?_)
   ·rw[aw h9] at hroom ⊢
    have hroom:out.length+(jY::(l++[kA])).length<=1000000:=hroom
    simp only[ll] at hroom
    apply ed 0
    case h1=>
     refine dDrawn.intro [32] (.take 0 (.take 5 (.br 1 (.br 2 (.br 3 (.take 4 (.br 6 (.take 7 .done) .nobr)) (.br 4 (.br 3 (.br 6 (.take 7 .done) .nobr) .nobr) .nobr)) (.br 4 (.br 2 (.br 3 (.br 6 (.take 7 .done) .nobr) .nobr) .nobr) .nobr)) (.br 4 (.br 1 (.br 2 (.br 3 (.br 6 (.take 7 .done) .nobr) .nobr) .nobr) .nobr) .nobr)))) ae ?_
     simp only[tt,seval]
     all_goals repeat' first|refine ft ?_ ?_|refine cn ?_ ?_
     all_goals
      refine cZ (bR ⟨#[40]⟩) ?_ ?_<;>simp only[tt,seval,gT,Tok.row]
     all_goals repeat' first|refine rG ?_ ?_|refine iR ?_ ?_|refine iS ?_ ?_
     all_goals
      refine j3 ?_
      rw[ey (out),dB (out) (Tok.mk 5 ⟨#[40]⟩ 0)]
     all_goals repeat' first|refine ft ?_ ?_|refine cn ?_ ?_
     all_goals
      refine cZ (hx (out++[(Tok.mk 5 ⟨#[40]⟩ 0)]) au) ?_ ?_
      ·simp only[tt,seval]
       decide
      simp only[tt,seval]
     all_goals exact⟨rfl,rfl,rfl⟩
    case h2=>
     intro f' hj0
     simp only[tt,seval,hj0]
     refine cZ (bR ⟨#[41]⟩) ?_ ?_<;>simp only[tt,seval,gT,Tok.row]
     refine j3 ?_
     rw[ey (out++[(Tok.mk 5 ⟨#[40]⟩ 0)]++l),dB (out++[(Tok.mk 5 ⟨#[40]⟩ 0)]++l) (Tok.mk 5 ⟨#[41]⟩ 0)]
     refine⟨_,[],pU (l:=out++[(Tok.mk 5 ⟨#[40]⟩ 0)]++l++[(Tok.mk 5 ⟨#[41]⟩ 0)]) (by skip;simp [kY,jY,kA,gT]),ap ?_⟩
     simp only[tt,seval]
   ·rw[ax h9] at hroom ⊢
    have hroom:out.length+l.length<=1000000:=hroom
    refine cZ (hx out hroom) ?_ ?_<;>simp only[tt,seval]
    refine⟨_,[],pU (l:=out++l) (by skip;simp [kY]),ap ?_⟩
    simp only[tt,seval]
theorem Am {full:Bool} {g:Expr->List Tok} {kind op:Int} {kids:List Expr} {k:Nat} (hk:k<kids.length):aP full g kind op kids k=kY (Bw full kind op kids k) (g kids[k]):=by rw[aP,List.getD_eq_getElem?_getD,aA hk];rfl
theorem KO (q:Query):(q.row=[])=False:=eq_false fun h=>Query.ne q [] (by rw[h];rfl)
theorem BA {l:List Query} {q:Query} (h:l=[q]) (C:List D->Prop):(∃ds',l.flatMap Query.row=ds' /\ ¬ds'=[]/\C ds')=C q.row:=by
 subst h
 have e:[q].flatMap Query.row=q.row:=by simp
 rw[e]
 exact propext ⟨fun ⟨_,h1,_,h3⟩=>h1▸h3,fun h=>⟨_,rfl,fun h0=>(KO q▸h0:False),h⟩⟩
def K2 (full:Bool) (q:Query) (l:List Tok):Prop:=∀out:List Tok,out.length+l.length<=1000000->Cl Tryz.prog 48 [.c (.ow 129 (out).length ((out).flatMap Tok.row) none),.ag (ar q.row),vb full] [] fun r _=>r = .c (.ow 129 (out++l).length ((out++l).flatMap Tok.row) none)
set_option maxHeartbeats 4000000 in
theorem v8 (kind op:Int) (not:Bool) (val:Val) (qual name:ByteArray) (kids:List Expr) (sub:List Query) (full:Bool) (gf:Expr->Bool) (g:Expr->List Tok) (hf:tO gf (Expr.mk kind op not val qual name kids sub)=true) (hnum : -9223372036854775808<=val.num/\val.num<=9223372036854775807) (hg:∀x∈kids,Al full x (g x)) (hgq:∀q∈sub,K2 full q (kV g q)):Al full (Expr.mk kind op not val qual name kids sub) (np full g (Expr.mk kind op not val qual name kids sub)):=by
 intro out hroom
 have hkid:∀k (hk:k<kids.length) (out:List Tok),out.length+(aP full g kind op kids k).length<=1000000->Cl Tryz.prog 144 [.c (.ow 129 (out).length ((out).flatMap Tok.row) none),.ag (ar (Expr.mk kind op not val qual name kids sub).row),vi k,vb full] [] fun r _=>r = .c (.ow 129 (out++aP full g kind op kids k).length ((out++aP full g kind op kids k).flatMap Tok.row) none):=fun k hk out hr=>by
  rw[Am hk] at hr ⊢
  exact DN kind op not val qual name kids sub full k hk _ (hg _ (aJ hk)) out hr
 have hsp:=(jS hf).1
 clear hf hg
 rw[ak]
 rcases jd hsp with⟨rfl,hl,hk0,hs0⟩|⟨rfl,hn,hm,hk0,hs0⟩|⟨rfl,ho,hk0,hs0⟩|⟨rfl,ho,hk0,hs0⟩|⟨rfl,hk0,hs0⟩|⟨rfl,hk0,hs0⟩|⟨rfl,hk0,hs0⟩|⟨rfl,hk0,hs0⟩|⟨rfl,hk0,hs0⟩
 ·skip
  have e:np full g (Expr.mk 1 op not val qual name kids sub)=[eX val]:=rfl
  rw[e] at hroom ⊢
  clear e
  simp only[ll] at hroom
  refine ai ac false Tryz.func60 rfl ae ?_
  simp only[Tryz.f60,tt,seval]
  refine cZ (DM val hnum.1 hnum.2) ?_ ?_<;>simp only[tt,seval,Tok.row,Val.row]
  refine j3 ?_
  rw[ey (out),dB (out) (Tok.mk (eX val).kind (eX val).text (eX val).at_)]
  refine⟨_,[],pU (l:=out++[(Tok.mk (eX val).kind (eX val).text (eX val).at_)]) (by rfl),ap ?_⟩
  simp only[tt,seval]
 ·skip
  have e:np full g (Expr.mk 2 op not val qual name kids sub)=cH qual++[nT name]:=rfl
  rw[e] at hroom ⊢
  clear e
  simp only[ll] at hroom
  refine ai ac false Tryz.func60 rfl ae ?_
  simp only[Tryz.f60,tt,seval]
  refine ab (fun hq=>?_) (fun hq=>?_)
  ·have hq:¬qual=⟨#[]⟩:=by simpa using hq
   rw[cH,if_neg hq] at hroom ⊢
   simp only[ll] at hroom
   simp only[tt,seval]
   refine cZ (eP qual) ?_ ?_<;>simp only[tt,seval,nT,Tok.row]
   refine cZ (bR ⟨#[46]⟩) ?_ ?_<;>simp only[tt,seval,gT,Tok.row]
   refine j3 ?_
   rw[xm (out),sN (out) (Tok.mk 2 qual 0) (Tok.mk 5 ⟨#[46]⟩ 0)]
   refine cZ (eP name) ?_ ?_<;>simp only[tt,seval,nT,Tok.row]
   refine j3 ?_
   rw[ey (out++[(Tok.mk 2 qual 0),(Tok.mk 5 ⟨#[46]⟩ 0)]),dB (out++[(Tok.mk 2 qual 0),(Tok.mk 5 ⟨#[46]⟩ 0)]) (Tok.mk 2 name 0)]
   refine⟨_,[],pU (l:=out++[(Tok.mk 2 qual 0),(Tok.mk 5 ⟨#[46]⟩ 0)]++[(Tok.mk 2 name 0)]) (by simp [Jm,gT]),ap ?_⟩
   simp only[tt,seval]
  ·have hq:qual=⟨#[]⟩:=by simpa using hq
   rw[cH,if_pos hq] at hroom ⊢
   simp only[ll] at hroom
   simp only[tt,seval]
   refine cZ (eP name) ?_ ?_<;>simp only[tt,seval,nT,Tok.row]
   refine j3 ?_
   rw[ey (out),dB (out) (Tok.mk 2 name 0)]
   refine⟨_,[],pU (l:=out++[(Tok.mk 2 name 0)]) (by rfl),ap ?_⟩
   simp only[tt,seval]
 ·skip
  have e:np full g (Expr.mk 3 op not val qual name kids sub)=d5 op::aP full g 3 op kids 0:=rfl
  rw[e] at hroom ⊢
  clear e
  have hkid0:=hkid 0 aa
  generalize aP full g 3 op kids 0=a0 at *
  simp only[ll] at hroom
  refine ai ac false Tryz.func60 rfl ae ?_
  simp only[Tryz.f60,tt,seval]
  apply ed 6
  case h1=>
   refine dDrawn.intro [46] (.take 0 (.take 1 (.take 2 (.take 7 (.br 3 (.br 4 (.br 5 (.take 6 (.br 8 (.take 9 .done) .nobr)) (.br 6 (.br 5 (.br 8 (.take 9 .done) .nobr) .nobr) .nobr)) (.br 6 (.br 4 (.br 5 (.br 8 (.take 9 .done) .nobr) .nobr) .nobr) .nobr)) (.br 6 (.br 3 (.br 4 (.br 5 (.br 8 (.take 9 .done) .nobr) .nobr) .nobr) .nobr) .nobr)))))) ae ?_
   simp only[tt,seval]
   all_goals repeat' first|refine ft ?_ ?_|refine cn ?_ ?_
   all_goals
    refine cZ (Aj op) ?_ ?_<;>simp only[tt,seval,Tok.row]
   all_goals repeat' first|refine rG ?_ ?_|refine iR ?_ ?_|refine iS ?_ ?_
   all_goals
    refine j3 ?_
    rw[ey (out),dB (out) (Tok.mk (d5 op).kind (d5 op).text (d5 op).at_)]
   all_goals repeat' first|refine ft ?_ ?_|refine cn ?_ ?_
   all_goals
    refine cZ (hkid0 (out++[(Tok.mk (d5 op).kind (d5 op).text (d5 op).at_)]) au) ?_ ?_
    ·simp only[tt,seval,ak]
     decide
    simp only[tt,seval,ak]
   all_goals exact⟨rfl,rfl,rfl⟩
  case h2=>
   intro f' hj0
   simp only[tt,seval,hj0]
   refine⟨_,[],pU (l:=out++[(Tok.mk (d5 op).kind (d5 op).text (d5 op).at_)]++a0) (by simp),ap ?_⟩
   simp only[tt,seval]
 ·skip
  have e:np full g (Expr.mk 4 op not val qual name kids sub)=aP full g 4 op kids 0++(d5 op::aP full g 4 op kids 1):=rfl
  rw[e] at hroom ⊢
  clear e
  have hkid0:=hkid 0 aa
  generalize aP full g 4 op kids 0=a0 at *
  have hkid1:=hkid 1 aa
  generalize aP full g 4 op kids 1=a1 at *
  simp only[ll] at hroom
  refine ai ac false Tryz.func60 rfl ae ?_
  simp only[Tryz.f60,tt,seval]
  refine cZ (hkid0 (out) au) ?_ ?_<;>simp only[tt,seval,ak]
  apply ed 6
  case h1=>
   refine dDrawn.intro [80] (.take 0 (.take 1 (.take 2 (.take 7 (.br 3 (.br 4 (.br 5 (.take 6 (.br 8 (.take 9 .done) .nobr)) (.br 6 (.br 5 (.br 8 (.take 9 .done) .nobr) .nobr) .nobr)) (.br 6 (.br 4 (.br 5 (.br 8 (.take 9 .done) .nobr) .nobr) .nobr) .nobr)) (.br 6 (.br 3 (.br 4 (.br 5 (.br 8 (.take 9 .done) .nobr) .nobr) .nobr) .nobr) .nobr)))))) ae ?_
   simp only[tt,seval]
   all_goals repeat' first|refine ft ?_ ?_|refine cn ?_ ?_
   all_goals
    refine cZ (Aj op) ?_ ?_<;>simp only[tt,seval,Tok.row]
   all_goals repeat' first|refine rG ?_ ?_|refine iR ?_ ?_|refine iS ?_ ?_
   all_goals
    refine j3 ?_
    rw[ey (out++a0),dB (out++a0) (Tok.mk (d5 op).kind (d5 op).text (d5 op).at_)]
   all_goals repeat' first|refine ft ?_ ?_|refine cn ?_ ?_
   all_goals
    refine cZ (hkid1 (out++a0++[(Tok.mk (d5 op).kind (d5 op).text (d5 op).at_)]) au) ?_ ?_
    ·simp only[tt,seval,ak]
     decide
    simp only[tt,seval,ak]
   all_goals exact⟨rfl,rfl,rfl⟩
  case h2=>
   intro f' hj0
   simp only[tt,seval,hj0]
   refine⟨_,[],pU (l:=out++a0++[(Tok.mk (d5 op).kind (d5 op).text (d5 op).at_)]++a1) (by simp [aK]),ap ?_⟩
   simp only[tt,seval]
 ·skip
  have e:np full g (Expr.mk 5 op not val qual name kids sub)=aP full g 5 op kids 0++(kT 16::(bE not++[kT 20])):=rfl
  rw[e] at hroom ⊢
  clear e
  have hkid0:=hkid 0 aa
  generalize aP full g 5 op kids 0=a0 at *
  simp only[ll] at hroom
  refine ai ac false Tryz.func60 rfl ae ?_
  simp only[Tryz.f60,tt,seval]
  refine cZ (hkid0 (out) au) ?_ ?_<;>simp only[tt,seval,ak]
  apply ed 6
  case h1=>
   refine dDrawn.intro [88] (.take 0 (.br 1 (.br 2 (.br 3 (.take 4 (.br 5 (.br 6 (.br 7 (.br 8 (.take 9 .done) .nobr) .nobr) .nobr) .nobr)) (.br 4 (.br 3 (.br 5 (.br 6 (.br 7 (.br 8 (.take 9 .done) .nobr) .nobr) .nobr) .nobr) .nobr) .nobr)) (.br 4 (.br 2 (.br 3 (.br 5 (.br 6 (.br 7 (.br 8 (.take 9 .done) .nobr) .nobr) .nobr) .nobr) .nobr) .nobr) .nobr)) (.br 4 (.br 1 (.br 2 (.br 3 (.br 5 (.br 6 (.br 7 (.br 8 (.take 9 .done) .nobr) .nobr) .nobr) .nobr) .nobr) .nobr) .nobr) .nobr))) ae ?_
   simp only[tt,seval]
   all_goals repeat' first|refine ft ?_ ?_|refine cn ?_ ?_
   all_goals
    refine cZ (bM 16 aa aa) ?_ ?_<;>simp only[tt,seval,kT,Tok.row]
   all_goals repeat' first|refine rG ?_ ?_|refine iR ?_ ?_|refine iS ?_ ?_
   all_goals
    refine j3 ?_
    rw[ey (out++a0),dB (out++a0) (Tok.mk 1 (kw 16) 0)]
   all_goals repeat' first|refine ft ?_ ?_|refine cn ?_ ?_
   all_goals
    refine cZ (oo (out++a0++[(Tok.mk 1 (kw 16) 0)]) (Expr.mk 5 op not val qual name kids sub) au) ?_ ?_
    ·simp only[tt,seval,ak]
     decide
    simp only[tt,seval,ak,Expr.not]
   all_goals repeat' first|refine ft ?_ ?_|refine cn ?_ ?_
   all_goals
    refine cZ (bM 20 aa aa) ?_ ?_<;>simp only[tt,seval,kT,Tok.row]
   all_goals repeat' first|refine rG ?_ ?_|refine iR ?_ ?_|refine iS ?_ ?_
   all_goals
    refine j3 ?_
    rw[ey (out++a0++[(Tok.mk 1 (kw 16) 0)]++bE not),dB (out++a0++[(Tok.mk 1 (kw 16) 0)]++bE not) (Tok.mk 1 (kw 20) 0)]
   all_goals exact⟨rfl,rfl,rfl⟩
  case h2=>
   intro f' hj0
   simp only[tt,seval,hj0]
   refine⟨_,[],pU (l:=out++a0++[(Tok.mk 1 (kw 16) 0)]++bE not++[(Tok.mk 1 (kw 20) 0)]) (by simp [kT,bE,aK]),ap ?_⟩
   simp only[tt,seval]
 ·skip
  have e:np full g (Expr.mk 6 op not val qual name kids sub)=aP full g 6 op kids 0++(bE not++(kT 18::(aP full g 6 op kids 1++(kT 13::aP full g 6 op kids 2)))):=rfl
  rw[e] at hroom ⊢
  clear e
  have hkid0:=hkid 0 aa
  generalize aP full g 6 op kids 0=a0 at *
  have hkid1:=hkid 1 aa
  generalize aP full g 6 op kids 1=a1 at *
  have hkid2:=hkid 2 aa
  generalize aP full g 6 op kids 2=a2 at *
  simp only[ll] at hroom
  refine ai ac false Tryz.func60 rfl ae ?_
  simp only[Tryz.f60,tt,seval]
  refine cZ (hkid0 (out) au) ?_ ?_<;>simp only[tt,seval,ak]
  apply tK 0 4 2
  case h1=>
   refine dDrawn.intro [96,102] (.take 0 (.take 1 (.take 7 (.br 2 (.br 3 (.br 4 (.br 5 (.take 6 (.br 8 (.take 9 .done) .nobr)) (.br 6 (.br 5 (.br 8 (.take 9 .done) .nobr) .nobr) .nobr)) (.br 6 (.br 4 (.br 5 (.br 8 (.take 9 .done) .nobr) .nobr) .nobr) .nobr)) (.br 6 (.br 3 (.br 4 (.br 5 (.br 8 (.take 9 .done) .nobr) .nobr) .nobr) .nobr) .nobr)) (.br 6 (.br 2 (.br 3 (.br 4 (.br 5 (.br 8 (.take 9 .done) .nobr) .nobr) .nobr) .nobr) .nobr) .nobr))))) ae ?_
   simp only[tt,seval]
   all_goals repeat' first|refine ft ?_ ?_|refine cn ?_ ?_
   all_goals
    refine cZ (oo (out++a0) (Expr.mk 6 op not val qual name kids sub) au) ?_ ?_
    ·simp only[tt,seval,ak]
     decide
    simp only[tt,seval,ak,Expr.not]
   all_goals repeat' first|refine ft ?_ ?_|refine cn ?_ ?_
   all_goals
    refine cZ (bM 18 aa aa) ?_ ?_<;>simp only[tt,seval,kT,Tok.row]
   all_goals repeat' first|refine rG ?_ ?_|refine iR ?_ ?_|refine iS ?_ ?_
   all_goals
    refine j3 ?_
    rw[ey (out++a0++bE not),dB (out++a0++bE not) (Tok.mk 1 (kw 18) 0)]
   all_goals repeat' first|refine ft ?_ ?_|refine cn ?_ ?_
   all_goals
    refine cZ (hkid1 (out++a0++bE not++[(Tok.mk 1 (kw 18) 0)]) au) ?_ ?_
    ·simp only[tt,seval,ak]
     decide
    simp only[tt,seval,ak]
   all_goals exact⟨rfl,rfl,rfl,rfl,rfl⟩
  case h2=>
   intro f' hj0 hj1 hj2
   simp only[tt,seval]
   apply ed 6
   case h1=>
    refine dDrawn.intro [109] (.take 0 (.take 5 (.br 1 (.br 2 (.br 3 (.take 4 (.br 6 (.take 7 .done) .nobr)) (.br 4 (.br 3 (.br 6 (.take 7 .done) .nobr) .nobr) .nobr)) (.br 4 (.br 2 (.br 3 (.br 6 (.take 7 .done) .nobr) .nobr) .nobr) .nobr)) (.br 4 (.br 1 (.br 2 (.br 3 (.br 6 (.take 7 .done) .nobr) .nobr) .nobr) .nobr) .nobr)))) ae ?_
    simp only[tt,seval]
    all_goals try simp only[tt,seval,hj0,hj1,hj2]
    all_goals repeat' first|refine ft ?_ ?_|refine cn ?_ ?_
    all_goals
     refine cZ (bM 13 aa aa) ?_ ?_<;>simp only[tt,seval,kT,Tok.row,hj1]
    all_goals repeat' first|refine rG ?_ ?_|refine iR ?_ ?_|refine iS ?_ ?_
    all_goals
     refine j3 ?_
     rw[ey (out++a0++bE not++[(Tok.mk 1 (kw 18) 0)]++a1),dB (out++a0++bE not++[(Tok.mk 1 (kw 18) 0)]++a1) (Tok.mk 1 (kw 13) 0)]
    all_goals repeat' first|refine ft ?_ ?_|refine cn ?_ ?_
    all_goals
     refine cZ (hkid2 (out++a0++bE not++[(Tok.mk 1 (kw 18) 0)]++a1++[(Tok.mk 1 (kw 13) 0)]) au) ?_ ?_
     ·simp only[tt,seval,ak]
      decide
     simp only[tt,seval,ak]
    all_goals exact⟨rfl,rfl,rfl⟩
   case h2=>
    intro f' hj0
    simp only[tt,seval,hj0]
    refine⟨_,[],pU (l:=out++a0++bE not++[(Tok.mk 1 (kw 18) 0)]++a1++[(Tok.mk 1 (kw 13) 0)]++a2) (by simp [kT,bE,aK]),ap ?_⟩
    simp only[tt,seval]
 ·skip
  have e:np full g (Expr.mk 7 op not val qual name kids sub)=aP full g 7 op kids 0++(bE not++(kT 17::jY::((bw (rN full g 7 op kids) (kids.length-1))++[kA]))):=rfl
  rw[e] at hroom ⊢
  clear e
  simp only[ll] at hroom
  refine ai ac false Tryz.func60 rfl ae ?_
  simp only[Tryz.f60,tt,seval]
  have hkid0:=hkid 0 aa
  obtain⟨a0,ha0⟩:∃a0,a0=aP full g 7 op kids 0:=⟨_,rfl⟩
  rw[<-ha0] at hkid0 hroom ⊢
  refine cZ (hkid0 (out) au) ?_ ?_<;>simp only[tt,seval,ak]
  refine cZ (oo (out++a0) (Expr.mk 7 op not val qual name kids sub) au) ?_ ?_<;>simp only[tt,seval,ak,Expr.not]
  refine cZ (bM 17 aa aa) ?_ ?_<;>simp only[tt,seval,kT,Tok.row]
  refine cZ (bR ⟨#[40]⟩) ?_ ?_<;>simp only[tt,seval,gT,Tok.row]
  refine j3 ?_
  rw[xm (out++a0++bE not),sN (out++a0++bE not) (Tok.mk 1 (kw 17) 0) (Tok.mk 5 ⟨#[40]⟩ 0)]
  obtain⟨L0,hL0⟩:∃L0,L0=out++a0++bE not++[(Tok.mk 1 (kw 17) 0),(Tok.mk 5 ⟨#[40]⟩ 0)]:=⟨_,rfl⟩
  have hL0l:L0.length=out.length+a0.length+(bE not).length+2:=by rw[hL0];simp only[ll]
  rw[<-hL0]
  refine dLoop.gh [.ren 116 10147] ⟨ah,ah,?_⟩
  refine dLoop0.intro (fun f L p=>∃(j:Nat) (es:List Tok),f 7=vi (j+1:Nat)/\f 0 = .c (.s 10147 es.length)/\j<=kids.length-1/\es=L0++bw (rN full g 7 op kids) j/\L=[(10147,.arr 129 es.length (es.flatMap Tok.row) none),(4,.str [.v (.int .i64 7),.v (.int .i64 op),.v (.bool not),.v (.int .i64 val.kind),.v (.int .i64 val.num),.v (.string val.text),.v (.string qual),.v (.string name),.sl kids.length (kids.flatMap Expr.row) none,.sl sub.length (sub.flatMap Query.row) none])]/\p=none) (fun f _ _=>(kids.length-eN (f 7)).toNat) [(10147,.arr 129 L0.length (L0.flatMap Tok.row) none),(4,.str [.v (.int .i64 7),.v (.int .i64 op),.v (.bool not),.v (.int .i64 val.kind),.v (.int .i64 val.num),.v (.string val.text),.v (.string qual),.v (.string name),.sl kids.length (kids.flatMap Expr.row) none,.sl sub.length (sub.flatMap Query.row) none])] none ⟨al rfl (al rfl (ao _)),aq _,?_⟩ ?_
  ·simp only[tt,seval]
   exact⟨0,L0,rfl,rfl,aa,(List.append_nil _).symm,rfl⟩
  ·rintro g' L p ⟨j,es,hi,hx,hjn,hes0,rfl,rfl⟩
   simp only[tt,seval] at hi hx
   simp only[tt,seval,hi,hx]
   refine fun _=>ab (fun hlt=>?_) (fun hge=>?_)
   ·have hlt:j<kids.length-1:=by omega
    have hst:=dd (rN full g 7 op kids) j
    have hlt2:=jc (rN full g 7 op kids) hlt
    have hel:es.length=L0.length+(bw (rN full g 7 op kids) j).length:=by rw[hes0,aB]
    have hlen:(L0++bw (rN full g 7 op kids) (kids.length-1)).length+1<=1000000:=by simp only[ll] at *;omega
    simp only[ll] at hlen
    refine ab (fun hc=>?_) (fun hc=>?_)
    ·have hj0:0<j:=by omega
     have hfj:rN full g 7 op kids j=[(Tok.mk 5 ⟨#[44]⟩ 0)]++aP full g 7 op kids (j+1):=by rw[rN,kB,if_pos hj0];rfl
     rw[hfj] at hst hlt2
     simp only[ll] at hlt2
     have hkj:=hkid (j+1) aa
     generalize aP full g 7 op kids (j+1)=aj at *
     refine cZ (bR ⟨#[44]⟩) ?_ ?_<;>simp only[tt,seval,gT,Tok.row,hi]
     refine j3 ?_
     rw[ey (es),dB (es) (Tok.mk 5 ⟨#[44]⟩ 0)]
     refine cZ (hkj (es++[(Tok.mk 5 ⟨#[44]⟩ 0)]) au) ?_ ?_<;>simp only[tt,seval,ak,hi]
     rw[aC (n:=((j+1:Nat):Int)+1) aa aa]
     exact⟨[(10147,.arr 129 (es++[(Tok.mk 5 ⟨#[44]⟩ 0)]++aj).length ((es++[(Tok.mk 5 ⟨#[44]⟩ 0)]++aj).flatMap Tok.row) none),(4,.str [.v (.int .i64 7),.v (.int .i64 op),.v (.bool not),.v (.int .i64 val.kind),.v (.int .i64 val.num),.v (.string val.text),.v (.string qual),.v (.string name),.sl kids.length (kids.flatMap Expr.row) none,.sl sub.length (sub.flatMap Query.row) none])],none,al rfl (al rfl (ao _)),aq _,⟨j+1,es++[(Tok.mk 5 ⟨#[44]⟩ 0)]++aj,rfl,rfl,aa,by rw[hst,hes0];simp [aK],rfl,rfl⟩,az⟩
    ·have hj0:j=0:=by omega
     subst hj0
     have hfj:rN full g 7 op kids 0=aP full g 7 op kids (0+1):=by rw[rN,kB,if_neg (Nat.lt_irrefl 0)];rfl
     rw[hfj] at hst hlt2
     have hkj:=hkid (0+1) aa
     generalize aP full g 7 op kids (0+1)=aj at *
     simp only[tt,seval]
     refine cZ (hkj es au) ?_ ?_<;>simp only[tt,seval,ak,hi]
     try rw[aC (n:=(2:Int)) aa aa]
     exact⟨[(10147,.arr 129 (es++aj).length ((es++aj).flatMap Tok.row) none),(4,.str [.v (.int .i64 7),.v (.int .i64 op),.v (.bool not),.v (.int .i64 val.kind),.v (.int .i64 val.num),.v (.string val.text),.v (.string qual),.v (.string name),.sl kids.length (kids.flatMap Expr.row) none,.sl sub.length (sub.flatMap Query.row) none])],none,al rfl (al rfl (ao _)),aq _,⟨0+1,es++aj,rfl,rfl,aa,by rw[hst,hes0];simp [aK],rfl,rfl⟩,az⟩
   ·have hje:j=kids.length-1:=by omega
    rw[hje] at hes0
    have hel:es.length=L0.length+(bw (rN full g 7 op kids) (kids.length-1)).length:=by rw[hes0,aB]
    refine cZ (bR ⟨#[41]⟩) ?_ ?_<;>simp only[tt,seval,gT,Tok.row]
    refine j3 ?_
    rw[ey (es),dB (es) (Tok.mk 5 ⟨#[41]⟩ 0)]
    refine⟨_,[],pU (l:=es++[(Tok.mk 5 ⟨#[41]⟩ 0)]) (by rw[hes0,hL0];simp [jY,kA,gT,kT,bE,aK]),ap ?_⟩
    simp only[tt,seval]
 ·skip
  obtain⟨q,hsub⟩:=je hs0
  have hsl:kW g sub=kV g q:=by rw[hsub];rfl
  have hq:=hgq q (by rw[hsub];simp)
  have hpos:((0:Int)<sub.length)=True:=eq_true aa
  have e:np full g (Expr.mk 8 op not val qual name kids sub)=aP full g 8 op kids 0++(bE not++(kT 17::jY::(kW g sub++[kA]))):=rfl
  rw[e] at hroom ⊢
  clear e
  have hkid0:=hkid 0 aa
  generalize aP full g 8 op kids 0=a0 at *
  simp only[ll] at hroom
  refine ai ac false Tryz.func60 rfl ae ?_
  simp only[Tryz.f60,tt,seval]
  rw[hsl] at hroom ⊢
  refine cZ (hkid0 (out) au) ?_ ?_<;>simp only[tt,seval,ak]
  refine cZ (oo (out++a0) (Expr.mk 8 op not val qual name kids sub) au) ?_ ?_<;>simp only[tt,seval,ak,Expr.not]
  refine cZ (bM 17 aa aa) ?_ ?_<;>simp only[tt,seval,kT,Tok.row]
  refine cZ (bR ⟨#[40]⟩) ?_ ?_<;>simp only[tt,seval,gT,Tok.row]
  refine j3 ?_
  rw[xm (out++a0++bE not),sN (out++a0++bE not) (Tok.mk 1 (kw 17) 0) (Tok.mk 5 ⟨#[40]⟩ 0)]
  simp only[tt,seval,BA hsub,hpos,gw (Query.row_len q),Query.row_len]
  refine cZ (hq (out++a0++bE not++[(Tok.mk 1 (kw 17) 0),(Tok.mk 5 ⟨#[40]⟩ 0)]) au) ?_ ?_<;>simp only[tt,seval]
  refine cZ (bR ⟨#[41]⟩) ?_ ?_<;>simp only[tt,seval,gT,Tok.row]
  refine j3 ?_
  rw[ey (out++a0++bE not++[(Tok.mk 1 (kw 17) 0),(Tok.mk 5 ⟨#[40]⟩ 0)]++kV g q),dB (out++a0++bE not++[(Tok.mk 1 (kw 17) 0),(Tok.mk 5 ⟨#[40]⟩ 0)]++kV g q) (Tok.mk 5 ⟨#[41]⟩ 0)]
  refine⟨_,[],pU (l:=out++a0++bE not++[(Tok.mk 1 (kw 17) 0),(Tok.mk 5 ⟨#[40]⟩ 0)]++kV g q++[(Tok.mk 5 ⟨#[41]⟩ 0)]) (by simp [jY,kA,gT,kT,bE,aK]),ap ?_⟩
  simp only[tt,seval]
 ·skip
  obtain⟨q,hsub⟩:=je hs0
  have hsl:kW g sub=kV g q:=by rw[hsub];rfl
  have hq:=hgq q (by rw[hsub];simp)
  have hpos:((0:Int)<sub.length)=True:=eq_true aa
  have e:np full g (Expr.mk 9 op not val qual name kids sub)=kT 19::jY::(kW g sub++[kA]):=rfl
  rw[e] at hroom ⊢
  clear e
  simp only[ll] at hroom
  refine ai ac false Tryz.func60 rfl ae ?_
  simp only[Tryz.f60,tt,seval]
  rw[hsl] at hroom ⊢
  apply ed 0
  case h1=>
   refine dDrawn.intro [59] (.take 0 (.take 5 (.take 9 (.br 1 (.br 2 (.br 3 (.br 4 (.take 6 (.take 7 (.take 8 (.br 10 (.take 11 .done) .nobr)))) (.br 6 (.take 7 (.br 4 (.take 8 (.br 10 (.take 11 .done) .nobr)) (.br 8 (.br 4 (.br 10 (.take 11 .done) .nobr) .nobr) .nobr))) .nobr)) (.br 6 (.take 7 (.br 3 (.br 4 (.take 8 (.br 10 (.take 11 .done) .nobr)) (.br 8 (.br 4 (.br 10 (.take 11 .done) .nobr) .nobr) .nobr)) (.br 8 (.br 3 (.br 4 (.br 10 (.take 11 .done) .nobr) .nobr) .nobr) .nobr))) .nobr)) (.br 6 (.take 7 (.br 2 (.br 3 (.br 4 (.take 8 (.br 10 (.take 11 .done) .nobr)) (.br 8 (.br 4 (.br 10 (.take 11 .done) .nobr) .nobr) .nobr)) (.br 8 (.br 3 (.br 4 (.br 10 (.take 11 .done) .nobr) .nobr) .nobr) .nobr)) (.br 8 (.br 2 (.br 3 (.br 4 (.br 10 (.take 11 .done) .nobr) .nobr) .nobr) .nobr) .nobr))) .nobr)) (.br 6 (.take 7 (.br 1 (.br 2 (.br 3 (.br 4 (.take 8 (.br 10 (.take 11 .done) .nobr)) (.br 8 (.br 4 (.br 10 (.take 11 .done) .nobr) .nobr) .nobr)) (.br 8 (.br 3 (.br 4 (.br 10 (.take 11 .done) .nobr) .nobr) .nobr) .nobr)) (.br 8 (.br 2 (.br 3 (.br 4 (.br 10 (.take 11 .done) .nobr) .nobr) .nobr) .nobr) .nobr)) (.br 8 (.br 1 (.br 2 (.br 3 (.br 4 (.br 10 (.take 11 .done) .nobr) .nobr) .nobr) .nobr) .nobr) .nobr))) .nobr))))) ae ?_
   simp only[tt,seval]
   all_goals try simp only[tt,seval,BA hsub,hpos,gw (Query.row_len q),Query.row_len]
   all_goals repeat' first|refine ft ?_ ?_|refine cn ?_ ?_
   all_goals
    refine cZ (bM 19 aa aa) ?_ ?_<;>simp only[tt,seval,kT,Tok.row,BA hsub,hpos,gw (Query.row_len q),Query.row_len]
   all_goals repeat' first|refine ft ?_ ?_|refine cn ?_ ?_
   all_goals
    refine cZ (bR ⟨#[40]⟩) ?_ ?_<;>simp only[tt,seval,gT,Tok.row,BA hsub,hpos,gw (Query.row_len q),Query.row_len]
   all_goals repeat' first|refine rG ?_ ?_|refine iR ?_ ?_|refine iS ?_ ?_
   all_goals
    refine j3 ?_
    rw[xm (out),sN (out) (Tok.mk 1 (kw 19) 0) (Tok.mk 5 ⟨#[40]⟩ 0)]
   all_goals repeat' first|refine ft ?_ ?_|refine cn ?_ ?_
   all_goals
    refine cZ (hq (out++[(Tok.mk 1 (kw 19) 0),(Tok.mk 5 ⟨#[40]⟩ 0)]) au) ?_ ?_
    ·simp only[tt,seval]
     decide
    simp only[tt,seval]
   all_goals exact⟨rfl,rfl,rfl⟩
  case h2=>
   intro f' hj0
   simp only[tt,seval,hj0]
   refine cZ (bR ⟨#[41]⟩) ?_ ?_<;>simp only[tt,seval,kT,gT,Tok.row]
   refine j3 ?_
   rw[ey (out++[(Tok.mk 1 (kw 19) 0),(Tok.mk 5 ⟨#[40]⟩ 0)]++kV g q),dB (out++[(Tok.mk 1 (kw 19) 0),(Tok.mk 5 ⟨#[40]⟩ 0)]++kV g q) (Tok.mk 5 ⟨#[41]⟩ 0)]
   refine⟨_,[],pU (l:=out++[(Tok.mk 1 (kw 19) 0),(Tok.mk 5 ⟨#[40]⟩ 0)]++kV g q++[(Tok.mk 5 ⟨#[41]⟩ 0)]) (by simp [jY,kA,gT,aK]),ap ?_⟩
   simp only[tt,seval]
set_option maxHeartbeats 1000000 in
theorem tR (full:Bool) (x:Item) (g:Expr->List Tok) (hg:x.star=false->Al full x.e (g x.e)) (out:List Tok) (hroom:out.length+(cM g x).length<=1000000):Cl Tryz.prog 116 [.c (.ow 129 (out).length ((out).flatMap Tok.row) none),.ag (ar x.row),vb full] [] fun r _=>r = .c (.ow 129 (out++cM g x).length ((out++cM g x).flatMap Tok.row) none):=by
 obtain⟨star,qual,⟨k0,o0,n0,v0,q0,m0,ks0,ss0⟩,as_⟩:=x
 cases star
 case false=>
  have hx:∀out:List Tok,out.length+(g (Expr.mk k0 o0 n0 v0 q0 m0 ks0 ss0)).length<=1000000->Cl Tryz.prog 60 [.c (.ow 129 (out).length ((out).flatMap Tok.row) none),.ag (ar (Expr.mk k0 o0 n0 v0 q0 m0 ks0 ss0).row),vb full] [] fun r _=>r = .c (.ow 129 (out++g (Expr.mk k0 o0 n0 v0 q0 m0 ks0 ss0)).length ((out++g (Expr.mk k0 o0 n0 v0 q0 m0 ks0 ss0)).flatMap Tok.row) none):=hg rfl
  have e:cM g (.mk false qual (Expr.mk k0 o0 n0 v0 q0 m0 ks0 ss0) as_)=g (Expr.mk k0 o0 n0 v0 q0 m0 ks0 ss0)++dh as_:=rfl
  rw[e] at hroom ⊢
  clear e
  generalize g (Expr.mk k0 o0 n0 v0 q0 m0 ks0 ss0)=l at *
  simp only[ll] at hroom
  rw[ak] at hx
  rw[Item.row_mk,ak]
  refine ai ac false Tryz.func116 rfl ae ?_
  simp only[Tryz.f116,tt,seval]
  apply ed 6
  case h1=>
   refine dDrawn.intro [14,17] (.take 0 (.take 1 (.take 2 (.take 3 (.take 5 (.br 4 (.take 6 (.br 7 (.take 8 .done) .nobr)) (.br 6 (.br 4 (.br 7 (.take 8 .done) .nobr) .nobr) .nobr))))))) ae ?_
   simp only[tt,seval]
   all_goals repeat' first|refine ft ?_ ?_|refine cn ?_ ?_
   all_goals
    refine cZ (hx out au) ?_ ?_
    ·simp only[tt,seval]
     decide
    simp only[tt,seval]
   all_goals repeat' first|refine ft ?_ ?_|refine cn ?_ ?_
   all_goals
    refine cZ (oA (out++l) as_ au) ?_ ?_
    ·simp only[tt,seval]
     decide
    simp only[tt,seval]
   all_goals exact⟨rfl,rfl,rfl⟩
  case h2=>
   intro f' hj0
   simp only[tt,seval,hj0]
   refine⟨_,[],pU (l:=out++l++dh as_) (by simp [aK]),ap ?_⟩
   simp only[tt,seval]
 case true=>
  have e:cM g (.mk true qual (Expr.mk k0 o0 n0 v0 q0 m0 ks0 ss0) as_)=cH qual++[Ef]:=rfl
  rw[e] at hroom ⊢
  clear e
  simp only[ll] at hroom
  rw[Item.row_mk,ak]
  refine ai ac false Tryz.func116 rfl ae ?_
  simp only[Tryz.f116,tt,seval]
  refine ab (fun hq=>?_) (fun hq=>?_)
  ·have hq:¬qual=⟨#[]⟩:=by simpa using hq
   rw[cH,if_neg hq] at hroom ⊢
   simp only[ll] at hroom
   simp only[tt,seval]
   refine cZ (eP qual) ?_ ?_<;>simp only[tt,seval,nT,Tok.row]
   refine cZ (bR ⟨#[46]⟩) ?_ ?_<;>simp only[tt,seval,gT,Tok.row]
   refine j3 ?_
   rw[xm (out),sN (out) (Tok.mk 2 qual 0) (Tok.mk 5 ⟨#[46]⟩ 0)]
   refine cZ (bR ⟨#[42]⟩) ?_ ?_<;>simp only[tt,seval,gT,Tok.row]
   refine j3 ?_
   rw[ey (out++[(Tok.mk 2 qual 0),(Tok.mk 5 ⟨#[46]⟩ 0)]),dB (out++[(Tok.mk 2 qual 0),(Tok.mk 5 ⟨#[46]⟩ 0)]) (Tok.mk 5 ⟨#[42]⟩ 0)]
   refine⟨_,[],pU (l:=out++[(Tok.mk 2 qual 0),(Tok.mk 5 ⟨#[46]⟩ 0)]++[(Tok.mk 5 ⟨#[42]⟩ 0)]) (by simp [gT,Jm,Ef,aK]),ap ?_⟩
   simp only[tt,seval]
  ·have hq:qual=⟨#[]⟩:=by simpa using hq
   rw[cH,if_pos hq] at hroom ⊢
   simp only[ll] at hroom
   simp only[tt,seval]
   refine cZ (bR ⟨#[42]⟩) ?_ ?_<;>simp only[tt,seval,gT,Tok.row]
   refine j3 ?_
   rw[ey (out),dB (out) (Tok.mk 5 ⟨#[42]⟩ 0)]
   refine⟨_,[],pU (l:=out++[(Tok.mk 5 ⟨#[42]⟩ 0)]) (by simp [gT,Ef]),ap ?_⟩
   simp only[tt,seval]
set_option maxHeartbeats 1000000 in
theorem yN (full:Bool) (l:List Expr) (g:Expr->List Tok) (hll:l.length<=1048576) (hg:∀x∈l,Al full x (g x)) (out:List Tok) (hroom:out.length+(pS g l).length<=1000000):Cl Tryz.prog 118 [.c (.ow 129 (out).length ((out).flatMap Tok.row) none),.c (.sl l.length (l.flatMap Expr.row) none),vb full] [] fun r _=>r = .c (.ow 129 (out++pS g l).length ((out++pS g l).flatMap Tok.row) none):=by
 refine ai ac false Tryz.func118 rfl ae ?_
 simp only[Tryz.f118,tt,seval]
 refine fun _=>?_
 rcases hL:l with _|⟨e,r⟩
 ·rw[hL] at hroom
  simp only[tt,seval]
  refine⟨_,[],pU (l:=out) (by exact (List.append_nil _).symm),ap ?_⟩
  simp only[tt,seval]
 ·rw[<-hL]
  have hlen:l.length=r.length+1:=by rw[hL];rfl
  have hw:pS g l=kT 6::g e:=by rw[hL];rfl
  have hx:∀out:List Tok,out.length+(g e).length<=1000000->Cl Tryz.prog 60 [.c (.ow 129 (out).length ((out).flatMap Tok.row) none),.ag (ar e.row),vb full] [] fun r _=>r = .c (.ow 129 (out++g e).length ((out++g e).flatMap Tok.row) none):=hg e (by rw[hL];simp)
  have hpos:((0:Int)<l.length)=True:=eq_true aa
  rw[hw] at hroom ⊢
  clear hw
  generalize g e=le at *
  simp only[ll] at hroom
  simp only[tt,seval,show (¬(l.length:Int)=0) from by omega]
  apply ed 6
  case h1=>
   refine dDrawn.intro [19] (.take 0 (.take 4 (.take 5 (.take 7 (.br 1 (.br 2 (.br 3 (.take 6 (.br 8 (.take 9 .done) .nobr)) (.br 6 (.br 3 (.br 8 (.take 9 .done) .nobr) .nobr) .nobr)) (.br 6 (.br 2 (.br 3 (.br 8 (.take 9 .done) .nobr) .nobr) .nobr) .nobr)) (.br 6 (.br 1 (.br 2 (.br 3 (.br 8 (.take 9 .done) .nobr) .nobr) .nobr) .nobr) .nobr)))))) ae ?_
   simp only[tt,seval]
   all_goals try simp only[tt,seval,vM hL aI,hpos,cT (aI e),aI]
   all_goals repeat' first|refine ft ?_ ?_|refine cn ?_ ?_
   all_goals
    refine cZ (bM 6 aa aa) ?_ ?_<;>simp only[tt,seval,kT,Tok.row,cT (aI e),aI]
   all_goals repeat' first|refine rG ?_ ?_|refine iR ?_ ?_|refine iS ?_ ?_
   all_goals
    refine j3 ?_
    rw[ey (out),dB (out) (Tok.mk 1 (kw 6) 0)]
   all_goals repeat' first|refine ft ?_ ?_|refine cn ?_ ?_
   all_goals
    refine cZ (hx (out++[(Tok.mk 1 (kw 6) 0)]) au) ?_ ?_
    ·simp only[tt,seval]
     decide
    simp only[tt,seval]
   all_goals exact⟨rfl,rfl,rfl⟩
  case h2=>
   intro f' hj0
   simp only[tt,seval,hj0]
   refine⟨_,[],pU (l:=out++[(Tok.mk 1 (kw 6) 0)]++le) (by simp [kT,aK]),ap ?_⟩
   simp only[tt,seval]
set_option maxHeartbeats 4000000 in
theorem BB (full:Bool) (from_:List Source) (g:Expr->List Tok) (hsz:cQ from_<=1048576) (hg:∀s∈from_,∀x∈s.on,Al full x (g x)) (out:List Tok) (hroom:out.length+(bw (gP g from_) from_.length).length<=1000000):Cl Tryz.prog 117 [.c (.ow 129 (out).length ((out).flatMap Tok.row) none),.c (.sl from_.length (from_.flatMap Source.row) none),vb full] [] fun r _=>r = .c (.ow 129 (out++bw (gP g from_) from_.length).length ((out++bw (gP g from_) from_.length).flatMap Tok.row) none):=by
 have hfl:from_.length<=1048576:=by rw[d4] at hsz;omega
 refine ai ac false Tryz.func117 rfl ae ?_
 simp only[Tryz.f117,tt,seval]
 refine dLoop.gh [.ren 9500 10078] ⟨ah,ah,?_⟩
 refine dLoop0.introR (fun f L p=>∃(i:Nat) (es:List Tok),f 7=vi i/\f 0 = .c (.s 10078 es.length)/\i<=from_.length/\es=out++bw (gP g from_) i/\L=[(10078,.arr 129 (es).length ((es).flatMap Tok.row) none)]/\p=none) (fun f _ _=>(from_.length-eN (f 7)).toNat) [(10078,.arr 129 (out).length ((out).flatMap Tok.row) none)] none ⟨al rfl (ao _),aq _,?_⟩ ?_
 ·simp only[tt,seval]
  exact⟨0,out,rfl,rfl,aa,(List.append_nil _).symm,rfl⟩
 ·rintro g' L p ⟨i,es,h7,h0,hi,hes0,rfl,rfl⟩
  simp only[tt,seval] at h7 h0
  simp only[tt,seval,h7,h0,Int.ofNat_lt]
  refine fun _=>ab (fun hlt=>?_) (fun hge=>?_)
  ·have hlt:i<from_.length:=by omega
   have hst:=dd (gP g from_) i
   have hlt2:=jc (gP g from_) hlt
   have hel:es.length=out.length+(bw (gP g from_) i).length:=by rw[hes0,aB]
   obtain⟨it,bt⟩:∃it,it=from_[i]:=⟨_,rfl⟩
   have hx:from_[i]?=some it:=by rw[bt];exact aA hlt
   have hss:gP g from_ i=gY g i it:=by rw[gP,eC hlt,bt]
   rw[hss] at hst hlt2
   have hgi:=hg it (by rw[bt];exact aJ hlt)
   have hso:=fy cD (show it∈from_ by rw[bt];exact aJ hlt)
   rw[d4] at hsz
   obtain⟨table,as_,on⟩:=it
   rw[dk,aO] at hso
   have hon:on.length<=1048576:=by omega
   have hol:(on.length<=9223372036854775807)=True:=eq_true aa
   have i0:((0:Int)<=(i:Int))=True:=eq_true aa
   have iL:((i:Int)<(from_.length:Int))=True:=eq_true aa
   rcases hL:on with _|⟨e,r⟩
   ·have hle:sw g on=[]:=by rw[hL];rfl
    have hlen:on.length=0:=by rw[hL];rfl
    have op:¬(0:Int)<on.length:=by omega
    have oz:(on.length:Int)=0:=by omega
    by_cases hi0:i=0
    ·have ip:¬(0:Int)<i:=by omega
     have hsrc:gY g i (Source.mk table as_ on)=[]++(nT table::(dh as_++[])):=by
      show (if 0<i then (if 0<on.length then [kT 4] else [eK]) else [])++(nT table::(dh as_++sw g on))=_
      rw[hle]
      rw[if_neg aa]
     rw[hsrc] at hlt2
     simp only[ll] at hlt2
     simp only[tt,seval,h7,h0,ax ip]
     apply iv 0 7 1 2
     case h1=>
      refine dDrawn.intro [58] (.take 0 (.take 1 (.take 2 (.take 3 (.take 4 (.take 5 (.take 9 (.take 10 (.take 11 (.take 12 (.br 6 (.br 7 (.br 8 (.take 13 (.br 14 (.take 15 .done) .nobr)) (.br 13 (.br 8 (.br 14 (.take 15 .done) .nobr) .nobr) .nobr)) (.br 13 (.br 7 (.br 8 (.br 14 (.take 15 .done) .nobr) .nobr) .nobr) .nobr)) (.br 13 (.br 6 (.br 7 (.br 8 (.br 14 (.take 15 .done) .nobr) .nobr) .nobr) .nobr) .nobr)))))))))))) ae ?_
      simp only[tt,seval]
      all_goals try simp only[tt,seval,h7,h0,cW hx Source.row_len,i0,iL,Source.row_mk]
      all_goals repeat' first|refine ft ?_ ?_|refine cn ?_ ?_
      all_goals
       refine cZ (eP table) ?_ ?_<;>simp only[tt,seval,nT,Tok.row]
      all_goals repeat' first|refine rG ?_ ?_|refine iR ?_ ?_|refine iS ?_ ?_
      all_goals
       refine j3 ?_
       rw[ey (es),dB (es) (Tok.mk 2 table 0)]
      all_goals repeat' first|refine ft ?_ ?_|refine cn ?_ ?_
      all_goals
       refine cZ (oA (es++[(Tok.mk 2 table 0)]) as_ au) ?_ ?_
       ·simp only[tt,seval]
        decide
       simp only[tt,seval,h7]
      all_goals exact⟨rfl,rfl,rfl,rfl,rfl,rfl⟩
     case h2=>
      intro f' hj0 hj1 hj2 hj3
      simp only[tt,seval,hj2,hj1,cW hx Source.row_len,i0,iL,hol,Source.row_mk,ax op]
      try rw[dY i aa]
      refine⟨[.ren 10058 10078],ah,ah,?_⟩
      simp only[tt,seval,ng,hj0]
      exact⟨[(10078,.arr 129 (es++[(Tok.mk 2 table 0)]++dh as_).length ((es++[(Tok.mk 2 table 0)]++dh as_).flatMap Tok.row) none)],none,al rfl (ao _),aq _,⟨i+1,es++[(Tok.mk 2 table 0)]++dh as_,rfl,rfl,aa,by rw[hst,hes0,hsrc];simp [nT,aK],rfl,rfl⟩,az⟩
    ·have ip:(0:Int)<i:=by omega
     have hsrc:gY g i (Source.mk table as_ on)=[eK]++(nT table::(dh as_++[])):=by
      show (if 0<i then (if 0<on.length then [kT 4] else [eK]) else [])++(nT table::(dh as_++sw g on))=_
      rw[hle]
      rw[if_pos aa];rw[if_neg aa]
     rw[hsrc] at hlt2
     simp only[ll] at hlt2
     simp only[tt,seval,h7,h0,cW hx Source.row_len,i0,iL,hol,Source.row_mk,aw ip,ax op,aw oz]
     refine cZ (bR ⟨#[44]⟩) ?_ ?_<;>simp only[tt,seval,gT,Tok.row]
     refine j3 ?_
     rw[ey (es),dB (es) (Tok.mk 5 ⟨#[44]⟩ 0)]
     apply iv 0 7 1 2
     case h1=>
      refine dDrawn.intro [58] (.take 0 (.take 1 (.take 2 (.take 3 (.take 4 (.take 5 (.take 9 (.take 10 (.take 11 (.take 12 (.br 6 (.br 7 (.br 8 (.take 13 (.br 14 (.take 15 .done) .nobr)) (.br 13 (.br 8 (.br 14 (.take 15 .done) .nobr) .nobr) .nobr)) (.br 13 (.br 7 (.br 8 (.br 14 (.take 15 .done) .nobr) .nobr) .nobr) .nobr)) (.br 13 (.br 6 (.br 7 (.br 8 (.br 14 (.take 15 .done) .nobr) .nobr) .nobr) .nobr) .nobr)))))))))))) ae ?_
      simp only[tt,seval]
      all_goals try simp only[tt,seval,h7,cW hx Source.row_len,i0,iL,Source.row_mk]
      all_goals repeat' first|refine ft ?_ ?_|refine cn ?_ ?_
      all_goals
       refine cZ (eP table) ?_ ?_<;>simp only[tt,seval,nT,Tok.row]
      all_goals repeat' first|refine rG ?_ ?_|refine iR ?_ ?_|refine iS ?_ ?_
      all_goals
       refine j3 ?_
       rw[ey (es++[(Tok.mk 5 ⟨#[44]⟩ 0)]),dB (es++[(Tok.mk 5 ⟨#[44]⟩ 0)]) (Tok.mk 2 table 0)]
      all_goals repeat' first|refine ft ?_ ?_|refine cn ?_ ?_
      all_goals
       refine cZ (oA (es++[(Tok.mk 5 ⟨#[44]⟩ 0)]++[(Tok.mk 2 table 0)]) as_ au) ?_ ?_
       ·simp only[tt,seval]
        decide
       simp only[tt,seval,h7]
      all_goals exact⟨rfl,rfl,rfl,rfl,rfl,rfl⟩
     case h2=>
      intro f' hj0 hj1 hj2 hj3
      simp only[tt,seval,hj2,hj1,cW hx Source.row_len,i0,iL,hol,Source.row_mk,ax op]
      try rw[dY i aa]
      refine⟨[.ren 10058 10078],ah,ah,?_⟩
      simp only[tt,seval,ng,hj0]
      exact⟨[(10078,.arr 129 (es++[(Tok.mk 5 ⟨#[44]⟩ 0)]++[(Tok.mk 2 table 0)]++dh as_).length ((es++[(Tok.mk 5 ⟨#[44]⟩ 0)]++[(Tok.mk 2 table 0)]++dh as_).flatMap Tok.row) none)],none,al rfl (ao _),aq _,⟨i+1,es++[(Tok.mk 5 ⟨#[44]⟩ 0)]++[(Tok.mk 2 table 0)]++dh as_,rfl,rfl,aa,by rw[hst,hes0,hsrc];simp [eK,gT,nT,aK],rfl,rfl⟩,az⟩
   ·have hle0:sw g on=kT 5::g e:=by rw[hL];rfl
    have hlen:on.length=r.length+1:=by rw[hL];rfl
    have hxe:=hgi e (by show e∈on;rw[hL];simp)
    obtain⟨le,hle1⟩:∃le,le=g e:=⟨_,rfl⟩
    have hle:sw g on=kT 5::le:=by rw[hle0,hle1]
    rw[<-hle1] at hxe
    have hxe:∀out:List Tok,out.length+le.length<=1000000->Cl Tryz.prog 60 [.c (.ow 129 (out).length ((out).flatMap Tok.row) none),.ag (ar e.row),vb full] [] fun r _=>r = .c (.ow 129 (out++le).length ((out++le).flatMap Tok.row) none):=hxe
    have hpos:((0:Int)<on.length)=True:=eq_true aa
    have op:(0:Int)<on.length:=by omega
    have oz:¬(on.length:Int)=0:=by omega
    by_cases hi0:i=0
    ·have ip:¬(0:Int)<i:=by omega
     have hsrc:gY g i (Source.mk table as_ on)=[]++(nT table::(dh as_++(kT 5::le))):=by
      show (if 0<i then (if 0<on.length then [kT 4] else [eK]) else [])++(nT table::(dh as_++sw g on))=_
      rw[hle]
      rw[if_neg aa]
     rw[hsrc] at hlt2
     simp only[ll] at hlt2
     simp only[tt,seval,h7,h0,ax ip]
     apply iv 0 7 1 2
     case h1=>
      refine dDrawn.intro [58] (.take 0 (.take 1 (.take 2 (.take 3 (.take 4 (.take 5 (.take 9 (.take 10 (.take 11 (.take 12 (.br 6 (.br 7 (.br 8 (.take 13 (.br 14 (.take 15 .done) .nobr)) (.br 13 (.br 8 (.br 14 (.take 15 .done) .nobr) .nobr) .nobr)) (.br 13 (.br 7 (.br 8 (.br 14 (.take 15 .done) .nobr) .nobr) .nobr) .nobr)) (.br 13 (.br 6 (.br 7 (.br 8 (.br 14 (.take 15 .done) .nobr) .nobr) .nobr) .nobr) .nobr)))))))))))) ae ?_
      simp only[tt,seval]
      all_goals try simp only[tt,seval,h7,h0,cW hx Source.row_len,i0,iL,Source.row_mk]
      all_goals repeat' first|refine ft ?_ ?_|refine cn ?_ ?_
      all_goals
       refine cZ (eP table) ?_ ?_<;>simp only[tt,seval,nT,Tok.row]
      all_goals repeat' first|refine rG ?_ ?_|refine iR ?_ ?_|refine iS ?_ ?_
      all_goals
       refine j3 ?_
       rw[ey (es),dB (es) (Tok.mk 2 table 0)]
      all_goals repeat' first|refine ft ?_ ?_|refine cn ?_ ?_
      all_goals
       refine cZ (oA (es++[(Tok.mk 2 table 0)]) as_ au) ?_ ?_
       ·simp only[tt,seval]
        decide
       simp only[tt,seval,h7]
      all_goals exact⟨rfl,rfl,rfl,rfl,rfl,rfl⟩
     case h2=>
      intro f' hj0 hj1 hj2 hj3
      simp only[tt,seval,hj2,hj1,cW hx Source.row_len,i0,iL,hol,Source.row_mk,aw op]
      apply iv 0 7 1 2
      case h1=>
       refine dDrawn.intro [78] (.take 0 (.take 4 (.take 5 (.take 6 (.take 7 (.take 11 (.br 1 (.br 2 (.br 3 (.take 8 (.take 9 (.take 10 (.br 12 (.take 13 .done) .nobr)))) (.br 8 (.take 9 (.br 3 (.take 10 (.br 12 (.take 13 .done) .nobr)) (.br 10 (.br 3 (.br 12 (.take 13 .done) .nobr) .nobr) .nobr))) .nobr)) (.br 8 (.take 9 (.br 2 (.br 3 (.take 10 (.br 12 (.take 13 .done) .nobr)) (.br 10 (.br 3 (.br 12 (.take 13 .done) .nobr) .nobr) .nobr)) (.br 10 (.br 2 (.br 3 (.br 12 (.take 13 .done) .nobr) .nobr) .nobr) .nobr))) .nobr)) (.br 8 (.take 9 (.br 1 (.br 2 (.br 3 (.take 10 (.br 12 (.take 13 .done) .nobr)) (.br 10 (.br 3 (.br 12 (.take 13 .done) .nobr) .nobr) .nobr)) (.br 10 (.br 2 (.br 3 (.br 12 (.take 13 .done) .nobr) .nobr) .nobr) .nobr)) (.br 10 (.br 1 (.br 2 (.br 3 (.br 12 (.take 13 .done) .nobr) .nobr) .nobr) .nobr) .nobr))) .nobr)))))))) ae ?_
       simp only[tt,seval]
       all_goals try simp only[tt,seval,hj0,hj1,hj2,hj3,cW hx Source.row_len,i0,iL,Source.row_mk,hpos,vM hL aI,cT (aI e),aI]
       all_goals repeat' first|refine ft ?_ ?_|refine cn ?_ ?_
       all_goals
        refine cZ (bM 5 aa aa) ?_ ?_<;>simp only[tt,seval,kT,Tok.row,hpos,vM hL aI,cT (aI e),aI]
       all_goals repeat' first|refine rG ?_ ?_|refine iR ?_ ?_|refine iS ?_ ?_
       all_goals
        refine j3 ?_
        rw[ey (es++[(Tok.mk 2 table 0)]++dh as_),dB (es++[(Tok.mk 2 table 0)]++dh as_) (Tok.mk 1 (kw 5) 0)]
       all_goals repeat' first|refine ft ?_ ?_|refine cn ?_ ?_
       all_goals
        refine cZ (hxe (es++[(Tok.mk 2 table 0)]++dh as_++[(Tok.mk 1 (kw 5) 0)]) au) ?_ ?_
        ·simp only[tt,seval]
         decide
        simp only[tt,seval,hj1,hj2,hj3]
       all_goals exact⟨rfl,rfl,rfl,rfl,rfl,rfl⟩
      case h2=>
       intro f' hj0 hj1 hj2 hj3
       simp only[tt,seval,hj1]
       try rw[dY i aa]
       refine⟨[],?_⟩
       simp only[tt,seval,ng,hj0]
       exact⟨[(10078,.arr 129 (es++[(Tok.mk 2 table 0)]++dh as_++[(Tok.mk 1 (kw 5) 0)]++le).length ((es++[(Tok.mk 2 table 0)]++dh as_++[(Tok.mk 1 (kw 5) 0)]++le).flatMap Tok.row) none)],none,al rfl (ao _),aq _,⟨i+1,es++[(Tok.mk 2 table 0)]++dh as_++[(Tok.mk 1 (kw 5) 0)]++le,rfl,rfl,aa,by rw[hst,hes0,hsrc];simp [kT,nT,aK],rfl,rfl⟩,az⟩
    ·have ip:(0:Int)<i:=by omega
     have hsrc:gY g i (Source.mk table as_ on)=[kT 4]++(nT table::(dh as_++(kT 5::le))):=by
      show (if 0<i then (if 0<on.length then [kT 4] else [eK]) else [])++(nT table::(dh as_++sw g on))=_
      rw[hle]
      rw[if_pos aa];rw[if_pos aa]
     rw[hsrc] at hlt2
     simp only[ll] at hlt2
     simp only[tt,seval,h7,h0,cW hx Source.row_len,i0,iL,hol,Source.row_mk,aw ip,aw op,ax oz]
     refine cZ (bM 4 aa aa) ?_ ?_<;>simp only[tt,seval,kT,Tok.row,h7,cW hx Source.row_len,i0,iL,hol,Source.row_mk,aw ip,ax oz]
     refine j3 ?_
     rw[ey (es),dB (es) (Tok.mk 1 (kw 4) 0)]
     apply iv 0 7 1 2
     case h1=>
      refine dDrawn.intro [58] (.take 0 (.take 1 (.take 2 (.take 3 (.take 4 (.take 5 (.take 9 (.take 10 (.take 11 (.take 12 (.br 6 (.br 7 (.br 8 (.take 13 (.br 14 (.take 15 .done) .nobr)) (.br 13 (.br 8 (.br 14 (.take 15 .done) .nobr) .nobr) .nobr)) (.br 13 (.br 7 (.br 8 (.br 14 (.take 15 .done) .nobr) .nobr) .nobr) .nobr)) (.br 13 (.br 6 (.br 7 (.br 8 (.br 14 (.take 15 .done) .nobr) .nobr) .nobr) .nobr) .nobr)))))))))))) ae ?_
      simp only[tt,seval]
      all_goals try simp only[tt,seval,h7,cW hx Source.row_len,i0,iL,Source.row_mk]
      all_goals repeat' first|refine ft ?_ ?_|refine cn ?_ ?_
      all_goals
       refine cZ (eP table) ?_ ?_<;>simp only[tt,seval,nT,Tok.row]
      all_goals repeat' first|refine rG ?_ ?_|refine iR ?_ ?_|refine iS ?_ ?_
      all_goals
       refine j3 ?_
       rw[ey (es++[(Tok.mk 1 (kw 4) 0)]),dB (es++[(Tok.mk 1 (kw 4) 0)]) (Tok.mk 2 table 0)]
      all_goals repeat' first|refine ft ?_ ?_|refine cn ?_ ?_
      all_goals
       refine cZ (oA (es++[(Tok.mk 1 (kw 4) 0)]++[(Tok.mk 2 table 0)]) as_ au) ?_ ?_
       ·simp only[tt,seval]
        decide
       simp only[tt,seval,h7]
      all_goals exact⟨rfl,rfl,rfl,rfl,rfl,rfl⟩
     case h2=>
      intro f' hj0 hj1 hj2 hj3
      simp only[tt,seval,hj2,hj1,cW hx Source.row_len,i0,iL,hol,Source.row_mk,aw op]
      apply iv 0 7 1 2
      case h1=>
       refine dDrawn.intro [78] (.take 0 (.take 4 (.take 5 (.take 6 (.take 7 (.take 11 (.br 1 (.br 2 (.br 3 (.take 8 (.take 9 (.take 10 (.br 12 (.take 13 .done) .nobr)))) (.br 8 (.take 9 (.br 3 (.take 10 (.br 12 (.take 13 .done) .nobr)) (.br 10 (.br 3 (.br 12 (.take 13 .done) .nobr) .nobr) .nobr))) .nobr)) (.br 8 (.take 9 (.br 2 (.br 3 (.take 10 (.br 12 (.take 13 .done) .nobr)) (.br 10 (.br 3 (.br 12 (.take 13 .done) .nobr) .nobr) .nobr)) (.br 10 (.br 2 (.br 3 (.br 12 (.take 13 .done) .nobr) .nobr) .nobr) .nobr))) .nobr)) (.br 8 (.take 9 (.br 1 (.br 2 (.br 3 (.take 10 (.br 12 (.take 13 .done) .nobr)) (.br 10 (.br 3 (.br 12 (.take 13 .done) .nobr) .nobr) .nobr)) (.br 10 (.br 2 (.br 3 (.br 12 (.take 13 .done) .nobr) .nobr) .nobr) .nobr)) (.br 10 (.br 1 (.br 2 (.br 3 (.br 12 (.take 13 .done) .nobr) .nobr) .nobr) .nobr) .nobr))) .nobr)))))))) ae ?_
       simp only[tt,seval]
       all_goals try simp only[tt,seval,hj0,hj1,hj2,hj3,cW hx Source.row_len,i0,iL,Source.row_mk,hpos,vM hL aI,cT (aI e),aI]
       all_goals repeat' first|refine ft ?_ ?_|refine cn ?_ ?_
       all_goals
        refine cZ (bM 5 aa aa) ?_ ?_<;>simp only[tt,seval,kT,Tok.row,hpos,vM hL aI,cT (aI e),aI]
       all_goals repeat' first|refine rG ?_ ?_|refine iR ?_ ?_|refine iS ?_ ?_
       all_goals
        refine j3 ?_
        rw[ey (es++[(Tok.mk 1 (kw 4) 0)]++[(Tok.mk 2 table 0)]++dh as_),dB (es++[(Tok.mk 1 (kw 4) 0)]++[(Tok.mk 2 table 0)]++dh as_) (Tok.mk 1 (kw 5) 0)]
       all_goals repeat' first|refine ft ?_ ?_|refine cn ?_ ?_
       all_goals
        refine cZ (hxe (es++[(Tok.mk 1 (kw 4) 0)]++[(Tok.mk 2 table 0)]++dh as_++[(Tok.mk 1 (kw 5) 0)]) au) ?_ ?_
        ·simp only[tt,seval]
         decide
        simp only[tt,seval,hj1,hj2,hj3]
       all_goals exact⟨rfl,rfl,rfl,rfl,rfl,rfl⟩
      case h2=>
       intro f' hj0 hj1 hj2 hj3
       simp only[tt,seval,hj1]
       try rw[dY i aa]
       refine⟨[],?_⟩
       simp only[tt,seval,ng,hj0]
       exact⟨[(10078,.arr 129 (es++[(Tok.mk 1 (kw 4) 0)]++[(Tok.mk 2 table 0)]++dh as_++[(Tok.mk 1 (kw 5) 0)]++le).length ((es++[(Tok.mk 1 (kw 4) 0)]++[(Tok.mk 2 table 0)]++dh as_++[(Tok.mk 1 (kw 5) 0)]++le).flatMap Tok.row) none)],none,al rfl (ao _),aq _,⟨i+1,es++[(Tok.mk 1 (kw 4) 0)]++[(Tok.mk 2 table 0)]++dh as_++[(Tok.mk 1 (kw 5) 0)]++le,rfl,rfl,aa,by rw[hst,hes0,hsrc];simp [kT,nT,aK],rfl,rfl⟩,az⟩
  ·have hie:i=from_.length:=by omega
   subst hie
   subst hes0
   refine⟨_,[],pU (l:=out++bw (gP g from_) from_.length) (by rfl),ap ?_⟩
   simp only[tt,seval]
theorem qA (e:Expr) (d:Bool) (r:List D):(SortKey.mk e d).row++r=e.row++(bool d::r):=by rw[SortKey.row_mk,aK];rfl
theorem K3 (e:Expr) (r:List D):List.drop 10 (e.row++r)=r:=by
 have:=List.drop_left (l₁ := e.row) (l₂ := r)
 rwa[aI] at this
set_option maxHeartbeats 4000000 in
theorem sO (full:Bool) (gf:Expr->Bool) (g:Expr->List Tok) (q:Query) (hf:jQ gf q=true) (hlim:q.lim<=9223372036854775807) (hsz:szQuery q<=1048576) (hg:∀x∈exprsQ q,Al full x (g x)):K2 full q (kV g q):=by
 intro out hroom
 obtain⟨distinct,items,from_,where_,order,limit⟩:=q
 obtain⟨_,_,_,_,hl1,_,_,_⟩:=iV hf
 have hlim:limit<=9223372036854775807:=hlim
 rw[dt,dM,aO,cI] at hsz
 have eq:exprsQ (.mk distinct items from_ where_ order limit)=aY items++from_.flatMap Source.on++where_++order.map SortKey.e:=rfl
 rw[eq] at hg
 have hgI:∀x∈items,x.star=false->Al full x.e (g x.e):=fun x hx hs=>hg _ (by
  simp only[List.mem_append,aY,List.mem_map,List.mem_filter]
  exact .inl (.inl (.inl ⟨_,⟨hx,by rw[hs];rfl⟩,rfl⟩)))
 have hgS:∀s∈from_,∀x∈s.on,Al full x (g x):=fun s hs x hx=>hg _ (by
  simp only[List.mem_append,List.mem_flatMap]
  exact .inl (.inl (.inr ⟨_,hs,hx⟩)))
 have hgW:∀x∈where_,Al full x (g x):=fun x hx=>hg _ (by simp [hx])
 have hgO:∀k∈order,Al full k.e (g k.e):=fun k hk=>hg _ (by
  simp only[List.mem_append,List.mem_map]
  exact .inr ⟨_,hk,rfl⟩)
 have hsf:cQ from_<=1048576:=by omega
 clear hf hg eq
 rw[bj]
 obtain⟨dl,hdl⟩:∃dl,dl=(if distinct=true then [kT 2] else []):=⟨_,rfl⟩
 have e:kV g (.mk distinct items from_ where_ order limit)=kT 1::(dl++(bw (dX g items) items.length++(kT 3::(bw (gP g from_) from_.length++(pS g where_++(bw (fw g order) order.length++jR limit)))))):=by rw[hdl];rfl
 rw[e] at hroom ⊢
 clear e
 simp only[ll] at hroom
 refine ai ac false Tryz.func48 rfl ae ?_
 simp only[Tryz.f48,tt,seval]
 refine cZ (bM 1 aa aa) ?_ ?_<;>simp only[tt,seval,kT,Tok.row]
 refine j3 ?_
 rw[ey (out),dB (out) (Tok.mk 1 (kw 1) 0)]
 refine ab (fun hd=>?_) (fun hd=>?_)
 all_goals first
  | (have hd1:dl=[(Tok.mk 1 (kw 2) 0)]:=by rw[hdl,if_pos hd];rfl
     have hd2:dl.length=1:=by rw[hd1];rfl
     refine iQ (bM 2 aa aa) ?_ ?_ ?_
     ·decide
     ·simp only[tt,seval]
     rintro r rfl
     simp only[tt,seval,kT,Tok.row]
     refine j3 ?_
     rw[ey (out++[(Tok.mk 1 (kw 1) 0)]),dB (out++[(Tok.mk 1 (kw 1) 0)]) (Tok.mk 1 (kw 2) 0)]
     rw[<-hd1]
     refine dLoop.gh [.ren 18 10039] ⟨ah,ah,?_⟩)
  | (have hd1:dl=[]:=by rw[hdl,hd];rfl
     rw[show out++[(Tok.mk 1 (kw 1) 0)]=out++[(Tok.mk 1 (kw 1) 0)]++dl by rw[hd1,List.append_nil]]
     refine dLoop.gh [.ren 12 10039] ⟨ah,ah,?_⟩)
 all_goals
  obtain⟨L1,hL1⟩:∃L1,L1=out++[(Tok.mk 1 (kw 1) 0)]++dl:=⟨_,rfl⟩
  rw[<-hL1]
  have hel1:L1.length=out.length+1+dl.length:=by rw[hL1];simp only[ll]
  refine dLoop0.intro (fun f L p=>∃(i:Nat) (es:List Tok),f 7=vi i/\f 0 = .c (.s 10039 es.length)/\i<=items.length/\es=L1++bw (dX g items) i/\L=[(10039,.arr 129 (es).length ((es).flatMap Tok.row) none),(4,.str [.v (.bool distinct),.sl items.length (items.flatMap Item.row) none,.sl from_.length (from_.flatMap Source.row) none,.sl where_.length (where_.flatMap Expr.row) none,.sl order.length (order.flatMap SortKey.row) none,.v (.int .i64 limit)])]/\p=none) (fun f _ _=>(items.length-eN (f 7)).toNat) [(10039,.arr 129 (L1).length ((L1).flatMap Tok.row) none),(4,.str [.v (.bool distinct),.sl items.length (items.flatMap Item.row) none,.sl from_.length (from_.flatMap Source.row) none,.sl where_.length (where_.flatMap Expr.row) none,.sl order.length (order.flatMap SortKey.row) none,.v (.int .i64 limit)])] none ⟨al rfl (al rfl (ao _)),aq _,?_⟩ ?_
  ·simp only[tt,seval]
   exact⟨0,L1,rfl,rfl,aa,(List.append_nil _).symm,rfl⟩
  rintro g' L p ⟨i,es,h7,h0,hi,hes0,rfl,rfl⟩
  simp only[tt,seval] at h7 h0
  simp only[tt,seval,h7,h0,Int.ofNat_lt]
  refine fun _=>ab (fun hlt=>?_) (fun hge=>?_)
  ·have hlt:i<items.length:=by omega
   have hst:=dd (dX g items) i
   have hlt2:=jc (dX g items) hlt
   have hel:es.length=L1.length+(bw (dX g items) i).length:=by rw[hes0,aB]
   obtain⟨it,bt⟩:∃it,it=items[i]:=⟨_,rfl⟩
   have hx:items[i]?=some it:=by rw[bt];exact aA hlt
   have hit2:dX g items i=kB i++cM g it:=by rw[dX,eC hlt,bt]
   rw[hit2] at hlt2
   have hgi:=hgI it (by rw[bt];exact aJ hlt)
   have i0:((0:Int)<=(i:Int))=True:=eq_true aa
   have iL:((i:Int)<(items.length:Int))=True:=eq_true aa
   have iT:(i<items.length)=True:=eq_true hlt
   refine ab (fun hc=>?_) (fun hc=>?_)
   ·have hcl:kB i=[(Tok.mk 5 ⟨#[44]⟩ 0)]:=if_pos aa
    rw[hcl] at hlt2 hit2
    simp only[ll] at hlt2
    refine cZ (bR ⟨#[44]⟩) ?_ ?_<;>simp only[tt,seval,gT,iT,Tok.row,h7]
    refine j3 ?_
    rw[ey (es),dB (es) (Tok.mk 5 ⟨#[44]⟩ 0)]
    simp only[tt,seval,cW hx Item.row_len,i0,iL,Item.tk,Item.row_len]
    refine cZ (tR full it g hgi (es++[(Tok.mk 5 ⟨#[44]⟩ 0)]) au) ?_ ?_<;>simp only[tt,seval,h7]
    try rw[dY i aa]
    exact⟨[(10039,.arr 129 (es++[(Tok.mk 5 ⟨#[44]⟩ 0)]++cM g it).length ((es++[(Tok.mk 5 ⟨#[44]⟩ 0)]++cM g it).flatMap Tok.row) none),(4,.str [.v (.bool distinct),.sl items.length (items.flatMap Item.row) none,.sl from_.length (from_.flatMap Source.row) none,.sl where_.length (where_.flatMap Expr.row) none,.sl order.length (order.flatMap SortKey.row) none,.v (.int .i64 limit)])],none,al rfl (al rfl (ao _)),aq _,⟨i+1,es++[(Tok.mk 5 ⟨#[44]⟩ 0)]++cM g it,rfl,rfl,aa,by rw[hst,hes0,hit2];simp [aK],rfl,rfl⟩,az⟩
   ·have hcl:kB i=[]:=if_neg aa
    rw[hcl] at hlt2 hit2
    simp only[ll] at hlt2
    simp only[tt,seval,cW hx Item.row_len,i0,iT,Item.tk,Item.row_len]
    refine cZ (tR full it g hgi (es) au) ?_ ?_<;>simp only[tt,seval,h7]
    try rw[dY i aa]
    exact⟨[(10039,.arr 129 (es++cM g it).length ((es++cM g it).flatMap Tok.row) none),(4,.str [.v (.bool distinct),.sl items.length (items.flatMap Item.row) none,.sl from_.length (from_.flatMap Source.row) none,.sl where_.length (where_.flatMap Expr.row) none,.sl order.length (order.flatMap SortKey.row) none,.v (.int .i64 limit)])],none,al rfl (al rfl (ao _)),aq _,⟨i+1,es++cM g it,rfl,rfl,aa,by rw[hst,hes0,hit2];simp [aK],rfl,rfl⟩,az⟩
  have hie:i=items.length:=by omega
  subst hie
  have hel2:es.length=L1.length+(bw (dX g items) items.length).length:=by rw[hes0,aB]
  clear hi hge
  apply tK 0 4 2
  case h1=>
   refine dDrawn.intro [47] (.take 0 (.take 4 (.take 6 (.br 1 (.br 2 (.br 3 (.take 5 (.br 7 (.take 8 .done) .nobr)) (.br 5 (.br 3 (.br 7 (.take 8 .done) .nobr) .nobr) .nobr)) (.br 5 (.br 2 (.br 3 (.br 7 (.take 8 .done) .nobr) .nobr) .nobr) .nobr)) (.br 5 (.br 1 (.br 2 (.br 3 (.br 7 (.take 8 .done) .nobr) .nobr) .nobr) .nobr) .nobr))))) ae ?_
   simp only[tt,seval]
   all_goals repeat' first|refine ft ?_ ?_|refine cn ?_ ?_
   all_goals
    refine cZ (bM 3 aa aa) ?_ ?_<;>simp only[tt,seval,kT,Tok.row,h0]
   all_goals repeat' first|refine rG ?_ ?_|refine iR ?_ ?_|refine iS ?_ ?_
   all_goals
    refine j3 ?_
    rw[ey (es),dB (es) (Tok.mk 1 (kw 3) 0)]
   all_goals repeat' first|refine ft ?_ ?_|refine cn ?_ ?_
   all_goals
    refine cZ (BB full from_ g hsf hgS (es++[(Tok.mk 1 (kw 3) 0)]) au) ?_ ?_
    ·simp only[tt,seval]
     decide
    simp only[tt,seval]
   all_goals exact⟨rfl,rfl,rfl,rfl,rfl⟩
  case h2=>
   intro f' hj0 hj1 hj2
   simp only[tt,seval,hj0,hj1,hj2]
   refine cZ (yN full where_ g aa hgW (es++[(Tok.mk 1 (kw 3) 0)]++bw (gP g from_) from_.length) au) ?_ ?_<;>simp only[tt,seval]
   obtain⟨L5,hL5⟩:∃L5,L5=es++[(Tok.mk 1 (kw 3) 0)]++bw (gP g from_) from_.length++pS g where_:=⟨_,rfl⟩
   have hel5:L5.length=es.length+1+(bw (gP g from_) from_.length).length+(pS g where_).length:=by rw[hL5];simp only[ll]
   rw[<-hL5]
   refine dLoop.gh [.ren 10052 10079] ⟨ah,ah,?_⟩
   refine dLoop0.introR (fun f L p=>∃(i:Nat) (es:List Tok),f 8=vi i/\f 0 = .c (.s 10079 es.length)/\i<=order.length/\es=L5++bw (fw g order) i/\L=[(10079,.arr 129 (es).length ((es).flatMap Tok.row) none),(4,.str [.v (.bool distinct),.sl items.length (items.flatMap Item.row) none,.sl from_.length (from_.flatMap Source.row) none,.sl where_.length (where_.flatMap Expr.row) none,.sl order.length (order.flatMap SortKey.row) none,.v (.int .i64 limit)])]/\p=none) (fun f _ _=>(order.length-eN (f 8)).toNat) [(10079,.arr 129 (L5).length ((L5).flatMap Tok.row) none),(4,.str [.v (.bool distinct),.sl items.length (items.flatMap Item.row) none,.sl from_.length (from_.flatMap Source.row) none,.sl where_.length (where_.flatMap Expr.row) none,.sl order.length (order.flatMap SortKey.row) none,.v (.int .i64 limit)])] none ⟨al rfl (al rfl (ao _)),aq _,?_⟩ ?_
   ·simp only[tt,seval]
    exact⟨0,L5,rfl,rfl,aa,(List.append_nil _).symm,rfl⟩
   rintro g' L p ⟨i,ez,h8,hz0,hi,hez0,rfl,rfl⟩
   simp only[tt,seval] at h8 hz0
   simp only[tt,seval,h8,hz0,hj1,Int.ofNat_lt]
   refine fun _=>ab (fun hlt=>?_) (fun hge=>?_)
   ·have hlt:i<order.length:=by omega
    have hst:=dd (fw g order) i
    have hlt2:=jc (fw g order) hlt
    have hel:ez.length=L5.length+(bw (fw g order) i).length:=by rw[hez0,aB]
    obtain⟨it,bt⟩:∃it,it=order[i]:=⟨_,rfl⟩
    have hx:order[i]?=some it:=by rw[bt];exact aA hlt
    have hit2:fw g order i=(if i=0 then [kT 7,kT 8] else [eK])++jr g it:=by rw[fw,eC hlt,bt]
    have hge:=hgO it (by rw[bt];exact aJ hlt)
    have i0:((0:Int)<=(i:Int))=True:=eq_true aa
    have iL:((i:Int)<(order.length:Int))=True:=eq_true aa
    obtain⟨e,desc⟩:=it
    have hge:∀out:List Tok,out.length+(g e).length<=1000000->Cl Tryz.prog 60 [.c (.ow 129 (out).length ((out).flatMap Tok.row) none),.ag (ar e.row),vb full] [] fun r _=>r = .c (.ow 129 (out++g e).length ((out++g e).flatMap Tok.row) none):=hge
    have hkt:jr g (SortKey.mk e desc)=g e++(if desc=true then [kT 10] else []):=rfl
    rw[hkt] at hit2
    rw[hit2] at hlt2
    have hop:0<=(if desc=true then [kT 10] else []).length:=Nat.zero_le _
    refine ab (fun hc=>?_) (fun hc=>?_)
    ·have hc:i=0:=by omega
     rw[if_pos hc] at hlt2 hit2
     simp only[ll] at hlt2
     refine cZ (bM 7 aa aa) ?_ ?_<;>simp only[tt,seval,kT,Tok.row]
     refine cZ (bM 8 aa aa) ?_ ?_<;>simp only[tt,seval,kT,Tok.row,h8,hj1,hj2]
     refine j3 ?_
     rw[xm (ez),sN (ez) (Tok.mk 1 (kw 7) 0) (Tok.mk 1 (kw 8) 0)]
     simp only[tt,seval,cW hx SortKey.row_len,i0,iL,qA,Expr.tk,aI]
     refine cZ (hge (ez++[(Tok.mk 1 (kw 7) 0),(Tok.mk 1 (kw 8) 0)]) au) ?_ ?_<;>simp only[tt,seval,h8,hj1,cW hx SortKey.row_len,i0,iL,qA,K3]
     refine ab (fun hd=>?_) (fun hd=>?_)
     ·subst hd
      rw[if_pos rfl] at hlt2 hit2
      simp only[ll] at hlt2
      refine cZ (bM 10 aa aa) ?_ ?_<;>simp only[tt,seval,kT,Tok.row,h8]
      refine j3 ?_
      rw[ey (ez++[(Tok.mk 1 (kw 7) 0),(Tok.mk 1 (kw 8) 0)]++g e),dB (ez++[(Tok.mk 1 (kw 7) 0),(Tok.mk 1 (kw 8) 0)]++g e) (Tok.mk 1 (kw 10) 0)]
      try rw[dY i aa]
      refine⟨[.ren 89 10079],ah,ah,?_⟩
      simp only[tt,seval,ng]
      exact⟨[(10079,.arr 129 (ez++[(Tok.mk 1 (kw 7) 0),(Tok.mk 1 (kw 8) 0)]++g e++[(Tok.mk 1 (kw 10) 0)]).length ((ez++[(Tok.mk 1 (kw 7) 0),(Tok.mk 1 (kw 8) 0)]++g e++[(Tok.mk 1 (kw 10) 0)]).flatMap Tok.row) none),(4,.str [.v (.bool distinct),.sl items.length (items.flatMap Item.row) none,.sl from_.length (from_.flatMap Source.row) none,.sl where_.length (where_.flatMap Expr.row) none,.sl order.length (order.flatMap SortKey.row) none,.v (.int .i64 limit)])],none,al rfl (al rfl (ao _)),aq _,⟨i+1,ez++[(Tok.mk 1 (kw 7) 0),(Tok.mk 1 (kw 8) 0)]++g e++[(Tok.mk 1 (kw 10) 0)],rfl,rfl,aa,by rw[hst,hez0,hit2];simp [kT,aK],rfl,rfl⟩,az⟩
     ·subst hd
      rw[if_neg Bool.false_ne_true] at hlt2 hit2
      try rw[dY i aa]
      refine⟨[],?_⟩
      simp only[tt,seval,ng]
      exact⟨[(10079,.arr 129 (ez++[(Tok.mk 1 (kw 7) 0),(Tok.mk 1 (kw 8) 0)]++g e).length ((ez++[(Tok.mk 1 (kw 7) 0),(Tok.mk 1 (kw 8) 0)]++g e).flatMap Tok.row) none),(4,.str [.v (.bool distinct),.sl items.length (items.flatMap Item.row) none,.sl from_.length (from_.flatMap Source.row) none,.sl where_.length (where_.flatMap Expr.row) none,.sl order.length (order.flatMap SortKey.row) none,.v (.int .i64 limit)])],none,al rfl (al rfl (ao _)),aq _,⟨i+1,ez++[(Tok.mk 1 (kw 7) 0),(Tok.mk 1 (kw 8) 0)]++g e,rfl,rfl,aa,by rw[hst,hez0,hit2];simp [kT,aK],rfl,rfl⟩,az⟩
    ·have hc:¬i=0:=by omega
     rw[if_neg hc] at hlt2 hit2
     simp only[ll] at hlt2
     refine cZ (bR ⟨#[44]⟩) ?_ ?_<;>simp only[tt,seval,gT,Tok.row,h8,hj1,hj2]
     refine j3 ?_
     rw[ey (ez),dB (ez) (Tok.mk 5 ⟨#[44]⟩ 0)]
     simp only[tt,seval,cW hx SortKey.row_len,i0,iL,qA,Expr.tk,aI]
     refine cZ (hge (ez++[(Tok.mk 5 ⟨#[44]⟩ 0)]) au) ?_ ?_<;>simp only[tt,seval,h8,hj1,cW hx SortKey.row_len,i0,iL,qA,K3]
     refine ab (fun hd=>?_) (fun hd=>?_)
     ·subst hd
      rw[if_pos rfl] at hlt2 hit2
      simp only[ll] at hlt2
      refine cZ (bM 10 aa aa) ?_ ?_<;>simp only[tt,seval,kT,Tok.row,h8]
      refine j3 ?_
      rw[ey (ez++[(Tok.mk 5 ⟨#[44]⟩ 0)]++g e),dB (ez++[(Tok.mk 5 ⟨#[44]⟩ 0)]++g e) (Tok.mk 1 (kw 10) 0)]
      try rw[dY i aa]
      refine⟨[.ren 89 10079],ah,ah,?_⟩
      simp only[tt,seval,ng]
      exact⟨[(10079,.arr 129 (ez++[(Tok.mk 5 ⟨#[44]⟩ 0)]++g e++[(Tok.mk 1 (kw 10) 0)]).length ((ez++[(Tok.mk 5 ⟨#[44]⟩ 0)]++g e++[(Tok.mk 1 (kw 10) 0)]).flatMap Tok.row) none),(4,.str [.v (.bool distinct),.sl items.length (items.flatMap Item.row) none,.sl from_.length (from_.flatMap Source.row) none,.sl where_.length (where_.flatMap Expr.row) none,.sl order.length (order.flatMap SortKey.row) none,.v (.int .i64 limit)])],none,al rfl (al rfl (ao _)),aq _,⟨i+1,ez++[(Tok.mk 5 ⟨#[44]⟩ 0)]++g e++[(Tok.mk 1 (kw 10) 0)],rfl,rfl,aa,by rw[hst,hez0,hit2];simp [eK,gT,kT,aK],rfl,rfl⟩,az⟩
     ·subst hd
      rw[if_neg Bool.false_ne_true] at hlt2 hit2
      try rw[dY i aa]
      refine⟨[],?_⟩
      simp only[tt,seval,ng]
      exact⟨[(10079,.arr 129 (ez++[(Tok.mk 5 ⟨#[44]⟩ 0)]++g e).length ((ez++[(Tok.mk 5 ⟨#[44]⟩ 0)]++g e).flatMap Tok.row) none),(4,.str [.v (.bool distinct),.sl items.length (items.flatMap Item.row) none,.sl from_.length (from_.flatMap Source.row) none,.sl where_.length (where_.flatMap Expr.row) none,.sl order.length (order.flatMap SortKey.row) none,.v (.int .i64 limit)])],none,al rfl (al rfl (ao _)),aq _,⟨i+1,ez++[(Tok.mk 5 ⟨#[44]⟩ 0)]++g e,rfl,rfl,aa,by rw[hst,hez0,hit2];simp [eK,gT,aK],rfl,rfl⟩,az⟩
   have hie:i=order.length:=by omega
   subst hie
   have hel6:ez.length=L5.length+(bw (fw g order) order.length).length:=by rw[hez0,aB]
   refine ab (fun hlm=>?_) (fun hlm=>?_)
   ·rw[jR,if_pos hlm] at hroom ⊢
    simp only[ll] at hroom
    apply ed 0
    case h1=>
     refine dDrawn.intro [] (dC [0,4,6,3,9,10,13,15,16]) ae ?_
     simp only[tt,seval]
     all_goals try simp only[tt,seval,hz0,hj1]
     all_goals repeat' first|refine ft ?_ ?_|refine cn ?_ ?_
     all_goals
      refine cZ (bM 11 aa aa) ?_ ?_<;>simp only[tt,seval,kT,Tok.row]
     all_goals repeat' first|refine ft ?_ ?_|refine cn ?_ ?_
     all_goals
      refine cZ (qM limit aa hlim) ?_ ?_<;>simp only[tt,seval]
     all_goals repeat' first|refine rG ?_ ?_|refine iR ?_ ?_|refine iS ?_ ?_
     all_goals
      refine j3 ?_
      rw[xm (ez),sN (ez) (Tok.mk 1 (kw 11) 0) (Tok.mk 3 (dj limit) 0)]
     all_goals exact⟨rfl,rfl,rfl⟩
    case h2=>
     intro f' hk0
     simp only[tt,seval,hk0]
     refine⟨_,[],pU (l:=ez++[(Tok.mk 1 (kw 11) 0),(Tok.mk 3 (dj limit) 0)]) (by rw[hez0,hL5,hes0,hL1];simp [kT,iT,aK]),ap ?_⟩
     simp only[tt,seval]
   ·rw[jR,if_neg hlm] at hroom ⊢
    simp only[ll] at hroom
    simp only[tt,seval]
    refine⟨_,[],pU (l:=ez) (by rw[hez0,hL5,hes0,hL1];simp [aK]),ap ?_⟩
    simp only[tt,seval]
theorem tS (full:Bool) (e:Expr):fmE e=true->Rg e->szExpr e<=1048576->Al full e (nw full e):=by
 refine kD (F1:=tO) (F2:=A7) (F3:=np full) (P:=fun e f n t=>f=true->Rg e->szExpr e<=1048576->Al full e t) (fun e gf gn g hg hf hr hsz=>?_) e
 have hb:∀x,eT x e->gf x=true->Al full x (g x):=fun x hx hx'=>hg x hx hx' (qz hr hx) (Nat.le_trans (gK hx) hsz)
 have hs:∀q∈e.sub,q.lim<=9223372036854775807/\szQuery q<=1048576:=fun q hq=>⟨(uT hr hq).1,Nat.le_trans (lu hq) hsz⟩
 obtain⟨kind,op,not,val,qual,name,kids,sub⟩:=e
 obtain⟨h1,h2,h3⟩:=jS hf
 refine v8 kind op not val qual name kids sub full gf g hf hr.num (fun x hx=>hb x (.inl hx) (h2 x hx)) fun q hq=>?_
 refine sO full gf g q (h3 q hq) (hs q hq).1 (hs q hq).2 fun x hx=>hb x (.inr ⟨q,hq,hx⟩) ?_
 have h4:=h3 q hq
 obtain⟨d,it,fr,wh,od,li⟩:=q
 exact (iV h4).2.2.2.2.2.2.2 x hx
theorem gx (full:Bool) (e:Expr) (hr:Rg e) (h:mA e=true):fmE e=true/\(nw full e).length<=1000000/\(∀t∈nw full e,t.text.size<=1048576)/\(dT (nw full e) (nw full e).length).length<=50000000:=by
 simp only[mA,Bool.and_eq_true,decide_eq_true_eq] at h
 have hs:=I2 full e h.2.2 hr
 exact⟨h.2.2,Nat.le_trans hs.1 aa,fun t ht=>Nat.le_trans (hs.2 t ht) ah,DA hs aa⟩
noncomputable def cA (e:Expr):List Tok:=if mA e=true then nw false e else []
noncomputable def fN (e:Expr):ByteArray:=if mA e=true then bf (nw true e) else ⟨#[]⟩
theorem io (e:Expr) (hr:Rg e):(∀t∈cA e,t.text.size<=1048576)/\(dT (cA e) (cA e).length).length<=50000000:=by
 unfold cA
 split
 ·rename_i h
  exact (gx false e hr h).2.2
 ·exact⟨fun t h=>(by cases h),ah⟩
theorem yO (e:Expr) (hr:Rg e) (hsz:szExpr e<=1048576):Cl Tryz.prog 24 [.ag (ar e.row)] [] fun r _=>r=vs (fN e):=by
 have c1:=xd e hsz
 have ht:=gx true e hr
 have he:=tS true e
 unfold fN
 generalize nw true e=l at *
 cases hb:mA e
 case false=>
  rw[hb] at c1
  obtain⟨kind,op,not,val,qual,name,kids,sub⟩:=e
  rw[ak] at c1 ⊢
  refine ai ac false Tryz.func24 rfl ae ?_
  simp only[Tryz.f24,tt,seval]
  refine cZ (c1) ?_ ?_<;>simp only[tt,seval]
  exact⟨_,_,rfl,am rfl⟩
 case true=>
  rw[hb] at c1
  obtain⟨hf,h1,h2,h3⟩:=ht hb
  have he:∀out:List Tok,out.length+l.length<=1000000->Cl Tryz.prog 60 [.c (.ow 129 (out).length ((out).flatMap Tok.row) none),.ag (ar e.row),vb true] [] fun r _=>r = .c (.ow 129 (out++l).length ((out++l).flatMap Tok.row) none):=he hf hr hsz
  have sp:=vJ l h2 h3
  obtain⟨kind,op,not,val,qual,name,kids,sub⟩:=e
  rw[ak] at c1 he ⊢
  refine ai ac false Tryz.func24 rfl ae ?_
  simp only[Tryz.f24,tt,seval]
  refine cZ (c1) ?_ ?_<;>simp only[tt,seval]
  refine cZ (he [] (by simp only[List.length_nil];omega)) ?_ ?_<;>simp only[tt,seval]
  refine cZ (sp) ?_ ?_<;>simp only[tt,seval]
  exact⟨_,_,rfl,am rfl⟩
theorem oB (e:Expr) (hr:Rg e) (hsz:szExpr e<=1048576):Cl Tryz.prog 25 [.ag (ar e.row)] [] fun r _=>r = .c (.sl (cA e).length ((cA e).flatMap Tok.row) none):=by
 have c1:=xd e hsz
 have ht:=gx false e hr
 have he:=tS false e
 unfold cA
 generalize nw false e=l at *
 cases hb:mA e
 case false=>
  rw[hb] at c1
  obtain⟨kind,op,not,val,qual,name,kids,sub⟩:=e
  rw[ak] at c1 ⊢
  refine ai ac false Tryz.func25 rfl ae ?_
  simp only[Tryz.f25,tt,seval]
  refine cZ (c1) ?_ ?_<;>simp only[tt,seval]
  refine⟨_,[],rfl,ap ?_⟩
  simp only[tt,seval]
 case true=>
  rw[hb] at c1
  obtain⟨hf,h1,h2,h3⟩:=ht hb
  have he:∀out:List Tok,out.length+l.length<=1000000->Cl Tryz.prog 60 [.c (.ow 129 (out).length ((out).flatMap Tok.row) none),.ag (ar e.row),vb false] [] fun r _=>r = .c (.ow 129 (out++l).length ((out++l).flatMap Tok.row) none):=he hf hr hsz
  obtain⟨kind,op,not,val,qual,name,kids,sub⟩:=e
  rw[ak] at c1 he ⊢
  refine ai ac false Tryz.func25 rfl ae ?_
  simp only[Tryz.f25,tt,seval]
  refine cZ (c1) ?_ ?_<;>simp only[tt,seval]
  refine cZ (he [] (by simp only[List.length_nil];omega)) ?_ ?_<;>simp only[tt,seval]
  refine⟨_,[],rfl,ap ?_⟩
  simp only[tt,seval]
theorem rS (e:Expr) (hr:Rg e) (hsz:szExpr e<=1048576):Cl Tryz.prog 18 [.ag (ar e.row)] [] fun r _=>r=vs (bf (cA e)):=by
 have c1:=oB e hr hsz
 have sp:=vJ (cA e) (io e hr).1 (io e hr).2
 generalize cA e=l at *
 obtain⟨kind,op,not,val,qual,name,kids,sub⟩:=e
 rw[ak] at c1 ⊢
 refine ai ac false Tryz.func18 rfl ae ?_
 simp only[Tryz.f18,tt,seval]
 refine cZ (c1) ?_ ?_<;>simp only[tt,seval]
 refine cZ (sp) ?_ ?_<;>simp only[tt,seval]
 exact⟨_,_,rfl,am rfl⟩
end Go.Proofs.YtdmomaomffhidaaGreatDoor
