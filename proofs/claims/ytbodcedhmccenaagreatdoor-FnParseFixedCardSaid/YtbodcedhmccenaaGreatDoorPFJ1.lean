/-
  The reference's printer.
  Conditions: none.
-/
import Derived.Test.YtbodcedhmccenaaGreatDoorPFF1
set_option linter.unusedVariables false
set_option linter.unusedSimpArgs false
set_option linter.unusedSectionVars false
set_option maxRecDepth 8000
namespace Go.Proofs.YtbodcedhmccenaaGreatDoor
open Go Go.Dv
open Go.Vc (D dg dh cX bk)
theorem eC (l:List Tok) (k:Int) (s:ByteArray) (a:Int):l.flatMap Tok.row++[int k,str s,int a]=(l++[Tok.mk k s a]).flatMap Tok.row:=by rw[List.flatMap_append];rfl
theorem xl (l:List Tok) (k:Int) (s:ByteArray) (a:Int) (k':Int) (s':ByteArray) (a':Int):l.flatMap Tok.row++[int k,str s,int a,int k',str s',int a']=(l++[Tok.mk k s a,Tok.mk k' s' a']).flatMap Tok.row:=by rw[List.flatMap_append];rfl
theorem dJ (l:List Tok) (t:Tok):l.length+1=(l++[t]).length:=by simp
theorem sJ (l:List Tok) (t u:Tok):l.length+2=(l++[t,u]).length:=by simp
theorem pS {l m:List Tok} (h:l=m):(S.c (.ow 150 (l).length ((l).flatMap Tok.row) none):S) = .c (.ow 150 (m).length ((m).flatMap Tok.row) none):=by rw[h]
theorem jS {l m:List Tok} {x:C} (h:l=m):([[.ow 150 (l).length ((l).flatMap Tok.row) none,x]]:List (List C))=[[.ow 150 (m).length ((m).flatMap Tok.row) none,x]]:=by rw[h]
theorem G7 {a b:Tok} (h:a=b):(S.ag (ar a.row):S) = .ag (ar b.row):=by rw[h]
theorem bO (k:Nat) (h1:1<=k) (h2:k<=28):Cl Tryz.prog 137 [vi k] [] fun r _=>r = .ag (ar (kT k).row):=by
 refine ai ac false Tryz.func137 rfl ae ?_
 simp only[Tryz.f137,tt,seval]
 refine cZ (sU k h1 h2) ?_ ?_<;>simp only[tt,seval]
 exact⟨_,_,rfl,ap rfl⟩
theorem bZ (s:ByteArray):Cl Tryz.prog 138 [vs s] [] fun r _=>r = .ag (ar (gT s).row):=by
 refine ai ac false Tryz.func138 rfl ae ?_
 simp only[Tryz.f138,tt,seval]
 exact⟨_,_,rfl,ap rfl⟩
theorem eZ (s:ByteArray):Cl Tryz.prog 167 [vs s] [] fun r _=>r = .ag (ar (nT s).row):=by
 refine ai ac false Tryz.func167 rfl ae ?_
 simp only[Tryz.f167,tt,seval]
 exact⟨_,_,rfl,ap rfl⟩
theorem uV (op:Int):Cl Tryz.prog 169 [vi op] [] fun r _=>r = .ag (ar (cy op).row):=by
 refine ai ac false Tryz.func169 rfl ae ?_
 simp only[Tryz.f169,tt,seval]
 by_cases h1:op=1
 ·simp only[tt,seval,az h1]
  refine cZ (nH op) ?_ ?_<;>simp only[tt,seval]
  exact⟨_,_,G7 (by rw[cy,if_pos (.inl h1)]),ap rfl⟩
 simp only[tt,seval,au h1]
 by_cases h2:op=2
 ·simp only[tt,seval,az h2]
  refine cZ (nH op) ?_ ?_<;>simp only[tt,seval]
  exact⟨_,_,G7 (by rw[cy,if_pos (.inr (.inl h2))]),ap rfl⟩
 simp only[tt,seval,au h2]
 refine ab (fun h3=>?_) (fun h3=>?_)
 ·skip
  refine cZ (nH op) ?_ ?_<;>simp only[tt,seval]
  exact⟨_,_,G7 (by rw[cy,if_pos (.inr (.inr h3))]),ap rfl⟩
 refine cZ (nH op) ?_ ?_<;>simp only[tt,seval]
 refine cZ (bZ (iJ op)) ?_ ?_<;>simp only[tt,seval,gT,Tok.row]
 exact⟨_,_,G7 (by rw[cy,if_neg (fun h=>h.elim h1 fun h=>h.elim h2 h3)]),ap rfl⟩
theorem DS (v:Val) (h0 : -9223372036854775808<=v.num) (h1:v.num<=9223372036854775807):Cl Tryz.prog 166 [.ag (ar v.row)] [] fun r _=>r = .ag (ar (eR v).row):=by
 rw[Val.row]
 refine ai ac false Tryz.func166 rfl ae ?_
 simp only[Tryz.f166,tt,seval]
 refine ab (fun k1=>?_) (fun k1=>?_)
 ·skip
  refine cZ (nF v.num h0 h1) ?_ ?_<;>simp only[tt,seval]
  exact⟨_,_,G7 (by rw[eR,if_pos k1]),ap rfl⟩
 refine ab (fun k2=>?_) (fun k2=>?_)
 ·exact⟨_,_,G7 (by rw[eR,if_neg k1,if_pos k2]),ap rfl⟩
 refine ab (fun k3=>?_) (fun k3=>?_)
 ·refine ab (fun k4=>?_) (fun k4=>?_)
  ·skip
   refine cZ (bO 21 aa aa) ?_ ?_<;>simp only[tt,seval,kT,Tok.row]
   exact⟨_,_,G7 (by rw[eR,if_neg k1,if_neg k2,if_pos k3,if_pos k4]),ap rfl⟩
  ·skip
   refine cZ (bO 22 aa aa) ?_ ?_<;>simp only[tt,seval,kT,Tok.row]
   exact⟨_,_,G7 (by rw[eR,if_neg k1,if_neg k2,if_pos k3,if_neg k4]),ap rfl⟩
 refine cZ (bO 20 aa aa) ?_ ?_<;>simp only[tt,seval,kT,Tok.row]
 exact⟨_,_,G7 (by rw[eR,if_neg k1,if_neg k2,if_neg k3]),ap rfl⟩
theorem oG (out:List Tok) (e:Expr) (h:out.length<=1000000):Cl Tryz.prog 170 [.c (.ow 150 (out).length ((out).flatMap Tok.row) none),.ag (ar e.row)] [] fun r _=>r = .c (.ow 150 (out++bw e.not).length ((out++bw e.not).flatMap Tok.row) none):=by
 obtain⟨kind,op,not,val,qual,name,kids,sub⟩:=e
 rw[al]
 refine ai ac false Tryz.func170 rfl ae ?_
 simp only[Tryz.f170,tt,seval]
 cases not
 case true=>
  simp only[tt,seval]
  refine cZ (bO 15 aa aa) ?_ ?_<;>simp only[tt,seval,kT,Tok.row]
  refine iS ?_
  rw[eC (out),dJ (out) (Tok.mk 1 (kw 15) 0)]
  refine⟨_,[],pS (l:=out++[(Tok.mk 1 (kw 15) 0)]) (by rfl),am ?_⟩
  simp only[tt,seval]
 case false=>
  simp only[tt,seval]
  refine⟨_,[],pS (l:=out) (by exact (List.append_nil _).symm),am ?_⟩
  simp only[tt,seval]
theorem oH (out:List Tok) (a:ByteArray) (h:out.length<=1000000):Cl Tryz.prog 237 [.c (.ow 150 (out).length ((out).flatMap Tok.row) none),vs a] [] fun r _=>r = .c (.ow 150 (out++cQ a).length ((out++cQ a).flatMap Tok.row) none):=by
 refine ai ac false Tryz.func237 rfl ae ?_
 simp only[Tryz.f237,tt,seval]
 refine ab (fun ha=>?_) (fun ha=>?_)
 ·skip
  refine⟨_,[],pS (l:=out) (by rw[cQ,if_pos ha,List.append_nil]),am ?_⟩
  simp only[tt,seval]
 ·try simp only[tt,seval]
  refine cZ (bO 12 aa aa) ?_ ?_<;>simp only[tt,seval,kT,Tok.row]
  refine cZ (eZ a) ?_ ?_<;>simp only[tt,seval,nT,Tok.row]
  refine iS ?_
  rw[xl (out),sJ (out) (Tok.mk 1 (kw 12) 0) (Tok.mk 2 a 0)]
  refine⟨_,[],pS (l:=out++[(Tok.mk 1 (kw 12) 0),(Tok.mk 2 a 0)]) (by rw[cQ,if_neg ha];rfl),am ?_⟩
  simp only[tt,seval]
def Ah (full:Bool) (e:Expr) (l:List Tok):Prop:=∀out:List Tok,out.length+l.length<=1000000->Cl Tryz.prog 80 [.c (.ow 150 (out).length ((out).flatMap Tok.row) none),.ag (ar e.row),vb full] [] fun r _=>r = .c (.ow 150 (out++l).length ((out++l).flatMap Tok.row) none)
set_option maxHeartbeats 1000000 in
theorem DT (kind op:Int) (not:Bool) (val:Val) (qual name:ByteArray) (kids:List Expr) (sub:List Query) (full:Bool) (k:Nat) (hk:k<kids.length) (l:List Tok) (hx:Ah full kids[k] l) (out:List Tok) (hroom:out.length+(jP (Bf full kind op kids k) l).length<=1000000) :
 Cl Tryz.prog 168 [.c (.ow 150 (out).length ((out).flatMap Tok.row) none),.ag (ar (Expr.mk kind op not val qual name kids sub).row),vi k,vb full] [] fun r _=>r = .c (.ow 150 (out++jP (Bf full kind op kids k) l).length ((out++jP (Bf full kind op kids k) l).flatMap Tok.row) none):=by
 obtain⟨it,bu⟩:∃it,it=kids[k]:=⟨_,rfl⟩
 have hw:(Bf full kind op kids k)=(kE kind op kids k||(full&&decide (kP it<9))):=by rw[Bf,List.getD_eq_getElem?_getD,aD hk,bu];rfl
 rw[hw] at hroom ⊢
 rw[<-bu] at hx
 rw[al]
 refine ai ac false Tryz.func168 rfl ae ?_
 simp only[Tryz.f168,tt,seval]
 refine⟨aa,aa,_,aH aQ (aD hk),Expr.ne _ _,?_⟩
 rw[<-bu]
 have hxl:=mi it
 obtain⟨k0,o0,n0,v0,q0,m0,ks0,ss0⟩:=it
 rw[al] at hxl
 rw[al]
 simp only[tt,seval]
 refine cZ (AB kind op not val qual name kids sub k hk) ?_ ?_<;>simp only[tt,seval,al]
 have hx:∀out:List Tok,out.length+l.length<=1000000->Cl Tryz.prog 80 [.c (.ow 150 (out).length ((out).flatMap Tok.row) none),.ag (ar (Expr.mk k0 o0 n0 v0 q0 m0 ks0 ss0).row),vb full] [] fun r _=>r = .c (.ow 150 (out++l).length ((out++l).flatMap Tok.row) none):=hx
 rw[al] at hx
 generalize kP (Expr.mk k0 o0 n0 v0 q0 m0 ks0 ss0)=lv0 at *
 cases hw1:kE kind op kids k
 case true=>
  rw[hw1] at hroom
  simp only[tt,seval]
  have hroom:out.length+(iN::(l++[iQ])).length<=1000000:=hroom
  simp only[ll] at hroom
  apply bH 0
  case h1=>
   refine dDrawn.intro [32] (.take 0 (.take 5 (.br 1 (.br 2 (.br 3 (.take 4 (.br 6 (.take 7 .done) .nobr)) (.br 4 (.br 3 (.br 6 (.take 7 .done) .nobr) .nobr) .nobr)) (.br 4 (.br 2 (.br 3 (.br 6 (.take 7 .done) .nobr) .nobr) .nobr) .nobr)) (.br 4 (.br 1 (.br 2 (.br 3 (.br 6 (.take 7 .done) .nobr) .nobr) .nobr) .nobr) .nobr)))) ae ?_
   simp only[tt,seval]
   all_goals repeat' first|refine dO ?_ ?_|refine bz ?_ ?_
   all_goals
    refine cZ (bZ ⟨#[40]⟩) ?_ ?_<;>simp only[tt,seval,gT,Tok.row]
   all_goals repeat' first|refine lO ?_ ?_|refine eO ?_ ?_|refine eP ?_ ?_
   all_goals
    refine iS ?_
    rw[eC (out),dJ (out) (Tok.mk 5 ⟨#[40]⟩ 0)]
   all_goals repeat' first|refine dO ?_ ?_|refine bz ?_ ?_
   all_goals
    refine cZ (hx (out++[(Tok.mk 5 ⟨#[40]⟩ 0)]) av) ?_ ?_
    ·simp only[tt,seval]
     decide
    simp only[tt,seval]
   all_goals exact⟨rfl,rfl,rfl⟩
  case h2=>
   intro f' hj0
   simp only[tt,seval,hj0]
   refine cZ (bZ ⟨#[41]⟩) ?_ ?_<;>simp only[tt,seval,gT,Tok.row]
   refine iS ?_
   rw[eC (out++[(Tok.mk 5 ⟨#[40]⟩ 0)]++l),dJ (out++[(Tok.mk 5 ⟨#[40]⟩ 0)]++l) (Tok.mk 5 ⟨#[41]⟩ 0)]
   refine⟨_,[],pS (l:=out++[(Tok.mk 5 ⟨#[40]⟩ 0)]++l++[(Tok.mk 5 ⟨#[41]⟩ 0)]) (by skip;simp [jP,iN,iQ,gT]),am ?_⟩
   simp only[tt,seval]
 case false=>
  simp only[tt,seval]
  cases full
  case false=>
   rw[hw1] at hroom
   simp only[tt,seval]
   have hroom:out.length+l.length<=1000000:=hroom
   refine cZ (hx out hroom) ?_ ?_<;>simp only[tt,seval]
   refine⟨_,[],pS (l:=out++l) (by skip;simp [jP]),am ?_⟩
   simp only[tt,seval]
  case true=>
   simp only[tt,seval]
   refine cZ (hxl) ?_ ?_<;>simp only[tt,seval]
   rw[hw1] at hroom
   refine ab (fun h9=>?_) (fun h9=>?_)
   ·rw[az h9] at hroom ⊢
    have hroom:out.length+(iN::(l++[iQ])).length<=1000000:=hroom
    simp only[ll] at hroom
    apply bH 0
    case h1=>
     refine dDrawn.intro [32] (.take 0 (.take 5 (.br 1 (.br 2 (.br 3 (.take 4 (.br 6 (.take 7 .done) .nobr)) (.br 4 (.br 3 (.br 6 (.take 7 .done) .nobr) .nobr) .nobr)) (.br 4 (.br 2 (.br 3 (.br 6 (.take 7 .done) .nobr) .nobr) .nobr) .nobr)) (.br 4 (.br 1 (.br 2 (.br 3 (.br 6 (.take 7 .done) .nobr) .nobr) .nobr) .nobr) .nobr)))) ae ?_
     simp only[tt,seval]
     all_goals repeat' first|refine dO ?_ ?_|refine bz ?_ ?_
     all_goals
      refine cZ (bZ ⟨#[40]⟩) ?_ ?_<;>simp only[tt,seval,gT,Tok.row]
     all_goals repeat' first|refine lO ?_ ?_|refine eO ?_ ?_|refine eP ?_ ?_
     all_goals
      refine iS ?_
      rw[eC (out),dJ (out) (Tok.mk 5 ⟨#[40]⟩ 0)]
     all_goals repeat' first|refine dO ?_ ?_|refine bz ?_ ?_
     all_goals
      refine cZ (hx (out++[(Tok.mk 5 ⟨#[40]⟩ 0)]) av) ?_ ?_
      ·simp only[tt,seval]
       decide
      simp only[tt,seval]
     all_goals exact⟨rfl,rfl,rfl⟩
    case h2=>
     intro f' hj0
     simp only[tt,seval,hj0]
     refine cZ (bZ ⟨#[41]⟩) ?_ ?_<;>simp only[tt,seval,gT,Tok.row]
     refine iS ?_
     rw[eC (out++[(Tok.mk 5 ⟨#[40]⟩ 0)]++l),dJ (out++[(Tok.mk 5 ⟨#[40]⟩ 0)]++l) (Tok.mk 5 ⟨#[41]⟩ 0)]
     refine⟨_,[],pS (l:=out++[(Tok.mk 5 ⟨#[40]⟩ 0)]++l++[(Tok.mk 5 ⟨#[41]⟩ 0)]) (by skip;simp [jP,iN,iQ,gT]),am ?_⟩
     simp only[tt,seval]
   ·rw[au h9] at hroom ⊢
    have hroom:out.length+l.length<=1000000:=hroom
    refine cZ (hx out hroom) ?_ ?_<;>simp only[tt,seval]
    refine⟨_,[],pS (l:=out++l) (by skip;simp [jP]),am ?_⟩
    simp only[tt,seval]
theorem Ai {full:Bool} {g:Expr->List Tok} {kind op:Int} {kids:List Expr} {k:Nat} (hk:k<kids.length):aP full g kind op kids k=jP (Bf full kind op kids k) (g kids[k]):=by rw[aP,List.getD_eq_getElem?_getD,aD hk];rfl
theorem KK (q:Query):(q.row=[])=False:=eq_false fun h=>Query.ne q [] (by rw[h];rfl)
theorem Bn {l:List Query} {q:Query} (h:l=[q]) (C:List D->Prop):(∃ds',l.flatMap Query.row=ds' /\ ¬ds'=[]/\C ds')=C q.row:=by
 subst h
 have e:[q].flatMap Query.row=q.row:=by simp
 rw[e]
 exact propext ⟨fun ⟨_,h1,_,h3⟩=>h1▸h3,fun h=>⟨_,rfl,fun h0=>(KK q▸h0:False),h⟩⟩
def JL (full:Bool) (q:Query) (l:List Tok):Prop:=∀out:List Tok,out.length+l.length<=1000000->Cl Tryz.prog 65 [.c (.ow 150 (out).length ((out).flatMap Tok.row) none),.ag (ar q.row),vb full] [] fun r _=>r = .c (.ow 150 (out++l).length ((out++l).flatMap Tok.row) none)
set_option maxHeartbeats 4000000 in
theorem uW (kind op:Int) (not:Bool) (val:Val) (qual name:ByteArray) (kids:List Expr) (sub:List Query) (full:Bool) (gf:Expr->Bool) (g:Expr->List Tok) (hf:tJ gf (Expr.mk kind op not val qual name kids sub)=true) (hnum : -9223372036854775808<=val.num/\val.num<=9223372036854775807) (hg:∀x∈kids,Ah full x (g x)) (hgq:∀q∈sub,JL full q (dP g q)):Ah full (Expr.mk kind op not val qual name kids sub) (iO full g (Expr.mk kind op not val qual name kids sub)):=by
 intro out hroom
 have hkid:∀k (hk:k<kids.length) (out:List Tok),out.length+(aP full g kind op kids k).length<=1000000->Cl Tryz.prog 168 [.c (.ow 150 (out).length ((out).flatMap Tok.row) none),.ag (ar (Expr.mk kind op not val qual name kids sub).row),vi k,vb full] [] fun r _=>r = .c (.ow 150 (out++aP full g kind op kids k).length ((out++aP full g kind op kids k).flatMap Tok.row) none):=fun k hk out hr=>by
  rw[Ai hk] at hr ⊢
  exact DT kind op not val qual name kids sub full k hk _ (hg _ (aO hk)) out hr
 have hsp:=(jR hf).1
 clear hf hg
 rw[al]
 rcases j5 hsp with⟨rfl,hl,hk0,hs0⟩|⟨rfl,hn,hm,hk0,hs0⟩|⟨rfl,ho,hk0,hs0⟩|⟨rfl,ho,hk0,hs0⟩|⟨rfl,hk0,hs0⟩|⟨rfl,hk0,hs0⟩|⟨rfl,hk0,hs0⟩|⟨rfl,hk0,hs0⟩|⟨rfl,hk0,hs0⟩
 ·skip
  have e:iO full g (Expr.mk 1 op not val qual name kids sub)=[eR val]:=rfl
  rw[e] at hroom ⊢
  clear e
  simp only[ll] at hroom
  refine ai ac false Tryz.func80 rfl ae ?_
  simp only[Tryz.f80,tt,seval]
  refine cZ (DS val hnum.1 hnum.2) ?_ ?_<;>simp only[tt,seval,Tok.row,Val.row]
  refine iS ?_
  rw[eC (out),dJ (out) (Tok.mk (eR val).kind (eR val).text (eR val).at_)]
  refine⟨_,[],pS (l:=out++[(Tok.mk (eR val).kind (eR val).text (eR val).at_)]) (by rfl),am ?_⟩
  simp only[tt,seval]
 ·skip
  have e:iO full g (Expr.mk 2 op not val qual name kids sub)=cF qual++[nT name]:=rfl
  rw[e] at hroom ⊢
  clear e
  simp only[ll] at hroom
  refine ai ac false Tryz.func80 rfl ae ?_
  simp only[Tryz.f80,tt,seval]
  refine ab (fun hq=>?_) (fun hq=>?_)
  ·have hq:¬qual=⟨#[]⟩:=by simpa using hq
   rw[cF,if_neg hq] at hroom ⊢
   simp only[ll] at hroom
   simp only[tt,seval]
   refine cZ (eZ qual) ?_ ?_<;>simp only[tt,seval,nT,Tok.row]
   refine cZ (bZ ⟨#[46]⟩) ?_ ?_<;>simp only[tt,seval,gT,Tok.row]
   refine iS ?_
   rw[xl (out),sJ (out) (Tok.mk 2 qual 0) (Tok.mk 5 ⟨#[46]⟩ 0)]
   refine cZ (eZ name) ?_ ?_<;>simp only[tt,seval,nT,Tok.row]
   refine iS ?_
   rw[eC (out++[(Tok.mk 2 qual 0),(Tok.mk 5 ⟨#[46]⟩ 0)]),dJ (out++[(Tok.mk 2 qual 0),(Tok.mk 5 ⟨#[46]⟩ 0)]) (Tok.mk 2 name 0)]
   refine⟨_,[],pS (l:=out++[(Tok.mk 2 qual 0),(Tok.mk 5 ⟨#[46]⟩ 0)]++[(Tok.mk 2 name 0)]) (by simp [Ix,gT]),am ?_⟩
   simp only[tt,seval]
  ·have hq:qual=⟨#[]⟩:=by simpa using hq
   rw[cF,if_pos hq] at hroom ⊢
   simp only[ll] at hroom
   simp only[tt,seval]
   refine cZ (eZ name) ?_ ?_<;>simp only[tt,seval,nT,Tok.row]
   refine iS ?_
   rw[eC (out),dJ (out) (Tok.mk 2 name 0)]
   refine⟨_,[],pS (l:=out++[(Tok.mk 2 name 0)]) (by rfl),am ?_⟩
   simp only[tt,seval]
 ·skip
  have e:iO full g (Expr.mk 3 op not val qual name kids sub)=cy op::aP full g 3 op kids 0:=rfl
  rw[e] at hroom ⊢
  clear e
  have hkid0:=hkid 0 aa
  generalize aP full g 3 op kids 0=a0 at *
  simp only[ll] at hroom
  refine ai ac false Tryz.func80 rfl ae ?_
  simp only[Tryz.f80,tt,seval]
  apply bH 6
  case h1=>
   refine dDrawn.intro [46] (.take 0 (.take 1 (.take 2 (.take 7 (.br 3 (.br 4 (.br 5 (.take 6 (.br 8 (.take 9 .done) .nobr)) (.br 6 (.br 5 (.br 8 (.take 9 .done) .nobr) .nobr) .nobr)) (.br 6 (.br 4 (.br 5 (.br 8 (.take 9 .done) .nobr) .nobr) .nobr) .nobr)) (.br 6 (.br 3 (.br 4 (.br 5 (.br 8 (.take 9 .done) .nobr) .nobr) .nobr) .nobr) .nobr)))))) ae ?_
   simp only[tt,seval]
   all_goals repeat' first|refine dO ?_ ?_|refine bz ?_ ?_
   all_goals
    refine cZ (uV op) ?_ ?_<;>simp only[tt,seval,Tok.row]
   all_goals repeat' first|refine lO ?_ ?_|refine eO ?_ ?_|refine eP ?_ ?_
   all_goals
    refine iS ?_
    rw[eC (out),dJ (out) (Tok.mk (cy op).kind (cy op).text (cy op).at_)]
   all_goals repeat' first|refine dO ?_ ?_|refine bz ?_ ?_
   all_goals
    refine cZ (hkid0 (out++[(Tok.mk (cy op).kind (cy op).text (cy op).at_)]) av) ?_ ?_
    ·simp only[tt,seval,al]
     decide
    simp only[tt,seval,al]
   all_goals exact⟨rfl,rfl,rfl⟩
  case h2=>
   intro f' hj0
   simp only[tt,seval,hj0]
   refine⟨_,[],pS (l:=out++[(Tok.mk (cy op).kind (cy op).text (cy op).at_)]++a0) (by simp),am ?_⟩
   simp only[tt,seval]
 ·skip
  have e:iO full g (Expr.mk 4 op not val qual name kids sub)=aP full g 4 op kids 0++(cy op::aP full g 4 op kids 1):=rfl
  rw[e] at hroom ⊢
  clear e
  have hkid0:=hkid 0 aa
  generalize aP full g 4 op kids 0=a0 at *
  have hkid1:=hkid 1 aa
  generalize aP full g 4 op kids 1=a1 at *
  simp only[ll] at hroom
  refine ai ac false Tryz.func80 rfl ae ?_
  simp only[Tryz.f80,tt,seval]
  refine cZ (hkid0 (out) av) ?_ ?_<;>simp only[tt,seval,al]
  apply bH 6
  case h1=>
   refine dDrawn.intro [80] (.take 0 (.take 1 (.take 2 (.take 7 (.br 3 (.br 4 (.br 5 (.take 6 (.br 8 (.take 9 .done) .nobr)) (.br 6 (.br 5 (.br 8 (.take 9 .done) .nobr) .nobr) .nobr)) (.br 6 (.br 4 (.br 5 (.br 8 (.take 9 .done) .nobr) .nobr) .nobr) .nobr)) (.br 6 (.br 3 (.br 4 (.br 5 (.br 8 (.take 9 .done) .nobr) .nobr) .nobr) .nobr) .nobr)))))) ae ?_
   simp only[tt,seval]
   all_goals repeat' first|refine dO ?_ ?_|refine bz ?_ ?_
   all_goals
    refine cZ (uV op) ?_ ?_<;>simp only[tt,seval,Tok.row]
   all_goals repeat' first|refine lO ?_ ?_|refine eO ?_ ?_|refine eP ?_ ?_
   all_goals
    refine iS ?_
    rw[eC (out++a0),dJ (out++a0) (Tok.mk (cy op).kind (cy op).text (cy op).at_)]
   all_goals repeat' first|refine dO ?_ ?_|refine bz ?_ ?_
   all_goals
    refine cZ (hkid1 (out++a0++[(Tok.mk (cy op).kind (cy op).text (cy op).at_)]) av) ?_ ?_
    ·simp only[tt,seval,al]
     decide
    simp only[tt,seval,al]
   all_goals exact⟨rfl,rfl,rfl⟩
  case h2=>
   intro f' hj0
   simp only[tt,seval,hj0]
   refine⟨_,[],pS (l:=out++a0++[(Tok.mk (cy op).kind (cy op).text (cy op).at_)]++a1) (by simp [aL]),am ?_⟩
   simp only[tt,seval]
 ·skip
  have e:iO full g (Expr.mk 5 op not val qual name kids sub)=aP full g 5 op kids 0++(kT 16::(bw not++[kT 20])):=rfl
  rw[e] at hroom ⊢
  clear e
  have hkid0:=hkid 0 aa
  generalize aP full g 5 op kids 0=a0 at *
  simp only[ll] at hroom
  refine ai ac false Tryz.func80 rfl ae ?_
  simp only[Tryz.f80,tt,seval]
  refine cZ (hkid0 (out) av) ?_ ?_<;>simp only[tt,seval,al]
  apply bH 6
  case h1=>
   refine dDrawn.intro [88] (.take 0 (.br 1 (.br 2 (.br 3 (.take 4 (.br 5 (.br 6 (.br 7 (.br 8 (.take 9 .done) .nobr) .nobr) .nobr) .nobr)) (.br 4 (.br 3 (.br 5 (.br 6 (.br 7 (.br 8 (.take 9 .done) .nobr) .nobr) .nobr) .nobr) .nobr) .nobr)) (.br 4 (.br 2 (.br 3 (.br 5 (.br 6 (.br 7 (.br 8 (.take 9 .done) .nobr) .nobr) .nobr) .nobr) .nobr) .nobr) .nobr)) (.br 4 (.br 1 (.br 2 (.br 3 (.br 5 (.br 6 (.br 7 (.br 8 (.take 9 .done) .nobr) .nobr) .nobr) .nobr) .nobr) .nobr) .nobr) .nobr))) ae ?_
   simp only[tt,seval]
   all_goals repeat' first|refine dO ?_ ?_|refine bz ?_ ?_
   all_goals
    refine cZ (bO 16 aa aa) ?_ ?_<;>simp only[tt,seval,kT,Tok.row]
   all_goals repeat' first|refine lO ?_ ?_|refine eO ?_ ?_|refine eP ?_ ?_
   all_goals
    refine iS ?_
    rw[eC (out++a0),dJ (out++a0) (Tok.mk 1 (kw 16) 0)]
   all_goals repeat' first|refine dO ?_ ?_|refine bz ?_ ?_
   all_goals
    refine cZ (oG (out++a0++[(Tok.mk 1 (kw 16) 0)]) (Expr.mk 5 op not val qual name kids sub) av) ?_ ?_
    ·simp only[tt,seval,al]
     decide
    simp only[tt,seval,al,Expr.not]
   all_goals repeat' first|refine dO ?_ ?_|refine bz ?_ ?_
   all_goals
    refine cZ (bO 20 aa aa) ?_ ?_<;>simp only[tt,seval,kT,Tok.row]
   all_goals repeat' first|refine lO ?_ ?_|refine eO ?_ ?_|refine eP ?_ ?_
   all_goals
    refine iS ?_
    rw[eC (out++a0++[(Tok.mk 1 (kw 16) 0)]++bw not),dJ (out++a0++[(Tok.mk 1 (kw 16) 0)]++bw not) (Tok.mk 1 (kw 20) 0)]
   all_goals exact⟨rfl,rfl,rfl⟩
  case h2=>
   intro f' hj0
   simp only[tt,seval,hj0]
   refine⟨_,[],pS (l:=out++a0++[(Tok.mk 1 (kw 16) 0)]++bw not++[(Tok.mk 1 (kw 20) 0)]) (by simp [kT,bw,aL]),am ?_⟩
   simp only[tt,seval]
 ·skip
  have e:iO full g (Expr.mk 6 op not val qual name kids sub)=aP full g 6 op kids 0++(bw not++(kT 18::(aP full g 6 op kids 1++(kT 13::aP full g 6 op kids 2)))):=rfl
  rw[e] at hroom ⊢
  clear e
  have hkid0:=hkid 0 aa
  generalize aP full g 6 op kids 0=a0 at *
  have hkid1:=hkid 1 aa
  generalize aP full g 6 op kids 1=a1 at *
  have hkid2:=hkid 2 aa
  generalize aP full g 6 op kids 2=a2 at *
  simp only[ll] at hroom
  refine ai ac false Tryz.func80 rfl ae ?_
  simp only[Tryz.f80,tt,seval]
  refine cZ (hkid0 (out) av) ?_ ?_<;>simp only[tt,seval,al]
  apply jM 0 4 2
  case h1=>
   refine dDrawn.intro [96,102] (.take 0 (.take 1 (.take 7 (.br 2 (.br 3 (.br 4 (.br 5 (.take 6 (.br 8 (.take 9 .done) .nobr)) (.br 6 (.br 5 (.br 8 (.take 9 .done) .nobr) .nobr) .nobr)) (.br 6 (.br 4 (.br 5 (.br 8 (.take 9 .done) .nobr) .nobr) .nobr) .nobr)) (.br 6 (.br 3 (.br 4 (.br 5 (.br 8 (.take 9 .done) .nobr) .nobr) .nobr) .nobr) .nobr)) (.br 6 (.br 2 (.br 3 (.br 4 (.br 5 (.br 8 (.take 9 .done) .nobr) .nobr) .nobr) .nobr) .nobr) .nobr))))) ae ?_
   simp only[tt,seval]
   all_goals repeat' first|refine dO ?_ ?_|refine bz ?_ ?_
   all_goals
    refine cZ (oG (out++a0) (Expr.mk 6 op not val qual name kids sub) av) ?_ ?_
    ·simp only[tt,seval,al]
     decide
    simp only[tt,seval,al,Expr.not]
   all_goals repeat' first|refine dO ?_ ?_|refine bz ?_ ?_
   all_goals
    refine cZ (bO 18 aa aa) ?_ ?_<;>simp only[tt,seval,kT,Tok.row]
   all_goals repeat' first|refine lO ?_ ?_|refine eO ?_ ?_|refine eP ?_ ?_
   all_goals
    refine iS ?_
    rw[eC (out++a0++bw not),dJ (out++a0++bw not) (Tok.mk 1 (kw 18) 0)]
   all_goals repeat' first|refine dO ?_ ?_|refine bz ?_ ?_
   all_goals
    refine cZ (hkid1 (out++a0++bw not++[(Tok.mk 1 (kw 18) 0)]) av) ?_ ?_
    ·simp only[tt,seval,al]
     decide
    simp only[tt,seval,al]
   all_goals exact⟨rfl,rfl,rfl,rfl,rfl⟩
  case h2=>
   intro f' hj0 hj1 hj2
   simp only[tt,seval]
   apply bH 6
   case h1=>
    refine dDrawn.intro [109] (.take 0 (.take 5 (.br 1 (.br 2 (.br 3 (.take 4 (.br 6 (.take 7 .done) .nobr)) (.br 4 (.br 3 (.br 6 (.take 7 .done) .nobr) .nobr) .nobr)) (.br 4 (.br 2 (.br 3 (.br 6 (.take 7 .done) .nobr) .nobr) .nobr) .nobr)) (.br 4 (.br 1 (.br 2 (.br 3 (.br 6 (.take 7 .done) .nobr) .nobr) .nobr) .nobr) .nobr)))) ae ?_
    simp only[tt,seval]
    all_goals try simp only[tt,seval,hj0,hj1,hj2]
    all_goals repeat' first|refine dO ?_ ?_|refine bz ?_ ?_
    all_goals
     refine cZ (bO 13 aa aa) ?_ ?_<;>simp only[tt,seval,kT,Tok.row,hj1]
    all_goals repeat' first|refine lO ?_ ?_|refine eO ?_ ?_|refine eP ?_ ?_
    all_goals
     refine iS ?_
     rw[eC (out++a0++bw not++[(Tok.mk 1 (kw 18) 0)]++a1),dJ (out++a0++bw not++[(Tok.mk 1 (kw 18) 0)]++a1) (Tok.mk 1 (kw 13) 0)]
    all_goals repeat' first|refine dO ?_ ?_|refine bz ?_ ?_
    all_goals
     refine cZ (hkid2 (out++a0++bw not++[(Tok.mk 1 (kw 18) 0)]++a1++[(Tok.mk 1 (kw 13) 0)]) av) ?_ ?_
     ·simp only[tt,seval,al]
      decide
     simp only[tt,seval,al]
    all_goals exact⟨rfl,rfl,rfl⟩
   case h2=>
    intro f' hj0
    simp only[tt,seval,hj0]
    refine⟨_,[],pS (l:=out++a0++bw not++[(Tok.mk 1 (kw 18) 0)]++a1++[(Tok.mk 1 (kw 13) 0)]++a2) (by simp [kT,bw,aL]),am ?_⟩
    simp only[tt,seval]
 ·skip
  have e:iO full g (Expr.mk 7 op not val qual name kids sub)=aP full g 7 op kids 0++(bw not++(kT 17::iN::((bd (oN full g 7 op kids) (kids.length-1))++[iQ]))):=rfl
  rw[e] at hroom ⊢
  clear e
  simp only[ll] at hroom
  refine ai ac false Tryz.func80 rfl ae ?_
  simp only[Tryz.f80,tt,seval]
  have hkid0:=hkid 0 aa
  obtain⟨a0,ha0⟩:∃a0,a0=aP full g 7 op kids 0:=⟨_,rfl⟩
  rw[<-ha0] at hkid0 hroom ⊢
  refine cZ (hkid0 (out) av) ?_ ?_<;>simp only[tt,seval,al]
  refine cZ (oG (out++a0) (Expr.mk 7 op not val qual name kids sub) av) ?_ ?_<;>simp only[tt,seval,al,Expr.not]
  refine cZ (bO 17 aa aa) ?_ ?_<;>simp only[tt,seval,kT,Tok.row]
  refine cZ (bZ ⟨#[40]⟩) ?_ ?_<;>simp only[tt,seval,gT,Tok.row]
  refine iS ?_
  rw[xl (out++a0++bw not),sJ (out++a0++bw not) (Tok.mk 1 (kw 17) 0) (Tok.mk 5 ⟨#[40]⟩ 0)]
  obtain⟨L0,hL0⟩:∃L0,L0=out++a0++bw not++[(Tok.mk 1 (kw 17) 0),(Tok.mk 5 ⟨#[40]⟩ 0)]:=⟨_,rfl⟩
  have hL0l:L0.length=out.length+a0.length+(bw not).length+2:=by rw[hL0];simp only[ll]
  rw[<-hL0]
  refine dLoop.gh [.ren 116 10147] ⟨ah,ah,?_⟩
  refine dLoop0.intro (fun f L p=>∃(j:Nat) (es:List Tok),f 7=vi (j+1:Nat)/\f 0 = .c (.s 10147 es.length)/\j<=kids.length-1/\es=L0++bd (oN full g 7 op kids) j/\L=[(10147,.arr 150 es.length (es.flatMap Tok.row) none),(4,.str [.v (.int .i64 7),.v (.int .i64 op),.v (.bool not),.v (.int .i64 val.kind),.v (.int .i64 val.num),.v (.string val.text),.v (.string qual),.v (.string name),.sl kids.length (kids.flatMap Expr.row) none,.sl sub.length (sub.flatMap Query.row) none])]/\p=none) (fun f _ _=>(kids.length-eH (f 7)).toNat) [(10147,.arr 150 L0.length (L0.flatMap Tok.row) none),(4,.str [.v (.int .i64 7),.v (.int .i64 op),.v (.bool not),.v (.int .i64 val.kind),.v (.int .i64 val.num),.v (.string val.text),.v (.string qual),.v (.string name),.sl kids.length (kids.flatMap Expr.row) none,.sl sub.length (sub.flatMap Query.row) none])] none ⟨ak rfl (ak rfl (ao _)),aq _,?_⟩ ?_
  ·simp only[tt,seval]
   exact⟨0,L0,rfl,rfl,aa,(List.append_nil _).symm,rfl⟩
  ·rintro g' L p ⟨j,es,hi,hx,hjn,hes0,rfl,rfl⟩
   simp only[tt,seval] at hi hx
   simp only[tt,seval,hi,hx]
   refine fun _=>ab (fun hlt=>?_) (fun hge=>?_)
   ·have hlt:j<kids.length-1:=by omega
    have hst:=da (oN full g 7 op kids) j
    have hlt2:=j4 (oN full g 7 op kids) hlt
    have hel:es.length=L0.length+(bd (oN full g 7 op kids) j).length:=by rw[hes0,aC]
    have hlen:(L0++bd (oN full g 7 op kids) (kids.length-1)).length+1<=1000000:=by simp only[ll] at *;omega
    simp only[ll] at hlen
    refine ab (fun hc=>?_) (fun hc=>?_)
    ·have hj0:0<j:=by omega
     have hfj:oN full g 7 op kids j=[(Tok.mk 5 ⟨#[44]⟩ 0)]++aP full g 7 op kids (j+1):=by rw[oN,jQ,if_pos hj0];rfl
     rw[hfj] at hst hlt2
     simp only[ll] at hlt2
     have hkj:=hkid (j+1) aa
     generalize aP full g 7 op kids (j+1)=aj at *
     refine cZ (bZ ⟨#[44]⟩) ?_ ?_<;>simp only[tt,seval,gT,Tok.row,hi]
     refine iS ?_
     rw[eC (es),dJ (es) (Tok.mk 5 ⟨#[44]⟩ 0)]
     refine cZ (hkj (es++[(Tok.mk 5 ⟨#[44]⟩ 0)]) av) ?_ ?_<;>simp only[tt,seval,al,hi]
     rw[ax (n:=((j+1:Nat):Int)+1) aa aa]
     exact⟨[(10147,.arr 150 (es++[(Tok.mk 5 ⟨#[44]⟩ 0)]++aj).length ((es++[(Tok.mk 5 ⟨#[44]⟩ 0)]++aj).flatMap Tok.row) none),(4,.str [.v (.int .i64 7),.v (.int .i64 op),.v (.bool not),.v (.int .i64 val.kind),.v (.int .i64 val.num),.v (.string val.text),.v (.string qual),.v (.string name),.sl kids.length (kids.flatMap Expr.row) none,.sl sub.length (sub.flatMap Query.row) none])],none,ak rfl (ak rfl (ao _)),aq _,⟨j+1,es++[(Tok.mk 5 ⟨#[44]⟩ 0)]++aj,rfl,rfl,aa,by rw[hst,hes0];simp [aL],rfl,rfl⟩,aB⟩
    ·have hj0:j=0:=by omega
     subst hj0
     have hfj:oN full g 7 op kids 0=aP full g 7 op kids (0+1):=by rw[oN,jQ,if_neg (Nat.lt_irrefl 0)];rfl
     rw[hfj] at hst hlt2
     have hkj:=hkid (0+1) aa
     generalize aP full g 7 op kids (0+1)=aj at *
     simp only[tt,seval]
     refine cZ (hkj es av) ?_ ?_<;>simp only[tt,seval,al,hi]
     try rw[ax (n:=(2:Int)) aa aa]
     exact⟨[(10147,.arr 150 (es++aj).length ((es++aj).flatMap Tok.row) none),(4,.str [.v (.int .i64 7),.v (.int .i64 op),.v (.bool not),.v (.int .i64 val.kind),.v (.int .i64 val.num),.v (.string val.text),.v (.string qual),.v (.string name),.sl kids.length (kids.flatMap Expr.row) none,.sl sub.length (sub.flatMap Query.row) none])],none,ak rfl (ak rfl (ao _)),aq _,⟨0+1,es++aj,rfl,rfl,aa,by rw[hst,hes0];simp [aL],rfl,rfl⟩,aB⟩
   ·have hje:j=kids.length-1:=by omega
    rw[hje] at hes0
    have hel:es.length=L0.length+(bd (oN full g 7 op kids) (kids.length-1)).length:=by rw[hes0,aC]
    refine cZ (bZ ⟨#[41]⟩) ?_ ?_<;>simp only[tt,seval,gT,Tok.row]
    refine iS ?_
    rw[eC (es),dJ (es) (Tok.mk 5 ⟨#[41]⟩ 0)]
    refine⟨_,[],pS (l:=es++[(Tok.mk 5 ⟨#[41]⟩ 0)]) (by rw[hes0,hL0];simp [iN,iQ,gT,kT,bw,aL]),am ?_⟩
    simp only[tt,seval]
 ·skip
  obtain⟨q,hsub⟩:=j6 hs0
  have hsl:kK g sub=dP g q:=by rw[hsub];rfl
  have hq:=hgq q (by rw[hsub];simp)
  have hpos:((0:Int)<sub.length)=True:=eq_true aa
  have e:iO full g (Expr.mk 8 op not val qual name kids sub)=aP full g 8 op kids 0++(bw not++(kT 17::iN::(kK g sub++[iQ]))):=rfl
  rw[e] at hroom ⊢
  clear e
  have hkid0:=hkid 0 aa
  generalize aP full g 8 op kids 0=a0 at *
  simp only[ll] at hroom
  refine ai ac false Tryz.func80 rfl ae ?_
  simp only[Tryz.f80,tt,seval]
  rw[hsl] at hroom ⊢
  refine cZ (hkid0 (out) av) ?_ ?_<;>simp only[tt,seval,al]
  refine cZ (oG (out++a0) (Expr.mk 8 op not val qual name kids sub) av) ?_ ?_<;>simp only[tt,seval,al,Expr.not]
  refine cZ (bO 17 aa aa) ?_ ?_<;>simp only[tt,seval,kT,Tok.row]
  refine cZ (bZ ⟨#[40]⟩) ?_ ?_<;>simp only[tt,seval,gT,Tok.row]
  refine iS ?_
  rw[xl (out++a0++bw not),sJ (out++a0++bw not) (Tok.mk 1 (kw 17) 0) (Tok.mk 5 ⟨#[40]⟩ 0)]
  simp only[tt,seval,Bn hsub,hpos,gu (Query.row_len q),Query.row_len]
  refine cZ (hq (out++a0++bw not++[(Tok.mk 1 (kw 17) 0),(Tok.mk 5 ⟨#[40]⟩ 0)]) av) ?_ ?_<;>simp only[tt,seval]
  refine cZ (bZ ⟨#[41]⟩) ?_ ?_<;>simp only[tt,seval,gT,Tok.row]
  refine iS ?_
  rw[eC (out++a0++bw not++[(Tok.mk 1 (kw 17) 0),(Tok.mk 5 ⟨#[40]⟩ 0)]++dP g q),dJ (out++a0++bw not++[(Tok.mk 1 (kw 17) 0),(Tok.mk 5 ⟨#[40]⟩ 0)]++dP g q) (Tok.mk 5 ⟨#[41]⟩ 0)]
  refine⟨_,[],pS (l:=out++a0++bw not++[(Tok.mk 1 (kw 17) 0),(Tok.mk 5 ⟨#[40]⟩ 0)]++dP g q++[(Tok.mk 5 ⟨#[41]⟩ 0)]) (by simp [iN,iQ,gT,kT,bw,aL]),am ?_⟩
  simp only[tt,seval]
 ·skip
  obtain⟨q,hsub⟩:=j6 hs0
  have hsl:kK g sub=dP g q:=by rw[hsub];rfl
  have hq:=hgq q (by rw[hsub];simp)
  have hpos:((0:Int)<sub.length)=True:=eq_true aa
  have e:iO full g (Expr.mk 9 op not val qual name kids sub)=kT 19::iN::(kK g sub++[iQ]):=rfl
  rw[e] at hroom ⊢
  clear e
  simp only[ll] at hroom
  refine ai ac false Tryz.func80 rfl ae ?_
  simp only[Tryz.f80,tt,seval]
  rw[hsl] at hroom ⊢
  apply bH 0
  case h1=>
   refine dDrawn.intro [59] (.take 0 (.take 5 (.take 9 (.br 1 (.br 2 (.br 3 (.br 4 (.take 6 (.take 7 (.take 8 (.br 10 (.take 11 .done) .nobr)))) (.br 6 (.take 7 (.br 4 (.take 8 (.br 10 (.take 11 .done) .nobr)) (.br 8 (.br 4 (.br 10 (.take 11 .done) .nobr) .nobr) .nobr))) .nobr)) (.br 6 (.take 7 (.br 3 (.br 4 (.take 8 (.br 10 (.take 11 .done) .nobr)) (.br 8 (.br 4 (.br 10 (.take 11 .done) .nobr) .nobr) .nobr)) (.br 8 (.br 3 (.br 4 (.br 10 (.take 11 .done) .nobr) .nobr) .nobr) .nobr))) .nobr)) (.br 6 (.take 7 (.br 2 (.br 3 (.br 4 (.take 8 (.br 10 (.take 11 .done) .nobr)) (.br 8 (.br 4 (.br 10 (.take 11 .done) .nobr) .nobr) .nobr)) (.br 8 (.br 3 (.br 4 (.br 10 (.take 11 .done) .nobr) .nobr) .nobr) .nobr)) (.br 8 (.br 2 (.br 3 (.br 4 (.br 10 (.take 11 .done) .nobr) .nobr) .nobr) .nobr) .nobr))) .nobr)) (.br 6 (.take 7 (.br 1 (.br 2 (.br 3 (.br 4 (.take 8 (.br 10 (.take 11 .done) .nobr)) (.br 8 (.br 4 (.br 10 (.take 11 .done) .nobr) .nobr) .nobr)) (.br 8 (.br 3 (.br 4 (.br 10 (.take 11 .done) .nobr) .nobr) .nobr) .nobr)) (.br 8 (.br 2 (.br 3 (.br 4 (.br 10 (.take 11 .done) .nobr) .nobr) .nobr) .nobr) .nobr)) (.br 8 (.br 1 (.br 2 (.br 3 (.br 4 (.br 10 (.take 11 .done) .nobr) .nobr) .nobr) .nobr) .nobr) .nobr))) .nobr))))) ae ?_
   simp only[tt,seval]
   all_goals try simp only[tt,seval,Bn hsub,hpos,gu (Query.row_len q),Query.row_len]
   all_goals repeat' first|refine dO ?_ ?_|refine bz ?_ ?_
   all_goals
    refine cZ (bO 19 aa aa) ?_ ?_<;>simp only[tt,seval,kT,Tok.row,Bn hsub,hpos,gu (Query.row_len q),Query.row_len]
   all_goals repeat' first|refine dO ?_ ?_|refine bz ?_ ?_
   all_goals
    refine cZ (bZ ⟨#[40]⟩) ?_ ?_<;>simp only[tt,seval,gT,Tok.row,Bn hsub,hpos,gu (Query.row_len q),Query.row_len]
   all_goals repeat' first|refine lO ?_ ?_|refine eO ?_ ?_|refine eP ?_ ?_
   all_goals
    refine iS ?_
    rw[xl (out),sJ (out) (Tok.mk 1 (kw 19) 0) (Tok.mk 5 ⟨#[40]⟩ 0)]
   all_goals repeat' first|refine dO ?_ ?_|refine bz ?_ ?_
   all_goals
    refine cZ (hq (out++[(Tok.mk 1 (kw 19) 0),(Tok.mk 5 ⟨#[40]⟩ 0)]) av) ?_ ?_
    ·simp only[tt,seval]
     decide
    simp only[tt,seval]
   all_goals exact⟨rfl,rfl,rfl⟩
  case h2=>
   intro f' hj0
   simp only[tt,seval,hj0]
   refine cZ (bZ ⟨#[41]⟩) ?_ ?_<;>simp only[tt,seval,kT,gT,Tok.row]
   refine iS ?_
   rw[eC (out++[(Tok.mk 1 (kw 19) 0),(Tok.mk 5 ⟨#[40]⟩ 0)]++dP g q),dJ (out++[(Tok.mk 1 (kw 19) 0),(Tok.mk 5 ⟨#[40]⟩ 0)]++dP g q) (Tok.mk 5 ⟨#[41]⟩ 0)]
   refine⟨_,[],pS (l:=out++[(Tok.mk 1 (kw 19) 0),(Tok.mk 5 ⟨#[40]⟩ 0)]++dP g q++[(Tok.mk 5 ⟨#[41]⟩ 0)]) (by simp [iN,iQ,gT,aL]),am ?_⟩
   simp only[tt,seval]
set_option maxHeartbeats 1000000 in
theorem tO (full:Bool) (x:Item) (g:Expr->List Tok) (hg:x.star=false->Ah full x.e (g x.e)) (out:List Tok) (hroom:out.length+(cK g x).length<=1000000):Cl Tryz.prog 139 [.c (.ow 150 (out).length ((out).flatMap Tok.row) none),.ag (ar x.row),vb full] [] fun r _=>r = .c (.ow 150 (out++cK g x).length ((out++cK g x).flatMap Tok.row) none):=by
 obtain⟨star,qual,⟨k0,o0,n0,v0,q0,m0,ks0,ss0⟩,as_⟩:=x
 cases star
 case false=>
  have hx:∀out:List Tok,out.length+(g (Expr.mk k0 o0 n0 v0 q0 m0 ks0 ss0)).length<=1000000->Cl Tryz.prog 80 [.c (.ow 150 (out).length ((out).flatMap Tok.row) none),.ag (ar (Expr.mk k0 o0 n0 v0 q0 m0 ks0 ss0).row),vb full] [] fun r _=>r = .c (.ow 150 (out++g (Expr.mk k0 o0 n0 v0 q0 m0 ks0 ss0)).length ((out++g (Expr.mk k0 o0 n0 v0 q0 m0 ks0 ss0)).flatMap Tok.row) none):=hg rfl
  have e:cK g (.mk false qual (Expr.mk k0 o0 n0 v0 q0 m0 ks0 ss0) as_)=g (Expr.mk k0 o0 n0 v0 q0 m0 ks0 ss0)++cQ as_:=rfl
  rw[e] at hroom ⊢
  clear e
  generalize g (Expr.mk k0 o0 n0 v0 q0 m0 ks0 ss0)=l at *
  simp only[ll] at hroom
  rw[al] at hx
  rw[Item.row_mk,al]
  refine ai ac false Tryz.func139 rfl ae ?_
  simp only[Tryz.f139,tt,seval]
  apply bH 6
  case h1=>
   refine dDrawn.intro [14,17] (.take 0 (.take 1 (.take 2 (.take 3 (.take 5 (.br 4 (.take 6 (.br 7 (.take 8 .done) .nobr)) (.br 6 (.br 4 (.br 7 (.take 8 .done) .nobr) .nobr) .nobr))))))) ae ?_
   simp only[tt,seval]
   all_goals repeat' first|refine dO ?_ ?_|refine bz ?_ ?_
   all_goals
    refine cZ (hx out av) ?_ ?_
    ·simp only[tt,seval]
     decide
    simp only[tt,seval]
   all_goals repeat' first|refine dO ?_ ?_|refine bz ?_ ?_
   all_goals
    refine cZ (oH (out++l) as_ av) ?_ ?_
    ·simp only[tt,seval]
     decide
    simp only[tt,seval]
   all_goals exact⟨rfl,rfl,rfl⟩
  case h2=>
   intro f' hj0
   simp only[tt,seval,hj0]
   refine⟨_,[],pS (l:=out++l++cQ as_) (by simp [aL]),am ?_⟩
   simp only[tt,seval]
 case true=>
  have e:cK g (.mk true qual (Expr.mk k0 o0 n0 v0 q0 m0 ks0 ss0) as_)=cF qual++[Dp]:=rfl
  rw[e] at hroom ⊢
  clear e
  simp only[ll] at hroom
  rw[Item.row_mk,al]
  refine ai ac false Tryz.func139 rfl ae ?_
  simp only[Tryz.f139,tt,seval]
  refine ab (fun hq=>?_) (fun hq=>?_)
  ·have hq:¬qual=⟨#[]⟩:=by simpa using hq
   rw[cF,if_neg hq] at hroom ⊢
   simp only[ll] at hroom
   simp only[tt,seval]
   refine cZ (eZ qual) ?_ ?_<;>simp only[tt,seval,nT,Tok.row]
   refine cZ (bZ ⟨#[46]⟩) ?_ ?_<;>simp only[tt,seval,gT,Tok.row]
   refine iS ?_
   rw[xl (out),sJ (out) (Tok.mk 2 qual 0) (Tok.mk 5 ⟨#[46]⟩ 0)]
   refine cZ (bZ ⟨#[42]⟩) ?_ ?_<;>simp only[tt,seval,gT,Tok.row]
   refine iS ?_
   rw[eC (out++[(Tok.mk 2 qual 0),(Tok.mk 5 ⟨#[46]⟩ 0)]),dJ (out++[(Tok.mk 2 qual 0),(Tok.mk 5 ⟨#[46]⟩ 0)]) (Tok.mk 5 ⟨#[42]⟩ 0)]
   refine⟨_,[],pS (l:=out++[(Tok.mk 2 qual 0),(Tok.mk 5 ⟨#[46]⟩ 0)]++[(Tok.mk 5 ⟨#[42]⟩ 0)]) (by simp [gT,Ix,Dp,aL]),am ?_⟩
   simp only[tt,seval]
  ·have hq:qual=⟨#[]⟩:=by simpa using hq
   rw[cF,if_pos hq] at hroom ⊢
   simp only[ll] at hroom
   simp only[tt,seval]
   refine cZ (bZ ⟨#[42]⟩) ?_ ?_<;>simp only[tt,seval,gT,Tok.row]
   refine iS ?_
   rw[eC (out),dJ (out) (Tok.mk 5 ⟨#[42]⟩ 0)]
   refine⟨_,[],pS (l:=out++[(Tok.mk 5 ⟨#[42]⟩ 0)]) (by simp [gT,Dp]),am ?_⟩
   simp only[tt,seval]
set_option maxHeartbeats 1000000 in
theorem yC (full:Bool) (l:List Expr) (g:Expr->List Tok) (hll:l.length<=1048576) (hg:∀x∈l,Ah full x (g x)) (out:List Tok) (hroom:out.length+(nA g l).length<=1000000):Cl Tryz.prog 141 [.c (.ow 150 (out).length ((out).flatMap Tok.row) none),.c (.sl l.length (l.flatMap Expr.row) none),vb full] [] fun r _=>r = .c (.ow 150 (out++nA g l).length ((out++nA g l).flatMap Tok.row) none):=by
 refine ai ac false Tryz.func141 rfl ae ?_
 simp only[Tryz.f141,tt,seval]
 refine fun _=>?_
 rcases hL:l with _|⟨e,r⟩
 ·rw[hL] at hroom
  simp only[tt,seval]
  refine⟨_,[],pS (l:=out) (by exact (List.append_nil _).symm),am ?_⟩
  simp only[tt,seval]
 ·rw[<-hL]
  have hlen:l.length=r.length+1:=by rw[hL];rfl
  have hw:nA g l=kT 6::g e:=by rw[hL];rfl
  have hx:∀out:List Tok,out.length+(g e).length<=1000000->Cl Tryz.prog 80 [.c (.ow 150 (out).length ((out).flatMap Tok.row) none),.ag (ar e.row),vb full] [] fun r _=>r = .c (.ow 150 (out++g e).length ((out++g e).flatMap Tok.row) none):=hg e (by rw[hL];simp)
  have hpos:((0:Int)<l.length)=True:=eq_true aa
  rw[hw] at hroom ⊢
  clear hw
  generalize g e=le at *
  simp only[ll] at hroom
  simp only[tt,seval,show (¬(l.length:Int)=0) from by omega]
  apply bH 6
  case h1=>
   refine dDrawn.intro [19] (.take 0 (.take 4 (.take 5 (.take 7 (.br 1 (.br 2 (.br 3 (.take 6 (.br 8 (.take 9 .done) .nobr)) (.br 6 (.br 3 (.br 8 (.take 9 .done) .nobr) .nobr) .nobr)) (.br 6 (.br 2 (.br 3 (.br 8 (.take 9 .done) .nobr) .nobr) .nobr) .nobr)) (.br 6 (.br 1 (.br 2 (.br 3 (.br 8 (.take 9 .done) .nobr) .nobr) .nobr) .nobr) .nobr)))))) ae ?_
   simp only[tt,seval]
   all_goals try simp only[tt,seval,vy hL aQ,hpos,cU (aQ e),aQ]
   all_goals repeat' first|refine dO ?_ ?_|refine bz ?_ ?_
   all_goals
    refine cZ (bO 6 aa aa) ?_ ?_<;>simp only[tt,seval,kT,Tok.row,cU (aQ e),aQ]
   all_goals repeat' first|refine lO ?_ ?_|refine eO ?_ ?_|refine eP ?_ ?_
   all_goals
    refine iS ?_
    rw[eC (out),dJ (out) (Tok.mk 1 (kw 6) 0)]
   all_goals repeat' first|refine dO ?_ ?_|refine bz ?_ ?_
   all_goals
    refine cZ (hx (out++[(Tok.mk 1 (kw 6) 0)]) av) ?_ ?_
    ·simp only[tt,seval]
     decide
    simp only[tt,seval]
   all_goals exact⟨rfl,rfl,rfl⟩
  case h2=>
   intro f' hj0
   simp only[tt,seval,hj0]
   refine⟨_,[],pS (l:=out++[(Tok.mk 1 (kw 6) 0)]++le) (by simp [kT,aL]),am ?_⟩
   simp only[tt,seval]
set_option maxHeartbeats 4000000 in
theorem Bo (full:Bool) (from_:List Source) (g:Expr->List Tok) (hsz:d8 from_<=1048576) (hg:∀s∈from_,∀x∈s.on,Ah full x (g x)) (out:List Tok) (hroom:out.length+(bd (dR g from_) from_.length).length<=1000000):Cl Tryz.prog 140 [.c (.ow 150 (out).length ((out).flatMap Tok.row) none),.c (.sl from_.length (from_.flatMap Source.row) none),vb full] [] fun r _=>r = .c (.ow 150 (out++bd (dR g from_) from_.length).length ((out++bd (dR g from_) from_.length).flatMap Tok.row) none):=by
 have hfl:from_.length<=1048576:=by rw[cM] at hsz;omega
 refine ai ac false Tryz.func140 rfl ae ?_
 simp only[Tryz.f140,tt,seval]
 refine dLoop.gh [.ren 9500 10078] ⟨ah,ah,?_⟩
 refine dLoop0.introR (fun f L p=>∃(i:Nat) (es:List Tok),f 7=vi i/\f 0 = .c (.s 10078 es.length)/\i<=from_.length/\es=out++bd (dR g from_) i/\L=[(10078,.arr 150 (es).length ((es).flatMap Tok.row) none)]/\p=none) (fun f _ _=>(from_.length-eH (f 7)).toNat) [(10078,.arr 150 (out).length ((out).flatMap Tok.row) none)] none ⟨ak rfl (ao _),aq _,?_⟩ ?_
 ·simp only[tt,seval]
  exact⟨0,out,rfl,rfl,aa,(List.append_nil _).symm,rfl⟩
 ·rintro g' L p ⟨i,es,h7,h0,hi,hes0,rfl,rfl⟩
  simp only[tt,seval] at h7 h0
  simp only[tt,seval,h7,h0,Int.ofNat_lt]
  refine fun _=>ab (fun hlt=>?_) (fun hge=>?_)
  ·have hlt:i<from_.length:=by omega
   have hst:=da (dR g from_) i
   have hlt2:=j4 (dR g from_) hlt
   have hel:es.length=out.length+(bd (dR g from_) i).length:=by rw[hes0,aC]
   obtain⟨it,bu⟩:∃it,it=from_[i]:=⟨_,rfl⟩
   have hx:from_[i]?=some it:=by rw[bu];exact aD hlt
   have hss:dR g from_ i=fy g i it:=by rw[dR,ea hlt,bu]
   rw[hss] at hst hlt2
   have hgi:=hg it (by rw[bu];exact aO hlt)
   have hso:=fH cJ (show it∈from_ by rw[bu];exact aO hlt)
   rw[cM] at hsz
   obtain⟨table,as_,on⟩:=it
   rw[dt,aT] at hso
   have hon:on.length<=1048576:=by omega
   have hol:(on.length<=9223372036854775807)=True:=eq_true aa
   have i0:((0:Int)<=(i:Int))=True:=eq_true aa
   have iL:((i:Int)<(from_.length:Int))=True:=eq_true aa
   rcases hL:on with _|⟨e,r⟩
   ·have hle:rE g on=[]:=by rw[hL];rfl
    have hlen:on.length=0:=by rw[hL];rfl
    have op:¬(0:Int)<on.length:=by omega
    have oz:(on.length:Int)=0:=by omega
    by_cases hi0:i=0
    ·have ip:¬(0:Int)<i:=by omega
     have hsrc:fy g i (Source.mk table as_ on)=[]++(nT table::(cQ as_++[])):=by
      show (if 0<i then (if 0<on.length then [kT 4] else [dQ]) else [])++(nT table::(cQ as_++rE g on))=_
      rw[hle]
      rw[if_neg aa]
     rw[hsrc] at hlt2
     simp only[ll] at hlt2
     simp only[tt,seval,h7,h0,au ip]
     apply gr 0 7 1 2
     case h1=>
      refine dDrawn.intro [58] (.take 0 (.take 1 (.take 2 (.take 3 (.take 4 (.take 5 (.take 9 (.take 10 (.take 11 (.take 12 (.br 6 (.br 7 (.br 8 (.take 13 (.br 14 (.take 15 .done) .nobr)) (.br 13 (.br 8 (.br 14 (.take 15 .done) .nobr) .nobr) .nobr)) (.br 13 (.br 7 (.br 8 (.br 14 (.take 15 .done) .nobr) .nobr) .nobr) .nobr)) (.br 13 (.br 6 (.br 7 (.br 8 (.br 14 (.take 15 .done) .nobr) .nobr) .nobr) .nobr) .nobr)))))))))))) ae ?_
      simp only[tt,seval]
      all_goals try simp only[tt,seval,h7,h0,cT hx Source.row_len,i0,iL,Source.row_mk]
      all_goals repeat' first|refine dO ?_ ?_|refine bz ?_ ?_
      all_goals
       refine cZ (eZ table) ?_ ?_<;>simp only[tt,seval,nT,Tok.row]
      all_goals repeat' first|refine lO ?_ ?_|refine eO ?_ ?_|refine eP ?_ ?_
      all_goals
       refine iS ?_
       rw[eC (es),dJ (es) (Tok.mk 2 table 0)]
      all_goals repeat' first|refine dO ?_ ?_|refine bz ?_ ?_
      all_goals
       refine cZ (oH (es++[(Tok.mk 2 table 0)]) as_ av) ?_ ?_
       ·simp only[tt,seval]
        decide
       simp only[tt,seval,h7]
      all_goals exact⟨rfl,rfl,rfl,rfl,rfl,rfl⟩
     case h2=>
      intro f' hj0 hj1 hj2 hj3
      simp only[tt,seval,hj2,hj1,cT hx Source.row_len,i0,iL,hol,Source.row_mk,au op]
      try rw[eS i aa]
      refine⟨[.ren 10058 10078],ah,ah,?_⟩
      simp only[tt,seval,ol,hj0]
      exact⟨[(10078,.arr 150 (es++[(Tok.mk 2 table 0)]++cQ as_).length ((es++[(Tok.mk 2 table 0)]++cQ as_).flatMap Tok.row) none)],none,ak rfl (ao _),aq _,⟨i+1,es++[(Tok.mk 2 table 0)]++cQ as_,rfl,rfl,aa,by rw[hst,hes0,hsrc];simp [nT,aL],rfl,rfl⟩,aB⟩
    ·have ip:(0:Int)<i:=by omega
     have hsrc:fy g i (Source.mk table as_ on)=[dQ]++(nT table::(cQ as_++[])):=by
      show (if 0<i then (if 0<on.length then [kT 4] else [dQ]) else [])++(nT table::(cQ as_++rE g on))=_
      rw[hle]
      rw[if_pos aa];rw[if_neg aa]
     rw[hsrc] at hlt2
     simp only[ll] at hlt2
     simp only[tt,seval,h7,h0,cT hx Source.row_len,i0,iL,hol,Source.row_mk,az ip,au op,az oz]
     refine cZ (bZ ⟨#[44]⟩) ?_ ?_<;>simp only[tt,seval,gT,Tok.row]
     refine iS ?_
     rw[eC (es),dJ (es) (Tok.mk 5 ⟨#[44]⟩ 0)]
     apply gr 0 7 1 2
     case h1=>
      refine dDrawn.intro [58] (.take 0 (.take 1 (.take 2 (.take 3 (.take 4 (.take 5 (.take 9 (.take 10 (.take 11 (.take 12 (.br 6 (.br 7 (.br 8 (.take 13 (.br 14 (.take 15 .done) .nobr)) (.br 13 (.br 8 (.br 14 (.take 15 .done) .nobr) .nobr) .nobr)) (.br 13 (.br 7 (.br 8 (.br 14 (.take 15 .done) .nobr) .nobr) .nobr) .nobr)) (.br 13 (.br 6 (.br 7 (.br 8 (.br 14 (.take 15 .done) .nobr) .nobr) .nobr) .nobr) .nobr)))))))))))) ae ?_
      simp only[tt,seval]
      all_goals try simp only[tt,seval,h7,cT hx Source.row_len,i0,iL,Source.row_mk]
      all_goals repeat' first|refine dO ?_ ?_|refine bz ?_ ?_
      all_goals
       refine cZ (eZ table) ?_ ?_<;>simp only[tt,seval,nT,Tok.row]
      all_goals repeat' first|refine lO ?_ ?_|refine eO ?_ ?_|refine eP ?_ ?_
      all_goals
       refine iS ?_
       rw[eC (es++[(Tok.mk 5 ⟨#[44]⟩ 0)]),dJ (es++[(Tok.mk 5 ⟨#[44]⟩ 0)]) (Tok.mk 2 table 0)]
      all_goals repeat' first|refine dO ?_ ?_|refine bz ?_ ?_
      all_goals
       refine cZ (oH (es++[(Tok.mk 5 ⟨#[44]⟩ 0)]++[(Tok.mk 2 table 0)]) as_ av) ?_ ?_
       ·simp only[tt,seval]
        decide
       simp only[tt,seval,h7]
      all_goals exact⟨rfl,rfl,rfl,rfl,rfl,rfl⟩
     case h2=>
      intro f' hj0 hj1 hj2 hj3
      simp only[tt,seval,hj2,hj1,cT hx Source.row_len,i0,iL,hol,Source.row_mk,au op]
      try rw[eS i aa]
      refine⟨[.ren 10058 10078],ah,ah,?_⟩
      simp only[tt,seval,ol,hj0]
      exact⟨[(10078,.arr 150 (es++[(Tok.mk 5 ⟨#[44]⟩ 0)]++[(Tok.mk 2 table 0)]++cQ as_).length ((es++[(Tok.mk 5 ⟨#[44]⟩ 0)]++[(Tok.mk 2 table 0)]++cQ as_).flatMap Tok.row) none)],none,ak rfl (ao _),aq _,⟨i+1,es++[(Tok.mk 5 ⟨#[44]⟩ 0)]++[(Tok.mk 2 table 0)]++cQ as_,rfl,rfl,aa,by rw[hst,hes0,hsrc];simp [dQ,gT,nT,aL],rfl,rfl⟩,aB⟩
   ·have hle0:rE g on=kT 5::g e:=by rw[hL];rfl
    have hlen:on.length=r.length+1:=by rw[hL];rfl
    have hxe:=hgi e (by show e∈on;rw[hL];simp)
    obtain⟨le,hle1⟩:∃le,le=g e:=⟨_,rfl⟩
    have hle:rE g on=kT 5::le:=by rw[hle0,hle1]
    rw[<-hle1] at hxe
    have hxe:∀out:List Tok,out.length+le.length<=1000000->Cl Tryz.prog 80 [.c (.ow 150 (out).length ((out).flatMap Tok.row) none),.ag (ar e.row),vb full] [] fun r _=>r = .c (.ow 150 (out++le).length ((out++le).flatMap Tok.row) none):=hxe
    have hpos:((0:Int)<on.length)=True:=eq_true aa
    have op:(0:Int)<on.length:=by omega
    have oz:¬(on.length:Int)=0:=by omega
    by_cases hi0:i=0
    ·have ip:¬(0:Int)<i:=by omega
     have hsrc:fy g i (Source.mk table as_ on)=[]++(nT table::(cQ as_++(kT 5::le))):=by
      show (if 0<i then (if 0<on.length then [kT 4] else [dQ]) else [])++(nT table::(cQ as_++rE g on))=_
      rw[hle]
      rw[if_neg aa]
     rw[hsrc] at hlt2
     simp only[ll] at hlt2
     simp only[tt,seval,h7,h0,au ip]
     apply gr 0 7 1 2
     case h1=>
      refine dDrawn.intro [58] (.take 0 (.take 1 (.take 2 (.take 3 (.take 4 (.take 5 (.take 9 (.take 10 (.take 11 (.take 12 (.br 6 (.br 7 (.br 8 (.take 13 (.br 14 (.take 15 .done) .nobr)) (.br 13 (.br 8 (.br 14 (.take 15 .done) .nobr) .nobr) .nobr)) (.br 13 (.br 7 (.br 8 (.br 14 (.take 15 .done) .nobr) .nobr) .nobr) .nobr)) (.br 13 (.br 6 (.br 7 (.br 8 (.br 14 (.take 15 .done) .nobr) .nobr) .nobr) .nobr) .nobr)))))))))))) ae ?_
      simp only[tt,seval]
      all_goals try simp only[tt,seval,h7,h0,cT hx Source.row_len,i0,iL,Source.row_mk]
      all_goals repeat' first|refine dO ?_ ?_|refine bz ?_ ?_
      all_goals
       refine cZ (eZ table) ?_ ?_<;>simp only[tt,seval,nT,Tok.row]
      all_goals repeat' first|refine lO ?_ ?_|refine eO ?_ ?_|refine eP ?_ ?_
      all_goals
       refine iS ?_
       rw[eC (es),dJ (es) (Tok.mk 2 table 0)]
      all_goals repeat' first|refine dO ?_ ?_|refine bz ?_ ?_
      all_goals
       refine cZ (oH (es++[(Tok.mk 2 table 0)]) as_ av) ?_ ?_
       ·simp only[tt,seval]
        decide
       simp only[tt,seval,h7]
      all_goals exact⟨rfl,rfl,rfl,rfl,rfl,rfl⟩
     case h2=>
      intro f' hj0 hj1 hj2 hj3
      simp only[tt,seval,hj2,hj1,cT hx Source.row_len,i0,iL,hol,Source.row_mk,az op]
      apply gr 0 7 1 2
      case h1=>
       refine dDrawn.intro [78] (.take 0 (.take 4 (.take 5 (.take 6 (.take 7 (.take 11 (.br 1 (.br 2 (.br 3 (.take 8 (.take 9 (.take 10 (.br 12 (.take 13 .done) .nobr)))) (.br 8 (.take 9 (.br 3 (.take 10 (.br 12 (.take 13 .done) .nobr)) (.br 10 (.br 3 (.br 12 (.take 13 .done) .nobr) .nobr) .nobr))) .nobr)) (.br 8 (.take 9 (.br 2 (.br 3 (.take 10 (.br 12 (.take 13 .done) .nobr)) (.br 10 (.br 3 (.br 12 (.take 13 .done) .nobr) .nobr) .nobr)) (.br 10 (.br 2 (.br 3 (.br 12 (.take 13 .done) .nobr) .nobr) .nobr) .nobr))) .nobr)) (.br 8 (.take 9 (.br 1 (.br 2 (.br 3 (.take 10 (.br 12 (.take 13 .done) .nobr)) (.br 10 (.br 3 (.br 12 (.take 13 .done) .nobr) .nobr) .nobr)) (.br 10 (.br 2 (.br 3 (.br 12 (.take 13 .done) .nobr) .nobr) .nobr) .nobr)) (.br 10 (.br 1 (.br 2 (.br 3 (.br 12 (.take 13 .done) .nobr) .nobr) .nobr) .nobr) .nobr))) .nobr)))))))) ae ?_
       simp only[tt,seval]
       all_goals try simp only[tt,seval,hj0,hj1,hj2,hj3,cT hx Source.row_len,i0,iL,Source.row_mk,hpos,vy hL aQ,cU (aQ e),aQ]
       all_goals repeat' first|refine dO ?_ ?_|refine bz ?_ ?_
       all_goals
        refine cZ (bO 5 aa aa) ?_ ?_<;>simp only[tt,seval,kT,Tok.row,hpos,vy hL aQ,cU (aQ e),aQ]
       all_goals repeat' first|refine lO ?_ ?_|refine eO ?_ ?_|refine eP ?_ ?_
       all_goals
        refine iS ?_
        rw[eC (es++[(Tok.mk 2 table 0)]++cQ as_),dJ (es++[(Tok.mk 2 table 0)]++cQ as_) (Tok.mk 1 (kw 5) 0)]
       all_goals repeat' first|refine dO ?_ ?_|refine bz ?_ ?_
       all_goals
        refine cZ (hxe (es++[(Tok.mk 2 table 0)]++cQ as_++[(Tok.mk 1 (kw 5) 0)]) av) ?_ ?_
        ·simp only[tt,seval]
         decide
        simp only[tt,seval,hj1,hj2,hj3]
       all_goals exact⟨rfl,rfl,rfl,rfl,rfl,rfl⟩
      case h2=>
       intro f' hj0 hj1 hj2 hj3
       simp only[tt,seval,hj1]
       try rw[eS i aa]
       refine⟨[],?_⟩
       simp only[tt,seval,ol,hj0]
       exact⟨[(10078,.arr 150 (es++[(Tok.mk 2 table 0)]++cQ as_++[(Tok.mk 1 (kw 5) 0)]++le).length ((es++[(Tok.mk 2 table 0)]++cQ as_++[(Tok.mk 1 (kw 5) 0)]++le).flatMap Tok.row) none)],none,ak rfl (ao _),aq _,⟨i+1,es++[(Tok.mk 2 table 0)]++cQ as_++[(Tok.mk 1 (kw 5) 0)]++le,rfl,rfl,aa,by rw[hst,hes0,hsrc];simp [kT,nT,aL],rfl,rfl⟩,aB⟩
    ·have ip:(0:Int)<i:=by omega
     have hsrc:fy g i (Source.mk table as_ on)=[kT 4]++(nT table::(cQ as_++(kT 5::le))):=by
      show (if 0<i then (if 0<on.length then [kT 4] else [dQ]) else [])++(nT table::(cQ as_++rE g on))=_
      rw[hle]
      rw[if_pos aa];rw[if_pos aa]
     rw[hsrc] at hlt2
     simp only[ll] at hlt2
     simp only[tt,seval,h7,h0,cT hx Source.row_len,i0,iL,hol,Source.row_mk,az ip,az op,au oz]
     refine cZ (bO 4 aa aa) ?_ ?_<;>simp only[tt,seval,kT,Tok.row,h7,cT hx Source.row_len,i0,iL,hol,Source.row_mk,az ip,au oz]
     refine iS ?_
     rw[eC (es),dJ (es) (Tok.mk 1 (kw 4) 0)]
     apply gr 0 7 1 2
     case h1=>
      refine dDrawn.intro [58] (.take 0 (.take 1 (.take 2 (.take 3 (.take 4 (.take 5 (.take 9 (.take 10 (.take 11 (.take 12 (.br 6 (.br 7 (.br 8 (.take 13 (.br 14 (.take 15 .done) .nobr)) (.br 13 (.br 8 (.br 14 (.take 15 .done) .nobr) .nobr) .nobr)) (.br 13 (.br 7 (.br 8 (.br 14 (.take 15 .done) .nobr) .nobr) .nobr) .nobr)) (.br 13 (.br 6 (.br 7 (.br 8 (.br 14 (.take 15 .done) .nobr) .nobr) .nobr) .nobr) .nobr)))))))))))) ae ?_
      simp only[tt,seval]
      all_goals try simp only[tt,seval,h7,cT hx Source.row_len,i0,iL,Source.row_mk]
      all_goals repeat' first|refine dO ?_ ?_|refine bz ?_ ?_
      all_goals
       refine cZ (eZ table) ?_ ?_<;>simp only[tt,seval,nT,Tok.row]
      all_goals repeat' first|refine lO ?_ ?_|refine eO ?_ ?_|refine eP ?_ ?_
      all_goals
       refine iS ?_
       rw[eC (es++[(Tok.mk 1 (kw 4) 0)]),dJ (es++[(Tok.mk 1 (kw 4) 0)]) (Tok.mk 2 table 0)]
      all_goals repeat' first|refine dO ?_ ?_|refine bz ?_ ?_
      all_goals
       refine cZ (oH (es++[(Tok.mk 1 (kw 4) 0)]++[(Tok.mk 2 table 0)]) as_ av) ?_ ?_
       ·simp only[tt,seval]
        decide
       simp only[tt,seval,h7]
      all_goals exact⟨rfl,rfl,rfl,rfl,rfl,rfl⟩
     case h2=>
      intro f' hj0 hj1 hj2 hj3
      simp only[tt,seval,hj2,hj1,cT hx Source.row_len,i0,iL,hol,Source.row_mk,az op]
      apply gr 0 7 1 2
      case h1=>
       refine dDrawn.intro [78] (.take 0 (.take 4 (.take 5 (.take 6 (.take 7 (.take 11 (.br 1 (.br 2 (.br 3 (.take 8 (.take 9 (.take 10 (.br 12 (.take 13 .done) .nobr)))) (.br 8 (.take 9 (.br 3 (.take 10 (.br 12 (.take 13 .done) .nobr)) (.br 10 (.br 3 (.br 12 (.take 13 .done) .nobr) .nobr) .nobr))) .nobr)) (.br 8 (.take 9 (.br 2 (.br 3 (.take 10 (.br 12 (.take 13 .done) .nobr)) (.br 10 (.br 3 (.br 12 (.take 13 .done) .nobr) .nobr) .nobr)) (.br 10 (.br 2 (.br 3 (.br 12 (.take 13 .done) .nobr) .nobr) .nobr) .nobr))) .nobr)) (.br 8 (.take 9 (.br 1 (.br 2 (.br 3 (.take 10 (.br 12 (.take 13 .done) .nobr)) (.br 10 (.br 3 (.br 12 (.take 13 .done) .nobr) .nobr) .nobr)) (.br 10 (.br 2 (.br 3 (.br 12 (.take 13 .done) .nobr) .nobr) .nobr) .nobr)) (.br 10 (.br 1 (.br 2 (.br 3 (.br 12 (.take 13 .done) .nobr) .nobr) .nobr) .nobr) .nobr))) .nobr)))))))) ae ?_
       simp only[tt,seval]
       all_goals try simp only[tt,seval,hj0,hj1,hj2,hj3,cT hx Source.row_len,i0,iL,Source.row_mk,hpos,vy hL aQ,cU (aQ e),aQ]
       all_goals repeat' first|refine dO ?_ ?_|refine bz ?_ ?_
       all_goals
        refine cZ (bO 5 aa aa) ?_ ?_<;>simp only[tt,seval,kT,Tok.row,hpos,vy hL aQ,cU (aQ e),aQ]
       all_goals repeat' first|refine lO ?_ ?_|refine eO ?_ ?_|refine eP ?_ ?_
       all_goals
        refine iS ?_
        rw[eC (es++[(Tok.mk 1 (kw 4) 0)]++[(Tok.mk 2 table 0)]++cQ as_),dJ (es++[(Tok.mk 1 (kw 4) 0)]++[(Tok.mk 2 table 0)]++cQ as_) (Tok.mk 1 (kw 5) 0)]
       all_goals repeat' first|refine dO ?_ ?_|refine bz ?_ ?_
       all_goals
        refine cZ (hxe (es++[(Tok.mk 1 (kw 4) 0)]++[(Tok.mk 2 table 0)]++cQ as_++[(Tok.mk 1 (kw 5) 0)]) av) ?_ ?_
        ·simp only[tt,seval]
         decide
        simp only[tt,seval,hj1,hj2,hj3]
       all_goals exact⟨rfl,rfl,rfl,rfl,rfl,rfl⟩
      case h2=>
       intro f' hj0 hj1 hj2 hj3
       simp only[tt,seval,hj1]
       try rw[eS i aa]
       refine⟨[],?_⟩
       simp only[tt,seval,ol,hj0]
       exact⟨[(10078,.arr 150 (es++[(Tok.mk 1 (kw 4) 0)]++[(Tok.mk 2 table 0)]++cQ as_++[(Tok.mk 1 (kw 5) 0)]++le).length ((es++[(Tok.mk 1 (kw 4) 0)]++[(Tok.mk 2 table 0)]++cQ as_++[(Tok.mk 1 (kw 5) 0)]++le).flatMap Tok.row) none)],none,ak rfl (ao _),aq _,⟨i+1,es++[(Tok.mk 1 (kw 4) 0)]++[(Tok.mk 2 table 0)]++cQ as_++[(Tok.mk 1 (kw 5) 0)]++le,rfl,rfl,aa,by rw[hst,hes0,hsrc];simp [kT,nT,aL],rfl,rfl⟩,aB⟩
  ·have hie:i=from_.length:=by omega
   subst hie
   subst hes0
   refine⟨_,[],pS (l:=out++bd (dR g from_) from_.length) (by rfl),am ?_⟩
   simp only[tt,seval]
theorem qr (e:Expr) (d:Bool) (r:List D):(SortKey.mk e d).row++r=e.row++(bool d::r):=by rw[SortKey.row_mk,aL];rfl
theorem JX (e:Expr) (r:List D):List.drop 10 (e.row++r)=r:=by
 have:=List.drop_left (l₁ := e.row) (l₂ := r)
 rwa[aQ] at this
set_option maxHeartbeats 4000000 in
theorem mN (full:Bool) (gf:Expr->Bool) (g:Expr->List Tok) (q:Query) (hf:hZ gf q=true) (hlim:q.lim<=9223372036854775807) (hsz:szQuery q<=1048576) (hg:∀x∈exprsQ q,Ah full x (g x)):JL full q (dP g q):=by
 intro out hroom
 obtain⟨distinct,items,from_,where_,order,limit⟩:=q
 obtain⟨_,_,_,_,hl1,_,_,_⟩:=ff hf
 have hlim:limit<=9223372036854775807:=hlim
 rw[dC,dB,aT,cB] at hsz
 have eq:exprsQ (.mk distinct items from_ where_ order limit)=aY items++from_.flatMap Source.on++where_++order.map SortKey.e:=rfl
 rw[eq] at hg
 have hgI:∀x∈items,x.star=false->Ah full x.e (g x.e):=fun x hx hs=>hg _ (by
  simp only[List.mem_append,aY,List.mem_map,List.mem_filter]
  exact .inl (.inl (.inl ⟨_,⟨hx,by rw[hs];rfl⟩,rfl⟩)))
 have hgS:∀s∈from_,∀x∈s.on,Ah full x (g x):=fun s hs x hx=>hg _ (by
  simp only[List.mem_append,List.mem_flatMap]
  exact .inl (.inl (.inr ⟨_,hs,hx⟩)))
 have hgW:∀x∈where_,Ah full x (g x):=fun x hx=>hg _ (by simp [hx])
 have hgO:∀k∈order,Ah full k.e (g k.e):=fun k hk=>hg _ (by
  simp only[List.mem_append,List.mem_map]
  exact .inr ⟨_,hk,rfl⟩)
 have hsf:d8 from_<=1048576:=by omega
 clear hf hg eq
 rw[aF]
 obtain⟨dl,hdl⟩:∃dl,dl=(if distinct=true then [kT 2] else []):=⟨_,rfl⟩
 have e:dP g (.mk distinct items from_ where_ order limit)=kT 1::(dl++(bd (dd g items) items.length++(kT 3::(bd (dR g from_) from_.length++(nA g where_++(bd (eY g order) order.length++iR limit)))))):=by rw[hdl];rfl
 rw[e] at hroom ⊢
 clear e
 simp only[ll] at hroom
 refine ai ac false Tryz.func65 rfl ae ?_
 simp only[Tryz.f65,tt,seval]
 refine cZ (bO 1 aa aa) ?_ ?_<;>simp only[tt,seval,kT,Tok.row]
 refine iS ?_
 rw[eC (out),dJ (out) (Tok.mk 1 (kw 1) 0)]
 refine ab (fun hd=>?_) (fun hd=>?_)
 all_goals first
  | (have hd1:dl=[(Tok.mk 1 (kw 2) 0)]:=by rw[hdl,if_pos hd];rfl
     have hd2:dl.length=1:=by rw[hd1];rfl
     refine fV (bO 2 aa aa) ?_ ?_ ?_
     ·decide
     ·simp only[tt,seval]
     rintro r rfl
     simp only[tt,seval,kT,Tok.row]
     refine iS ?_
     rw[eC (out++[(Tok.mk 1 (kw 1) 0)]),dJ (out++[(Tok.mk 1 (kw 1) 0)]) (Tok.mk 1 (kw 2) 0)]
     rw[<-hd1]
     refine dLoop.gh [.ren 18 10039] ⟨ah,ah,?_⟩)
  | (have hd1:dl=[]:=by rw[hdl,hd];rfl
     rw[show out++[(Tok.mk 1 (kw 1) 0)]=out++[(Tok.mk 1 (kw 1) 0)]++dl by rw[hd1,List.append_nil]]
     refine dLoop.gh [.ren 12 10039] ⟨ah,ah,?_⟩)
 all_goals
  obtain⟨L1,hL1⟩:∃L1,L1=out++[(Tok.mk 1 (kw 1) 0)]++dl:=⟨_,rfl⟩
  rw[<-hL1]
  have hel1:L1.length=out.length+1+dl.length:=by rw[hL1];simp only[ll]
  refine dLoop0.intro (fun f L p=>∃(i:Nat) (es:List Tok),f 7=vi i/\f 0 = .c (.s 10039 es.length)/\i<=items.length/\es=L1++bd (dd g items) i/\L=[(10039,.arr 150 (es).length ((es).flatMap Tok.row) none),(4,.str [.v (.bool distinct),.sl items.length (items.flatMap Item.row) none,.sl from_.length (from_.flatMap Source.row) none,.sl where_.length (where_.flatMap Expr.row) none,.sl order.length (order.flatMap SortKey.row) none,.v (.int .i64 limit)])]/\p=none) (fun f _ _=>(items.length-eH (f 7)).toNat) [(10039,.arr 150 (L1).length ((L1).flatMap Tok.row) none),(4,.str [.v (.bool distinct),.sl items.length (items.flatMap Item.row) none,.sl from_.length (from_.flatMap Source.row) none,.sl where_.length (where_.flatMap Expr.row) none,.sl order.length (order.flatMap SortKey.row) none,.v (.int .i64 limit)])] none ⟨ak rfl (ak rfl (ao _)),aq _,?_⟩ ?_
  ·simp only[tt,seval]
   exact⟨0,L1,rfl,rfl,aa,(List.append_nil _).symm,rfl⟩
  rintro g' L p ⟨i,es,h7,h0,hi,hes0,rfl,rfl⟩
  simp only[tt,seval] at h7 h0
  simp only[tt,seval,h7,h0,Int.ofNat_lt]
  refine fun _=>ab (fun hlt=>?_) (fun hge=>?_)
  ·have hlt:i<items.length:=by omega
   have hst:=da (dd g items) i
   have hlt2:=j4 (dd g items) hlt
   have hel:es.length=L1.length+(bd (dd g items) i).length:=by rw[hes0,aC]
   obtain⟨it,bu⟩:∃it,it=items[i]:=⟨_,rfl⟩
   have hx:items[i]?=some it:=by rw[bu];exact aD hlt
   have hit2:dd g items i=jQ i++cK g it:=by rw[dd,ea hlt,bu]
   rw[hit2] at hlt2
   have hgi:=hgI it (by rw[bu];exact aO hlt)
   have i0:((0:Int)<=(i:Int))=True:=eq_true aa
   have iL:((i:Int)<(items.length:Int))=True:=eq_true aa
   have iT:(i<items.length)=True:=eq_true hlt
   refine ab (fun hc=>?_) (fun hc=>?_)
   ·have hcl:jQ i=[(Tok.mk 5 ⟨#[44]⟩ 0)]:=if_pos aa
    rw[hcl] at hlt2 hit2
    simp only[ll] at hlt2
    refine cZ (bZ ⟨#[44]⟩) ?_ ?_<;>simp only[tt,seval,gT,iT,Tok.row,h7]
    refine iS ?_
    rw[eC (es),dJ (es) (Tok.mk 5 ⟨#[44]⟩ 0)]
    simp only[tt,seval,cT hx Item.row_len,i0,iL,Item.tk,Item.row_len]
    refine cZ (tO full it g hgi (es++[(Tok.mk 5 ⟨#[44]⟩ 0)]) av) ?_ ?_<;>simp only[tt,seval,h7]
    try rw[eS i aa]
    exact⟨[(10039,.arr 150 (es++[(Tok.mk 5 ⟨#[44]⟩ 0)]++cK g it).length ((es++[(Tok.mk 5 ⟨#[44]⟩ 0)]++cK g it).flatMap Tok.row) none),(4,.str [.v (.bool distinct),.sl items.length (items.flatMap Item.row) none,.sl from_.length (from_.flatMap Source.row) none,.sl where_.length (where_.flatMap Expr.row) none,.sl order.length (order.flatMap SortKey.row) none,.v (.int .i64 limit)])],none,ak rfl (ak rfl (ao _)),aq _,⟨i+1,es++[(Tok.mk 5 ⟨#[44]⟩ 0)]++cK g it,rfl,rfl,aa,by rw[hst,hes0,hit2];simp [aL],rfl,rfl⟩,aB⟩
   ·have hcl:jQ i=[]:=if_neg aa
    rw[hcl] at hlt2 hit2
    simp only[ll] at hlt2
    simp only[tt,seval,cT hx Item.row_len,i0,iT,Item.tk,Item.row_len]
    refine cZ (tO full it g hgi (es) av) ?_ ?_<;>simp only[tt,seval,h7]
    try rw[eS i aa]
    exact⟨[(10039,.arr 150 (es++cK g it).length ((es++cK g it).flatMap Tok.row) none),(4,.str [.v (.bool distinct),.sl items.length (items.flatMap Item.row) none,.sl from_.length (from_.flatMap Source.row) none,.sl where_.length (where_.flatMap Expr.row) none,.sl order.length (order.flatMap SortKey.row) none,.v (.int .i64 limit)])],none,ak rfl (ak rfl (ao _)),aq _,⟨i+1,es++cK g it,rfl,rfl,aa,by rw[hst,hes0,hit2];simp [aL],rfl,rfl⟩,aB⟩
  have hie:i=items.length:=by omega
  subst hie
  have hel2:es.length=L1.length+(bd (dd g items) items.length).length:=by rw[hes0,aC]
  clear hi hge
  apply jM 0 4 2
  case h1=>
   refine dDrawn.intro [47] (.take 0 (.take 4 (.take 6 (.br 1 (.br 2 (.br 3 (.take 5 (.br 7 (.take 8 .done) .nobr)) (.br 5 (.br 3 (.br 7 (.take 8 .done) .nobr) .nobr) .nobr)) (.br 5 (.br 2 (.br 3 (.br 7 (.take 8 .done) .nobr) .nobr) .nobr) .nobr)) (.br 5 (.br 1 (.br 2 (.br 3 (.br 7 (.take 8 .done) .nobr) .nobr) .nobr) .nobr) .nobr))))) ae ?_
   simp only[tt,seval]
   all_goals repeat' first|refine dO ?_ ?_|refine bz ?_ ?_
   all_goals
    refine cZ (bO 3 aa aa) ?_ ?_<;>simp only[tt,seval,kT,Tok.row,h0]
   all_goals repeat' first|refine lO ?_ ?_|refine eO ?_ ?_|refine eP ?_ ?_
   all_goals
    refine iS ?_
    rw[eC (es),dJ (es) (Tok.mk 1 (kw 3) 0)]
   all_goals repeat' first|refine dO ?_ ?_|refine bz ?_ ?_
   all_goals
    refine cZ (Bo full from_ g hsf hgS (es++[(Tok.mk 1 (kw 3) 0)]) av) ?_ ?_
    ·simp only[tt,seval]
     decide
    simp only[tt,seval]
   all_goals exact⟨rfl,rfl,rfl,rfl,rfl⟩
  case h2=>
   intro f' hj0 hj1 hj2
   simp only[tt,seval,hj0,hj1,hj2]
   refine cZ (yC full where_ g aa hgW (es++[(Tok.mk 1 (kw 3) 0)]++bd (dR g from_) from_.length) av) ?_ ?_<;>simp only[tt,seval]
   obtain⟨L5,hL5⟩:∃L5,L5=es++[(Tok.mk 1 (kw 3) 0)]++bd (dR g from_) from_.length++nA g where_:=⟨_,rfl⟩
   have hel5:L5.length=es.length+1+(bd (dR g from_) from_.length).length+(nA g where_).length:=by rw[hL5];simp only[ll]
   rw[<-hL5]
   refine dLoop.gh [.ren 10052 10079] ⟨ah,ah,?_⟩
   refine dLoop0.introR (fun f L p=>∃(i:Nat) (es:List Tok),f 8=vi i/\f 0 = .c (.s 10079 es.length)/\i<=order.length/\es=L5++bd (eY g order) i/\L=[(10079,.arr 150 (es).length ((es).flatMap Tok.row) none),(4,.str [.v (.bool distinct),.sl items.length (items.flatMap Item.row) none,.sl from_.length (from_.flatMap Source.row) none,.sl where_.length (where_.flatMap Expr.row) none,.sl order.length (order.flatMap SortKey.row) none,.v (.int .i64 limit)])]/\p=none) (fun f _ _=>(order.length-eH (f 8)).toNat) [(10079,.arr 150 (L5).length ((L5).flatMap Tok.row) none),(4,.str [.v (.bool distinct),.sl items.length (items.flatMap Item.row) none,.sl from_.length (from_.flatMap Source.row) none,.sl where_.length (where_.flatMap Expr.row) none,.sl order.length (order.flatMap SortKey.row) none,.v (.int .i64 limit)])] none ⟨ak rfl (ak rfl (ao _)),aq _,?_⟩ ?_
   ·simp only[tt,seval]
    exact⟨0,L5,rfl,rfl,aa,(List.append_nil _).symm,rfl⟩
   rintro g' L p ⟨i,ez,h8,hz0,hi,hez0,rfl,rfl⟩
   simp only[tt,seval] at h8 hz0
   simp only[tt,seval,h8,hz0,hj1,Int.ofNat_lt]
   refine fun _=>ab (fun hlt=>?_) (fun hge=>?_)
   ·have hlt:i<order.length:=by omega
    have hst:=da (eY g order) i
    have hlt2:=j4 (eY g order) hlt
    have hel:ez.length=L5.length+(bd (eY g order) i).length:=by rw[hez0,aC]
    obtain⟨it,bu⟩:∃it,it=order[i]:=⟨_,rfl⟩
    have hx:order[i]?=some it:=by rw[bu];exact aD hlt
    have hit2:eY g order i=(if i=0 then [kT 7,kT 8] else [dQ])++iF g it:=by rw[eY,ea hlt,bu]
    have hge:=hgO it (by rw[bu];exact aO hlt)
    have i0:((0:Int)<=(i:Int))=True:=eq_true aa
    have iL:((i:Int)<(order.length:Int))=True:=eq_true aa
    obtain⟨e,desc⟩:=it
    have hge:∀out:List Tok,out.length+(g e).length<=1000000->Cl Tryz.prog 80 [.c (.ow 150 (out).length ((out).flatMap Tok.row) none),.ag (ar e.row),vb full] [] fun r _=>r = .c (.ow 150 (out++g e).length ((out++g e).flatMap Tok.row) none):=hge
    have hkt:iF g (SortKey.mk e desc)=g e++(if desc=true then [kT 10] else []):=rfl
    rw[hkt] at hit2
    rw[hit2] at hlt2
    have hop:0<=(if desc=true then [kT 10] else []).length:=Nat.zero_le _
    refine ab (fun hc=>?_) (fun hc=>?_)
    ·have hc:i=0:=by omega
     rw[if_pos hc] at hlt2 hit2
     simp only[ll] at hlt2
     refine cZ (bO 7 aa aa) ?_ ?_<;>simp only[tt,seval,kT,Tok.row]
     refine cZ (bO 8 aa aa) ?_ ?_<;>simp only[tt,seval,kT,Tok.row,h8,hj1,hj2]
     refine iS ?_
     rw[xl (ez),sJ (ez) (Tok.mk 1 (kw 7) 0) (Tok.mk 1 (kw 8) 0)]
     simp only[tt,seval,cT hx SortKey.row_len,i0,iL,qr,Expr.tk,aQ]
     refine cZ (hge (ez++[(Tok.mk 1 (kw 7) 0),(Tok.mk 1 (kw 8) 0)]) av) ?_ ?_<;>simp only[tt,seval,h8,hj1,cT hx SortKey.row_len,i0,iL,qr,JX]
     refine ab (fun hd=>?_) (fun hd=>?_)
     ·subst hd
      rw[if_pos rfl] at hlt2 hit2
      simp only[ll] at hlt2
      refine cZ (bO 10 aa aa) ?_ ?_<;>simp only[tt,seval,kT,Tok.row,h8]
      refine iS ?_
      rw[eC (ez++[(Tok.mk 1 (kw 7) 0),(Tok.mk 1 (kw 8) 0)]++g e),dJ (ez++[(Tok.mk 1 (kw 7) 0),(Tok.mk 1 (kw 8) 0)]++g e) (Tok.mk 1 (kw 10) 0)]
      try rw[eS i aa]
      refine⟨[.ren 89 10079],ah,ah,?_⟩
      simp only[tt,seval,ol]
      exact⟨[(10079,.arr 150 (ez++[(Tok.mk 1 (kw 7) 0),(Tok.mk 1 (kw 8) 0)]++g e++[(Tok.mk 1 (kw 10) 0)]).length ((ez++[(Tok.mk 1 (kw 7) 0),(Tok.mk 1 (kw 8) 0)]++g e++[(Tok.mk 1 (kw 10) 0)]).flatMap Tok.row) none),(4,.str [.v (.bool distinct),.sl items.length (items.flatMap Item.row) none,.sl from_.length (from_.flatMap Source.row) none,.sl where_.length (where_.flatMap Expr.row) none,.sl order.length (order.flatMap SortKey.row) none,.v (.int .i64 limit)])],none,ak rfl (ak rfl (ao _)),aq _,⟨i+1,ez++[(Tok.mk 1 (kw 7) 0),(Tok.mk 1 (kw 8) 0)]++g e++[(Tok.mk 1 (kw 10) 0)],rfl,rfl,aa,by rw[hst,hez0,hit2];simp [kT,aL],rfl,rfl⟩,aB⟩
     ·subst hd
      rw[if_neg Bool.false_ne_true] at hlt2 hit2
      try rw[eS i aa]
      refine⟨[],?_⟩
      simp only[tt,seval,ol]
      exact⟨[(10079,.arr 150 (ez++[(Tok.mk 1 (kw 7) 0),(Tok.mk 1 (kw 8) 0)]++g e).length ((ez++[(Tok.mk 1 (kw 7) 0),(Tok.mk 1 (kw 8) 0)]++g e).flatMap Tok.row) none),(4,.str [.v (.bool distinct),.sl items.length (items.flatMap Item.row) none,.sl from_.length (from_.flatMap Source.row) none,.sl where_.length (where_.flatMap Expr.row) none,.sl order.length (order.flatMap SortKey.row) none,.v (.int .i64 limit)])],none,ak rfl (ak rfl (ao _)),aq _,⟨i+1,ez++[(Tok.mk 1 (kw 7) 0),(Tok.mk 1 (kw 8) 0)]++g e,rfl,rfl,aa,by rw[hst,hez0,hit2];simp [kT,aL],rfl,rfl⟩,aB⟩
    ·have hc:¬i=0:=by omega
     rw[if_neg hc] at hlt2 hit2
     simp only[ll] at hlt2
     refine cZ (bZ ⟨#[44]⟩) ?_ ?_<;>simp only[tt,seval,gT,Tok.row,h8,hj1,hj2]
     refine iS ?_
     rw[eC (ez),dJ (ez) (Tok.mk 5 ⟨#[44]⟩ 0)]
     simp only[tt,seval,cT hx SortKey.row_len,i0,iL,qr,Expr.tk,aQ]
     refine cZ (hge (ez++[(Tok.mk 5 ⟨#[44]⟩ 0)]) av) ?_ ?_<;>simp only[tt,seval,h8,hj1,cT hx SortKey.row_len,i0,iL,qr,JX]
     refine ab (fun hd=>?_) (fun hd=>?_)
     ·subst hd
      rw[if_pos rfl] at hlt2 hit2
      simp only[ll] at hlt2
      refine cZ (bO 10 aa aa) ?_ ?_<;>simp only[tt,seval,kT,Tok.row,h8]
      refine iS ?_
      rw[eC (ez++[(Tok.mk 5 ⟨#[44]⟩ 0)]++g e),dJ (ez++[(Tok.mk 5 ⟨#[44]⟩ 0)]++g e) (Tok.mk 1 (kw 10) 0)]
      try rw[eS i aa]
      refine⟨[.ren 89 10079],ah,ah,?_⟩
      simp only[tt,seval,ol]
      exact⟨[(10079,.arr 150 (ez++[(Tok.mk 5 ⟨#[44]⟩ 0)]++g e++[(Tok.mk 1 (kw 10) 0)]).length ((ez++[(Tok.mk 5 ⟨#[44]⟩ 0)]++g e++[(Tok.mk 1 (kw 10) 0)]).flatMap Tok.row) none),(4,.str [.v (.bool distinct),.sl items.length (items.flatMap Item.row) none,.sl from_.length (from_.flatMap Source.row) none,.sl where_.length (where_.flatMap Expr.row) none,.sl order.length (order.flatMap SortKey.row) none,.v (.int .i64 limit)])],none,ak rfl (ak rfl (ao _)),aq _,⟨i+1,ez++[(Tok.mk 5 ⟨#[44]⟩ 0)]++g e++[(Tok.mk 1 (kw 10) 0)],rfl,rfl,aa,by rw[hst,hez0,hit2];simp [dQ,gT,kT,aL],rfl,rfl⟩,aB⟩
     ·subst hd
      rw[if_neg Bool.false_ne_true] at hlt2 hit2
      try rw[eS i aa]
      refine⟨[],?_⟩
      simp only[tt,seval,ol]
      exact⟨[(10079,.arr 150 (ez++[(Tok.mk 5 ⟨#[44]⟩ 0)]++g e).length ((ez++[(Tok.mk 5 ⟨#[44]⟩ 0)]++g e).flatMap Tok.row) none),(4,.str [.v (.bool distinct),.sl items.length (items.flatMap Item.row) none,.sl from_.length (from_.flatMap Source.row) none,.sl where_.length (where_.flatMap Expr.row) none,.sl order.length (order.flatMap SortKey.row) none,.v (.int .i64 limit)])],none,ak rfl (ak rfl (ao _)),aq _,⟨i+1,ez++[(Tok.mk 5 ⟨#[44]⟩ 0)]++g e,rfl,rfl,aa,by rw[hst,hez0,hit2];simp [dQ,gT,aL],rfl,rfl⟩,aB⟩
   have hie:i=order.length:=by omega
   subst hie
   have hel6:ez.length=L5.length+(bd (eY g order) order.length).length:=by rw[hez0,aC]
   refine ab (fun hlm=>?_) (fun hlm=>?_)
   ·rw[iR,if_pos hlm] at hroom ⊢
    simp only[ll] at hroom
    apply bH 0
    case h1=>
     refine dDrawn.intro [] (j3 [0,4,6,3,9,10,13,15,16]) ae ?_
     simp only[tt,seval]
     all_goals try simp only[tt,seval,hz0,hj1]
     all_goals repeat' first|refine dO ?_ ?_|refine bz ?_ ?_
     all_goals
      refine cZ (bO 11 aa aa) ?_ ?_<;>simp only[tt,seval,kT,Tok.row]
     all_goals repeat' first|refine dO ?_ ?_|refine bz ?_ ?_
     all_goals
      refine cZ (nF limit aa hlim) ?_ ?_<;>simp only[tt,seval]
     all_goals repeat' first|refine lO ?_ ?_|refine eO ?_ ?_|refine eP ?_ ?_
     all_goals
      refine iS ?_
      rw[xl (ez),sJ (ez) (Tok.mk 1 (kw 11) 0) (Tok.mk 3 (d5 limit) 0)]
     all_goals exact⟨rfl,rfl,rfl⟩
    case h2=>
     intro f' hk0
     simp only[tt,seval,hk0]
     refine⟨_,[],pS (l:=ez++[(Tok.mk 1 (kw 11) 0),(Tok.mk 3 (d5 limit) 0)]) (by rw[hez0,hL5,hes0,hL1];simp [kT,iT,aL]),am ?_⟩
     simp only[tt,seval]
   ·rw[iR,if_neg hlm] at hroom ⊢
    simp only[ll] at hroom
    simp only[tt,seval]
    refine⟨_,[],pS (l:=ez) (by rw[hez0,hL5,hes0,hL1];simp [aL]),am ?_⟩
    simp only[tt,seval]
theorem Bp (full:Bool) (e:Expr):fmE e=true->Rg e->szExpr e<=1048576->Ah full e (dH full e):=by
 refine ku (F1:=tJ) (F2:=zU) (F3:=iO full) (P:=fun e f n t=>f=true->Rg e->szExpr e<=1048576->Ah full e t) (fun e gf gn g hg hf hr hsz=>?_) e
 have hb:∀x,f6 x e->gf x=true->Ah full x (g x):=fun x hx hx'=>hg x hx hx' (qp hr hx) (Nat.le_trans (gD hx) hsz)
 have hs:∀q∈e.sub,q.lim<=9223372036854775807/\szQuery q<=1048576:=fun q hq=>⟨(uL hr hq).1,Nat.le_trans (lf hq) hsz⟩
 obtain⟨kind,op,not,val,qual,name,kids,sub⟩:=e
 obtain⟨h1,h2,h3⟩:=jR hf
 refine uW kind op not val qual name kids sub full gf g hf hr.num (fun x hx=>hb x (.inl hx) (h2 x hx)) fun q hq=>?_
 refine mN full gf g q (h3 q hq) (hs q hq).1 (hs q hq).2 fun x hx=>hb x (.inr ⟨q,hq,hx⟩) ?_
 have h4:=h3 q hq
 obtain⟨d,it,fr,wh,od,li⟩:=q
 exact (ff h4).2.2.2.2.2.2.2 x hx
end Go.Proofs.YtbodcedhmccenaaGreatDoor
