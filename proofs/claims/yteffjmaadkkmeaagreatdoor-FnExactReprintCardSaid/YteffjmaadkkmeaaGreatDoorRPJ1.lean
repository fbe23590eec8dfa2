/-
  The reference's printer.
  Conditions: none.
-/
import Derived.Test.YteffjmaadkkmeaaGreatDoorRPF2
set_option linter.unusedVariables false
set_option linter.unusedSimpArgs false
set_option linter.unusedSectionVars false
set_option maxRecDepth 8000
namespace Go.Proofs.YteffjmaadkkmeaaGreatDoor
open Go Go.Dv
open Go.Vc (D cY d3 cN bk)
set_option maxHeartbeats 1000000 in
theorem BD (kind op:Int) (not:Bool) (val:Val) (qual name:ByteArray) (kids:List Expr) (sub:List Query) (full:Bool) (k:Nat) (hk:k<kids.length) (l:List Tok) (hx:r5 full kids[k] l) (out:List Tok) (hroom:out.length+(ov (C2 full kind op kids k) l).length<=1000000) :
 Cl Tryz.prog 287 [.c (.ow 76 (out).length ((out).flatMap Tok.row) none),.ag (av (Expr.mk kind op not val qual name kids sub).row),vi k,vb full] [] fun r _=>r = .c (.ow 76 (out++ov (C2 full kind op kids k) l).length ((out++ov (C2 full kind op kids k) l).flatMap Tok.row) none):=by
 obtain⟨it,b5⟩:∃it,it=kids[k]:=⟨_,rfl⟩
 have hw:(C2 full kind op kids k)=(mM kind op kids k||(full&&decide (sE it<9))):=by rw[C2,List.getD_eq_getElem?_getD,ay hk,b5];rfl
 rw[hw] at hroom ⊢
 rw[<-b5] at hx
 rw[ah]
 refine ae ab false Tryz.func287 rfl (by kernel_rfl) ?_
 simp only[Tryz.f287,tt,seval]
 refine⟨by omega,by omega,_,aF aC (ay hk),Expr.ne _ _,?_⟩
 rw[<-b5]
 have hxl:=l6 it
 obtain⟨k0,o0,n0,v0,q0,m0,ks0,ss0⟩:=it
 rw[ah] at hxl
 rw[ah]
 simp only[tt,seval]
 refine cZ (yi kind op not val qual name kids sub k hk) ?_ ?_<;>simp only[tt,seval,ah]
 have hx:∀out:List Tok,out.length+l.length<=1000000->Cl Tryz.prog 250 [.c (.ow 76 (out).length ((out).flatMap Tok.row) none),.ag (av (Expr.mk k0 o0 n0 v0 q0 m0 ks0 ss0).row),vb full] [] fun r _=>r = .c (.ow 76 (out++l).length ((out++l).flatMap Tok.row) none):=hx
 rw[ah] at hx
 generalize sE (Expr.mk k0 o0 n0 v0 q0 m0 ks0 ss0)=lv0 at *
 cases hw1:mM kind op kids k
 case true=>
  rw[hw1] at hroom
  simp only[tt,seval]
  have hroom:out.length+(lG::(l++[lH])).length<=1000000:=hroom
  simp only[ll] at hroom
  apply bo 0
  case h1=>
   refine dDrawn.intro [32] (.take 0 (.take 5 (.br 1 (.br 2 (.br 3 (.take 4 (.br 6 (.take 7 .done) .nobr)) (.br 4 (.br 3 (.br 6 (.take 7 .done) .nobr) .nobr) .nobr)) (.br 4 (.br 2 (.br 3 (.br 6 (.take 7 .done) .nobr) .nobr) .nobr) .nobr)) (.br 4 (.br 1 (.br 2 (.br 3 (.br 6 (.take 7 .done) .nobr) .nobr) .nobr) .nobr) .nobr)))) (by kernel_rfl) ?_
   simp only[tt,seval]
   all_goals repeat' first|refine cJ ?_ ?_|refine b7 ?_ ?_
   all_goals
    refine cZ (aY ⟨#[40]⟩) ?_ ?_<;>simp only[tt,seval,gT,Tok.row]
   all_goals repeat' first|refine jU ?_ ?_|refine dR ?_ ?_|refine dS ?_ ?_
   all_goals
    refine⟨by kernel_rfl,⟨by simp only[maxLen];(try simp only[ll] at *);omega,by (try simp only[ll] at *);omega⟩,?_⟩
    rw[cX (out),cE (out) (Tok.mk 5 ⟨#[40]⟩ 0)]
   all_goals repeat' first|refine cJ ?_ ?_|refine b7 ?_ ?_
   all_goals
    refine cZ (hx (out++[(Tok.mk 5 ⟨#[40]⟩ 0)]) (by (try simp only[ll] at *);omega)) ?_ ?_
    ·simp only[tt,seval]
     decide
    simp only[tt,seval]
   all_goals exact⟨rfl,rfl,rfl⟩
  case h2=>
   intro f' hj0
   simp only[tt,seval,hj0]
   refine cZ (aY ⟨#[41]⟩) ?_ ?_<;>simp only[tt,seval,gT,Tok.row]
   refine⟨by kernel_rfl,⟨by simp only[maxLen];(try simp only[ll] at *);omega,by (try simp only[ll] at *);omega⟩,?_⟩
   rw[cX (out++[(Tok.mk 5 ⟨#[40]⟩ 0)]++l),cE (out++[(Tok.mk 5 ⟨#[40]⟩ 0)]++l) (Tok.mk 5 ⟨#[41]⟩ 0)]
   refine⟨_,[],my (l:=out++[(Tok.mk 5 ⟨#[40]⟩ 0)]++l++[(Tok.mk 5 ⟨#[41]⟩ 0)]) (by skip;simp [ov,lG,lH,gT]),am ?_⟩
   simp only[tt,seval]
 case false=>
  simp only[tt,seval]
  cases full
  case false=>
   rw[hw1] at hroom
   simp only[tt,seval]
   have hroom:out.length+l.length<=1000000:=hroom
   refine cZ (hx out hroom) ?_ ?_<;>simp only[tt,seval]
   refine⟨_,[],my (l:=out++l) (by skip;simp [ov]),am ?_⟩
   simp only[tt,seval]
  case true=>
   simp only[tt,seval]
   refine cZ (hxl) ?_ ?_<;>simp only[tt,seval]
   rw[hw1] at hroom
   refine aa (fun h9=>?_) (fun h9=>?_)
   ·rw[ap h9] at hroom ⊢
    have hroom:out.length+(lG::(l++[lH])).length<=1000000:=hroom
    simp only[ll] at hroom
    apply bo 0
    case h1=>
     refine dDrawn.intro [32] (.take 0 (.take 5 (.br 1 (.br 2 (.br 3 (.take 4 (.br 6 (.take 7 .done) .nobr)) (.br 4 (.br 3 (.br 6 (.take 7 .done) .nobr) .nobr) .nobr)) (.br 4 (.br 2 (.br 3 (.br 6 (.take 7 .done) .nobr) .nobr) .nobr) .nobr)) (.br 4 (.br 1 (.br 2 (.br 3 (.br 6 (.take 7 .done) .nobr) .nobr) .nobr) .nobr) .nobr)))) (by kernel_rfl) ?_
     simp only[tt,seval]
     all_goals repeat' first|refine cJ ?_ ?_|refine b7 ?_ ?_
     all_goals
      refine cZ (aY ⟨#[40]⟩) ?_ ?_<;>simp only[tt,seval,gT,Tok.row]
     all_goals repeat' first|refine jU ?_ ?_|refine dR ?_ ?_|refine dS ?_ ?_
     all_goals
      refine⟨by kernel_rfl,⟨by simp only[maxLen];(try simp only[ll] at *);omega,by (try simp only[ll] at *);omega⟩,?_⟩
      rw[cX (out),cE (out) (Tok.mk 5 ⟨#[40]⟩ 0)]
     all_goals repeat' first|refine cJ ?_ ?_|refine b7 ?_ ?_
     all_goals
      refine cZ (hx (out++[(Tok.mk 5 ⟨#[40]⟩ 0)]) (by (try simp only[ll] at *);omega)) ?_ ?_
      ·simp only[tt,seval]
       decide
      simp only[tt,seval]
     all_goals exact⟨rfl,rfl,rfl⟩
    case h2=>
     intro f' hj0
     simp only[tt,seval,hj0]
     refine cZ (aY ⟨#[41]⟩) ?_ ?_<;>simp only[tt,seval,gT,Tok.row]
     refine⟨by kernel_rfl,⟨by simp only[maxLen];(try simp only[ll] at *);omega,by (try simp only[ll] at *);omega⟩,?_⟩
     rw[cX (out++[(Tok.mk 5 ⟨#[40]⟩ 0)]++l),cE (out++[(Tok.mk 5 ⟨#[40]⟩ 0)]++l) (Tok.mk 5 ⟨#[41]⟩ 0)]
     refine⟨_,[],my (l:=out++[(Tok.mk 5 ⟨#[40]⟩ 0)]++l++[(Tok.mk 5 ⟨#[41]⟩ 0)]) (by skip;simp [ov,lG,lH,gT]),am ?_⟩
     simp only[tt,seval]
   ·rw[ao h9] at hroom ⊢
    have hroom:out.length+l.length<=1000000:=hroom
    refine cZ (hx out hroom) ?_ ?_<;>simp only[tt,seval]
    refine⟨_,[],my (l:=out++l) (by skip;simp [ov]),am ?_⟩
    simp only[tt,seval]
theorem xZ {full:Bool} {g:Expr->List Tok} {kind op:Int} {kids:List Expr} {k:Nat} (hk:k<kids.length):bF full g kind op kids k=ov (C2 full kind op kids k) (g kids[k]):=by rw[bF,List.getD_eq_getElem?_getD,ay hk];rfl
theorem GI (q:Query):(q.row=[])=False:=eq_false fun h=>Query.ne q [] (by rw[h];rfl)
theorem zc {l:List Query} {q:Query} (h:l=[q]) (C:List D->Prop):(∃ds',l.flatMap Query.row=ds' /\ ¬ds'=[]/\C ds')=C q.row:=by
 subst h
 have e:[q].flatMap Query.row=q.row:=by simp
 rw[e]
 exact propext ⟨fun ⟨_,h1,_,h3⟩=>h1▸h3,fun h=>⟨_,rfl,fun h0=>(GI q▸h0:False),h⟩⟩
def Fz (full:Bool) (q:Query) (l:List Tok):Prop:=∀out:List Tok,out.length+l.length<=1000000->Cl Tryz.prog 246 [.c (.ow 76 (out).length ((out).flatMap Tok.row) none),.ag (av q.row),vb full] [] fun r _=>r = .c (.ow 76 (out++l).length ((out++l).flatMap Tok.row) none)
set_option maxHeartbeats 4000000 in
theorem tw (kind op:Int) (not:Bool) (val:Val) (qual name:ByteArray) (kids:List Expr) (sub:List Query) (full:Bool) (gf:Expr->Bool) (g:Expr->List Tok) (hf:wt gf (Expr.mk kind op not val qual name kids sub)=true) (hnum : -9223372036854775808<=val.num/\val.num<=9223372036854775807) (hg:∀x∈kids,r5 full x (g x)) (hgq:∀q∈sub,Fz full q (jX g q)):r5 full (Expr.mk kind op not val qual name kids sub) (p6 full g (Expr.mk kind op not val qual name kids sub)):=by
 intro out hroom
 have hkid:∀k (hk:k<kids.length) (out:List Tok),out.length+(bF full g kind op kids k).length<=1000000->Cl Tryz.prog 287 [.c (.ow 76 (out).length ((out).flatMap Tok.row) none),.ag (av (Expr.mk kind op not val qual name kids sub).row),vi k,vb full] [] fun r _=>r = .c (.ow 76 (out++bF full g kind op kids k).length ((out++bF full g kind op kids k).flatMap Tok.row) none):=fun k hk out hr=>by
  rw[xZ hk] at hr ⊢
  exact BD kind op not val qual name kids sub full k hk _ (hg _ (aI hk)) out hr
 have hsp:=(kU hf).1
 clear hf hg
 rw[ah]
 rcases kQ hsp with⟨rfl,hl,hk0,hs0⟩|⟨rfl,hn,hm,hk0,hs0⟩|⟨rfl,ho,hk0,hs0⟩|⟨rfl,ho,hk0,hs0⟩|⟨rfl,hk0,hs0⟩|⟨rfl,hk0,hs0⟩|⟨rfl,hk0,hs0⟩|⟨rfl,hk0,hs0⟩|⟨rfl,hk0,hs0⟩
 ·skip
  have e:p6 full g (Expr.mk 1 op not val qual name kids sub)=[fy val]:=rfl
  rw[e] at hroom ⊢
  clear e
  simp only[ll] at hroom
  refine ae ab false Tryz.func250 rfl (by kernel_rfl) ?_
  simp only[Tryz.f250,tt,seval]
  refine cZ (Bi val hnum.1 hnum.2) ?_ ?_<;>simp only[tt,seval,Tok.row,Val.row]
  refine⟨by kernel_rfl,⟨by simp only[maxLen];(try simp only[ll] at *);omega,by (try simp only[ll] at *);omega⟩,?_⟩
  rw[cX (out),cE (out) (Tok.mk (fy val).kind (fy val).text (fy val).at_)]
  refine⟨_,[],my (l:=out++[(Tok.mk (fy val).kind (fy val).text (fy val).at_)]) (by rfl),am ?_⟩
  simp only[tt,seval]
 ·skip
  have e:p6 full g (Expr.mk 2 op not val qual name kids sub)=dY qual++[nT name]:=rfl
  rw[e] at hroom ⊢
  clear e
  simp only[ll] at hroom
  refine ae ab false Tryz.func250 rfl (by kernel_rfl) ?_
  simp only[Tryz.f250,tt,seval]
  refine aa (fun hq=>?_) (fun hq=>?_)
  ·have hq:¬qual=⟨#[]⟩:=by simpa using hq
   rw[dY,if_neg hq] at hroom ⊢
   simp only[ll] at hroom
   simp only[tt,seval]
   refine cZ (cy qual) ?_ ?_<;>simp only[tt,seval,nT,Tok.row]
   refine cZ (aY ⟨#[46]⟩) ?_ ?_<;>simp only[tt,seval,gT,Tok.row]
   refine⟨by kernel_rfl,⟨by simp only[maxLen];(try simp only[ll] at *);omega,by (try simp only[ll] at *);omega⟩,?_⟩
   rw[r4 (out),pb (out) (Tok.mk 2 qual 0) (Tok.mk 5 ⟨#[46]⟩ 0)]
   refine cZ (cy name) ?_ ?_<;>simp only[tt,seval,nT,Tok.row]
   refine⟨by kernel_rfl,⟨by simp only[maxLen];(try simp only[ll] at *);omega,by (try simp only[ll] at *);omega⟩,?_⟩
   rw[cX (out++[(Tok.mk 2 qual 0),(Tok.mk 5 ⟨#[46]⟩ 0)]),cE (out++[(Tok.mk 2 qual 0),(Tok.mk 5 ⟨#[46]⟩ 0)]) (Tok.mk 2 name 0)]
   refine⟨_,[],my (l:=out++[(Tok.mk 2 qual 0),(Tok.mk 5 ⟨#[46]⟩ 0)]++[(Tok.mk 2 name 0)]) (by simp [EZ,gT]),am ?_⟩
   simp only[tt,seval]
  ·have hq:qual=⟨#[]⟩:=by simpa using hq
   rw[dY,if_pos hq] at hroom ⊢
   simp only[ll] at hroom
   simp only[tt,seval]
   refine cZ (cy name) ?_ ?_<;>simp only[tt,seval,nT,Tok.row]
   refine⟨by kernel_rfl,⟨by simp only[maxLen];(try simp only[ll] at *);omega,by (try simp only[ll] at *);omega⟩,?_⟩
   rw[cX (out),cE (out) (Tok.mk 2 name 0)]
   refine⟨_,[],my (l:=out++[(Tok.mk 2 name 0)]) (by rfl),am ?_⟩
   simp only[tt,seval]
 ·skip
  have e:p6 full g (Expr.mk 3 op not val qual name kids sub)=dj op::bF full g 3 op kids 0:=rfl
  rw[e] at hroom ⊢
  clear e
  have hkid0:=hkid 0 (by omega)
  generalize bF full g 3 op kids 0=a0 at *
  simp only[ll] at hroom
  refine ae ab false Tryz.func250 rfl (by kernel_rfl) ?_
  simp only[Tryz.f250,tt,seval]
  apply bo 6
  case h1=>
   refine dDrawn.intro [46] (.take 0 (.take 1 (.take 2 (.take 7 (.br 3 (.br 4 (.br 5 (.take 6 (.br 8 (.take 9 .done) .nobr)) (.br 6 (.br 5 (.br 8 (.take 9 .done) .nobr) .nobr) .nobr)) (.br 6 (.br 4 (.br 5 (.br 8 (.take 9 .done) .nobr) .nobr) .nobr) .nobr)) (.br 6 (.br 3 (.br 4 (.br 5 (.br 8 (.take 9 .done) .nobr) .nobr) .nobr) .nobr) .nobr)))))) (by kernel_rfl) ?_
   simp only[tt,seval]
   all_goals repeat' first|refine cJ ?_ ?_|refine b7 ?_ ?_
   all_goals
    refine cZ (tl op) ?_ ?_<;>simp only[tt,seval,Tok.row]
   all_goals repeat' first|refine jU ?_ ?_|refine dR ?_ ?_|refine dS ?_ ?_
   all_goals
    refine⟨by kernel_rfl,⟨by simp only[maxLen];(try simp only[ll] at *);omega,by (try simp only[ll] at *);omega⟩,?_⟩
    rw[cX (out),cE (out) (Tok.mk (dj op).kind (dj op).text (dj op).at_)]
   all_goals repeat' first|refine cJ ?_ ?_|refine b7 ?_ ?_
   all_goals
    refine cZ (hkid0 (out++[(Tok.mk (dj op).kind (dj op).text (dj op).at_)]) (by (try simp only[ll] at *);omega)) ?_ ?_
    ·simp only[tt,seval,ah]
     decide
    simp only[tt,seval,ah]
   all_goals exact⟨rfl,rfl,rfl⟩
  case h2=>
   intro f' hj0
   simp only[tt,seval,hj0]
   refine⟨_,[],my (l:=out++[(Tok.mk (dj op).kind (dj op).text (dj op).at_)]++a0) (by simp),am ?_⟩
   simp only[tt,seval]
 ·skip
  have e:p6 full g (Expr.mk 4 op not val qual name kids sub)=bF full g 4 op kids 0++(dj op::bF full g 4 op kids 1):=rfl
  rw[e] at hroom ⊢
  clear e
  have hkid0:=hkid 0 (by omega)
  generalize bF full g 4 op kids 0=a0 at *
  have hkid1:=hkid 1 (by omega)
  generalize bF full g 4 op kids 1=a1 at *
  simp only[ll] at hroom
  refine ae ab false Tryz.func250 rfl (by kernel_rfl) ?_
  simp only[Tryz.f250,tt,seval]
  refine cZ (hkid0 (out) (by (try simp only[ll] at *);omega)) ?_ ?_<;>simp only[tt,seval,ah]
  apply bo 6
  case h1=>
   refine dDrawn.intro [80] (.take 0 (.take 1 (.take 2 (.take 7 (.br 3 (.br 4 (.br 5 (.take 6 (.br 8 (.take 9 .done) .nobr)) (.br 6 (.br 5 (.br 8 (.take 9 .done) .nobr) .nobr) .nobr)) (.br 6 (.br 4 (.br 5 (.br 8 (.take 9 .done) .nobr) .nobr) .nobr) .nobr)) (.br 6 (.br 3 (.br 4 (.br 5 (.br 8 (.take 9 .done) .nobr) .nobr) .nobr) .nobr) .nobr)))))) (by kernel_rfl) ?_
   simp only[tt,seval]
   all_goals repeat' first|refine cJ ?_ ?_|refine b7 ?_ ?_
   all_goals
    refine cZ (tl op) ?_ ?_<;>simp only[tt,seval,Tok.row]
   all_goals repeat' first|refine jU ?_ ?_|refine dR ?_ ?_|refine dS ?_ ?_
   all_goals
    refine⟨by kernel_rfl,⟨by simp only[maxLen];(try simp only[ll] at *);omega,by (try simp only[ll] at *);omega⟩,?_⟩
    rw[cX (out++a0),cE (out++a0) (Tok.mk (dj op).kind (dj op).text (dj op).at_)]
   all_goals repeat' first|refine cJ ?_ ?_|refine b7 ?_ ?_
   all_goals
    refine cZ (hkid1 (out++a0++[(Tok.mk (dj op).kind (dj op).text (dj op).at_)]) (by (try simp only[ll] at *);omega)) ?_ ?_
    ·simp only[tt,seval,ah]
     decide
    simp only[tt,seval,ah]
   all_goals exact⟨rfl,rfl,rfl⟩
  case h2=>
   intro f' hj0
   simp only[tt,seval,hj0]
   refine⟨_,[],my (l:=out++a0++[(Tok.mk (dj op).kind (dj op).text (dj op).at_)]++a1) (by simp [aJ]),am ?_⟩
   simp only[tt,seval]
 ·skip
  have e:p6 full g (Expr.mk 5 op not val qual name kids sub)=bF full g 5 op kids 0++(kT 16::(bP not++[kT 20])):=rfl
  rw[e] at hroom ⊢
  clear e
  have hkid0:=hkid 0 (by omega)
  generalize bF full g 5 op kids 0=a0 at *
  simp only[ll] at hroom
  refine ae ab false Tryz.func250 rfl (by kernel_rfl) ?_
  simp only[Tryz.f250,tt,seval]
  refine cZ (hkid0 (out) (by (try simp only[ll] at *);omega)) ?_ ?_<;>simp only[tt,seval,ah]
  apply bo 6
  case h1=>
   refine dDrawn.intro [88] (.take 0 (.br 1 (.br 2 (.br 3 (.take 4 (.br 5 (.br 6 (.br 7 (.br 8 (.take 9 .done) .nobr) .nobr) .nobr) .nobr)) (.br 4 (.br 3 (.br 5 (.br 6 (.br 7 (.br 8 (.take 9 .done) .nobr) .nobr) .nobr) .nobr) .nobr) .nobr)) (.br 4 (.br 2 (.br 3 (.br 5 (.br 6 (.br 7 (.br 8 (.take 9 .done) .nobr) .nobr) .nobr) .nobr) .nobr) .nobr) .nobr)) (.br 4 (.br 1 (.br 2 (.br 3 (.br 5 (.br 6 (.br 7 (.br 8 (.take 9 .done) .nobr) .nobr) .nobr) .nobr) .nobr) .nobr) .nobr) .nobr))) (by kernel_rfl) ?_
   simp only[tt,seval]
   all_goals repeat' first|refine cJ ?_ ?_|refine b7 ?_ ?_
   all_goals
    refine cZ (bb 16 (by omega) (by omega)) ?_ ?_<;>simp only[tt,seval,kT,Tok.row]
   all_goals repeat' first|refine jU ?_ ?_|refine dR ?_ ?_|refine dS ?_ ?_
   all_goals
    refine⟨by kernel_rfl,⟨by simp only[maxLen];(try simp only[ll] at *);omega,by (try simp only[ll] at *);omega⟩,?_⟩
    rw[cX (out++a0),cE (out++a0) (Tok.mk 1 (kw 16) 0)]
   all_goals repeat' first|refine cJ ?_ ?_|refine b7 ?_ ?_
   all_goals
    refine cZ (nB (out++a0++[(Tok.mk 1 (kw 16) 0)]) (Expr.mk 5 op not val qual name kids sub) (by (try simp only[ll] at *);omega)) ?_ ?_
    ·simp only[tt,seval,ah]
     decide
    simp only[tt,seval,ah,Expr.not]
   all_goals repeat' first|refine cJ ?_ ?_|refine b7 ?_ ?_
   all_goals
    refine cZ (bb 20 (by omega) (by omega)) ?_ ?_<;>simp only[tt,seval,kT,Tok.row]
   all_goals repeat' first|refine jU ?_ ?_|refine dR ?_ ?_|refine dS ?_ ?_
   all_goals
    refine⟨by kernel_rfl,⟨by simp only[maxLen];(try simp only[ll] at *);omega,by (try simp only[ll] at *);omega⟩,?_⟩
    rw[cX (out++a0++[(Tok.mk 1 (kw 16) 0)]++bP not),cE (out++a0++[(Tok.mk 1 (kw 16) 0)]++bP not) (Tok.mk 1 (kw 20) 0)]
   all_goals exact⟨rfl,rfl,rfl⟩
  case h2=>
   intro f' hj0
   simp only[tt,seval,hj0]
   refine⟨_,[],my (l:=out++a0++[(Tok.mk 1 (kw 16) 0)]++bP not++[(Tok.mk 1 (kw 20) 0)]) (by simp [kT,bP,aJ]),am ?_⟩
   simp only[tt,seval]
 ·skip
  have e:p6 full g (Expr.mk 6 op not val qual name kids sub)=bF full g 6 op kids 0++(bP not++(kT 18::(bF full g 6 op kids 1++(kT 13::bF full g 6 op kids 2)))):=rfl
  rw[e] at hroom ⊢
  clear e
  have hkid0:=hkid 0 (by omega)
  generalize bF full g 6 op kids 0=a0 at *
  have hkid1:=hkid 1 (by omega)
  generalize bF full g 6 op kids 1=a1 at *
  have hkid2:=hkid 2 (by omega)
  generalize bF full g 6 op kids 2=a2 at *
  simp only[ll] at hroom
  refine ae ab false Tryz.func250 rfl (by kernel_rfl) ?_
  simp only[Tryz.f250,tt,seval]
  refine cZ (hkid0 (out) (by (try simp only[ll] at *);omega)) ?_ ?_<;>simp only[tt,seval,ah]
  apply du 0 4 2
  case h1=>
   refine dDrawn.intro [96,102] (.take 0 (.take 1 (.take 7 (.br 2 (.br 3 (.br 4 (.br 5 (.take 6 (.br 8 (.take 9 .done) .nobr)) (.br 6 (.br 5 (.br 8 (.take 9 .done) .nobr) .nobr) .nobr)) (.br 6 (.br 4 (.br 5 (.br 8 (.take 9 .done) .nobr) .nobr) .nobr) .nobr)) (.br 6 (.br 3 (.br 4 (.br 5 (.br 8 (.take 9 .done) .nobr) .nobr) .nobr) .nobr) .nobr)) (.br 6 (.br 2 (.br 3 (.br 4 (.br 5 (.br 8 (.take 9 .done) .nobr) .nobr) .nobr) .nobr) .nobr) .nobr))))) (by kernel_rfl) ?_
   simp only[tt,seval]
   all_goals repeat' first|refine cJ ?_ ?_|refine b7 ?_ ?_
   all_goals
    refine cZ (nB (out++a0) (Expr.mk 6 op not val qual name kids sub) (by (try simp only[ll] at *);omega)) ?_ ?_
    ·simp only[tt,seval,ah]
     decide
    simp only[tt,seval,ah,Expr.not]
   all_goals repeat' first|refine cJ ?_ ?_|refine b7 ?_ ?_
   all_goals
    refine cZ (bb 18 (by omega) (by omega)) ?_ ?_<;>simp only[tt,seval,kT,Tok.row]
   all_goals repeat' first|refine jU ?_ ?_|refine dR ?_ ?_|refine dS ?_ ?_
   all_goals
    refine⟨by kernel_rfl,⟨by simp only[maxLen];(try simp only[ll] at *);omega,by (try simp only[ll] at *);omega⟩,?_⟩
    rw[cX (out++a0++bP not),cE (out++a0++bP not) (Tok.mk 1 (kw 18) 0)]
   all_goals repeat' first|refine cJ ?_ ?_|refine b7 ?_ ?_
   all_goals
    refine cZ (hkid1 (out++a0++bP not++[(Tok.mk 1 (kw 18) 0)]) (by (try simp only[ll] at *);omega)) ?_ ?_
    ·simp only[tt,seval,ah]
     decide
    simp only[tt,seval,ah]
   all_goals exact⟨rfl,rfl,rfl,rfl,rfl⟩
  case h2=>
   intro f' hj0 hj1 hj2
   simp only[tt,seval]
   apply bo 6
   case h1=>
    refine dDrawn.intro [109] (.take 0 (.take 5 (.br 1 (.br 2 (.br 3 (.take 4 (.br 6 (.take 7 .done) .nobr)) (.br 4 (.br 3 (.br 6 (.take 7 .done) .nobr) .nobr) .nobr)) (.br 4 (.br 2 (.br 3 (.br 6 (.take 7 .done) .nobr) .nobr) .nobr) .nobr)) (.br 4 (.br 1 (.br 2 (.br 3 (.br 6 (.take 7 .done) .nobr) .nobr) .nobr) .nobr) .nobr)))) (by kernel_rfl) ?_
    simp only[tt,seval]
    all_goals try simp only[tt,seval,hj0,hj1,hj2]
    all_goals repeat' first|refine cJ ?_ ?_|refine b7 ?_ ?_
    all_goals
     refine cZ (bb 13 (by omega) (by omega)) ?_ ?_<;>simp only[tt,seval,kT,Tok.row,hj1]
    all_goals repeat' first|refine jU ?_ ?_|refine dR ?_ ?_|refine dS ?_ ?_
    all_goals
     refine⟨by kernel_rfl,⟨by simp only[maxLen];(try simp only[ll] at *);omega,by (try simp only[ll] at *);omega⟩,?_⟩
     rw[cX (out++a0++bP not++[(Tok.mk 1 (kw 18) 0)]++a1),cE (out++a0++bP not++[(Tok.mk 1 (kw 18) 0)]++a1) (Tok.mk 1 (kw 13) 0)]
    all_goals repeat' first|refine cJ ?_ ?_|refine b7 ?_ ?_
    all_goals
     refine cZ (hkid2 (out++a0++bP not++[(Tok.mk 1 (kw 18) 0)]++a1++[(Tok.mk 1 (kw 13) 0)]) (by (try simp only[ll] at *);omega)) ?_ ?_
     ·simp only[tt,seval,ah]
      decide
     simp only[tt,seval,ah]
    all_goals exact⟨rfl,rfl,rfl⟩
   case h2=>
    intro f' hj0
    simp only[tt,seval,hj0]
    refine⟨_,[],my (l:=out++a0++bP not++[(Tok.mk 1 (kw 18) 0)]++a1++[(Tok.mk 1 (kw 13) 0)]++a2) (by simp [kT,bP,aJ]),am ?_⟩
    simp only[tt,seval]
 ·skip
  have e:p6 full g (Expr.mk 7 op not val qual name kids sub)=bF full g 7 op kids 0++(bP not++(kT 17::lG::((bd (r3 full g 7 op kids) (kids.length-1))++[lH]))):=rfl
  rw[e] at hroom ⊢
  clear e
  simp only[ll] at hroom
  refine ae ab false Tryz.func250 rfl (by kernel_rfl) ?_
  simp only[Tryz.f250,tt,seval]
  have hkid0:=hkid 0 (by omega)
  obtain⟨a0,ha0⟩:∃a0,a0=bF full g 7 op kids 0:=⟨_,rfl⟩
  rw[<-ha0] at hkid0 hroom ⊢
  refine cZ (hkid0 (out) (by (try simp only[ll] at *);omega)) ?_ ?_<;>simp only[tt,seval,ah]
  refine cZ (nB (out++a0) (Expr.mk 7 op not val qual name kids sub) (by (try simp only[ll] at *);omega)) ?_ ?_<;>simp only[tt,seval,ah,Expr.not]
  refine cZ (bb 17 (by omega) (by omega)) ?_ ?_<;>simp only[tt,seval,kT,Tok.row]
  refine cZ (aY ⟨#[40]⟩) ?_ ?_<;>simp only[tt,seval,gT,Tok.row]
  refine⟨by kernel_rfl,⟨by simp only[maxLen];(try simp only[ll] at *);omega,by (try simp only[ll] at *);omega⟩,?_⟩
  rw[r4 (out++a0++bP not),pb (out++a0++bP not) (Tok.mk 1 (kw 17) 0) (Tok.mk 5 ⟨#[40]⟩ 0)]
  obtain⟨L0,hL0⟩:∃L0,L0=out++a0++bP not++[(Tok.mk 1 (kw 17) 0),(Tok.mk 5 ⟨#[40]⟩ 0)]:=⟨_,rfl⟩
  have hL0l:L0.length=out.length+a0.length+(bP not).length+2:=by rw[hL0];simp only[ll]
  rw[<-hL0]
  refine dLoop.gh [.ren 116 10147] ⟨by decide,by decide,?_⟩
  refine dLoop0.intro (fun f L p=>∃(j:Nat) (es:List Tok),f 7=vi (j+1:Nat)/\f 0 = .c (.s 10147 es.length)/\j<=kids.length-1/\es=L0++bd (r3 full g 7 op kids) j/\L=[(10147,.arr 76 es.length (es.flatMap Tok.row) none),(4,.str [.v (.int .i64 7),.v (.int .i64 op),.v (.bool not),.v (.int .i64 val.kind),.v (.int .i64 val.num),.v (.string val.text),.v (.string qual),.v (.string name),.sl kids.length (kids.flatMap Expr.row) none,.sl sub.length (sub.flatMap Query.row) none])]/\p=none) (fun f _ _=>(kids.length-aU (f 7)).toNat) [(10147,.arr 76 L0.length (L0.flatMap Tok.row) none),(4,.str [.v (.int .i64 7),.v (.int .i64 op),.v (.bool not),.v (.int .i64 val.kind),.v (.int .i64 val.num),.v (.string val.text),.v (.string qual),.v (.string name),.sl kids.length (kids.flatMap Expr.row) none,.sl sub.length (sub.flatMap Query.row) none])] none ⟨ac rfl (ac rfl (ak _)),al _,?_⟩ ?_
  ·simp only[tt,seval]
   exact⟨0,L0,rfl,rfl,by omega,(List.append_nil _).symm,rfl⟩
  ·rintro g' L p ⟨j,es,hi,hx,hjn,hes0,rfl,rfl⟩
   simp only[tt,seval] at hi hx
   simp only[tt,seval,hi,hx]
   refine fun _=>aa (fun hlt=>?_) (fun hge=>?_)
   ·have hlt:j<kids.length-1:=by omega
    have hst:=bC (r3 full g 7 op kids) j
    have hlt2:=dH (r3 full g 7 op kids) hlt
    have hel:es.length=L0.length+(bd (r3 full g 7 op kids) j).length:=by rw[hes0,aA]
    have hlen:(L0++bd (r3 full g 7 op kids) (kids.length-1)).length+1<=1000000:=by simp only[ll] at *;omega
    simp only[ll] at hlen
    refine aa (fun hc=>?_) (fun hc=>?_)
    ·have hj0:0<j:=by omega
     have hfj:r3 full g 7 op kids j=[(Tok.mk 5 ⟨#[44]⟩ 0)]++bF full g 7 op kids (j+1):=by rw[r3,ea,if_pos hj0];rfl
     rw[hfj] at hst hlt2
     simp only[ll] at hlt2
     have hkj:=hkid (j+1) (by omega)
     generalize bF full g 7 op kids (j+1)=aj at *
     refine cZ (aY ⟨#[44]⟩) ?_ ?_<;>simp only[tt,seval,gT,Tok.row,hi]
     refine⟨by kernel_rfl,⟨by simp only[maxLen];(try simp only[ll] at *);omega,by (try simp only[ll] at *);omega⟩,?_⟩
     rw[cX (es),cE (es) (Tok.mk 5 ⟨#[44]⟩ 0)]
     refine cZ (hkj (es++[(Tok.mk 5 ⟨#[44]⟩ 0)]) (by (try simp only[ll] at *);omega)) ?_ ?_<;>simp only[tt,seval,ah,hi]
     rw[ax (n:=((j+1:Nat):Int)+1) (by omega) (by omega)]
     exact⟨[(10147,.arr 76 (es++[(Tok.mk 5 ⟨#[44]⟩ 0)]++aj).length ((es++[(Tok.mk 5 ⟨#[44]⟩ 0)]++aj).flatMap Tok.row) none),(4,.str [.v (.int .i64 7),.v (.int .i64 op),.v (.bool not),.v (.int .i64 val.kind),.v (.int .i64 val.num),.v (.string val.text),.v (.string qual),.v (.string name),.sl kids.length (kids.flatMap Expr.row) none,.sl sub.length (sub.flatMap Query.row) none])],none,ac rfl (ac rfl (ak _)),al _,⟨j+1,es++[(Tok.mk 5 ⟨#[44]⟩ 0)]++aj,rfl,rfl,by omega,by rw[hst,hes0];simp [aJ],rfl,rfl⟩,by simp only[aU];omega⟩
    ·have hj0:j=0:=by omega
     subst hj0
     have hfj:r3 full g 7 op kids 0=bF full g 7 op kids (0+1):=by rw[r3,ea,if_neg (Nat.lt_irrefl 0)];rfl
     rw[hfj] at hst hlt2
     have hkj:=hkid (0+1) (by omega)
     generalize bF full g 7 op kids (0+1)=aj at *
     simp only[tt,seval]
     refine cZ (hkj es (by (try simp only[ll] at *);omega)) ?_ ?_<;>simp only[tt,seval,ah,hi]
     try rw[ax (n:=(2:Int)) (by omega) (by omega)]
     exact⟨[(10147,.arr 76 (es++aj).length ((es++aj).flatMap Tok.row) none),(4,.str [.v (.int .i64 7),.v (.int .i64 op),.v (.bool not),.v (.int .i64 val.kind),.v (.int .i64 val.num),.v (.string val.text),.v (.string qual),.v (.string name),.sl kids.length (kids.flatMap Expr.row) none,.sl sub.length (sub.flatMap Query.row) none])],none,ac rfl (ac rfl (ak _)),al _,⟨0+1,es++aj,rfl,rfl,by omega,by rw[hst,hes0];simp [aJ],rfl,rfl⟩,by simp only[aU];omega⟩
   ·have hje:j=kids.length-1:=by omega
    rw[hje] at hes0
    have hel:es.length=L0.length+(bd (r3 full g 7 op kids) (kids.length-1)).length:=by rw[hes0,aA]
    refine cZ (aY ⟨#[41]⟩) ?_ ?_<;>simp only[tt,seval,gT,Tok.row]
    refine⟨by kernel_rfl,⟨by simp only[maxLen];(try simp only[ll] at *);omega,by (try simp only[ll] at *);omega⟩,?_⟩
    rw[cX (es),cE (es) (Tok.mk 5 ⟨#[41]⟩ 0)]
    refine⟨_,[],my (l:=es++[(Tok.mk 5 ⟨#[41]⟩ 0)]) (by rw[hes0,hL0];simp [lG,lH,gT,kT,bP,aJ]),am ?_⟩
    simp only[tt,seval]
 ·skip
  obtain⟨q,hsub⟩:=nA hs0
  have hsl:lW g sub=jX g q:=by rw[hsub];rfl
  have hq:=hgq q (by rw[hsub];simp)
  have hpos:((0:Int)<sub.length)=True:=eq_true (by omega)
  have e:p6 full g (Expr.mk 8 op not val qual name kids sub)=bF full g 8 op kids 0++(bP not++(kT 17::lG::(lW g sub++[lH]))):=rfl
  rw[e] at hroom ⊢
  clear e
  have hkid0:=hkid 0 (by omega)
  generalize bF full g 8 op kids 0=a0 at *
  simp only[ll] at hroom
  refine ae ab false Tryz.func250 rfl (by kernel_rfl) ?_
  simp only[Tryz.f250,tt,seval]
  rw[hsl] at hroom ⊢
  refine cZ (hkid0 (out) (by (try simp only[ll] at *);omega)) ?_ ?_<;>simp only[tt,seval,ah]
  refine cZ (nB (out++a0) (Expr.mk 8 op not val qual name kids sub) (by (try simp only[ll] at *);omega)) ?_ ?_<;>simp only[tt,seval,ah,Expr.not]
  refine cZ (bb 17 (by omega) (by omega)) ?_ ?_<;>simp only[tt,seval,kT,Tok.row]
  refine cZ (aY ⟨#[40]⟩) ?_ ?_<;>simp only[tt,seval,gT,Tok.row]
  refine⟨by kernel_rfl,⟨by simp only[maxLen];(try simp only[ll] at *);omega,by (try simp only[ll] at *);omega⟩,?_⟩
  rw[r4 (out++a0++bP not),pb (out++a0++bP not) (Tok.mk 1 (kw 17) 0) (Tok.mk 5 ⟨#[40]⟩ 0)]
  simp only[tt,seval,zc hsub,hpos,fT (Query.row_len q),Query.row_len]
  refine cZ (hq (out++a0++bP not++[(Tok.mk 1 (kw 17) 0),(Tok.mk 5 ⟨#[40]⟩ 0)]) (by (try simp only[ll] at *);omega)) ?_ ?_<;>simp only[tt,seval]
  refine cZ (aY ⟨#[41]⟩) ?_ ?_<;>simp only[tt,seval,gT,Tok.row]
  refine⟨by kernel_rfl,⟨by simp only[maxLen];(try simp only[ll] at *);omega,by (try simp only[ll] at *);omega⟩,?_⟩
  rw[cX (out++a0++bP not++[(Tok.mk 1 (kw 17) 0),(Tok.mk 5 ⟨#[40]⟩ 0)]++jX g q),cE (out++a0++bP not++[(Tok.mk 1 (kw 17) 0),(Tok.mk 5 ⟨#[40]⟩ 0)]++jX g q) (Tok.mk 5 ⟨#[41]⟩ 0)]
  refine⟨_,[],my (l:=out++a0++bP not++[(Tok.mk 1 (kw 17) 0),(Tok.mk 5 ⟨#[40]⟩ 0)]++jX g q++[(Tok.mk 5 ⟨#[41]⟩ 0)]) (by simp [lG,lH,gT,kT,bP,aJ]),am ?_⟩
  simp only[tt,seval]
 ·skip
  obtain⟨q,hsub⟩:=nA hs0
  have hsl:lW g sub=jX g q:=by rw[hsub];rfl
  have hq:=hgq q (by rw[hsub];simp)
  have hpos:((0:Int)<sub.length)=True:=eq_true (by omega)
  have e:p6 full g (Expr.mk 9 op not val qual name kids sub)=kT 19::lG::(lW g sub++[lH]):=rfl
  rw[e] at hroom ⊢
  clear e
  simp only[ll] at hroom
  refine ae ab false Tryz.func250 rfl (by kernel_rfl) ?_
  simp only[Tryz.f250,tt,seval]
  rw[hsl] at hroom ⊢
  apply bo 0
  case h1=>
   refine dDrawn.intro [59] (.take 0 (.take 5 (.take 9 (.br 1 (.br 2 (.br 3 (.br 4 (.take 6 (.take 7 (.take 8 (.br 10 (.take 11 .done) .nobr)))) (.br 6 (.take 7 (.br 4 (.take 8 (.br 10 (.take 11 .done) .nobr)) (.br 8 (.br 4 (.br 10 (.take 11 .done) .nobr) .nobr) .nobr))) .nobr)) (.br 6 (.take 7 (.br 3 (.br 4 (.take 8 (.br 10 (.take 11 .done) .nobr)) (.br 8 (.br 4 (.br 10 (.take 11 .done) .nobr) .nobr) .nobr)) (.br 8 (.br 3 (.br 4 (.br 10 (.take 11 .done) .nobr) .nobr) .nobr) .nobr))) .nobr)) (.br 6 (.take 7 (.br 2 (.br 3 (.br 4 (.take 8 (.br 10 (.take 11 .done) .nobr)) (.br 8 (.br 4 (.br 10 (.take 11 .done) .nobr) .nobr) .nobr)) (.br 8 (.br 3 (.br 4 (.br 10 (.take 11 .done) .nobr) .nobr) .nobr) .nobr)) (.br 8 (.br 2 (.br 3 (.br 4 (.br 10 (.take 11 .done) .nobr) .nobr) .nobr) .nobr) .nobr))) .nobr)) (.br 6 (.take 7 (.br 1 (.br 2 (.br 3 (.br 4 (.take 8 (.br 10 (.take 11 .done) .nobr)) (.br 8 (.br 4 (.br 10 (.take 11 .done) .nobr) .nobr) .nobr)) (.br 8 (.br 3 (.br 4 (.br 10 (.take 11 .done) .nobr) .nobr) .nobr) .nobr)) (.br 8 (.br 2 (.br 3 (.br 4 (.br 10 (.take 11 .done) .nobr) .nobr) .nobr) .nobr) .nobr)) (.br 8 (.br 1 (.br 2 (.br 3 (.br 4 (.br 10 (.take 11 .done) .nobr) .nobr) .nobr) .nobr) .nobr) .nobr))) .nobr))))) (by kernel_rfl) ?_
   simp only[tt,seval]
   all_goals try simp only[tt,seval,zc hsub,hpos,fT (Query.row_len q),Query.row_len]
   all_goals repeat' first|refine cJ ?_ ?_|refine b7 ?_ ?_
   all_goals
    refine cZ (bb 19 (by omega) (by omega)) ?_ ?_<;>simp only[tt,seval,kT,Tok.row,zc hsub,hpos,fT (Query.row_len q),Query.row_len]
   all_goals repeat' first|refine cJ ?_ ?_|refine b7 ?_ ?_
   all_goals
    refine cZ (aY ⟨#[40]⟩) ?_ ?_<;>simp only[tt,seval,gT,Tok.row,zc hsub,hpos,fT (Query.row_len q),Query.row_len]
   all_goals repeat' first|refine jU ?_ ?_|refine dR ?_ ?_|refine dS ?_ ?_
   all_goals
    refine⟨by kernel_rfl,⟨by simp only[maxLen];(try simp only[ll] at *);omega,by (try simp only[ll] at *);omega⟩,?_⟩
    rw[r4 (out),pb (out) (Tok.mk 1 (kw 19) 0) (Tok.mk 5 ⟨#[40]⟩ 0)]
   all_goals repeat' first|refine cJ ?_ ?_|refine b7 ?_ ?_
   all_goals
    refine cZ (hq (out++[(Tok.mk 1 (kw 19) 0),(Tok.mk 5 ⟨#[40]⟩ 0)]) (by (try simp only[ll] at *);omega)) ?_ ?_
    ·simp only[tt,seval]
     decide
    simp only[tt,seval]
   all_goals exact⟨rfl,rfl,rfl⟩
  case h2=>
   intro f' hj0
   simp only[tt,seval,hj0]
   refine cZ (aY ⟨#[41]⟩) ?_ ?_<;>simp only[tt,seval,kT,gT,Tok.row]
   refine⟨by kernel_rfl,⟨by simp only[maxLen];(try simp only[ll] at *);omega,by (try simp only[ll] at *);omega⟩,?_⟩
   rw[cX (out++[(Tok.mk 1 (kw 19) 0),(Tok.mk 5 ⟨#[40]⟩ 0)]++jX g q),cE (out++[(Tok.mk 1 (kw 19) 0),(Tok.mk 5 ⟨#[40]⟩ 0)]++jX g q) (Tok.mk 5 ⟨#[41]⟩ 0)]
   refine⟨_,[],my (l:=out++[(Tok.mk 1 (kw 19) 0),(Tok.mk 5 ⟨#[40]⟩ 0)]++jX g q++[(Tok.mk 5 ⟨#[41]⟩ 0)]) (by simp [lG,lH,gT,aJ]),am ?_⟩
   simp only[tt,seval]
set_option maxHeartbeats 1000000 in
theorem rU (full:Bool) (x:Item) (g:Expr->List Tok) (hg:x.star=false->r5 full x.e (g x.e)) (out:List Tok) (hroom:out.length+(fu g x).length<=1000000):Cl Tryz.prog 284 [.c (.ow 76 (out).length ((out).flatMap Tok.row) none),.ag (av x.row),vb full] [] fun r _=>r = .c (.ow 76 (out++fu g x).length ((out++fu g x).flatMap Tok.row) none):=by
 obtain⟨star,qual,⟨k0,o0,n0,v0,q0,m0,ks0,ss0⟩,as_⟩:=x
 cases star
 case false=>
  have hx:∀out:List Tok,out.length+(g (Expr.mk k0 o0 n0 v0 q0 m0 ks0 ss0)).length<=1000000->Cl Tryz.prog 250 [.c (.ow 76 (out).length ((out).flatMap Tok.row) none),.ag (av (Expr.mk k0 o0 n0 v0 q0 m0 ks0 ss0).row),vb full] [] fun r _=>r = .c (.ow 76 (out++g (Expr.mk k0 o0 n0 v0 q0 m0 ks0 ss0)).length ((out++g (Expr.mk k0 o0 n0 v0 q0 m0 ks0 ss0)).flatMap Tok.row) none):=hg rfl
  have e:fu g (.mk false qual (Expr.mk k0 o0 n0 v0 q0 m0 ks0 ss0) as_)=g (Expr.mk k0 o0 n0 v0 q0 m0 ks0 ss0)++f4 as_:=rfl
  rw[e] at hroom ⊢
  clear e
  generalize g (Expr.mk k0 o0 n0 v0 q0 m0 ks0 ss0)=l at *
  simp only[ll] at hroom
  rw[ah] at hx
  rw[Item.row_mk,ah]
  refine ae ab false Tryz.func284 rfl (by kernel_rfl) ?_
  simp only[Tryz.f284,tt,seval]
  apply bo 6
  case h1=>
   refine dDrawn.intro [14,17] (.take 0 (.take 1 (.take 2 (.take 3 (.take 5 (.br 4 (.take 6 (.br 7 (.take 8 .done) .nobr)) (.br 6 (.br 4 (.br 7 (.take 8 .done) .nobr) .nobr) .nobr))))))) (by kernel_rfl) ?_
   simp only[tt,seval]
   all_goals repeat' first|refine cJ ?_ ?_|refine b7 ?_ ?_
   all_goals
    refine cZ (hx out (by (try simp only[ll] at *);omega)) ?_ ?_
    ·simp only[tt,seval]
     decide
    simp only[tt,seval]
   all_goals repeat' first|refine cJ ?_ ?_|refine b7 ?_ ?_
   all_goals
    refine cZ (nC (out++l) as_ (by (try simp only[ll] at *);omega)) ?_ ?_
    ·simp only[tt,seval]
     decide
    simp only[tt,seval]
   all_goals exact⟨rfl,rfl,rfl⟩
  case h2=>
   intro f' hj0
   simp only[tt,seval,hj0]
   refine⟨_,[],my (l:=out++l++f4 as_) (by simp [aJ]),am ?_⟩
   simp only[tt,seval]
 case true=>
  have e:fu g (.mk true qual (Expr.mk k0 o0 n0 v0 q0 m0 ks0 ss0) as_)=dY qual++[E1]:=rfl
  rw[e] at hroom ⊢
  clear e
  simp only[ll] at hroom
  rw[Item.row_mk,ah]
  refine ae ab false Tryz.func284 rfl (by kernel_rfl) ?_
  simp only[Tryz.f284,tt,seval]
  refine aa (fun hq=>?_) (fun hq=>?_)
  ·have hq:¬qual=⟨#[]⟩:=by simpa using hq
   rw[dY,if_neg hq] at hroom ⊢
   simp only[ll] at hroom
   simp only[tt,seval]
   refine cZ (cy qual) ?_ ?_<;>simp only[tt,seval,nT,Tok.row]
   refine cZ (aY ⟨#[46]⟩) ?_ ?_<;>simp only[tt,seval,gT,Tok.row]
   refine⟨by kernel_rfl,⟨by simp only[maxLen];(try simp only[ll] at *);omega,by (try simp only[ll] at *);omega⟩,?_⟩
   rw[r4 (out),pb (out) (Tok.mk 2 qual 0) (Tok.mk 5 ⟨#[46]⟩ 0)]
   refine cZ (aY ⟨#[42]⟩) ?_ ?_<;>simp only[tt,seval,gT,Tok.row]
   refine⟨by kernel_rfl,⟨by simp only[maxLen];(try simp only[ll] at *);omega,by (try simp only[ll] at *);omega⟩,?_⟩
   rw[cX (out++[(Tok.mk 2 qual 0),(Tok.mk 5 ⟨#[46]⟩ 0)]),cE (out++[(Tok.mk 2 qual 0),(Tok.mk 5 ⟨#[46]⟩ 0)]) (Tok.mk 5 ⟨#[42]⟩ 0)]
   refine⟨_,[],my (l:=out++[(Tok.mk 2 qual 0),(Tok.mk 5 ⟨#[46]⟩ 0)]++[(Tok.mk 5 ⟨#[42]⟩ 0)]) (by simp [gT,EZ,E1,aJ]),am ?_⟩
   simp only[tt,seval]
  ·have hq:qual=⟨#[]⟩:=by simpa using hq
   rw[dY,if_pos hq] at hroom ⊢
   simp only[ll] at hroom
   simp only[tt,seval]
   refine cZ (aY ⟨#[42]⟩) ?_ ?_<;>simp only[tt,seval,gT,Tok.row]
   refine⟨by kernel_rfl,⟨by simp only[maxLen];(try simp only[ll] at *);omega,by (try simp only[ll] at *);omega⟩,?_⟩
   rw[cX (out),cE (out) (Tok.mk 5 ⟨#[42]⟩ 0)]
   refine⟨_,[],my (l:=out++[(Tok.mk 5 ⟨#[42]⟩ 0)]) (by simp [gT,E1]),am ?_⟩
   simp only[tt,seval]
set_option maxHeartbeats 1000000 in
theorem mA (full:Bool) (l:List Expr) (g:Expr->List Tok) (hll:l.length<=1048576) (hg:∀x∈l,r5 full x (g x)) (out:List Tok) (hroom:out.length+(p5 g l).length<=1000000):Cl Tryz.prog 251 [.c (.ow 76 (out).length ((out).flatMap Tok.row) none),.c (.sl l.length (l.flatMap Expr.row) none),vb full] [] fun r _=>r = .c (.ow 76 (out++p5 g l).length ((out++p5 g l).flatMap Tok.row) none):=by
 refine ae ab false Tryz.func251 rfl (by kernel_rfl) ?_
 simp only[Tryz.f251,tt,seval]
 refine fun _=>?_
 rcases hL:l with _|⟨e,r⟩
 ·rw[hL] at hroom
  simp only[tt,seval]
  refine⟨_,[],my (l:=out) (by exact (List.append_nil _).symm),am ?_⟩
  simp only[tt,seval]
 ·rw[<-hL]
  have hlen:l.length=r.length+1:=by rw[hL];rfl
  have hw:p5 g l=kT 6::g e:=by rw[hL];rfl
  have hx:∀out:List Tok,out.length+(g e).length<=1000000->Cl Tryz.prog 250 [.c (.ow 76 (out).length ((out).flatMap Tok.row) none),.ag (av e.row),vb full] [] fun r _=>r = .c (.ow 76 (out++g e).length ((out++g e).flatMap Tok.row) none):=hg e (by rw[hL];simp)
  have hpos:((0:Int)<l.length)=True:=eq_true (by omega)
  rw[hw] at hroom ⊢
  clear hw
  generalize g e=le at *
  simp only[ll] at hroom
  simp only[tt,seval,show (¬(l.length:Int)=0) from by omega]
  apply bo 6
  case h1=>
   refine dDrawn.intro [19] (.take 0 (.take 4 (.take 5 (.take 7 (.br 1 (.br 2 (.br 3 (.take 6 (.br 8 (.take 9 .done) .nobr)) (.br 6 (.br 3 (.br 8 (.take 9 .done) .nobr) .nobr) .nobr)) (.br 6 (.br 2 (.br 3 (.br 8 (.take 9 .done) .nobr) .nobr) .nobr) .nobr)) (.br 6 (.br 1 (.br 2 (.br 3 (.br 8 (.take 9 .done) .nobr) .nobr) .nobr) .nobr) .nobr)))))) (by kernel_rfl) ?_
   simp only[tt,seval]
   all_goals try simp only[tt,seval,tZ hL aC,hpos,cx (aC e),aC]
   all_goals repeat' first|refine cJ ?_ ?_|refine b7 ?_ ?_
   all_goals
    refine cZ (bb 6 (by omega) (by omega)) ?_ ?_<;>simp only[tt,seval,kT,Tok.row,cx (aC e),aC]
   all_goals repeat' first|refine jU ?_ ?_|refine dR ?_ ?_|refine dS ?_ ?_
   all_goals
    refine⟨by kernel_rfl,⟨by simp only[maxLen];(try simp only[ll] at *);omega,by (try simp only[ll] at *);omega⟩,?_⟩
    rw[cX (out),cE (out) (Tok.mk 1 (kw 6) 0)]
   all_goals repeat' first|refine cJ ?_ ?_|refine b7 ?_ ?_
   all_goals
    refine cZ (hx (out++[(Tok.mk 1 (kw 6) 0)]) (by (try simp only[ll] at *);omega)) ?_ ?_
    ·simp only[tt,seval]
     decide
    simp only[tt,seval]
   all_goals exact⟨rfl,rfl,rfl⟩
  case h2=>
   intro f' hj0
   simp only[tt,seval,hj0]
   refine⟨_,[],my (l:=out++[(Tok.mk 1 (kw 6) 0)]++le) (by simp [kT,aJ]),am ?_⟩
   simp only[tt,seval]
set_option maxHeartbeats 4000000 in
theorem ze (full:Bool) (from_:List Source) (g:Expr->List Tok) (hsz:cK from_<=1048576) (hg:∀s∈from_,∀x∈s.on,r5 full x (g x)) (out:List Tok) (hroom:out.length+(bd (gH g from_) from_.length).length<=1000000):Cl Tryz.prog 285 [.c (.ow 76 (out).length ((out).flatMap Tok.row) none),.c (.sl from_.length (from_.flatMap Source.row) none),vb full] [] fun r _=>r = .c (.ow 76 (out++bd (gH g from_) from_.length).length ((out++bd (gH g from_) from_.length).flatMap Tok.row) none):=by
 have hfl:from_.length<=1048576:=by rw[cc] at hsz;omega
 refine ae ab false Tryz.func285 rfl (by kernel_rfl) ?_
 simp only[Tryz.f285,tt,seval]
 refine dLoop.gh [.ren 9500 10078] ⟨by decide,by decide,?_⟩
 refine dLoop0.introR (fun f L p=>∃(i:Nat) (es:List Tok),f 7=vi i/\f 0 = .c (.s 10078 es.length)/\i<=from_.length/\es=out++bd (gH g from_) i/\L=[(10078,.arr 76 (es).length ((es).flatMap Tok.row) none)]/\p=none) (fun f _ _=>(from_.length-aU (f 7)).toNat) [(10078,.arr 76 (out).length ((out).flatMap Tok.row) none)] none ⟨ac rfl (ak _),al _,?_⟩ ?_
 ·simp only[tt,seval]
  exact⟨0,out,rfl,rfl,by omega,(List.append_nil _).symm,rfl⟩
 ·rintro g' L p ⟨i,es,h7,h0,hi,hes0,rfl,rfl⟩
  simp only[tt,seval] at h7 h0
  simp only[tt,seval,h7,h0,Int.ofNat_lt]
  refine fun _=>aa (fun hlt=>?_) (fun hge=>?_)
  ·have hlt:i<from_.length:=by omega
   have hst:=bC (gH g from_) i
   have hlt2:=dH (gH g from_) hlt
   have hel:es.length=out.length+(bd (gH g from_) i).length:=by rw[hes0,aA]
   obtain⟨it,b5⟩:∃it,it=from_[i]:=⟨_,rfl⟩
   have hx:from_[i]?=some it:=by rw[b5];exact ay hlt
   have hss:gH g from_ i=jV g i it:=by rw[gH,bU hlt,b5]
   rw[hss] at hst hlt2
   have hgi:=hg it (by rw[b5];exact aI hlt)
   have hso:=bZ bW (show it∈from_ by rw[b5];exact aI hlt)
   rw[cc] at hsz
   obtain⟨table,as_,on⟩:=it
   rw[cI,az] at hso
   have hon:on.length<=1048576:=by omega
   have hol:(on.length<=9223372036854775807)=True:=eq_true (by omega)
   have i0:((0:Int)<=(i:Int))=True:=eq_true (by omega)
   have iL:((i:Int)<(from_.length:Int))=True:=eq_true (by omega)
   rcases hL:on with _|⟨e,r⟩
   ·have hle:vh g on=[]:=by rw[hL];rfl
    have hlen:on.length=0:=by rw[hL];rfl
    have op:¬(0:Int)<on.length:=by omega
    have oz:(on.length:Int)=0:=by omega
    by_cases hi0:i=0
    ·have ip:¬(0:Int)<i:=by omega
     have hsrc:jV g i (Source.mk table as_ on)=[]++(nT table::(f4 as_++[])):=by
      show (if 0<i then (if 0<on.length then [kT 4] else [kN]) else [])++(nT table::(f4 as_++vh g on))=_
      rw[hle]
      rw[if_neg (by omega)]
     rw[hsrc] at hlt2
     simp only[ll] at hlt2
     simp only[tt,seval,h7,h0,ao ip]
     apply eC 0 7 1 2
     case h1=>
      refine dDrawn.intro [58] (.take 0 (.take 1 (.take 2 (.take 3 (.take 4 (.take 5 (.take 9 (.take 10 (.take 11 (.take 12 (.br 6 (.br 7 (.br 8 (.take 13 (.br 14 (.take 15 .done) .nobr)) (.br 13 (.br 8 (.br 14 (.take 15 .done) .nobr) .nobr) .nobr)) (.br 13 (.br 7 (.br 8 (.br 14 (.take 15 .done) .nobr) .nobr) .nobr) .nobr)) (.br 13 (.br 6 (.br 7 (.br 8 (.br 14 (.take 15 .done) .nobr) .nobr) .nobr) .nobr) .nobr)))))))))))) (by kernel_rfl) ?_
      simp only[tt,seval]
      all_goals try simp only[tt,seval,h7,h0,bi hx Source.row_len,i0,iL,Source.row_mk]
      all_goals repeat' first|refine cJ ?_ ?_|refine b7 ?_ ?_
      all_goals
       refine cZ (cy table) ?_ ?_<;>simp only[tt,seval,nT,Tok.row]
      all_goals repeat' first|refine jU ?_ ?_|refine dR ?_ ?_|refine dS ?_ ?_
      all_goals
       refine⟨by kernel_rfl,⟨by simp only[maxLen];(try simp only[ll] at *);omega,by (try simp only[ll] at *);omega⟩,?_⟩
       rw[cX (es),cE (es) (Tok.mk 2 table 0)]
      all_goals repeat' first|refine cJ ?_ ?_|refine b7 ?_ ?_
      all_goals
       refine cZ (nC (es++[(Tok.mk 2 table 0)]) as_ (by (try simp only[ll] at *);omega)) ?_ ?_
       ·simp only[tt,seval]
        decide
       simp only[tt,seval,h7]
      all_goals exact⟨rfl,rfl,rfl,rfl,rfl,rfl⟩
     case h2=>
      intro f' hj0 hj1 hj2 hj3
      simp only[tt,seval,hj2,hj1,bi hx Source.row_len,i0,iL,hol,Source.row_mk,ao op]
      try rw[dk i (by omega)]
      refine⟨[.ren 10058 10078],by decide,by decide,?_⟩
      simp only[tt,seval,pm,hj0]
      exact⟨[(10078,.arr 76 (es++[(Tok.mk 2 table 0)]++f4 as_).length ((es++[(Tok.mk 2 table 0)]++f4 as_).flatMap Tok.row) none)],none,ac rfl (ak _),al _,⟨i+1,es++[(Tok.mk 2 table 0)]++f4 as_,rfl,rfl,by omega,by rw[hst,hes0,hsrc];simp [nT,aJ],rfl,rfl⟩,by simp only[aU];omega⟩
    ·have ip:(0:Int)<i:=by omega
     have hsrc:jV g i (Source.mk table as_ on)=[kN]++(nT table::(f4 as_++[])):=by
      show (if 0<i then (if 0<on.length then [kT 4] else [kN]) else [])++(nT table::(f4 as_++vh g on))=_
      rw[hle]
      rw[if_pos (by omega)];rw[if_neg (by omega)]
     rw[hsrc] at hlt2
     simp only[ll] at hlt2
     simp only[tt,seval,h7,h0,bi hx Source.row_len,i0,iL,hol,Source.row_mk,ap ip,ao op,ap oz]
     refine cZ (aY ⟨#[44]⟩) ?_ ?_<;>simp only[tt,seval,gT,Tok.row]
     refine⟨by kernel_rfl,⟨by simp only[maxLen];(try simp only[ll] at *);omega,by (try simp only[ll] at *);omega⟩,?_⟩
     rw[cX (es),cE (es) (Tok.mk 5 ⟨#[44]⟩ 0)]
     apply eC 0 7 1 2
     case h1=>
      refine dDrawn.intro [58] (.take 0 (.take 1 (.take 2 (.take 3 (.take 4 (.take 5 (.take 9 (.take 10 (.take 11 (.take 12 (.br 6 (.br 7 (.br 8 (.take 13 (.br 14 (.take 15 .done) .nobr)) (.br 13 (.br 8 (.br 14 (.take 15 .done) .nobr) .nobr) .nobr)) (.br 13 (.br 7 (.br 8 (.br 14 (.take 15 .done) .nobr) .nobr) .nobr) .nobr)) (.br 13 (.br 6 (.br 7 (.br 8 (.br 14 (.take 15 .done) .nobr) .nobr) .nobr) .nobr) .nobr)))))))))))) (by kernel_rfl) ?_
      simp only[tt,seval]
      all_goals try simp only[tt,seval,h7,bi hx Source.row_len,i0,iL,Source.row_mk]
      all_goals repeat' first|refine cJ ?_ ?_|refine b7 ?_ ?_
      all_goals
       refine cZ (cy table) ?_ ?_<;>simp only[tt,seval,nT,Tok.row]
      all_goals repeat' first|refine jU ?_ ?_|refine dR ?_ ?_|refine dS ?_ ?_
      all_goals
       refine⟨by kernel_rfl,⟨by simp only[maxLen];(try simp only[ll] at *);omega,by (try simp only[ll] at *);omega⟩,?_⟩
       rw[cX (es++[(Tok.mk 5 ⟨#[44]⟩ 0)]),cE (es++[(Tok.mk 5 ⟨#[44]⟩ 0)]) (Tok.mk 2 table 0)]
      all_goals repeat' first|refine cJ ?_ ?_|refine b7 ?_ ?_
      all_goals
       refine cZ (nC (es++[(Tok.mk 5 ⟨#[44]⟩ 0)]++[(Tok.mk 2 table 0)]) as_ (by (try simp only[ll] at *);omega)) ?_ ?_
       ·simp only[tt,seval]
        decide
       simp only[tt,seval,h7]
      all_goals exact⟨rfl,rfl,rfl,rfl,rfl,rfl⟩
     case h2=>
      intro f' hj0 hj1 hj2 hj3
      simp only[tt,seval,hj2,hj1,bi hx Source.row_len,i0,iL,hol,Source.row_mk,ao op]
      try rw[dk i (by omega)]
      refine⟨[.ren 10058 10078],by decide,by decide,?_⟩
      simp only[tt,seval,pm,hj0]
      exact⟨[(10078,.arr 76 (es++[(Tok.mk 5 ⟨#[44]⟩ 0)]++[(Tok.mk 2 table 0)]++f4 as_).length ((es++[(Tok.mk 5 ⟨#[44]⟩ 0)]++[(Tok.mk 2 table 0)]++f4 as_).flatMap Tok.row) none)],none,ac rfl (ak _),al _,⟨i+1,es++[(Tok.mk 5 ⟨#[44]⟩ 0)]++[(Tok.mk 2 table 0)]++f4 as_,rfl,rfl,by omega,by rw[hst,hes0,hsrc];simp [kN,gT,nT,aJ],rfl,rfl⟩,by simp only[aU];omega⟩
   ·have hle0:vh g on=kT 5::g e:=by rw[hL];rfl
    have hlen:on.length=r.length+1:=by rw[hL];rfl
    have hxe:=hgi e (by show e∈on;rw[hL];simp)
    obtain⟨le,hle1⟩:∃le,le=g e:=⟨_,rfl⟩
    have hle:vh g on=kT 5::le:=by rw[hle0,hle1]
    rw[<-hle1] at hxe
    have hxe:∀out:List Tok,out.length+le.length<=1000000->Cl Tryz.prog 250 [.c (.ow 76 (out).length ((out).flatMap Tok.row) none),.ag (av e.row),vb full] [] fun r _=>r = .c (.ow 76 (out++le).length ((out++le).flatMap Tok.row) none):=hxe
    have hpos:((0:Int)<on.length)=True:=eq_true (by omega)
    have op:(0:Int)<on.length:=by omega
    have oz:¬(on.length:Int)=0:=by omega
    by_cases hi0:i=0
    ·have ip:¬(0:Int)<i:=by omega
     have hsrc:jV g i (Source.mk table as_ on)=[]++(nT table::(f4 as_++(kT 5::le))):=by
      show (if 0<i then (if 0<on.length then [kT 4] else [kN]) else [])++(nT table::(f4 as_++vh g on))=_
      rw[hle]
      rw[if_neg (by omega)]
     rw[hsrc] at hlt2
     simp only[ll] at hlt2
     simp only[tt,seval,h7,h0,ao ip]
     apply eC 0 7 1 2
     case h1=>
      refine dDrawn.intro [58] (.take 0 (.take 1 (.take 2 (.take 3 (.take 4 (.take 5 (.take 9 (.take 10 (.take 11 (.take 12 (.br 6 (.br 7 (.br 8 (.take 13 (.br 14 (.take 15 .done) .nobr)) (.br 13 (.br 8 (.br 14 (.take 15 .done) .nobr) .nobr) .nobr)) (.br 13 (.br 7 (.br 8 (.br 14 (.take 15 .done) .nobr) .nobr) .nobr) .nobr)) (.br 13 (.br 6 (.br 7 (.br 8 (.br 14 (.take 15 .done) .nobr) .nobr) .nobr) .nobr) .nobr)))))))))))) (by kernel_rfl) ?_
      simp only[tt,seval]
      all_goals try simp only[tt,seval,h7,h0,bi hx Source.row_len,i0,iL,Source.row_mk]
      all_goals repeat' first|refine cJ ?_ ?_|refine b7 ?_ ?_
      all_goals
       refine cZ (cy table) ?_ ?_<;>simp only[tt,seval,nT,Tok.row]
      all_goals repeat' first|refine jU ?_ ?_|refine dR ?_ ?_|refine dS ?_ ?_
      all_goals
       refine⟨by kernel_rfl,⟨by simp only[maxLen];(try simp only[ll] at *);omega,by (try simp only[ll] at *);omega⟩,?_⟩
       rw[cX (es),cE (es) (Tok.mk 2 table 0)]
      all_goals repeat' first|refine cJ ?_ ?_|refine b7 ?_ ?_
      all_goals
       refine cZ (nC (es++[(Tok.mk 2 table 0)]) as_ (by (try simp only[ll] at *);omega)) ?_ ?_
       ·simp only[tt,seval]
        decide
       simp only[tt,seval,h7]
      all_goals exact⟨rfl,rfl,rfl,rfl,rfl,rfl⟩
     case h2=>
      intro f' hj0 hj1 hj2 hj3
      simp only[tt,seval,hj2,hj1,bi hx Source.row_len,i0,iL,hol,Source.row_mk,ap op]
      apply eC 0 7 1 2
      case h1=>
       refine dDrawn.intro [78] (.take 0 (.take 4 (.take 5 (.take 6 (.take 7 (.take 11 (.br 1 (.br 2 (.br 3 (.take 8 (.take 9 (.take 10 (.br 12 (.take 13 .done) .nobr)))) (.br 8 (.take 9 (.br 3 (.take 10 (.br 12 (.take 13 .done) .nobr)) (.br 10 (.br 3 (.br 12 (.take 13 .done) .nobr) .nobr) .nobr))) .nobr)) (.br 8 (.take 9 (.br 2 (.br 3 (.take 10 (.br 12 (.take 13 .done) .nobr)) (.br 10 (.br 3 (.br 12 (.take 13 .done) .nobr) .nobr) .nobr)) (.br 10 (.br 2 (.br 3 (.br 12 (.take 13 .done) .nobr) .nobr) .nobr) .nobr))) .nobr)) (.br 8 (.take 9 (.br 1 (.br 2 (.br 3 (.take 10 (.br 12 (.take 13 .done) .nobr)) (.br 10 (.br 3 (.br 12 (.take 13 .done) .nobr) .nobr) .nobr)) (.br 10 (.br 2 (.br 3 (.br 12 (.take 13 .done) .nobr) .nobr) .nobr) .nobr)) (.br 10 (.br 1 (.br 2 (.br 3 (.br 12 (.take 13 .done) .nobr) .nobr) .nobr) .nobr) .nobr))) .nobr)))))))) (by kernel_rfl) ?_
       simp only[tt,seval]
       all_goals try simp only[tt,seval,hj0,hj1,hj2,hj3,bi hx Source.row_len,i0,iL,Source.row_mk,hpos,tZ hL aC,cx (aC e),aC]
       all_goals repeat' first|refine cJ ?_ ?_|refine b7 ?_ ?_
       all_goals
        refine cZ (bb 5 (by omega) (by omega)) ?_ ?_<;>simp only[tt,seval,kT,Tok.row,hpos,tZ hL aC,cx (aC e),aC]
       all_goals repeat' first|refine jU ?_ ?_|refine dR ?_ ?_|refine dS ?_ ?_
       all_goals
        refine⟨by kernel_rfl,⟨by simp only[maxLen];(try simp only[ll] at *);omega,by (try simp only[ll] at *);omega⟩,?_⟩
        rw[cX (es++[(Tok.mk 2 table 0)]++f4 as_),cE (es++[(Tok.mk 2 table 0)]++f4 as_) (Tok.mk 1 (kw 5) 0)]
       all_goals repeat' first|refine cJ ?_ ?_|refine b7 ?_ ?_
       all_goals
        refine cZ (hxe (es++[(Tok.mk 2 table 0)]++f4 as_++[(Tok.mk 1 (kw 5) 0)]) (by (try simp only[ll] at *);omega)) ?_ ?_
        ·simp only[tt,seval]
         decide
        simp only[tt,seval,hj1,hj2,hj3]
       all_goals exact⟨rfl,rfl,rfl,rfl,rfl,rfl⟩
      case h2=>
       intro f' hj0 hj1 hj2 hj3
       simp only[tt,seval,hj1]
       try rw[dk i (by omega)]
       refine⟨[],?_⟩
       simp only[tt,seval,pm,hj0]
       exact⟨[(10078,.arr 76 (es++[(Tok.mk 2 table 0)]++f4 as_++[(Tok.mk 1 (kw 5) 0)]++le).length ((es++[(Tok.mk 2 table 0)]++f4 as_++[(Tok.mk 1 (kw 5) 0)]++le).flatMap Tok.row) none)],none,ac rfl (ak _),al _,⟨i+1,es++[(Tok.mk 2 table 0)]++f4 as_++[(Tok.mk 1 (kw 5) 0)]++le,rfl,rfl,by omega,by rw[hst,hes0,hsrc];simp [kT,nT,aJ],rfl,rfl⟩,by simp only[aU];omega⟩
    ·have ip:(0:Int)<i:=by omega
     have hsrc:jV g i (Source.mk table as_ on)=[kT 4]++(nT table::(f4 as_++(kT 5::le))):=by
      show (if 0<i then (if 0<on.length then [kT 4] else [kN]) else [])++(nT table::(f4 as_++vh g on))=_
      rw[hle]
      rw[if_pos (by omega)];rw[if_pos (by omega)]
     rw[hsrc] at hlt2
     simp only[ll] at hlt2
     simp only[tt,seval,h7,h0,bi hx Source.row_len,i0,iL,hol,Source.row_mk,ap ip,ap op,ao oz]
     refine cZ (bb 4 (by omega) (by omega)) ?_ ?_<;>simp only[tt,seval,kT,Tok.row,h7,bi hx Source.row_len,i0,iL,hol,Source.row_mk,ap ip,ao oz]
     refine⟨by kernel_rfl,⟨by simp only[maxLen];(try simp only[ll] at *);omega,by (try simp only[ll] at *);omega⟩,?_⟩
     rw[cX (es),cE (es) (Tok.mk 1 (kw 4) 0)]
     apply eC 0 7 1 2
     case h1=>
      refine dDrawn.intro [58] (.take 0 (.take 1 (.take 2 (.take 3 (.take 4 (.take 5 (.take 9 (.take 10 (.take 11 (.take 12 (.br 6 (.br 7 (.br 8 (.take 13 (.br 14 (.take 15 .done) .nobr)) (.br 13 (.br 8 (.br 14 (.take 15 .done) .nobr) .nobr) .nobr)) (.br 13 (.br 7 (.br 8 (.br 14 (.take 15 .done) .nobr) .nobr) .nobr) .nobr)) (.br 13 (.br 6 (.br 7 (.br 8 (.br 14 (.take 15 .done) .nobr) .nobr) .nobr) .nobr) .nobr)))))))))))) (by kernel_rfl) ?_
      simp only[tt,seval]
      all_goals try simp only[tt,seval,h7,bi hx Source.row_len,i0,iL,Source.row_mk]
      all_goals repeat' first|refine cJ ?_ ?_|refine b7 ?_ ?_
      all_goals
       refine cZ (cy table) ?_ ?_<;>simp only[tt,seval,nT,Tok.row]
      all_goals repeat' first|refine jU ?_ ?_|refine dR ?_ ?_|refine dS ?_ ?_
      all_goals
       refine⟨by kernel_rfl,⟨by simp only[maxLen];(try simp only[ll] at *);omega,by (try simp only[ll] at *);omega⟩,?_⟩
       rw[cX (es++[(Tok.mk 1 (kw 4) 0)]),cE (es++[(Tok.mk 1 (kw 4) 0)]) (Tok.mk 2 table 0)]
      all_goals repeat' first|refine cJ ?_ ?_|refine b7 ?_ ?_
      all_goals
       refine cZ (nC (es++[(Tok.mk 1 (kw 4) 0)]++[(Tok.mk 2 table 0)]) as_ (by (try simp only[ll] at *);omega)) ?_ ?_
       ·simp only[tt,seval]
        decide
       simp only[tt,seval,h7]
      all_goals exact⟨rfl,rfl,rfl,rfl,rfl,rfl⟩
     case h2=>
      intro f' hj0 hj1 hj2 hj3
      simp only[tt,seval,hj2,hj1,bi hx Source.row_len,i0,iL,hol,Source.row_mk,ap op]
      apply eC 0 7 1 2
      case h1=>
       refine dDrawn.intro [78] (.take 0 (.take 4 (.take 5 (.take 6 (.take 7 (.take 11 (.br 1 (.br 2 (.br 3 (.take 8 (.take 9 (.take 10 (.br 12 (.take 13 .done) .nobr)))) (.br 8 (.take 9 (.br 3 (.take 10 (.br 12 (.take 13 .done) .nobr)) (.br 10 (.br 3 (.br 12 (.take 13 .done) .nobr) .nobr) .nobr))) .nobr)) (.br 8 (.take 9 (.br 2 (.br 3 (.take 10 (.br 12 (.take 13 .done) .nobr)) (.br 10 (.br 3 (.br 12 (.take 13 .done) .nobr) .nobr) .nobr)) (.br 10 (.br 2 (.br 3 (.br 12 (.take 13 .done) .nobr) .nobr) .nobr) .nobr))) .nobr)) (.br 8 (.take 9 (.br 1 (.br 2 (.br 3 (.take 10 (.br 12 (.take 13 .done) .nobr)) (.br 10 (.br 3 (.br 12 (.take 13 .done) .nobr) .nobr) .nobr)) (.br 10 (.br 2 (.br 3 (.br 12 (.take 13 .done) .nobr) .nobr) .nobr) .nobr)) (.br 10 (.br 1 (.br 2 (.br 3 (.br 12 (.take 13 .done) .nobr) .nobr) .nobr) .nobr) .nobr))) .nobr)))))))) (by kernel_rfl) ?_
       simp only[tt,seval]
       all_goals try simp only[tt,seval,hj0,hj1,hj2,hj3,bi hx Source.row_len,i0,iL,Source.row_mk,hpos,tZ hL aC,cx (aC e),aC]
       all_goals repeat' first|refine cJ ?_ ?_|refine b7 ?_ ?_
       all_goals
        refine cZ (bb 5 (by omega) (by omega)) ?_ ?_<;>simp only[tt,seval,kT,Tok.row,hpos,tZ hL aC,cx (aC e),aC]
       all_goals repeat' first|refine jU ?_ ?_|refine dR ?_ ?_|refine dS ?_ ?_
       all_goals
        refine⟨by kernel_rfl,⟨by simp only[maxLen];(try simp only[ll] at *);omega,by (try simp only[ll] at *);omega⟩,?_⟩
        rw[cX (es++[(Tok.mk 1 (kw 4) 0)]++[(Tok.mk 2 table 0)]++f4 as_),cE (es++[(Tok.mk 1 (kw 4) 0)]++[(Tok.mk 2 table 0)]++f4 as_) (Tok.mk 1 (kw 5) 0)]
       all_goals repeat' first|refine cJ ?_ ?_|refine b7 ?_ ?_
       all_goals
        refine cZ (hxe (es++[(Tok.mk 1 (kw 4) 0)]++[(Tok.mk 2 table 0)]++f4 as_++[(Tok.mk 1 (kw 5) 0)]) (by (try simp only[ll] at *);omega)) ?_ ?_
        ·simp only[tt,seval]
         decide
        simp only[tt,seval,hj1,hj2,hj3]
       all_goals exact⟨rfl,rfl,rfl,rfl,rfl,rfl⟩
      case h2=>
       intro f' hj0 hj1 hj2 hj3
       simp only[tt,seval,hj1]
       try rw[dk i (by omega)]
       refine⟨[],?_⟩
       simp only[tt,seval,pm,hj0]
       exact⟨[(10078,.arr 76 (es++[(Tok.mk 1 (kw 4) 0)]++[(Tok.mk 2 table 0)]++f4 as_++[(Tok.mk 1 (kw 5) 0)]++le).length ((es++[(Tok.mk 1 (kw 4) 0)]++[(Tok.mk 2 table 0)]++f4 as_++[(Tok.mk 1 (kw 5) 0)]++le).flatMap Tok.row) none)],none,ac rfl (ak _),al _,⟨i+1,es++[(Tok.mk 1 (kw 4) 0)]++[(Tok.mk 2 table 0)]++f4 as_++[(Tok.mk 1 (kw 5) 0)]++le,rfl,rfl,by omega,by rw[hst,hes0,hsrc];simp [kT,nT,aJ],rfl,rfl⟩,by simp only[aU];omega⟩
  ·have hie:i=from_.length:=by omega
   subst hie
   subst hes0
   refine⟨_,[],my (l:=out++bd (gH g from_) from_.length) (by rfl),am ?_⟩
   simp only[tt,seval]
theorem pr (e:Expr) (d:Bool) (r:List D):(SortKey.mk e d).row++r=e.row++(bool d::r):=by rw[SortKey.row_mk,aJ];rfl
theorem Gt (e:Expr) (r:List D):List.drop 10 (e.row++r)=r:=by
 have:=List.drop_left (l₁ := e.row) (l₂ := r)
 rwa[aC] at this
set_option maxHeartbeats 4000000 in
theorem lZ (full:Bool) (gf:Expr->Bool) (g:Expr->List Tok) (q:Query) (hf:eZ gf q=true) (hlim:q.lim<=9223372036854775807) (hsz:aP q<=1048576) (hg:∀x∈exprsQ q,r5 full x (g x)):Fz full q (jX g q):=by
 intro out hroom
 obtain⟨distinct,items,from_,where_,order,limit⟩:=q
 obtain⟨_,_,_,_,hl1,_,_,_⟩:=fv hf
 have hlim:limit<=9223372036854775807:=hlim
 rw[dc,db,az,bK] at hsz
 have eq:exprsQ (.mk distinct items from_ where_ order limit)=aN items++from_.flatMap Source.on++where_++order.map SortKey.e:=rfl
 rw[eq] at hg
 have hgI:∀x∈items,x.star=false->r5 full x.e (g x.e):=fun x hx hs=>hg _ (by
  simp only[List.mem_append,aN,List.mem_map,List.mem_filter]
  exact .inl (.inl (.inl ⟨_,⟨hx,by rw[hs];rfl⟩,rfl⟩)))
 have hgS:∀s∈from_,∀x∈s.on,r5 full x (g x):=fun s hs x hx=>hg _ (by
  simp only[List.mem_append,List.mem_flatMap]
  exact .inl (.inl (.inr ⟨_,hs,hx⟩)))
 have hgW:∀x∈where_,r5 full x (g x):=fun x hx=>hg _ (by simp [hx])
 have hgO:∀k∈order,r5 full k.e (g k.e):=fun k hk=>hg _ (by
  simp only[List.mem_append,List.mem_map]
  exact .inr ⟨_,hk,rfl⟩)
 have hsf:cK from_<=1048576:=by omega
 clear hf hg eq
 rw[ar]
 obtain⟨dl,hdl⟩:∃dl,dl=(if distinct=true then [kT 2] else []):=⟨_,rfl⟩
 have e:jX g (.mk distinct items from_ where_ order limit)=kT 1::(dl++(bd (fG g items) items.length++(kT 3::(bd (gH g from_) from_.length++(p5 g where_++(bd (jW g order) order.length++tg limit)))))):=by rw[hdl];rfl
 rw[e] at hroom ⊢
 clear e
 simp only[ll] at hroom
 refine ae ab false Tryz.func246 rfl (by kernel_rfl) ?_
 simp only[Tryz.f246,tt,seval]
 refine cZ (bb 1 (by omega) (by omega)) ?_ ?_<;>simp only[tt,seval,kT,Tok.row]
 refine⟨by kernel_rfl,⟨by simp only[maxLen];(try simp only[ll] at *);omega,by (try simp only[ll] at *);omega⟩,?_⟩
 rw[cX (out),cE (out) (Tok.mk 1 (kw 1) 0)]
 refine aa (fun hd=>?_) (fun hd=>?_)
 all_goals first
  | (have hd1:dl=[(Tok.mk 1 (kw 2) 0)]:=by rw[hdl,if_pos hd];rfl
     have hd2:dl.length=1:=by rw[hd1];rfl
     refine hJ (bb 2 (by omega) (by omega)) ?_ ?_ ?_
     ·decide
     ·simp only[tt,seval]
     rintro r rfl
     simp only[tt,seval,kT,Tok.row]
     refine⟨by kernel_rfl,⟨by simp only[maxLen];(try simp only[ll] at *);omega,by (try simp only[ll] at *);omega⟩,?_⟩
     rw[cX (out++[(Tok.mk 1 (kw 1) 0)]),cE (out++[(Tok.mk 1 (kw 1) 0)]) (Tok.mk 1 (kw 2) 0)]
     rw[<-hd1]
     refine dLoop.gh [.ren 18 10039] ⟨by decide,by decide,?_⟩)
  | (have hd1:dl=[]:=by rw[hdl,hd];rfl
     rw[show out++[(Tok.mk 1 (kw 1) 0)]=out++[(Tok.mk 1 (kw 1) 0)]++dl by rw[hd1,List.append_nil]]
     refine dLoop.gh [.ren 12 10039] ⟨by decide,by decide,?_⟩)
 all_goals
  obtain⟨L1,hL1⟩:∃L1,L1=out++[(Tok.mk 1 (kw 1) 0)]++dl:=⟨_,rfl⟩
  rw[<-hL1]
  have hel1:L1.length=out.length+1+dl.length:=by rw[hL1];simp only[ll]
  refine dLoop0.intro (fun f L p=>∃(i:Nat) (es:List Tok),f 7=vi i/\f 0 = .c (.s 10039 es.length)/\i<=items.length/\es=L1++bd (fG g items) i/\L=[(10039,.arr 76 (es).length ((es).flatMap Tok.row) none),(4,.str [.v (.bool distinct),.sl items.length (items.flatMap Item.row) none,.sl from_.length (from_.flatMap Source.row) none,.sl where_.length (where_.flatMap Expr.row) none,.sl order.length (order.flatMap SortKey.row) none,.v (.int .i64 limit)])]/\p=none) (fun f _ _=>(items.length-aU (f 7)).toNat) [(10039,.arr 76 (L1).length ((L1).flatMap Tok.row) none),(4,.str [.v (.bool distinct),.sl items.length (items.flatMap Item.row) none,.sl from_.length (from_.flatMap Source.row) none,.sl where_.length (where_.flatMap Expr.row) none,.sl order.length (order.flatMap SortKey.row) none,.v (.int .i64 limit)])] none ⟨ac rfl (ac rfl (ak _)),al _,?_⟩ ?_
  ·simp only[tt,seval]
   exact⟨0,L1,rfl,rfl,by omega,(List.append_nil _).symm,rfl⟩
  rintro g' L p ⟨i,es,h7,h0,hi,hes0,rfl,rfl⟩
  simp only[tt,seval] at h7 h0
  simp only[tt,seval,h7,h0,Int.ofNat_lt]
  refine fun _=>aa (fun hlt=>?_) (fun hge=>?_)
  ·have hlt:i<items.length:=by omega
   have hst:=bC (fG g items) i
   have hlt2:=dH (fG g items) hlt
   have hel:es.length=L1.length+(bd (fG g items) i).length:=by rw[hes0,aA]
   obtain⟨it,b5⟩:∃it,it=items[i]:=⟨_,rfl⟩
   have hx:items[i]?=some it:=by rw[b5];exact ay hlt
   have hit2:fG g items i=ea i++fu g it:=by rw[fG,bU hlt,b5]
   rw[hit2] at hlt2
   have hgi:=hgI it (by rw[b5];exact aI hlt)
   have i0:((0:Int)<=(i:Int))=True:=eq_true (by omega)
   have iL:((i:Int)<(items.length:Int))=True:=eq_true (by omega)
   have iT:(i<items.length)=True:=eq_true hlt
   refine aa (fun hc=>?_) (fun hc=>?_)
   ·have hcl:ea i=[(Tok.mk 5 ⟨#[44]⟩ 0)]:=if_pos (by omega)
    rw[hcl] at hlt2 hit2
    simp only[ll] at hlt2
    refine cZ (aY ⟨#[44]⟩) ?_ ?_<;>simp only[tt,seval,gT,iT,Tok.row,h7]
    refine⟨by kernel_rfl,⟨by simp only[maxLen];(try simp only[ll] at *);omega,by (try simp only[ll] at *);omega⟩,?_⟩
    rw[cX (es),cE (es) (Tok.mk 5 ⟨#[44]⟩ 0)]
    simp only[tt,seval,bi hx Item.row_len,i0,iL,Item.tk,Item.row_len]
    refine cZ (rU full it g hgi (es++[(Tok.mk 5 ⟨#[44]⟩ 0)]) (by (try simp only[ll] at *);omega)) ?_ ?_<;>simp only[tt,seval,h7]
    try rw[dk i (by omega)]
    exact⟨[(10039,.arr 76 (es++[(Tok.mk 5 ⟨#[44]⟩ 0)]++fu g it).length ((es++[(Tok.mk 5 ⟨#[44]⟩ 0)]++fu g it).flatMap Tok.row) none),(4,.str [.v (.bool distinct),.sl items.length (items.flatMap Item.row) none,.sl from_.length (from_.flatMap Source.row) none,.sl where_.length (where_.flatMap Expr.row) none,.sl order.length (order.flatMap SortKey.row) none,.v (.int .i64 limit)])],none,ac rfl (ac rfl (ak _)),al _,⟨i+1,es++[(Tok.mk 5 ⟨#[44]⟩ 0)]++fu g it,rfl,rfl,by omega,by rw[hst,hes0,hit2];simp [aJ],rfl,rfl⟩,by simp only[aU];omega⟩
   ·have hcl:ea i=[]:=if_neg (by omega)
    rw[hcl] at hlt2 hit2
    simp only[ll] at hlt2
    simp only[tt,seval,bi hx Item.row_len,i0,iT,Item.tk,Item.row_len]
    refine cZ (rU full it g hgi (es) (by (try simp only[ll] at *);omega)) ?_ ?_<;>simp only[tt,seval,h7]
    try rw[dk i (by omega)]
    exact⟨[(10039,.arr 76 (es++fu g it).length ((es++fu g it).flatMap Tok.row) none),(4,.str [.v (.bool distinct),.sl items.length (items.flatMap Item.row) none,.sl from_.length (from_.flatMap Source.row) none,.sl where_.length (where_.flatMap Expr.row) none,.sl order.length (order.flatMap SortKey.row) none,.v (.int .i64 limit)])],none,ac rfl (ac rfl (ak _)),al _,⟨i+1,es++fu g it,rfl,rfl,by omega,by rw[hst,hes0,hit2];simp [aJ],rfl,rfl⟩,by simp only[aU];omega⟩
  have hie:i=items.length:=by omega
  subst hie
  have hel2:es.length=L1.length+(bd (fG g items) items.length).length:=by rw[hes0,aA]
  clear hi hge
  apply du 0 4 2
  case h1=>
   refine dDrawn.intro [47] (.take 0 (.take 4 (.take 6 (.br 1 (.br 2 (.br 3 (.take 5 (.br 7 (.take 8 .done) .nobr)) (.br 5 (.br 3 (.br 7 (.take 8 .done) .nobr) .nobr) .nobr)) (.br 5 (.br 2 (.br 3 (.br 7 (.take 8 .done) .nobr) .nobr) .nobr) .nobr)) (.br 5 (.br 1 (.br 2 (.br 3 (.br 7 (.take 8 .done) .nobr) .nobr) .nobr) .nobr) .nobr))))) (by kernel_rfl) ?_
   simp only[tt,seval]
   all_goals repeat' first|refine cJ ?_ ?_|refine b7 ?_ ?_
   all_goals
    refine cZ (bb 3 (by omega) (by omega)) ?_ ?_<;>simp only[tt,seval,kT,Tok.row,h0]
   all_goals repeat' first|refine jU ?_ ?_|refine dR ?_ ?_|refine dS ?_ ?_
   all_goals
    refine⟨by kernel_rfl,⟨by simp only[maxLen];(try simp only[ll] at *);omega,by (try simp only[ll] at *);omega⟩,?_⟩
    rw[cX (es),cE (es) (Tok.mk 1 (kw 3) 0)]
   all_goals repeat' first|refine cJ ?_ ?_|refine b7 ?_ ?_
   all_goals
    refine cZ (ze full from_ g hsf hgS (es++[(Tok.mk 1 (kw 3) 0)]) (by (try simp only[ll] at *);omega)) ?_ ?_
    ·simp only[tt,seval]
     decide
    simp only[tt,seval]
   all_goals exact⟨rfl,rfl,rfl,rfl,rfl⟩
  case h2=>
   intro f' hj0 hj1 hj2
   simp only[tt,seval,hj0,hj1,hj2]
   refine cZ (mA full where_ g (by omega) hgW (es++[(Tok.mk 1 (kw 3) 0)]++bd (gH g from_) from_.length) (by (try simp only[ll] at *);omega)) ?_ ?_<;>simp only[tt,seval]
   obtain⟨L5,hL5⟩:∃L5,L5=es++[(Tok.mk 1 (kw 3) 0)]++bd (gH g from_) from_.length++p5 g where_:=⟨_,rfl⟩
   have hel5:L5.length=es.length+1+(bd (gH g from_) from_.length).length+(p5 g where_).length:=by rw[hL5];simp only[ll]
   rw[<-hL5]
   refine dLoop.gh [.ren 10052 10079] ⟨by decide,by decide,?_⟩
   refine dLoop0.introR (fun f L p=>∃(i:Nat) (es:List Tok),f 8=vi i/\f 0 = .c (.s 10079 es.length)/\i<=order.length/\es=L5++bd (jW g order) i/\L=[(10079,.arr 76 (es).length ((es).flatMap Tok.row) none),(4,.str [.v (.bool distinct),.sl items.length (items.flatMap Item.row) none,.sl from_.length (from_.flatMap Source.row) none,.sl where_.length (where_.flatMap Expr.row) none,.sl order.length (order.flatMap SortKey.row) none,.v (.int .i64 limit)])]/\p=none) (fun f _ _=>(order.length-aU (f 8)).toNat) [(10079,.arr 76 (L5).length ((L5).flatMap Tok.row) none),(4,.str [.v (.bool distinct),.sl items.length (items.flatMap Item.row) none,.sl from_.length (from_.flatMap Source.row) none,.sl where_.length (where_.flatMap Expr.row) none,.sl order.length (order.flatMap SortKey.row) none,.v (.int .i64 limit)])] none ⟨ac rfl (ac rfl (ak _)),al _,?_⟩ ?_
   ·simp only[tt,seval]
    exact⟨0,L5,rfl,rfl,by omega,(List.append_nil _).symm,rfl⟩
   rintro g' L p ⟨i,ez,h8,hz0,hi,hez0,rfl,rfl⟩
   simp only[tt,seval] at h8 hz0
   simp only[tt,seval,h8,hz0,hj1,Int.ofNat_lt]
   refine fun _=>aa (fun hlt=>?_) (fun hge=>?_)
   ·have hlt:i<order.length:=by omega
    have hst:=bC (jW g order) i
    have hlt2:=dH (jW g order) hlt
    have hel:ez.length=L5.length+(bd (jW g order) i).length:=by rw[hez0,aA]
    obtain⟨it,b5⟩:∃it,it=order[i]:=⟨_,rfl⟩
    have hx:order[i]?=some it:=by rw[b5];exact ay hlt
    have hit2:jW g order i=(if i=0 then [kT 7,kT 8] else [kN])++wv g it:=by rw[jW,bU hlt,b5]
    have hge:=hgO it (by rw[b5];exact aI hlt)
    have i0:((0:Int)<=(i:Int))=True:=eq_true (by omega)
    have iL:((i:Int)<(order.length:Int))=True:=eq_true (by omega)
    obtain⟨e,desc⟩:=it
    have hge:∀out:List Tok,out.length+(g e).length<=1000000->Cl Tryz.prog 250 [.c (.ow 76 (out).length ((out).flatMap Tok.row) none),.ag (av e.row),vb full] [] fun r _=>r = .c (.ow 76 (out++g e).length ((out++g e).flatMap Tok.row) none):=hge
    have hkt:wv g (SortKey.mk e desc)=g e++(if desc=true then [kT 10] else []):=rfl
    rw[hkt] at hit2
    rw[hit2] at hlt2
    have hop:0<=(if desc=true then [kT 10] else []).length:=Nat.zero_le _
    refine aa (fun hc=>?_) (fun hc=>?_)
    ·have hc:i=0:=by omega
     rw[if_pos hc] at hlt2 hit2
     simp only[ll] at hlt2
     refine cZ (bb 7 (by omega) (by omega)) ?_ ?_<;>simp only[tt,seval,kT,Tok.row]
     refine cZ (bb 8 (by omega) (by omega)) ?_ ?_<;>simp only[tt,seval,kT,Tok.row,h8,hj1,hj2]
     refine⟨by kernel_rfl,⟨by simp only[maxLen];(try simp only[ll] at *);omega,by (try simp only[ll] at *);omega⟩,?_⟩
     rw[r4 (ez),pb (ez) (Tok.mk 1 (kw 7) 0) (Tok.mk 1 (kw 8) 0)]
     simp only[tt,seval,bi hx SortKey.row_len,i0,iL,pr,Expr.tk,aC]
     refine cZ (hge (ez++[(Tok.mk 1 (kw 7) 0),(Tok.mk 1 (kw 8) 0)]) (by (try simp only[ll] at *);omega)) ?_ ?_<;>simp only[tt,seval,h8,hj1,bi hx SortKey.row_len,i0,iL,pr,Gt]
     refine aa (fun hd=>?_) (fun hd=>?_)
     ·subst hd
      rw[if_pos rfl] at hlt2 hit2
      simp only[ll] at hlt2
      refine cZ (bb 10 (by omega) (by omega)) ?_ ?_<;>simp only[tt,seval,kT,Tok.row,h8]
      refine⟨by kernel_rfl,⟨by simp only[maxLen];(try simp only[ll] at *);omega,by (try simp only[ll] at *);omega⟩,?_⟩
      rw[cX (ez++[(Tok.mk 1 (kw 7) 0),(Tok.mk 1 (kw 8) 0)]++g e),cE (ez++[(Tok.mk 1 (kw 7) 0),(Tok.mk 1 (kw 8) 0)]++g e) (Tok.mk 1 (kw 10) 0)]
      try rw[dk i (by omega)]
      refine⟨[.ren 89 10079],by decide,by decide,?_⟩
      simp only[tt,seval,pm]
      exact⟨[(10079,.arr 76 (ez++[(Tok.mk 1 (kw 7) 0),(Tok.mk 1 (kw 8) 0)]++g e++[(Tok.mk 1 (kw 10) 0)]).length ((ez++[(Tok.mk 1 (kw 7) 0),(Tok.mk 1 (kw 8) 0)]++g e++[(Tok.mk 1 (kw 10) 0)]).flatMap Tok.row) none),(4,.str [.v (.bool distinct),.sl items.length (items.flatMap Item.row) none,.sl from_.length (from_.flatMap Source.row) none,.sl where_.length (where_.flatMap Expr.row) none,.sl order.length (order.flatMap SortKey.row) none,.v (.int .i64 limit)])],none,ac rfl (ac rfl (ak _)),al _,⟨i+1,ez++[(Tok.mk 1 (kw 7) 0),(Tok.mk 1 (kw 8) 0)]++g e++[(Tok.mk 1 (kw 10) 0)],rfl,rfl,by omega,by rw[hst,hez0,hit2];simp [kT,aJ],rfl,rfl⟩,by simp only[aU];omega⟩
     ·subst hd
      rw[if_neg Bool.false_ne_true] at hlt2 hit2
      try rw[dk i (by omega)]
      refine⟨[],?_⟩
      simp only[tt,seval,pm]
      exact⟨[(10079,.arr 76 (ez++[(Tok.mk 1 (kw 7) 0),(Tok.mk 1 (kw 8) 0)]++g e).length ((ez++[(Tok.mk 1 (kw 7) 0),(Tok.mk 1 (kw 8) 0)]++g e).flatMap Tok.row) none),(4,.str [.v (.bool distinct),.sl items.length (items.flatMap Item.row) none,.sl from_.length (from_.flatMap Source.row) none,.sl where_.length (where_.flatMap Expr.row) none,.sl order.length (order.flatMap SortKey.row) none,.v (.int .i64 limit)])],none,ac rfl (ac rfl (ak _)),al _,⟨i+1,ez++[(Tok.mk 1 (kw 7) 0),(Tok.mk 1 (kw 8) 0)]++g e,rfl,rfl,by omega,by rw[hst,hez0,hit2];simp [kT,aJ],rfl,rfl⟩,by simp only[aU];omega⟩
    ·have hc:¬i=0:=by omega
     rw[if_neg hc] at hlt2 hit2
     simp only[ll] at hlt2
     refine cZ (aY ⟨#[44]⟩) ?_ ?_<;>simp only[tt,seval,gT,Tok.row,h8,hj1,hj2]
     refine⟨by kernel_rfl,⟨by simp only[maxLen];(try simp only[ll] at *);omega,by (try simp only[ll] at *);omega⟩,?_⟩
     rw[cX (ez),cE (ez) (Tok.mk 5 ⟨#[44]⟩ 0)]
     simp only[tt,seval,bi hx SortKey.row_len,i0,iL,pr,Expr.tk,aC]
     refine cZ (hge (ez++[(Tok.mk 5 ⟨#[44]⟩ 0)]) (by (try simp only[ll] at *);omega)) ?_ ?_<;>simp only[tt,seval,h8,hj1,bi hx SortKey.row_len,i0,iL,pr,Gt]
     refine aa (fun hd=>?_) (fun hd=>?_)
     ·subst hd
      rw[if_pos rfl] at hlt2 hit2
      simp only[ll] at hlt2
      refine cZ (bb 10 (by omega) (by omega)) ?_ ?_<;>simp only[tt,seval,kT,Tok.row,h8]
      refine⟨by kernel_rfl,⟨by simp only[maxLen];(try simp only[ll] at *);omega,by (try simp only[ll] at *);omega⟩,?_⟩
      rw[cX (ez++[(Tok.mk 5 ⟨#[44]⟩ 0)]++g e),cE (ez++[(Tok.mk 5 ⟨#[44]⟩ 0)]++g e) (Tok.mk 1 (kw 10) 0)]
      try rw[dk i (by omega)]
      refine⟨[.ren 89 10079],by decide,by decide,?_⟩
      simp only[tt,seval,pm]
      exact⟨[(10079,.arr 76 (ez++[(Tok.mk 5 ⟨#[44]⟩ 0)]++g e++[(Tok.mk 1 (kw 10) 0)]).length ((ez++[(Tok.mk 5 ⟨#[44]⟩ 0)]++g e++[(Tok.mk 1 (kw 10) 0)]).flatMap Tok.row) none),(4,.str [.v (.bool distinct),.sl items.length (items.flatMap Item.row) none,.sl from_.length (from_.flatMap Source.row) none,.sl where_.length (where_.flatMap Expr.row) none,.sl order.length (order.flatMap SortKey.row) none,.v (.int .i64 limit)])],none,ac rfl (ac rfl (ak _)),al _,⟨i+1,ez++[(Tok.mk 5 ⟨#[44]⟩ 0)]++g e++[(Tok.mk 1 (kw 10) 0)],rfl,rfl,by omega,by rw[hst,hez0,hit2];simp [kN,gT,kT,aJ],rfl,rfl⟩,by simp only[aU];omega⟩
     ·subst hd
      rw[if_neg Bool.false_ne_true] at hlt2 hit2
      try rw[dk i (by omega)]
      refine⟨[],?_⟩
      simp only[tt,seval,pm]
      exact⟨[(10079,.arr 76 (ez++[(Tok.mk 5 ⟨#[44]⟩ 0)]++g e).length ((ez++[(Tok.mk 5 ⟨#[44]⟩ 0)]++g e).flatMap Tok.row) none),(4,.str [.v (.bool distinct),.sl items.length (items.flatMap Item.row) none,.sl from_.length (from_.flatMap Source.row) none,.sl where_.length (where_.flatMap Expr.row) none,.sl order.length (order.flatMap SortKey.row) none,.v (.int .i64 limit)])],none,ac rfl (ac rfl (ak _)),al _,⟨i+1,ez++[(Tok.mk 5 ⟨#[44]⟩ 0)]++g e,rfl,rfl,by omega,by rw[hst,hez0,hit2];simp [kN,gT,aJ],rfl,rfl⟩,by simp only[aU];omega⟩
   have hie:i=order.length:=by omega
   subst hie
   have hel6:ez.length=L5.length+(bd (jW g order) order.length).length:=by rw[hez0,aA]
   refine aa (fun hlm=>?_) (fun hlm=>?_)
   ·rw[tg,if_pos hlm] at hroom ⊢
    simp only[ll] at hroom
    apply bo 0
    case h1=>
     refine dDrawn.intro [] (iK [0,4,6,3,9,10,13,15,16]) (by kernel_rfl) ?_
     simp only[tt,seval]
     all_goals try simp only[tt,seval,hz0,hj1]
     all_goals repeat' first|refine cJ ?_ ?_|refine b7 ?_ ?_
     all_goals
      refine cZ (bb 11 (by omega) (by omega)) ?_ ?_<;>simp only[tt,seval,kT,Tok.row]
     all_goals repeat' first|refine cJ ?_ ?_|refine b7 ?_ ?_
     all_goals
      refine cZ (pH limit (by omega) hlim) ?_ ?_<;>simp only[tt,seval]
     all_goals repeat' first|refine jU ?_ ?_|refine dR ?_ ?_|refine dS ?_ ?_
     all_goals
      refine⟨by kernel_rfl,⟨by simp only[maxLen];(try simp only[ll] at *);omega,by (try simp only[ll] at *);omega⟩,?_⟩
      rw[r4 (ez),pb (ez) (Tok.mk 1 (kw 11) 0) (Tok.mk 3 (dV limit) 0)]
     all_goals exact⟨rfl,rfl,rfl⟩
    case h2=>
     intro f' hk0
     simp only[tt,seval,hk0]
     refine⟨_,[],my (l:=ez++[(Tok.mk 1 (kw 11) 0),(Tok.mk 3 (dV limit) 0)]) (by rw[hez0,hL5,hes0,hL1];simp [kT,iT,aJ]),am ?_⟩
     simp only[tt,seval]
   ·rw[tg,if_neg hlm] at hroom ⊢
    simp only[ll] at hroom
    simp only[tt,seval]
    refine⟨_,[],my (l:=ez) (by rw[hez0,hL5,hes0,hL1];simp [aJ]),am ?_⟩
    simp only[tt,seval]
theorem zf (full:Bool) (e:Expr):fmE e=true->Rg e->aw e<=1048576->r5 full e (nz full e):=by
 refine mw (F1:=wt) (F2:=xR) (F3:=p6 full) (P:=fun e f n t=>f=true->Rg e->aw e<=1048576->r5 full e t) (fun e gf gn g hg hf hr hsz=>?_) e
 have hb:∀x,eW x e->gf x=true->r5 full x (g x):=fun x hx hx'=>hg x hx hx' (th hr hx) (Nat.le_trans (fj hx) hsz)
 have hs:∀q∈e.sub,q.lim<=9223372036854775807/\aP q<=1048576:=fun q hq=>⟨(ww hr hq).1,Nat.le_trans (jx hq) hsz⟩
 obtain⟨kind,op,not,val,qual,name,kids,sub⟩:=e
 obtain⟨h1,h2,h3⟩:=kU hf
 refine tw kind op not val qual name kids sub full gf g hf hr.num (fun x hx=>hb x (.inl hx) (h2 x hx)) fun q hq=>?_
 refine lZ full gf g q (h3 q hq) (hs q hq).1 (hs q hq).2 fun x hx=>hb x (.inr ⟨q,hq,hx⟩) ?_
 have h4:=h3 q hq
 obtain⟨d,it,fr,wh,od,li⟩:=q
 exact (fv h4).2.2.2.2.2.2.2 x hx
end Go.Proofs.YteffjmaadkkmeaaGreatDoor
