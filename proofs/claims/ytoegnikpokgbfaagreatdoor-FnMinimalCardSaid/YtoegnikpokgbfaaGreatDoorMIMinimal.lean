/-
  No pair of parentheses of what is printed is needless.
  Conditions: none.
-/
import Derived.Test.YtoegnikpokgbfaaGreatDoorMIJ2
import Derived.Test.YtoegnikpokgbfaaGreatDoorMIB3
import Derived.Test.YtoegnikpokgbfaaGreatDoorMIQ
import Derived.Test.YtoegnikpokgbfaaGreatDoorMIV2
import Derived.Test.YtoegnikpokgbfaaGreatDoorMIWn
import Derived.Test.YtoegnikpokgbfaaGreatDoorMIK
set_option linter.unusedVariables false
set_option linter.unusedSimpArgs false
set_option linter.unusedSectionVars false
set_option linter.unnecessarySimpa false
set_option maxRecDepth 8000
namespace Go.Proofs.YtoegnikpokgbfaaGreatDoor
open Go Go.Dv Go.Cv
open Go.Vc (D cF cG cv aX)
theorem nh (bs:List Int):Cl Tryz.prog 9 [.c (.sl bs.length (bs.flatMap iY) none)] [] fun r _=>DK r:=by
 refine am ah false Tryz.func9 rfl ac ?_
 simp only[Tryz.f9,tt,seval]
 refine cy (Bq bs) ?_ ?_ ?_
 ·decide
 ·simp only[tt,seval]
 rintro r ⟨⟨k1,p1,n1,v1,q1,m1,ks1,ss1⟩,rfl,hg,hz⟩
 simp only[tt,seval,ai]
 exact⟨_,_,⟨(Expr.mk k1 p1 n1 v1 q1 m1 ks1 ss1),by rw[ai];rfl,hg,hz⟩,ao rfl⟩
theorem ni {e:Expr} (h:uj e=true):bN e=dL false e:=by unfold bN;rw[if_pos h]
theorem yT {e:Expr} (h:¬uj e=true):bN e=[]:=by unfold bN;rw[if_neg h]
theorem vZ {e:Expr} (hr:Rg e):(bN e).length<=1000000:=by
 unfold bN
 split
 ·rename_i h;exact (gL false e hr h).2.1
 ·exact Nat.zero_le _
theorem nj {l:List Tok} {i:Nat} (h:i<l.length):(ky l i).length=l.length-1:=by unfold ky;rw[aA,List.length_take,List.length_drop];omega
theorem CS {L:List Tok} {k:Nat} (h:k<(jA L).length):(jp L (k:Int)).length+2=L.length:=by
 obtain⟨h1,h2⟩:=Bg (aH h)
 have e:jp L (k:Int)=ky (ky L (jA L)[k].2) (jA L)[k].1:=by
  unfold jp
  rw[dif_pos aa,dif_pos aa]
  rfl
 rw[e,nj (by rw[nj h2];omega),nj h2]
 omega
theorem yU {L:List Tok} (h:(cI L).2<0):(cI L).2 = -1:=by
 revert h
 unfold cI lb
 cases bA L 1 s0 with
 |none=>intro h;simp at h
 |some p=>
  obtain⟨x,s⟩:=p
  simp only
  split
  ·intro h;omega
  ·intro _;rfl
theorem H3 {gf:Expr->Bool} {g:Expr->List Tok} {e:Expr} (hf:rc gf e=true):jz false g e≠[]:=by
 obtain⟨kind,op,not,val,qual,name,kids,sub⟩:=e
 obtain⟨hs,hk,hq⟩:=kp hf
 rcases hY hs with⟨rfl,hl,hk0,hs0⟩|⟨rfl,hn,hm,hk0,hs0⟩|⟨rfl,ho,hk0,hs0⟩|⟨rfl,ho,hk0,hs0⟩|⟨rfl,hk0,hs0⟩|⟨rfl,hk0,hs0⟩|⟨rfl,hk0,hs0⟩|⟨rfl,hk0,hs0⟩|⟨rfl,hk0,hs0⟩
 ·show [gK val]≠[]
  simp
 ·show cC qual++[nT name]≠[]
  simp
 ·obtain⟨a,rfl⟩:=fK hk0
  show dJ op::aN false g 3 op [a] 0≠[]
  simp
 ·obtain⟨a,b,rfl⟩:=AX hk0
  show aN false g 4 op [a,b] 0++(dJ op::aN false g 4 op [a,b] 1)≠[]
  simp
 ·obtain⟨a,rfl⟩:=fK hk0
  show aN false g 5 op [a] 0++(kT 16::(cm not++[kT 20]))≠[]
  simp
 ·obtain⟨a,b,c,rfl⟩:=AY hk0
  show aN false g 6 op [a,b,c] 0++(cm not++(kT 18::(aN false g 6 op [a,b,c] 1++(kT 13::aN false g 6 op [a,b,c] 2))))≠[]
  simp
 ·obtain⟨a,r,rfl⟩:∃a r,kids=a::r:=by
   cases kids with
   |nil=>simp at hk0
   |cons a r=>exact⟨a,r,rfl⟩
  show aN false g 7 op (a::r) 0++(cm not++(kT 17::jj::(bB (sI false g 7 op (a::r)) r.length++[jy])))≠[]
  simp
 ·obtain⟨a,rfl⟩:=fK hk0
  obtain⟨q,rfl⟩:=fK hs0
  show aN false g 8 op [a] 0++(cm not++(kT 17::jj::(gb g q++[jy])))≠[]
  simp
 ·obtain⟨q,rfl⟩:=fK hs0
  show kT 19::jj::(gb g q++[jy])≠[]
  simp
theorem Fd (e:Expr):fmE e=true->dL false e≠[]:=
 jl (F1:=rc) (F2:=xy) (F3:=jz false) (P:=fun e f n t=>f=true->t≠[]) (fun e gf gn g hg hf=>H3 hf) e
theorem CU {e:Expr} (h:uj e=true) {k:Nat} (hk:k<(jA (bN e)).length):¬((cI (jp (bN e) (k:Int))).2<0/\(cI (jp (bN e) (k:Int))).1=e):=by
 rintro⟨h1,h2⟩
 have hl:=CS hk
 have hb:(cI (jp (bN e) (k:Int))).2 = -1:=yU h1
 refine vt (L:=jp (bN e) (k:Int)) (e:=e) ?_ (Prod.ext h2 hb)
 rw[<-ni h]
 omega
theorem Bb {e:Expr} (hr:Rg e) (h:uj e=true):cI (bN e)=(e,-1):=
 vm (full:=false) (L:=bN e) (gL false e hr h).1 hr (by rw[ni h];rfl)
theorem xJ {L:List Tok} {e:Expr}:∀n,(∀k,k<n->Da L e (k:Nat)=false)->Db L e n=[]
 |0,_=>rfl
 |n+1,h=>by
  rw[Db,h n (Nat.lt_succ_self n),if_neg ae]
  exact xJ n fun k hk=>h k (Nat.lt_succ_of_lt hk)
theorem wb {e:Expr} (hr:Rg e):∀t∈bN e,t.text.size<=1048576:=by
 unfold bN
 split
 ·rename_i h;exact (gL false e hr h).2.2.1
 ·intro t ht;cases ht
set_option maxHeartbeats 8000000 in
theorem Bc (bs:List Int):Cl Tryz.prog 7 [.c (.sl bs.length (bs.flatMap iY) none)] [] fun r _=>r=vb true:=by
 refine am ah false Tryz.func7 rfl ac ?_
 simp only[Tryz.f7,tt,seval]
 refine cZ (H4 bs) ?_ ?_<;>simp only[tt,seval,dj,Tok.row]
 refine ab (fun hbig=>⟨_,_,rfl,ao rfl⟩) (fun hbig=>?_)
 refine cy (nh bs) ?_ ?_ ?_
 ·decide
 ·simp only[tt,seval,dj,Tok.row]
 rintro r ⟨e,rfl,hr,hsz⟩
 simp only[tt,seval,dj,Tok.row]
 have c1:=qB e hr hsz
 have co:=AW e hsz
 have ln:=vZ hr
 have tx:=wb hr
 have cp:=qe (bN e) aa
 have cn:=uB (bN e) aa tx
 have cw:=fun k=>kz (bN e) aa k
 have ct:=fun k=>kh (jp (bN e) k) (Nat.le_trans (Bz (bN e) k) aa) (fun t ht=>tx t (sC ht))
 have cs:=fun x=>yZ x e
 have hml:=@CU e
 have hmr:=@Bb e hr
 have hne:uj e=true->bN e≠[]:=fun h=>by rw[ni h];exact Fd e (gL false e hr h).1
 have hno:=@yT e
 have hnn:uj e=true->∀r,Hd (bN e) r->∃F,r = .c (.ow 3 0 [] (some F)):=fun h r hr'=>by
  unfold Hd at hr'
  rw[hmr h,if_neg (show ¬(0:Int) <= -1 by decide)] at hr'
  rw[xJ _ fun k hk=>by
   cases hi:Da (bN e) e (k:Nat) with
   |false=>rfl
   |true=>exact absurd (xW.1 hi) (hml h hk)] at hr'
  exact hr'
 clear hmr
 have hpl:(jA (bN e)).length<=(bN e).length:=by
  unfold jA
  exact Nat.le_trans (List.length_filterMap_le _ _) (by simp)
 generalize (jA (bN e)).length=n at *
 generalize (jA (bN e)).flatMap fk=pd at cp
 generalize Hd (bN e)=nr at *
 generalize jp (bN e)=wo at *
 generalize bN e=l at *
 generalize uj e=ob at *
 obtain⟨k1,p1,n1,v1,q1,m1,ks1,ss1⟩:=e
 simp only[ai,ap,Val.row,lc] at c1 co ct cs
 simp only[tt,seval,ai,ap,Val.row,lc]
 refine cZ (c1) ?_ ?_<;>simp only[tt,seval,ai,ap,Val.row,lc]
 refine cZ (co) ?_ ?_<;>simp only[tt,seval,ai,ap,Val.row,lc]
 cases ob
 case false=>
  have hl0:l.length=0:=by rw[hno ae];rfl
  have g2:decide ((l.length:Int)=0)=true:=aF aa
  try simp only[tt,seval,g2,ai,ap,Val.row,lc]
  (try refine fun _=>?_)
  try simp only[tt,seval,g2,ai,ap,Val.row,lc]
  exact⟨_,_,rfl,ao rfl⟩
 try simp only[tt,seval,ai,ap,Val.row,lc]
 refine cZ (cp) ?_ ?_<;>simp only[tt,seval,ai,ap,Val.row,lc]
 have cn2:=cn.mono fun r _ h=>hnn rfl r h
 have hl1:l.length≠0:=fun e=>hne rfl (List.eq_nil_of_length_eq_zero e)
 have g2:decide ((l.length:Int)=0)=false:=aG aa
 refine cy (cn2) ?_ ?_ ?_
 ·decide
 ·simp only[tt,seval,ai,ap,Val.row,lc]
 rintro r ⟨Fz,rfl⟩
 simp only[tt,seval,ai,ap,Val.row,lc]
 (try refine fun _=>?_)
 try simp only[tt,seval,g2,ai,ap,Val.row,lc]
 (try refine fun _=>?_)
 try simp only[tt,seval,g2,ai,ap,Val.row,lc]
 refine ab (fun h=>absurd h aa) (fun _=>?_)
 refine dLoop.intro (fun f L p=>∃i:Nat,f 6=vi i/\i<=n/\L=[(3,.str [.v (.int .i64 k1),.v (.int .i64 p1),.v (.bool n1),.v (.int .i64 v1.kind),.v (.int .i64 v1.num),.v (.string v1.text),.v (.string q1),.v (.string m1),.sl ks1.length (ks1.flatMap Expr.row) none,.sl ss1.length (ss1.flatMap Query.row) none])]/\p=none) (fun f _ _=>(n-eO (f 6)).toNat) [(3,.str [.v (.int .i64 k1),.v (.int .i64 p1),.v (.bool n1),.v (.int .i64 v1.kind),.v (.int .i64 v1.num),.v (.string v1.text),.v (.string q1),.v (.string m1),.sl ks1.length (ks1.flatMap Expr.row) none,.sl ss1.length (ss1.flatMap Query.row) none])] none ⟨ak rfl (aq _),av _,?_⟩ ?_
 ·simp only[tt,seval]
  exact⟨0,rfl,aa⟩
 ·rintro g L p ⟨i,ix,hi,rfl,rfl⟩
  simp only[tt,seval] at ix
  simp only[tt,seval,ix]
  refine fun _=>?_
  have hm:=@hml rfl i
  have c3:=ct (i:Int)
  have c4:=cs (cI (wo (i:Int))).1
  generalize (cI (wo (i:Int))).2=bad at *
  generalize (cI (wo (i:Int))).1=x at *
  obtain⟨k2,p2,n2,v2,q2,m2,ks2,ss2⟩:=x
  simp only[ai,ap,Val.row,lc] at c3 c4
  by_cases h1:i<n
  ·have f1:decide ((i:Int)<(n:Int))=true:=aF aa
   try simp only[tt,seval,f1,ix]
   by_cases h2:i<12
   ·have f2:decide ((i:Int)<12)=true:=aF aa
    have f3:((i:Int)<12)=True:=eq_true aa
    try simp only[tt,seval,f2,f3,ix]
    (try refine ab (fun _=>?_) (fun h=>absurd h2 aa))
    try simp only[tt,seval,ix]
    refine cZ (cw (i:Int)) ?_ ?_<;>simp only[tt,seval,ai,ap,Val.row,lc,ix]
    refine cy (c3) ?_ ?_ ?_
    ·decide
    ·simp only[tt,seval,ai,ap,Val.row,lc,ix]
    rintro r ⟨Fk,Fs,rfl⟩
    simp only[tt,seval,ai,ap,Val.row,lc,ix]
    by_cases hb:bad<0
    ·have f4:=aF hb
     have f5:=eq_true hb
     try simp only[tt,seval,f4,f5,ai,ap,Val.row,lc,ix]
     refine cy (c4) ?_ ?_ ?_
     ·decide
     ·simp only[tt,seval,ai,ap,Val.row,lc,ix]
     rintro r ⟨t,rfl,ht⟩
     simp only[tt,seval,ai,ap,Val.row,lc,ix]
     have e1:t=false:=by
      cases t with
      |false=>rfl
      |true=>exact absurd ⟨hb,ht.1 rfl⟩ (hm h1)
     subst e1
     try simp only[tt,seval,ai,ap,Val.row,lc,ix]
     try rw[dW i aa]
     exact⟨_,none,ak rfl (aq _),av _,⟨i+1,rfl,aa,rfl,rfl⟩,aE⟩
    ·have f4:=aG hb
     have f5:=eq_false hb
     try simp only[tt,seval,f4,f5,ai,ap,Val.row,lc,ix]
     try rw[dW i aa]
     exact⟨_,none,ak rfl (aq _),av _,⟨i+1,rfl,aa,rfl,rfl⟩,aE⟩
   ·have f2:decide ((i:Int)<12)=false:=aG aa
    have f3:((i:Int)<12)=False:=eq_false aa
    try simp only[tt,seval,f2,f3,ix]
    (try refine ab (fun h=>absurd h aa) (fun _=>?_))
    try simp only[tt,seval,ix]
    exact⟨_,_,rfl,ao rfl⟩
  ·have f1:decide ((i:Int)<(n:Int))=false:=aG aa
   try simp only[tt,seval,f1,ix]
   exact⟨_,_,rfl,ao rfl⟩
end Go.Proofs.YtoegnikpokgbfaaGreatDoor
set_option maxRecDepth 8000
namespace Go.Proofs.YtoegnikpokgbfaaGreatDoor
open Go Go.Dv
open Go.Vc (D cF cG cv aX)
open Go.Cv
open Go.Vc (CellF ValsF callable Cells)
theorem Bd (bs:List Int) (w:World) (v0:Value) (F:List Nat) (hq:CellF w (.sl bs.length (bs.flatMap iY)) v0 F) (hG:GlW w (fun _=>False)):callable Tryz.prog 7=true/\Calls Tryz.prog 7 #[v0] w fun e w'=>∃v,e = .returned v/\v = .bool true/\Gr w w':=by
 obtain⟨hc,hk⟩:=Go.Cv.Cl.at (P:=Tryz.prog) (Bc bs) rfl (vs:=[v0]) (w:=w) ⟨CQ hq,trivial⟩ hG
 refine⟨hc,hk.mono ?_⟩
 rintro e w' ⟨v,he,r,rfl,g,hres⟩
 exact⟨v,he,hres.val,g⟩
end Go.Proofs.YtoegnikpokgbfaaGreatDoor
set_option maxRecDepth 8000
namespace Go.Proofs.YtoegnikpokgbfaaGreatDoor
open Go Go.Dv Go.ChangeShapes Go.WideShapes Go.ChangeAt Go.RowKit
theorem un {W:World} (hL:laidMetH Tryz.prog Rows.fnMinimalRow.laid W) (hs:W.ShapedOpen Tryz.prog):GlW W (fun _=>False):=by
 rw[MakeChecks.laidMetH_plain _ _ _ ac] at hL
 have h2:laidMet Tryz.prog ((((Rows.fnMinimalRow.laid.map (·.1)).getD 2 ""),Lib.tabData .u64 Lib.pow10Tab)::Rows.fnMinimalRow.laid.drop 3) W:=laidMet.tail (laidMet.tail hL)
 have h4:laidMet Tryz.prog (Rows.fnMinimalRow.laid.drop 4) W:=laidMet.tail (laidMet.tail h2)
 have h5:laidMet Tryz.prog (Rows.fnMinimalRow.laid.drop 5) W:=laidMet.tail h4
 obtain⟨a5,s5,v5,_⟩:=laid_sentinel (g:=7) (ti:=248) (tp:=281) (te:=283) (ts:=9) h4 ac ac Tryz.underlying248 Ba Tryz.underlying281 Tryz.underlying283 rfl rfl Tryz.underlying9 um B9
 obtain⟨a4,s4,v4,_⟩:=laid_sentinel (g:=6) (ti:=248) (tp:=281) (te:=283) (ts:=9) h5 ac ac Tryz.underlying248 Ba Tryz.underlying281 Tryz.underlying283 rfl rfl Tryz.underlying9 um B9
 exact F9 (t:=3) (zero:=#[.int .i64 0]) ac (Lib.tabIs_of_head (g:=1) (t:=242) (e:=167) (n:=20) ac ac Tryz.underlying242 Tryz.underlying167 ac ac h2) hs (of_decide_eq_true ac) ac rfl ac ac Tryz.underlying3 ac v4 ac v5
namespace fnMinimal
open Go Go.Dv Go.ChangeShapes Go.WideShapes Go.ChangeAt Go.RowKit
set_option maxRecDepth 100000 in
theorem Fe (os:Os) (started:os.Started) (H:Type) (enc:TypeId×Value->H) :
 ReturnsInHanded {} Tryz.checked os 7 .any (fun w args=>(Rows.fnMinimalSpec.pre enc Tryz.prog Tryz.f7 Rows.fnMinimalRow.domain false w args/\laidMetH Tryz.prog Rows.fnMinimalRow.laid w)/\sizedMet enc Tryz.prog Tryz.f7 (OpenSpec.ofChange Rows.fnMinimalSpec) false w args)
  (Rows.fnMinimalSpec.post enc Tryz.prog Tryz.f7 false true false false):=by
 refine kr (C:=Tryz.checked) (X:=fun w _=>laidMetH Tryz.prog Rows.fnMinimalRow.laid w) (fun _ _ _ hh h=>h.of_heap hh) own started (by as_aux_lemma=>kernel_rfl) Tryz.func7
  (ChangeSpec.witness_shaped (enc:=enc) (C:=Tryz.checked) (os:=os) (X:=fun w _=>laidMetH Tryz.prog Rows.fnMinimalRow.laid w) false (World.laidAll Tryz.prog os Rows.fnMinimalRow.laid) #[.slice none 0 0] 8 (World.laidAll_os _ _ _)
    (World.shaped_of_ZipB (by as_aux_lemma=>kernel_rfl) (by as_aux_lemma=>kernel_rfl)) (by as_aux_lemma=>kernel_rfl) (by as_aux_lemma=>kernel_rfl) (by as_aux_lemma=>kernel_rfl)
    (by rw[MakeChecks.laidMetH_plain _ _ _ (by as_aux_lemma=>kernel_rfl)];exact laidMet_laidAll _ (by as_aux_lemma=>kernel_rfl) (by as_aux_lemma=>kernel_rfl))) ?_
 intro W base args ds gs before hval0 hW _ hL hsh
 have hval:∀(j:Nat) t v,Tryz.f7.params[j]?=some t->args[j]?=some v->Value.okWide Tryz.prog W .any base t v:=hval0
 have hW':=hW
 obtain⟨p,q,hA0,hV,rfl,hfz,hnd⟩:=hW
 have hA:DataW.TrodAll enc Tryz.prog W 0 (fun _=>true) true Tryz.f7.params.toList args.toList ds p:=hA0
 rw[Tryz.params7] at hA hval
 obtain⟨v0,vs0,d0,ds0,p0,q0,hargs,rfl,rfl,h0,r0⟩:=trodAll_cons hA
 obtain⟨rfl,rfl,rfl⟩:=trodAll_nil r0
 obtain rfl:args = #[v0]:=by cases args;simp_all
 obtain⟨rfl,rfl⟩:=trodVars_none hV
 obtain⟨_,_,_,rfl⟩:=okWide_slice Tryz.underlying22 (hval 0 22 v0 rfl rfl)
 obtain⟨n0,t0⟩:=h0
 obtain⟨x,v,F0,ev,hx⟩:=vY t0
 obtain rfl:=List.head_eq_of_cons_eq ev
 clear hA0 hval0
 simp only[List.append_nil] at hW'
 have hlt:∀p∈p0,p.block<W.heap.size:=fun p hp=>hW'.lt p hp
 have hcall:Calls Tryz.prog 7 #[_] W fun e w'=>∃v,e = .returned v/\v = .bool true/\Go.Cv.Gr W w':=(Bd x W _ F0 hx (un hL hsh)).2
 refine hcall.mono fun e W' ⟨v,he,hr,g⟩=>?_
 have hb:Below W.heap.size W W':=⟨g.os,g.tape,g.output,g.size,g.keep⟩
 have hf:=yS g
 subst he hr
 exact⟨_,rfl,B8 (pa:=p0) (pv:=[]) hW' (fun _ _ _=>(trodAll_cons_mk (shut_bool Tryz.underlying4 _) trodAll_mk0))
  (fun sp hsp=>trodAll_mk1 (WideElems.Trod_stays (t:=22) CR (by as_aux_lemma=>kernel_rfl) (of_decide_eq_true (by as_aux_lemma=>kernel_rfl)) ⟨n0,t0⟩ (fun p hp=>hb.same (hlt p hp)) (fun p hp=>hsp p hp)))
  (fun _ _=>rfl) (by simp)
  (hb.frame _) hf (ok_one (by as_aux_lemma=>kernel_rfl) rfl (okWide_bool_mk Tryz.underlying4 _))⟩
set_option maxHeartbeats 4000000 in
theorem jf:joinedFacts Tryz.prog 7 Tryz.f7 Rows.fnMinimalSpec Rows.fnMinimalRow=true:=by
 unfold joinedFacts
 refine Bool.and_eq_true_iff.2 ⟨Bool.and_eq_true_iff.2 ⟨Bool.and_eq_true_iff.2 ⟨Bool.and_eq_true_iff.2 ⟨Bool.and_eq_true_iff.2 ⟨Bool.and_eq_true_iff.2 ⟨Bool.and_eq_true_iff.2 ⟨Bool.and_eq_true_iff.2 ⟨Bool.and_eq_true_iff.2 ⟨Bool.and_eq_true_iff.2 ⟨Bool.and_eq_true_iff.2 ⟨Bool.and_eq_true_iff.2 ⟨Bool.and_eq_true_iff.2 ⟨Bool.and_eq_true_iff.2 ⟨Bool.and_eq_true_iff.2 ⟨Bool.and_eq_true_iff.2 ⟨Bool.and_eq_true_iff.2 ⟨Bool.and_eq_true_iff.2 ⟨Bool.and_eq_true_iff.2 ⟨Bool.and_eq_true_iff.2 ⟨Bool.and_eq_true_iff.2 ⟨Bool.and_eq_true_iff.2 ⟨Bool.and_eq_true_iff.2 ⟨Bool.and_eq_true_iff.2 ⟨Bool.and_eq_true_iff.2 ⟨Bool.and_eq_true_iff.2 ⟨Bool.and_eq_true_iff.2 ⟨Bool.and_eq_true_iff.2 ⟨Bool.and_eq_true_iff.2 ⟨Bool.and_eq_true_iff.2 ⟨Bool.and_eq_true_iff.2 ⟨?_,?_⟩,?_⟩,?_⟩,?_⟩,?_⟩,?_⟩,?_⟩,?_⟩,?_⟩,?_⟩,?_⟩,?_⟩,?_⟩,?_⟩,?_⟩,?_⟩,?_⟩,?_⟩,?_⟩,?_⟩,?_⟩,?_⟩,?_⟩,?_⟩,?_⟩,?_⟩,?_⟩,?_⟩,?_⟩,?_⟩,?_⟩
 all_goals as_aux_lemma=>kernel_rfl
theorem Be:Tryz.prog.funcNamed Rows.fnMinimalRow.func=some 7:=by kernel_rfl
set_option maxHeartbeats 4000000 in
theorem over:Rows.fnMinimalRow.holds Tryz.pinned (OpenSpec.ofChange Rows.fnMinimalSpec):=
 OpenClaim.holds_of_wide 7 Tryz.f7 rfl rfl rfl rfl rfl rfl rfl ⟨rfl,rfl,rfl,rfl,rfl⟩ rfl rfl rfl rfl rfl Be Tryz.func7 jf
  (of_decide_eq_true (by as_aux_lemma=>kernel_rfl)) (by unfold Func.isWrapper;first|(rw[if_pos (by decide +kernel)];kernel_rfl)|(rw[if_neg (by decide +kernel)];exact⟨rfl,rfl⟩))
  (fun os started H enc _=>Fe os started H enc)
set_option maxHeartbeats 4000000 in
theorem proved:Rows.FnMinimalCardSaid:=
 Claim7.holds_tied_plain_at .later [] [.data,.data,.data,.data,.sentinel,.sentinel,.pinned] true (true, "42e287ad64d5d40f3a131f1678192987e7d0fc0882149558d2739cfd91474f63") true over (fun _ h=>by cases h) (by as_aux_lemma=>kernel_rfl) (fun _ h=>by cases h) fnMinimal_row_tie rfl ⟨rfl,rfl⟩ (by as_aux_lemma=>kernel_rfl) rfl
  (fun f fn hf hfn=>by
    obtain rfl:f=7:=Option.some.inj (Be.symm.trans hf) |>.symm
    obtain rfl:fn=Tryz.f7:=(Option.some.inj (Tryz.func7.symm.trans hfn)).symm
    exact⟨by as_aux_lemma=>kernel_rfl,fun j t ht=>by
     rw[Tryz.params7] at ht
     have hm:t∈[22]:=by simpa using Array.mem_of_getElem? ht
     have hall:([22].all fun u=>!Tryz.prog.wantsStandIn u)=true:=by as_aux_lemma=>kernel_rfl
     exact (show Tryz.prog.wantsStandIn t=false by simpa using List.all_eq_true.1 hall t hm)⟩)
  (by as_aux_lemma=>kernel_rfl)
#print axioms proved
end fnMinimal
end Go.Proofs.YtoegnikpokgbfaaGreatDoor
