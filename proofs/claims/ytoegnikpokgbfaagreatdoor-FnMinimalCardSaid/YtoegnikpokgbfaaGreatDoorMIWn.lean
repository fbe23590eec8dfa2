/-
  What is needless.
  Conditions: none.
-/
import Derived.Test.YtoegnikpokgbfaaGreatDoorMID2
import Derived.Test.YtoegnikpokgbfaaGreatDoorMISa
import Derived.Test.YtoegnikpokgbfaaGreatDoorMIW
set_option linter.unusedVariables false
set_option linter.unusedSimpArgs false
set_option linter.unusedSectionVars false
set_option linter.unnecessarySimpa false
set_option maxRecDepth 8000
namespace Go.Proofs.YtoegnikpokgbfaaGreatDoor
open Go Go.Dv Go.Cv
open Go.Vc (D cF cG cv aX)
theorem Bz (L:List Tok) (k:Int):(jp L k).length<=L.length:=by
 have d:∀(l:List Tok) (i:Nat),(ky l i).length<=l.length:=fun l i=>by unfold ky;rw[aA,List.length_take,List.length_drop];omega
 unfold jp
 split
 ·split
  ·exact Nat.le_trans (d _ _) (d _ _)
  ·exact Nat.le_refl _
 ·exact Nat.le_refl _
noncomputable def Da (L:List Tok) (e:Expr) (k:Int):Bool:=@decide ((cI (jp L k)).2<0/\(cI (jp L k)).1=e) (Classical.propDecidable _)
theorem xW {L:List Tok} {e:Expr} {k:Int}:Da L e k=true↔(cI (jp L k)).2<0/\(cI (jp L k)).1=e:=by
 unfold Da
 exact @decide_eq_true_iff _ (Classical.propDecidable _)
theorem sD (L:List Tok) (hL:L.length<=1048576) (hT:∀t∈L,t.text.size<=1048576) (k:Int) (e:Expr):Cl Tryz.prog 66 [.c (.sl L.length (L.flatMap Tok.row) none),vi k,.ag (ar e.row)] [] fun r _=>r=vb (Da L e k):=by
 have c1:=kz L hL k
 have c2:=kh (jp L k) (Nat.le_trans (Bz L k) hL) (fun t ht=>hT t (sC ht))
 have c3:=wj (cI (jp L k)).1 e
 have hi:=@xW L e k
 generalize Da L e k=b at *
 generalize jp L k=M at *
 generalize (cI M).2=bad at *
 generalize (cI M).1=x at *
 obtain⟨k1,p1,n1,v1,q1,m1,ks1,ss1⟩:=e
 obtain⟨k2,p2,n2,v2,q2,m2,ks2,ss2⟩:=x
 simp only[ai,ap,Val.row,lc] at c2 c3
 rw[ai]
 refine am ah false Tryz.func66 rfl ac ?_
 simp only[Tryz.f66,tt,seval]
 try simp only[tt,seval,ai,ap,Val.row,lc]
 refine cZ (c1) ?_ ?_<;>simp only[tt,seval,ai,ap,Val.row,lc]
 refine cy (c2) ?_ ?_ ?_
 ·decide
 ·simp only[tt,seval,ai,ap,Val.row,lc]
 rintro r ⟨Fk,Fs,rfl⟩
 simp only[tt,seval,ai,ap,Val.row,lc]
 by_cases hb:bad<0
 ·have g:=aF hb
  try simp only[tt,seval,g,ai,ap,Val.row,lc]
  refine cy (c3) ?_ ?_ ?_
  ·decide
  ·simp only[tt,seval,ai,ap,Val.row,lc]
  rintro r ⟨t,rfl,ht⟩
  simp only[tt,seval,ai,ap,Val.row,lc]
  have e1:t=b:=by
   cases t<;>cases b<;>simp_all
  rw[e1]
  exact⟨_,_,rfl,ao rfl⟩
 ·have g:=aG hb
  have e1:b=false:=by
   cases b with
   |false=>rfl
   |true=>exact absurd (hi.1 rfl).1 hb
  subst e1
  try simp only[tt,seval,g,ai,ap,Val.row,lc]
  exact⟨_,_,rfl,ao rfl⟩
theorem BA (a:List Int) (x:Int):a.flatMap irow++[D.lit (.int .i64 x)]=(a++[x]).flatMap irow:=by rw[List.flatMap_append];rfl
noncomputable def Db (L:List Tok) (e:Expr):Nat->List Int
 |0=>[]
 |n+1=>if Da L e n=true then Db L e n++[(n:Int)] else Db L e n
theorem xX (L:List Tok) (e:Expr):∀n,(Db L e n).length<=n
 |0=>Nat.le_refl _
 |n+1=>by
  have:=xX L e n
  unfold Db
  split
  ·rw[aA,List.length_singleton];omega
  ·omega
def Hd (L:List Tok) (r:S):Prop:=if 0<=(cI L).2 then r = .c (.v (.slice none 0 0)) else ∃F,r = .c (.ow 3 (Db L (cI L).1 (jA L).length).length ((Db L (cI L).1 (jA L).length).flatMap irow) (some F))
set_option maxHeartbeats 2000000 in
theorem uB (L:List Tok) (hL:L.length<=1048576) (hT:∀t∈L,t.text.size<=1048576):Cl Tryz.prog 24 [.c (.sl L.length (L.flatMap Tok.row) none)] [] fun r _=>Hd L r:=by
 have c2:=kh L hL hT
 have c1:=qe L hL
 have c3:=fun k=>sD L hL hT k (cI L).1
 have hpl:(jA L).length<=L.length:=by
  unfold jA
  exact Nat.le_trans (List.length_filterMap_le _ _) (by simp)
 unfold Hd
 generalize (jA L).length=n at *
 generalize (jA L).flatMap fk=pd at *
 generalize (cI L).2=bad at *
 generalize (cI L).1=x at *
 obtain⟨ls,hls⟩:∃ls,ls=Db L x:=⟨_,rfl⟩
 have hl0:ls 0=[]:=by rw[hls];rfl
 have hlt:∀k,ls (k+1)=if Da L x k=true then ls k++[(k:Int)] else ls k:=fun k=>by rw[hls];rfl
 have hll:∀k,(ls k).length<=k:=fun k=>by rw[hls];exact xX L x k
 rw[<-hls]
 generalize Da L x=nb at *
 clear hls
 obtain⟨k2,p2,n2,v2,q2,m2,ks2,ss2⟩:=x
 simp only[ai,ap,Val.row,lc] at c2 c3
 refine am ah true Tryz.func24 rfl ac ?_
 simp only[Tryz.f24,tt,seval]
 try simp only[tt,seval,ai,ap,Val.row,lc]
 refine cy (c2) ?_ ?_ ?_
 ·decide
 ·simp only[tt,seval,ai,ap,Val.row,lc]
 rintro r ⟨Fk,Fs,rfl⟩
 simp only[tt,seval,ai,ap,Val.row,lc]
 refine ab (fun hb=>?_) (fun hb=>?_)
 ·refine⟨.c (.v (.slice none 0 0)),[],by rw[if_pos hb],au ?_⟩
  simp only[tt,seval]
  exact Sb.nil _
 ·skip
  refine cZ (c1) ?_ ?_<;>simp only[tt,seval,ai,ap,Val.row,lc]
  refine fun _=>?_
  refine dLoop.gh [.ren 14 28] ⟨ae,ae,?_⟩
  refine dLoop0.intro (fun f L' p=>∃i:Nat,f 18=vi i/\f 5 = .c (.s 28 (ls i).length)/\i<=n/\L'=[(28,.arr 3 (ls i).length ((ls i).flatMap irow) (some [])),(3,.str [.v (.int .i64 k2),.v (.int .i64 p2),.v (.bool n2),.v (.int .i64 v2.kind),.v (.int .i64 v2.num),.v (.string v2.text),.v (.string q2),.v (.string m2),.sl ks2.length (ks2.flatMap Expr.row) (some Fk),.sl ss2.length (ss2.flatMap Query.row) (some Fs)])]/\p=some (Fk++Fs)) (fun f _ _=>(n-eO (f 18)).toNat) [(28,.arr 3 (ls 0).length ((ls 0).flatMap irow) (some [])),(3,.str [.v (.int .i64 k2),.v (.int .i64 p2),.v (.bool n2),.v (.int .i64 v2.kind),.v (.int .i64 v2.num),.v (.string v2.text),.v (.string q2),.v (.string m2),.sl ks2.length (ks2.flatMap Expr.row) (some Fk),.sl ss2.length (ss2.flatMap Query.row) (some Fs)])] (some (Fk++Fs)) ⟨?_,PoSub.refl _,?_⟩ ?_
  ·rw[hl0]
   simp only[tt,seval]
   exact ak rfl (ak rfl (aq _))
  ·rw[hl0]
   simp only[tt,seval]
   exact⟨0,rfl,by rw[hl0];rfl,Nat.zero_le _,by rw[hl0];rfl⟩
  ·rintro g L' p ⟨i,ix,ox,hi,rfl,rfl⟩
   have hlen:=hll i
   simp only[tt,seval] at ix ox
   simp only[tt,seval,ix,ox,Int.ofNat_lt]
   refine ab (fun h1=>?_) (fun hge=>?_)
   ·have h1:i<n:=by omega
    refine cZ (c3 i) ?_ ?_<;>simp only[tt,seval,ai,ap,Val.row,lc,ix,ox]
    cases h:nb (i:Int)
    case false=>
     have e:=hlt i
     rw[h,if_neg ae] at e
     try simp only[tt,seval,h,ix,ox]
     try rw[dW i aa]
     exact⟨_,_,ak rfl (ak rfl (aq _)),PoSub.refl _,⟨i+1,rfl,by rw[e],aa,by rw[e],rfl⟩,aE⟩
    case true=>
     have e:=hlt i
     rw[h,if_pos rfl] at e
     try simp only[tt,seval,h,ix,ox]
     refine sJ ?_
     try simp only[tt,seval,ix,ox]
     try rw[dW i aa]
     rw[BA,show (ls i).length+1=(ls i++[(i:Int)]).length by simp,<-e]
     exact⟨_,_,ak rfl (ak rfl (aq _)),PoSub.refl _,⟨i+1,rfl,rfl,aa,rfl,rfl⟩,aE⟩
   ·have:i=n:=by omega
    subst this
    try simp only[tt,seval,ix,ox]
    refine⟨.c (.ow 3 (ls i).length ((ls i).flatMap irow) (some [])),[],by rw[if_neg hb];exact⟨_,rfl⟩,au ?_⟩
    simp only[tt,seval]
    exact Sb.nil _
end Go.Proofs.YtoegnikpokgbfaaGreatDoor
