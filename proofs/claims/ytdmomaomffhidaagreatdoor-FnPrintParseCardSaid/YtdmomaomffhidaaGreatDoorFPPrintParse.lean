/-
  What is written with few parentheses is read as it was.
  Conditions: none.
-/
import Derived.Test.YtdmomaomffhidaaGreatDoorFPB3
import Derived.Test.YtdmomaomffhidaaGreatDoorFPV2
import Derived.Test.YtdmomaomffhidaaGreatDoorFPSa
import Derived.Test.YtdmomaomffhidaaGreatDoorFPK
set_option linter.unusedVariables false
set_option linter.unusedSimpArgs false
set_option linter.unusedSectionVars false
set_option linter.unnecessarySimpa false
set_option maxRecDepth 8000
namespace Go.Proofs.YtdmomaomffhidaaGreatDoor
open Go Go.Dv
open Go.Vc (D cU cV cF b0)
theorem FR {e:Expr} (hs:bf (cA e)≠⟨#[]⟩):mA e=true/\cA e=nw false e:=by
 unfold cA at hs ⊢
 by_cases h:mA e=true
 ·exact⟨h,if_pos h⟩
 ·rw[if_neg h] at hs
  exact absurd (by simp [bf,dT]) hs
theorem DC {e:Expr} (hr:Rg e) (hs:bf (cA e)≠⟨#[]⟩):eg (bf (cA e))=(e,(0,0)):=by
 obtain⟨h1,h2⟩:=FR hs
 rw[h2] at hs ⊢
 exact j8 false h1 hr hs
theorem BE (xs:List Expr) (h:∀x∈xs,Cl Tryz.prog 20 [.ag (ar x.row),.ag (ar x.row)] [] fun r _=>r=vb true):Cl Tryz.prog 128 [.c (.sl xs.length (xs.flatMap Expr.row) none),.c (.sl xs.length (xs.flatMap Expr.row) none),.c (.fn 20 [] [])] [] fun r _=>r=vb true:=by
 refine ai ac false Tryz.func128 rfl ae ?_
 simp only[Tryz.f128,tt,seval]
 refine fun _=>?_
 refine fun _=>?_
 refine fun _=>?_
 refine dLoop.intro (fun f L p=>∃i:Nat,f 17=vi i/\i<=xs.length/\L=[]/\p=none) (fun f _ _=>(xs.length-eN (f 17)).toNat) [] none ⟨ao _,aq _,?_⟩ ?_
 ·simp only[tt,seval]
  exact⟨0,rfl,Nat.zero_le _⟩
 rintro g L p ⟨i,ix,hi,rfl,rfl⟩
 simp only[tt,seval] at ix
 simp only[tt,seval,ix,Int.ofNat_lt]
 refine ab (fun hlt=>?_) (fun hge=>?_)
 ·have hlt:i<xs.length:=by omega
  have hS:=h xs[i] (aJ hlt)
  obtain⟨x,hx⟩:∃x,x=xs[i]:=⟨_,rfl⟩
  rw[<-hx] at hS
  obtain⟨k,o,nn,v,q,m,ks,ss⟩:=x
  simp only[ak] at hS
  refine⟨aa,aa,_,aD aI (aA hlt),Expr.ne _ _,?_⟩
  rw[<-hx]
  simp only[tt,seval,ak]
  refine⟨aa,aa,_,aD aI (aA hlt),Expr.ne _ _,?_⟩
  rw[<-hx]
  simp only[tt,seval,ak]
  refine cZ (hS) ?_ ?_<;>simp only[tt,seval,ix]
  try rw[dY i aa]
  exact⟨_,none,ao _,aq _,⟨i+1,rfl,aa,rfl,rfl⟩,az⟩
 ·try simp only[tt,seval]
  exact⟨_,_,rfl,am rfl⟩
theorem kF (xs:List Expr) (h:∀x∈xs,Cl Tryz.prog 20 [.ag (ar x.row),.ag (ar x.row)] [] fun r _=>r=vb true):Cl Tryz.prog 55 [.c (.sl xs.length (xs.flatMap Expr.row) none),.c (.sl xs.length (xs.flatMap Expr.row) none)] [] fun r _=>r=vb true:=by
 refine ai ac false Tryz.func55 rfl ae ?_
 simp only[Tryz.f55,tt,seval]
 refine cZ (BE xs h) ?_ ?_<;>simp only[tt,seval]
 exact⟨_,_,rfl,am rfl⟩
theorem yQ (xs:List Query) (h:∀x∈xs,Cl Tryz.prog 57 [.ag (ar x.row),.ag (ar x.row)] [] fun r _=>r=vb true):Cl Tryz.prog 56 [.c (.sl xs.length (xs.flatMap Query.row) none),.c (.sl xs.length (xs.flatMap Query.row) none),.c (.fn 57 [] [])] [] fun r _=>r=vb true:=by
 refine ai ac false Tryz.func56 rfl ae ?_
 simp only[Tryz.f56,tt,seval]
 refine fun _=>?_
 refine fun _=>?_
 refine fun _=>?_
 refine dLoop.intro (fun f L p=>∃i:Nat,f 17=vi i/\i<=xs.length/\L=[]/\p=none) (fun f _ _=>(xs.length-eN (f 17)).toNat) [] none ⟨ao _,aq _,?_⟩ ?_
 ·simp only[tt,seval]
  exact⟨0,rfl,Nat.zero_le _⟩
 rintro g L p ⟨i,ix,hi,rfl,rfl⟩
 simp only[tt,seval] at ix
 simp only[tt,seval,ix,Int.ofNat_lt]
 refine ab (fun hlt=>?_) (fun hge=>?_)
 ·have hlt:i<xs.length:=by omega
  have hS:=h xs[i] (aJ hlt)
  obtain⟨x,hx⟩:∃x,x=xs[i]:=⟨_,rfl⟩
  rw[<-hx] at hS
  obtain⟨d,it,fr,wh,od,li⟩:=x
  simp only[bj] at hS
  refine⟨aa,aa,_,aD Query.row_len (aA hlt),Query.ne _ _,?_⟩
  rw[<-hx]
  simp only[tt,seval,bj]
  refine⟨aa,aa,_,aD Query.row_len (aA hlt),Query.ne _ _,?_⟩
  rw[<-hx]
  simp only[tt,seval,bj]
  refine cZ (hS) ?_ ?_<;>simp only[tt,seval,ix]
  try rw[dY i aa]
  exact⟨_,none,ao _,aq _,⟨i+1,rfl,aa,rfl,rfl⟩,az⟩
 ·try simp only[tt,seval]
  exact⟨_,_,rfl,am rfl⟩
theorem BF (xs:List Item) (h:∀x∈xs,Cl Tryz.prog 129 [.ag (ar x.row),.ag (ar x.row)] [] fun r _=>r=vb true):Cl Tryz.prog 132 [.c (.sl xs.length (xs.flatMap Item.row) none),.c (.sl xs.length (xs.flatMap Item.row) none),.c (.fn 129 [] [])] [] fun r _=>r=vb true:=by
 refine ai ac false Tryz.func132 rfl ae ?_
 simp only[Tryz.f132,tt,seval]
 refine fun _=>?_
 refine fun _=>?_
 refine fun _=>?_
 refine dLoop.intro (fun f L p=>∃i:Nat,f 17=vi i/\i<=xs.length/\L=[]/\p=none) (fun f _ _=>(xs.length-eN (f 17)).toNat) [] none ⟨ao _,aq _,?_⟩ ?_
 ·simp only[tt,seval]
  exact⟨0,rfl,Nat.zero_le _⟩
 rintro g L p ⟨i,ix,hi,rfl,rfl⟩
 simp only[tt,seval] at ix
 simp only[tt,seval,ix,Int.ofNat_lt]
 refine ab (fun hlt=>?_) (fun hge=>?_)
 ·have hlt:i<xs.length:=by omega
  have hS:=h xs[i] (aJ hlt)
  obtain⟨x,hx⟩:∃x,x=xs[i]:=⟨_,rfl⟩
  rw[<-hx] at hS
  obtain⟨s,q,⟨k,o,nn,v,q2,m,ks,ss⟩,a⟩:=x
  simp only[Item.row_mk,ak,lc] at hS
  refine⟨aa,aa,_,aD Item.row_len (aA hlt),Item.ne _ _,?_⟩
  rw[<-hx]
  simp only[tt,seval,Item.row_mk,ak]
  refine⟨aa,aa,_,aD Item.row_len (aA hlt),Item.ne _ _,?_⟩
  rw[<-hx]
  simp only[tt,seval,Item.row_mk,ak]
  refine cZ (hS) ?_ ?_<;>simp only[tt,seval,ix]
  try rw[dY i aa]
  exact⟨_,none,ao _,aq _,⟨i+1,rfl,aa,rfl,rfl⟩,az⟩
 ·try simp only[tt,seval]
  exact⟨_,_,rfl,am rfl⟩
theorem xt (xs:List Source) (h:∀x∈xs,Cl Tryz.prog 130 [.ag (ar x.row),.ag (ar x.row)] [] fun r _=>r=vb true):Cl Tryz.prog 133 [.c (.sl xs.length (xs.flatMap Source.row) none),.c (.sl xs.length (xs.flatMap Source.row) none),.c (.fn 130 [] [])] [] fun r _=>r=vb true:=by
 refine ai ac false Tryz.func133 rfl ae ?_
 simp only[Tryz.f133,tt,seval]
 refine fun _=>?_
 refine fun _=>?_
 refine fun _=>?_
 refine dLoop.intro (fun f L p=>∃i:Nat,f 17=vi i/\i<=xs.length/\L=[]/\p=none) (fun f _ _=>(xs.length-eN (f 17)).toNat) [] none ⟨ao _,aq _,?_⟩ ?_
 ·simp only[tt,seval]
  exact⟨0,rfl,Nat.zero_le _⟩
 rintro g L p ⟨i,ix,hi,rfl,rfl⟩
 simp only[tt,seval] at ix
 simp only[tt,seval,ix,Int.ofNat_lt]
 refine ab (fun hlt=>?_) (fun hge=>?_)
 ·have hlt:i<xs.length:=by omega
  have hS:=h xs[i] (aJ hlt)
  obtain⟨x,hx⟩:∃x,x=xs[i]:=⟨_,rfl⟩
  rw[<-hx] at hS
  obtain⟨t,a,on⟩:=x
  simp only[Source.row_mk] at hS
  refine⟨aa,aa,_,aD Source.row_len (aA hlt),Source.ne _ _,?_⟩
  rw[<-hx]
  simp only[tt,seval,Source.row_mk]
  refine⟨aa,aa,_,aD Source.row_len (aA hlt),Source.ne _ _,?_⟩
  rw[<-hx]
  simp only[tt,seval,Source.row_mk]
  refine cZ (hS) ?_ ?_<;>simp only[tt,seval,ix]
  try rw[dY i aa]
  exact⟨_,none,ao _,aq _,⟨i+1,rfl,aa,rfl,rfl⟩,az⟩
 ·try simp only[tt,seval]
  exact⟨_,_,rfl,am rfl⟩
theorem ve (xs:List SortKey) (h:∀x∈xs,Cl Tryz.prog 131 [.ag (ar x.row),.ag (ar x.row)] [] fun r _=>r=vb true):Cl Tryz.prog 134 [.c (.sl xs.length (xs.flatMap SortKey.row) none),.c (.sl xs.length (xs.flatMap SortKey.row) none),.c (.fn 131 [] [])] [] fun r _=>r=vb true:=by
 refine ai ac false Tryz.func134 rfl ae ?_
 simp only[Tryz.f134,tt,seval]
 refine fun _=>?_
 refine fun _=>?_
 refine fun _=>?_
 refine dLoop.intro (fun f L p=>∃i:Nat,f 17=vi i/\i<=xs.length/\L=[]/\p=none) (fun f _ _=>(xs.length-eN (f 17)).toNat) [] none ⟨ao _,aq _,?_⟩ ?_
 ·simp only[tt,seval]
  exact⟨0,rfl,Nat.zero_le _⟩
 rintro g L p ⟨i,ix,hi,rfl,rfl⟩
 simp only[tt,seval] at ix
 simp only[tt,seval,ix,Int.ofNat_lt]
 refine ab (fun hlt=>?_) (fun hge=>?_)
 ·have hlt:i<xs.length:=by omega
  have hS:=h xs[i] (aJ hlt)
  obtain⟨x,hx⟩:∃x,x=xs[i]:=⟨_,rfl⟩
  rw[<-hx] at hS
  obtain⟨⟨k,o,nn,v,q,m,ks,ss⟩,d⟩:=x
  simp only[SortKey.row_mk,ak,lc] at hS
  refine⟨aa,aa,_,aD SortKey.row_len (aA hlt),SortKey.ne _ _,?_⟩
  rw[<-hx]
  simp only[tt,seval,SortKey.row_mk,ak]
  refine⟨aa,aa,_,aD SortKey.row_len (aA hlt),SortKey.ne _ _,?_⟩
  rw[<-hx]
  simp only[tt,seval,SortKey.row_mk,ak]
  refine cZ (hS) ?_ ?_<;>simp only[tt,seval,ix]
  try rw[dY i aa]
  exact⟨_,none,ao _,aq _,⟨i+1,rfl,aa,rfl,rfl⟩,az⟩
 ·try simp only[tt,seval]
  exact⟨_,_,rfl,am rfl⟩
theorem DX (x:Item) (h:Cl Tryz.prog 20 [.ag (ar x.e.row),.ag (ar x.e.row)] [] fun r _=>r=vb true):Cl Tryz.prog 129 [.ag (ar x.row),.ag (ar x.row)] [] fun r _=>r=vb true:=by
 obtain⟨star,qual,e,as_⟩:=x
 have h:Cl Tryz.prog 20 [.ag (ar e.row),.ag (ar e.row)] [] fun r _=>r=vb true:=h
 obtain⟨k,o,n,v,q,m,ks,ss⟩:=e
 rw[Item.row_mk]
 rw[ak] at h ⊢
 refine ai ac false Tryz.func129 rfl ae ?_
 simp only[Tryz.f129,tt,seval]
 refine cZ (h) ?_ ?_<;>simp only[tt,seval]
 exact⟨_,_,rfl,am rfl⟩
theorem yR (x:Source) (h:∀y∈x.on,Cl Tryz.prog 20 [.ag (ar y.row),.ag (ar y.row)] [] fun r _=>r=vb true):Cl Tryz.prog 130 [.ag (ar x.row),.ag (ar x.row)] [] fun r _=>r=vb true:=by
 obtain⟨table,as_,on⟩:=x
 have h:∀y∈on,Cl Tryz.prog 20 [.ag (ar y.row),.ag (ar y.row)] [] fun r _=>r=vb true:=h
 rw[Source.row_mk]
 refine ai ac false Tryz.func130 rfl ae ?_
 simp only[Tryz.f130,tt,seval]
 refine cZ (kF on h) ?_ ?_<;>simp only[tt,seval]
 exact⟨_,_,rfl,am rfl⟩
theorem DY (x:SortKey) (h:Cl Tryz.prog 20 [.ag (ar x.e.row),.ag (ar x.e.row)] [] fun r _=>r=vb true):Cl Tryz.prog 131 [.ag (ar x.row),.ag (ar x.row)] [] fun r _=>r=vb true:=by
 obtain⟨e,de⟩:=x
 have h:Cl Tryz.prog 20 [.ag (ar e.row),.ag (ar e.row)] [] fun r _=>r=vb true:=h
 obtain⟨k,o,n,v,q,m,ks,ss⟩:=e
 rw[SortKey.row_mk]
 rw[ak] at h ⊢
 refine ai ac false Tryz.func131 rfl ae ?_
 simp only[Tryz.f131,tt,seval]
 refine cZ (h) ?_ ?_<;>simp only[tt,seval]
 exact⟨_,_,rfl,am rfl⟩
set_option maxHeartbeats 4000000 in
theorem qh (kind op:Int) (not:Bool) (val:Val) (qual name:ByteArray) (kids:List Expr) (sub:List Query) (hk:∀x∈kids,Cl Tryz.prog 20 [.ag (ar x.row),.ag (ar x.row)] [] fun r _=>r=vb true) (hs:∀q∈sub,Cl Tryz.prog 57 [.ag (ar q.row),.ag (ar q.row)] [] fun r _=>r=vb true):Cl Tryz.prog 20 [.ag (ar (Expr.mk kind op not val qual name kids sub).row),.ag (ar (Expr.mk kind op not val qual name kids sub).row)] [] fun r _=>r=vb true:=by
 rw[ak]
 refine ai ac false Tryz.func20 rfl ae ?_
 simp only[Tryz.f20,tt,seval]
 rw[o5 ae (E5 val)]
 simp only[tt,seval]
 refine cZ (kF kids hk) ?_ ?_<;>simp only[tt,seval]
 refine cZ (yQ sub hs) ?_ ?_<;>simp only[tt,seval]
 exact⟨_,_,rfl,am rfl⟩
set_option maxHeartbeats 8000000 in
theorem pr (distinct:Bool) (items:List Item) (from_:List Source) (where_:List Expr) (order:List SortKey) (limit:Int) (hx:∀x∈oD (Query.mk distinct items from_ where_ order limit),Cl Tryz.prog 20 [.ag (ar x.row),.ag (ar x.row)] [] fun r _=>r=vb true):Cl Tryz.prog 57 [.ag (ar (Query.mk distinct items from_ where_ order limit).row),.ag (ar (Query.mk distinct items from_ where_ order limit).row)] [] fun r _=>r=vb true:=by
 have hI:∀x∈items,Cl Tryz.prog 20 [.ag (ar x.e.row),.ag (ar x.e.row)] [] fun r _=>r=vb true:=fun x h=>hx _ (by simp only[oD,List.mem_append];exact .inl (.inl (.inl (List.mem_map.2 ⟨x,h,rfl⟩))))
 have hF:∀x∈from_,∀y∈x.on,Cl Tryz.prog 20 [.ag (ar y.row),.ag (ar y.row)] [] fun r _=>r=vb true:=fun x h y h2=>hx _ (by simp only[oD,List.mem_append];exact .inl (.inl (.inr (List.mem_flatMap.2 ⟨x,h,h2⟩))))
 have hw:∀y∈where_,Cl Tryz.prog 20 [.ag (ar y.row),.ag (ar y.row)] [] fun r _=>r=vb true:=fun y h=>hx _ (by simp only[oD,List.mem_append];exact .inl (.inr h))
 have hO:∀x∈order,Cl Tryz.prog 20 [.ag (ar x.e.row),.ag (ar x.e.row)] [] fun r _=>r=vb true:=fun x h=>hx _ (by simp only[oD,List.mem_append];exact .inr (List.mem_map.2 ⟨x,h,rfl⟩))
 rw[bj]
 refine ai ac false Tryz.func57 rfl ae ?_
 simp only[Tryz.f57,tt,seval]
 refine cZ (BF items (fun x h=>DX x (hI x h))) ?_ ?_<;>simp only[tt,seval]
 refine cZ (xt from_ (fun x h=>yR x (hF x h))) ?_ ?_<;>simp only[tt,seval]
 refine cZ (kF where_ hw) ?_ ?_<;>simp only[tt,seval]
 refine cZ (ve order (fun x h=>DY x (hO x h))) ?_ ?_<;>simp only[tt,seval]
 exact⟨_,_,rfl,am rfl⟩
theorem BG (n:Nat):(∀e:Expr,SizeOf.sizeOf e<n->Cl Tryz.prog 20 [.ag (ar e.row),.ag (ar e.row)] [] fun r _=>r=vb true)/\∀q:Query,SizeOf.sizeOf q<n->Cl Tryz.prog 57 [.ag (ar q.row),.ag (ar q.row)] [] fun r _=>r=vb true:=by
 induction n with
 |zero=>exact⟨fun _ h=>absurd h (Nat.not_lt_zero _),fun _ h=>absurd h (Nat.not_lt_zero _)⟩
 |succ n ih=>
  refine⟨fun e he=>?_,fun q hq=>?_⟩
  ·obtain⟨kind,op,not,val,qual,name,kids,sub⟩:=e
   rw[Expr.mk.sizeOf_spec] at he
   exact qh kind op not val qual name kids sub (fun x hx=>ih.1 x (by have:=List.sizeOf_lt_of_mem hx;omega)) fun q hq=>ih.2 q (by have:=List.sizeOf_lt_of_mem hq;omega)
  ·have h2:∀x∈oD q,SizeOf.sizeOf x<n:=fun x hx=>by have:=At hx;omega
   obtain⟨distinct,items,from_,where_,order,limit⟩:=q
   exact pr distinct items from_ where_ order limit fun x hx=>ih.1 x (h2 x hx)
theorem xu (e:Expr):Cl Tryz.prog 20 [.ag (ar e.row),.ag (ar e.row)] [] fun r _=>r=vb true:=(BG _).1 e (Nat.lt_succ_self _)
end Go.Proofs.YtdmomaomffhidaaGreatDoor
set_option maxRecDepth 8000
namespace Go.Proofs.YtdmomaomffhidaaGreatDoor
open Go Go.Dv Go.Cv
open Go.Vc (D cU cV cF b0)
theorem rV (bs:List Int):Cl Tryz.prog 16 [.c (.sl bs.length (bs.flatMap iW) none)] [] fun r _=>Eb r:=by
 refine ai ac false Tryz.func16 rfl ae ?_
 simp only[Tryz.f16,tt,seval]
 refine iQ (xB bs) ?_ ?_ ?_
 ·decide
 ·simp only[tt,seval]
 rintro r ⟨⟨k1,p1,n1,v1,q1,m1,ks1,ss1⟩,rfl,hg,hz⟩
 simp only[tt,seval,ak]
 exact⟨_,_,⟨(Expr.mk k1 p1 n1 v1 q1 m1 ks1 ss1),by rw[ak];rfl,hg,hz⟩,am rfl⟩
set_option maxHeartbeats 8000000 in
theorem DZ (bs:List Int):Cl Tryz.prog 4 [.c (.sl bs.length (bs.flatMap iW) none)] [] fun r _=>r=vb true:=by
 refine ai ac false Tryz.func4 rfl ae ?_
 simp only[Tryz.f4,tt,seval]
 refine cZ (GP bs) ?_ ?_<;>simp only[tt,seval]
 refine ab (fun hbig=>⟨_,_,rfl,am rfl⟩) (fun hbig=>?_)
 refine iQ (rV bs) ?_ ?_ ?_
 ·decide
 ·simp only[tt,seval]
 rintro r ⟨e,rfl,hr,hsz⟩
 simp only[tt,seval,er]
 have c1:=xq e hr hsz
 have c2:=rS e hr hsz
 have ce:=rZ e
 have ci:=xu e
 have hl:=DC hr
 have cp:=ol (bf (cA e))
 generalize bf (cA e)=s at *
 by_cases hs:s=⟨#[]⟩
 ·subst hs
  obtain⟨k1,p1,n1,v1,q1,m1,ks1,ss1⟩:=e
  simp only[ak] at c1 c2
  simp only[tt,seval,ak]
  refine cZ (c1) ?_ ?_<;>simp only[tt,seval]
  refine cZ (c2) ?_ ?_<;>simp only[tt,seval]
  exact⟨_,_,rfl,am rfl⟩
 have hp:=hl hs
 rw[hp] at cp
 obtain⟨k1,p1,n1,v1,q1,m1,ks1,ss1⟩:=e
 simp only[ak,av] at c1 c2 ce ci cp
 simp only[tt,seval,ak]
 refine cZ (c1) ?_ ?_<;>simp only[tt,seval]
 refine cZ (c2) ?_ ?_<;>simp only[tt,seval]
 have g0:decide (s=⟨#[]⟩)=false:=ax hs
 have g1:(s=⟨#[]⟩)=False:=eq_false hs
 simp only[tt,seval,g1]
 refine iQ (cp) ?_ ?_ ?_
 ·decide
 ·simp only[tt,seval]
 rintro r ⟨Fk,Fs,rfl⟩
 simp only[tt,seval,nq]
 rw[o5 ae (GQ 0 0)]
 simp only[tt,seval]
 refine cZ (ci) ?_ ?_<;>simp only[tt,seval]
 refine cZ (ce) ?_ ?_<;>simp only[tt,seval]
 exact⟨_,_,rfl,am rfl⟩
end Go.Proofs.YtdmomaomffhidaaGreatDoor
set_option maxRecDepth 8000
namespace Go.Proofs.YtdmomaomffhidaaGreatDoor
open Go Go.Dv
open Go.Vc (D cU cV cF b0)
open Go.Cv
open Go.Vc (CellF ValsF callable Cells)
theorem E4 (bs:List Int) (w:World) (v0:Value) (F:List Nat) (hq:CellF w (.sl bs.length (bs.flatMap iW)) v0 F) (hG:GlW w (fun _=>False)):callable Tryz.prog 4=true/\Calls Tryz.prog 4 #[v0] w fun e w'=>∃v,e = .returned v/\v = .bool true/\Gr w w':=by
 obtain⟨hc,hk⟩:=Go.Cv.Cl.at (P:=Tryz.prog) (DZ bs) rfl (vs:=[v0]) (w:=w) ⟨Aq hq,trivial⟩ hG
 refine⟨hc,hk.mono ?_⟩
 rintro e w' ⟨v,he,r,rfl,g,hres⟩
 exact⟨v,he,hres.val,g⟩
end Go.Proofs.YtdmomaomffhidaaGreatDoor
set_option maxRecDepth 8000
namespace Go.Proofs.YtdmomaomffhidaaGreatDoor
open Go Go.Dv Go.ChangeShapes Go.WideShapes Go.ChangeAt Go.RowKit
theorem xx {W:World} (hL:laidMetH Tryz.prog Rows.fnPrintParseRow.laid W) (hs:W.ShapedOpen Tryz.prog):GlW W (fun _=>False):=by
 rw[MakeChecks.laidMetH_plain _ _ _ ae] at hL
 have h2:laidMet Tryz.prog ((((Rows.fnPrintParseRow.laid.map (·.1)).getD 2 ""),Lib.tabData .u64 Lib.pow10Tab)::Rows.fnPrintParseRow.laid.drop 3) W:=laidMet.tail (laidMet.tail hL)
 have h4:laidMet Tryz.prog (Rows.fnPrintParseRow.laid.drop 4) W:=laidMet.tail (laidMet.tail h2)
 have h5:laidMet Tryz.prog (Rows.fnPrintParseRow.laid.drop 5) W:=laidMet.tail h4
 obtain⟨a5,s5,v5,_⟩:=laid_sentinel (g:=3) (ti:=188) (tp:=264) (te:=266) (ts:=9) h4 ae ae Tryz.underlying188 vd Tryz.underlying264 Tryz.underlying266 rfl rfl Tryz.underlying9 oC vc
 obtain⟨a4,s4,v4,_⟩:=laid_sentinel (g:=2) (ti:=188) (tp:=264) (te:=266) (ts:=9) h5 ae ae Tryz.underlying188 vd Tryz.underlying264 Tryz.underlying266 rfl rfl Tryz.underlying9 oC vc
 exact DW (t:=3) (zero:=#[.int .i64 0]) ae (Lib.tabIs_of_head (g:=1) (t:=246) (e:=232) (n:=20) ae ae Tryz.underlying246 Tryz.underlying232 ae ae h2) hs (of_decide_eq_true ae) ae rfl ae ae Tryz.underlying3 ae v4 ae v5
namespace fnPrintParse
open Go Go.Dv Go.ChangeShapes Go.WideShapes Go.ChangeAt Go.RowKit
set_option maxRecDepth 100000 in
theorem yK (os:Os) (started:os.Started) (H:Type) (enc:TypeId×Value->H) :
 ReturnsInHanded {} Tryz.checked os 4 .any (fun w args=>(Rows.fnPrintParseSpec.pre enc Tryz.prog Tryz.f4 Rows.fnPrintParseRow.domain false w args/\laidMetH Tryz.prog Rows.fnPrintParseRow.laid w)/\sizedMet enc Tryz.prog Tryz.f4 (OpenSpec.ofChange Rows.fnPrintParseSpec) false w args)
  (Rows.fnPrintParseSpec.post enc Tryz.prog Tryz.f4 false true false false):=by
 refine gQ (C:=Tryz.checked) (X:=fun w _=>laidMetH Tryz.prog Rows.fnPrintParseRow.laid w) (fun _ _ _ hh h=>h.of_heap hh) own started (by as_aux_lemma=>kernel_rfl) Tryz.func4
  (ChangeSpec.witness_shaped (enc:=enc) (C:=Tryz.checked) (os:=os) (X:=fun w _=>laidMetH Tryz.prog Rows.fnPrintParseRow.laid w) false (World.laidAll Tryz.prog os Rows.fnPrintParseRow.laid) #[.slice none 0 0] 8 (World.laidAll_os _ _ _)
    (World.shaped_of_ZipB (by as_aux_lemma=>kernel_rfl) (by as_aux_lemma=>kernel_rfl)) (by as_aux_lemma=>kernel_rfl) (by as_aux_lemma=>kernel_rfl) (by as_aux_lemma=>kernel_rfl)
    (by rw[MakeChecks.laidMetH_plain _ _ _ (by as_aux_lemma=>kernel_rfl)];exact laidMet_laidAll _ (by as_aux_lemma=>kernel_rfl) (by as_aux_lemma=>kernel_rfl))) ?_
 intro W base args ds gs before hval0 hW _ hL hsh
 have hval:∀(j:Nat) t v,Tryz.f4.params[j]?=some t->args[j]?=some v->Value.okWide Tryz.prog W .any base t v:=hval0
 have hW':=hW
 obtain⟨p,q,hA0,hV,rfl,hfz,hnd⟩:=hW
 have hA:DataW.TrodAll enc Tryz.prog W 0 (fun _=>true) true Tryz.f4.params.toList args.toList ds p:=hA0
 rw[Tryz.params4] at hA hval
 obtain⟨v0,vs0,d0,ds0,p0,q0,hargs,rfl,rfl,h0,r0⟩:=trodAll_cons hA
 obtain⟨rfl,rfl,rfl⟩:=trodAll_nil r0
 obtain rfl:args = #[v0]:=by cases args;simp_all
 obtain⟨rfl,rfl⟩:=trodVars_none hV
 obtain⟨_,_,_,rfl⟩:=okWide_slice Tryz.underlying22 (hval 0 22 v0 rfl rfl)
 obtain⟨n0,t0⟩:=h0
 obtain⟨x,v,F0,ev,hx⟩:=rU t0
 obtain rfl:=List.head_eq_of_cons_eq ev
 clear hA0 hval0
 simp only[List.append_nil] at hW'
 have hlt:∀p∈p0,p.block<W.heap.size:=fun p hp=>hW'.lt p hp
 have hcall:Calls Tryz.prog 4 #[_] W fun e w'=>∃v,e = .returned v/\v = .bool true/\Go.Cv.Gr W w':=(E4 x W _ F0 hx (xx hL hsh)).2
 refine hcall.mono fun e W' ⟨v,he,hr,g⟩=>?_
 have hb:Below W.heap.size W W':=⟨g.os,g.tape,g.output,g.size,g.keep⟩
 have hf:=tU g
 subst he hr
 exact⟨_,rfl,xr (pa:=p0) (pv:=[]) hW' (fun _ _ _=>(trodAll_cons_mk (shut_bool Tryz.underlying4 _) trodAll_mk0))
  (fun sp hsp=>trodAll_mk1 (WideElems.Trod_stays (t:=22) Ar (by as_aux_lemma=>kernel_rfl) (of_decide_eq_true (by as_aux_lemma=>kernel_rfl)) ⟨n0,t0⟩ (fun p hp=>hb.same (hlt p hp)) (fun p hp=>hsp p hp)))
  (fun _ _=>rfl) (by simp)
  (hb.frame _) hf (ok_one (by as_aux_lemma=>kernel_rfl) rfl (okWide_bool_mk Tryz.underlying4 _))⟩
set_option maxHeartbeats 4000000 in
theorem jf:joinedFacts Tryz.prog 4 Tryz.f4 Rows.fnPrintParseSpec Rows.fnPrintParseRow=true:=by
 unfold joinedFacts
 refine Bool.and_eq_true_iff.2 ⟨Bool.and_eq_true_iff.2 ⟨Bool.and_eq_true_iff.2 ⟨Bool.and_eq_true_iff.2 ⟨Bool.and_eq_true_iff.2 ⟨Bool.and_eq_true_iff.2 ⟨Bool.and_eq_true_iff.2 ⟨Bool.and_eq_true_iff.2 ⟨Bool.and_eq_true_iff.2 ⟨Bool.and_eq_true_iff.2 ⟨Bool.and_eq_true_iff.2 ⟨Bool.and_eq_true_iff.2 ⟨Bool.and_eq_true_iff.2 ⟨Bool.and_eq_true_iff.2 ⟨Bool.and_eq_true_iff.2 ⟨Bool.and_eq_true_iff.2 ⟨Bool.and_eq_true_iff.2 ⟨Bool.and_eq_true_iff.2 ⟨Bool.and_eq_true_iff.2 ⟨Bool.and_eq_true_iff.2 ⟨Bool.and_eq_true_iff.2 ⟨Bool.and_eq_true_iff.2 ⟨Bool.and_eq_true_iff.2 ⟨Bool.and_eq_true_iff.2 ⟨Bool.and_eq_true_iff.2 ⟨Bool.and_eq_true_iff.2 ⟨Bool.and_eq_true_iff.2 ⟨Bool.and_eq_true_iff.2 ⟨Bool.and_eq_true_iff.2 ⟨Bool.and_eq_true_iff.2 ⟨Bool.and_eq_true_iff.2 ⟨?_,?_⟩,?_⟩,?_⟩,?_⟩,?_⟩,?_⟩,?_⟩,?_⟩,?_⟩,?_⟩,?_⟩,?_⟩,?_⟩,?_⟩,?_⟩,?_⟩,?_⟩,?_⟩,?_⟩,?_⟩,?_⟩,?_⟩,?_⟩,?_⟩,?_⟩,?_⟩,?_⟩,?_⟩,?_⟩,?_⟩,?_⟩
 all_goals as_aux_lemma=>kernel_rfl
theorem rR:Tryz.prog.funcNamed Rows.fnPrintParseRow.func=some 4:=by kernel_rfl
set_option maxHeartbeats 4000000 in
theorem over:Rows.fnPrintParseRow.holds Tryz.pinned (OpenSpec.ofChange Rows.fnPrintParseSpec):=
 OpenClaim.holds_of_wide 4 Tryz.f4 rfl rfl rfl rfl rfl rfl rfl ⟨rfl,rfl,rfl,rfl,rfl⟩ rfl rfl rfl rfl rfl rR Tryz.func4 jf
  (of_decide_eq_true (by as_aux_lemma=>kernel_rfl)) (by unfold Func.isWrapper;first|(rw[if_pos (by decide +kernel)];kernel_rfl)|(rw[if_neg (by decide +kernel)];exact⟨rfl,rfl⟩))
  (fun os started H enc _=>yK os started H enc)
set_option maxHeartbeats 4000000 in
theorem proved:Rows.FnPrintParseCardSaid:=
 Claim7.holds_tied_plain_at .later [] [.data,.data,.data,.data,.sentinel,.sentinel,.pinned] true (true, "eb94e160aafef1bbe4cba681530ddcf0793260068ee1dec24b658a4b04df300b") true over (fun _ h=>by cases h) (by as_aux_lemma=>kernel_rfl) (fun _ h=>by cases h) fnPrintParse_row_tie rfl ⟨rfl,rfl⟩ (by as_aux_lemma=>kernel_rfl) rfl
  (fun f fn hf hfn=>by
    obtain rfl:f=4:=Option.some.inj (rR.symm.trans hf) |>.symm
    obtain rfl:fn=Tryz.f4:=(Option.some.inj (Tryz.func4.symm.trans hfn)).symm
    exact⟨by as_aux_lemma=>kernel_rfl,fun j t ht=>by
     rw[Tryz.params4] at ht
     have hm:t∈[22]:=by simpa using Array.mem_of_getElem? ht
     have hall:([22].all fun u=>!Tryz.prog.wantsStandIn u)=true:=by as_aux_lemma=>kernel_rfl
     exact (show Tryz.prog.wantsStandIn t=false by simpa using List.all_eq_true.1 hall t hm)⟩)
  (by as_aux_lemma=>kernel_rfl)
#print axioms proved
end fnPrintParse
end Go.Proofs.YtdmomaomffhidaaGreatDoor
