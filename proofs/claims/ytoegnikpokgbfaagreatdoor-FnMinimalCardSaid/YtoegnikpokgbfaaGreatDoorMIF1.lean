/-
  Trees in order, first half.
  Conditions: none.
-/
import Derived.Test.YtoegnikpokgbfaaGreatDoorMIB1
set_option linter.unusedVariables false
set_option linter.unusedSimpArgs false
set_option linter.unusedSectionVars false
set_option linter.unnecessarySimpa false
set_option maxRecDepth 8000
namespace Go.Proofs.YtoegnikpokgbfaaGreatDoor
open Go Go.Dv
open Go.Vc (D cF cG cv aX)
theorem mZ (distinct:Bool) (items:List Item) (from_:List Source) (where_:List Expr) (order:List SortKey) (limit:Int) (hsz:szQuery (Query.mk distinct items from_ where_ order limit)<=1048576):Cl Tryz.prog 102 [.ag (ar (Query.mk distinct items from_ where_ order limit).row)] [] fun r _=>r = .c (.sl (exprsQ (Query.mk distinct items from_ where_ order limit)).length ((exprsQ (Query.mk distinct items from_ where_ order limit)).flatMap Expr.row) none):=by
 have hlen:=ej (Query.mk distinct items from_ where_ order limit)
 have q0:exprsQ (Query.mk distinct items from_ where_ order limit)=aU items++from_.flatMap Source.on++where_++order.map SortKey.e:=rfl
 rw[q0] at hlen ⊢
 simp only[aA,List.length_map] at hlen
 have htot:=Nat.le_trans hlen hsz
 have hil:=dz items
 rw[dy,ei,dF,aL,cU] at hsz
 rw[bj]
 refine am ah false Tryz.func102 rfl ac ?_
 simp only[Tryz.f102,tt,seval]
 refine dLoop.gh [.ren 7 30] ⟨ae,ae,?_⟩
 refine dLoop0.intro (fun f L p=>∃(i:Nat) (es:List Expr),f 4=vi i/\f 3 = .c (.s 30 es.length)/\i<=items.length/\es=aU (items.take i)/\L=[(1,.str [.v (.bool distinct),.sl items.length (items.flatMap Item.row) none,.sl from_.length (from_.flatMap Source.row) none,.sl where_.length (where_.flatMap Expr.row) none,.sl order.length (order.flatMap SortKey.row) none,.v (.int .i64 limit)]),(30,.arr 29 es.length (es.flatMap Expr.row) none)]/\p=none) (fun f _ _=>(items.length-eO (f 4)).toNat) [(1,.str [.v (.bool distinct),.sl items.length (items.flatMap Item.row) none,.sl from_.length (from_.flatMap Source.row) none,.sl where_.length (where_.flatMap Expr.row) none,.sl order.length (order.flatMap SortKey.row) none,.v (.int .i64 limit)]),(30,.arr 29 0 [] none)] none ⟨ak rfl (ak rfl (aq _)),av _,?_⟩ ?_
 ·simp only[tt,seval]
  exact⟨0,[],rfl,rfl,aa,rfl,rfl⟩
 ·rintro g L p ⟨i,es,hi4,h3,hi,hes,rfl,rfl⟩
  simp only[tt,seval] at hi4 h3
  simp only[tt,seval,hi4,Int.ofNat_lt]
  refine fun _=>?_
  refine ab (fun hlt=>?_) (fun hge=>?_)
  ·have hlt:i<items.length:=by omega
   have hst:=ny hlt
   have hel:es.length<=items.length:=by rw[hes];exact Nat.le_trans (dz _) (by rw[List.length_take];omega)
   have hei:es.length<=i:=by rw[hes];exact Nat.le_trans (dz _) (by rw[List.length_take];omega)
   obtain⟨it,bH⟩:∃it,it=items[i]:=⟨_,rfl⟩
   rw[<-bH] at hst
   refine⟨aa,aa,_,aD Item.row_len (aC hlt),Item.ne _ _,?_⟩
   obtain⟨star,qual,⟨k,o,n,v,q,m,ks,ss⟩,as_⟩:=it
   rw[<-bH,Item.row_mk,ai]
   simp only[tt,seval,hi4,h3,Int.ofNat_lt]
   refine ab (fun hs=>?_) (fun hs=>?_)
   ·have hs:star=false:=by simpa only[Bool.not_eq_true'] using hs
    refine⟨aa,aa,_,aD Item.row_len (aC hlt),Item.ne _ _,?_⟩
    rw[<-bH,Item.row_mk,ai]
    simp only[tt,seval,hi4]
    refine sJ ?_
    have e:es.flatMap Expr.row++[int k,int o,bool n,int v.kind,int v.num,str v.text,str q,str m,.sl ks.length (ks.flatMap Expr.row),.sl ss.length (ss.flatMap Query.row)]=(es++[Expr.mk k o n v q m ks ss]).flatMap Expr.row:=by rw[List.flatMap_append];simp [ai]
    have e2:es.length+1=(es++[Expr.mk k o n v q m ks ss]).length:=by simp
    rw[e,e2]
    try rw[dW i aa]
    exact⟨_,none,ak rfl (ak rfl (aq _)),av _,⟨i+1,_,rfl,rfl,aa,by rw[hst,hes];subst hs;rfl,rfl,rfl⟩,aE⟩
   ·have hs:star=true:=by simpa only[Bool.not_eq_false'] using hs
    try rw[dW i aa]
    exact⟨_,none,ak rfl (ak rfl (aq _)),av _,⟨i+1,es,rfl,rfl,aa,by rw[hst,hes];subst hs;simp [Item.star],rfl,rfl⟩,aE⟩
  ·have hie:i=items.length:=by omega
   subst hie
   rw[List.take_length] at hes
   subst hes
   refine dLoop.gh [.ren 30 45] ⟨ae,ae,?_⟩
   refine dLoop0.intro (fun f L p=>∃(i:Nat) (es:List Expr),f 5=vi i/\f 3 = .c (.s 45 es.length)/\i<=from_.length/\es=aU items++(from_.take i).flatMap Source.on/\L=[(1,.str [.v (.bool distinct),.sl items.length (items.flatMap Item.row) none,.sl from_.length (from_.flatMap Source.row) none,.sl where_.length (where_.flatMap Expr.row) none,.sl order.length (order.flatMap SortKey.row) none,.v (.int .i64 limit)]),(45,.arr 29 es.length (es.flatMap Expr.row) none)]/\p=none) (fun f _ _=>(from_.length-eO (f 5)).toNat) [(1,.str [.v (.bool distinct),.sl items.length (items.flatMap Item.row) none,.sl from_.length (from_.flatMap Source.row) none,.sl where_.length (where_.flatMap Expr.row) none,.sl order.length (order.flatMap SortKey.row) none,.v (.int .i64 limit)]),(45,.arr 29 (aU items).length ((aU items).flatMap Expr.row) none)] none ⟨ak rfl (ak rfl (aq _)),av _,?_⟩ ?_
   ·simp only[tt,seval,h3]
    exact⟨0,aU items,rfl,rfl,aa,by simp,rfl⟩
   ·rintro g L p ⟨i,es,hi5,h3,hi,hes,rfl,rfl⟩
    simp only[tt,seval] at hi5 h3
    simp only[tt,seval,hi5,h3,Int.ofNat_lt]
    refine fun _=>?_
    refine ab (fun hlt=>?_) (fun hge=>?_)
    ·have hlt:i<from_.length:=by omega
     have hst:=wH hlt
     have hel:es.length<=(aU items).length+(from_.flatMap Source.on).length:=by have:=nA from_ i;rw[hes,aA];omega
     obtain⟨it,bH⟩:∃it,it=from_[i]:=⟨_,rfl⟩
     rw[<-bH] at hst
     have hon:it.on.length<=1048576:=by
      have h1:=eT dY (aH hlt)
      rw[<-bH] at h1
      obtain⟨table,as_,on⟩:=it
      rw[dw,aL] at h1
      show on.length<=_
      omega
     refine⟨aa,aa,_,aD Source.row_len (aC hlt),Source.ne _ _,?_⟩
     obtain⟨table,as_,on⟩:=it
     have hon:on.length<=1048576:=hon
     rw[<-bH,Source.row_mk]
     simp only[tt,seval]
     refine⟨ac,by rw[aQ aK],⟨by simp only[maxLen];omega,aa⟩,?_⟩
     have e2:es.length+on.length=(es++on).length:=by simp
     rw[<-List.flatMap_append,e2]
     try rw[dW i aa]
     exact⟨_,none,ak rfl (ak rfl (aq _)),av _,⟨i+1,_,rfl,rfl,aa,by rw[hst,hes,bw];rfl,rfl,rfl⟩,aE⟩
    ·have hie:i=from_.length:=by omega
     subst hie
     rw[List.take_length] at hes
     have hel:es.length=(aU items).length+(from_.flatMap Source.on).length:=by rw[hes,aA]
     refine⟨ac,by rw[aQ aK],⟨by simp only[maxLen];omega,aa⟩,?_⟩
     have e2:es.length+where_.length=(es++where_).length:=by simp
     rw[<-List.flatMap_append,e2]
     obtain⟨fs,hfs⟩:∃fs,fs=es++where_:=⟨_,rfl⟩
     have hfl:fs.length=(aU items).length+(from_.flatMap Source.on).length+where_.length:=by rw[hfs,aA,hel]
     have hfs':fs=aU items++from_.flatMap Source.on++where_:=by rw[hfs,hes]
     rw[<-hfs]
     refine dLoop.gh [.ren 49 65] ⟨ae,ae,?_⟩
     refine dLoop0.intro (fun f L p=>∃(i:Nat) (es:List Expr),f 6=vi i/\f 3 = .c (.s 65 es.length)/\i<=order.length/\es=fs++(order.take i).map SortKey.e/\L=[(1,.str [.v (.bool distinct),.sl items.length (items.flatMap Item.row) none,.sl from_.length (from_.flatMap Source.row) none,.sl where_.length (where_.flatMap Expr.row) none,.sl order.length (order.flatMap SortKey.row) none,.v (.int .i64 limit)]),(65,.arr 29 es.length (es.flatMap Expr.row) none)]/\p=none) (fun f _ _=>(order.length-eO (f 6)).toNat) [(1,.str [.v (.bool distinct),.sl items.length (items.flatMap Item.row) none,.sl from_.length (from_.flatMap Source.row) none,.sl where_.length (where_.flatMap Expr.row) none,.sl order.length (order.flatMap SortKey.row) none,.v (.int .i64 limit)]),(65,.arr 29 fs.length (fs.flatMap Expr.row) none)] none ⟨ak rfl (ak rfl (aq _)),av _,?_⟩ ?_
     ·simp only[tt,seval]
      exact⟨0,fs,rfl,rfl,aa,by simp,rfl⟩
     ·rintro g L p ⟨i,es,hi6,h3,hi,hes,rfl,rfl⟩
      simp only[tt,seval] at hi6 h3
      simp only[tt,seval,hi6,h3,Int.ofNat_lt]
      refine fun _=>?_
      refine ab (fun hlt=>?_) (fun hge=>?_)
      ·have hlt:i<order.length:=by omega
       have hst:=sU hlt
       have hel:es.length=fs.length+i:=by rw[hes,aA,List.length_map,List.length_take];omega
       obtain⟨it,bH⟩:∃it,it=order[i]:=⟨_,rfl⟩
       rw[<-bH] at hst
       refine⟨aa,aa,_,aD SortKey.row_len (aC hlt),SortKey.ne _ _,?_⟩
       obtain⟨⟨k,o,n,v,q,m,ks,ss⟩,desc⟩:=it
       rw[<-bH,SortKey.row_mk,ai]
       simp only[tt,seval,hi6]
       refine sJ ?_
       have e:es.flatMap Expr.row++[int k,int o,bool n,int v.kind,int v.num,str v.text,str q,str m,.sl ks.length (ks.flatMap Expr.row),.sl ss.length (ss.flatMap Query.row)]=(es++[Expr.mk k o n v q m ks ss]).flatMap Expr.row:=by rw[List.flatMap_append];simp [ai]
       have e2:es.length+1=(es++[Expr.mk k o n v q m ks ss]).length:=by simp
       rw[e,e2]
       try rw[dW i aa]
       exact⟨_,none,ak rfl (ak rfl (aq _)),av _,⟨i+1,_,rfl,rfl,aa,by rw[hst,hes,bw];rfl,rfl,rfl⟩,aE⟩
      ·have hie:i=order.length:=by omega
       subst hie
       rw[List.take_length] at hes
       refine⟨_,[],rfl,au ?_⟩
       simp only[tt,seval]
       rw[hes,hfs']
       exact⟨rfl,rfl⟩
theorem pM (distinct:Bool) (items:List Item) (from_:List Source) (where_:List Expr) (order:List SortKey) (limit:Int) (hsz:szQuery (Query.mk distinct items from_ where_ order limit)<=1048576):Cl Tryz.prog 101 [.ag (ar (Query.mk distinct items from_ where_ order limit).row)] [] fun r _=>r = .c (.sl (exprsQ (Query.mk distinct items from_ where_ order limit)).length ((exprsQ (Query.mk distinct items from_ where_ order limit)).flatMap Expr.row) none):=by
 have hlen:=ej (Query.mk distinct items from_ where_ order limit)
 have q0:exprsQ (Query.mk distinct items from_ where_ order limit)=aU items++from_.flatMap Source.on++where_++order.map SortKey.e:=rfl
 rw[q0] at hlen ⊢
 simp only[aA,List.length_map] at hlen
 have htot:=Nat.le_trans hlen hsz
 have hil:=dz items
 rw[dy,ei,dF,aL,cU] at hsz
 rw[bj]
 refine am ah false Tryz.func101 rfl ac ?_
 simp only[Tryz.f101,tt,seval]
 refine fun _=>?_
 refine dLoop.gh [.ren 10 25] ⟨ae,ae,?_⟩
 refine dLoop0.intro (fun f L p=>∃(i:Nat) (es:List Expr),f 14=vi i/\f 3 = .c (.s 25 es.length)/\i<=items.length/\es=aU (items.take i)/\L=[(1,.str [.v (.bool distinct),.sl items.length (items.flatMap Item.row) none,.sl from_.length (from_.flatMap Source.row) none,.sl where_.length (where_.flatMap Expr.row) none,.sl order.length (order.flatMap SortKey.row) none,.v (.int .i64 limit)]),(25,.arr 29 es.length (es.flatMap Expr.row) none)]/\p=none) (fun f _ _=>(items.length-eO (f 14)).toNat) [(1,.str [.v (.bool distinct),.sl items.length (items.flatMap Item.row) none,.sl from_.length (from_.flatMap Source.row) none,.sl where_.length (where_.flatMap Expr.row) none,.sl order.length (order.flatMap SortKey.row) none,.v (.int .i64 limit)]),(25,.arr 29 0 [] none)] none ⟨ak rfl (ak rfl (aq _)),av _,?_⟩ ?_
 ·simp only[tt,seval]
  exact⟨0,[],rfl,rfl,aa,rfl,rfl⟩
 ·rintro g L p ⟨i,es,hi4,h3,hi,hes,rfl,rfl⟩
  simp only[tt,seval] at hi4 h3
  simp only[tt,seval,hi4,Int.ofNat_lt]
  refine ab (fun hlt=>?_) (fun hge=>?_)
  ·have hlt:i<items.length:=by omega
   have hst:=ny hlt
   have hel:es.length<=items.length:=by rw[hes];exact Nat.le_trans (dz _) (by rw[List.length_take];omega)
   have hei:es.length<=i:=by rw[hes];exact Nat.le_trans (dz _) (by rw[List.length_take];omega)
   obtain⟨it,bH⟩:∃it,it=items[i]:=⟨_,rfl⟩
   rw[<-bH] at hst
   refine⟨aa,aa,_,aD Item.row_len (aC hlt),Item.ne _ _,?_⟩
   obtain⟨star,qual,⟨k,o,n,v,q,m,ks,ss⟩,as_⟩:=it
   rw[<-bH,Item.row_mk,ai]
   simp only[tt,seval,hi4,h3]
   refine ab (fun hs=>?_) (fun hs=>?_)
   ·have hs:star=false:=by simpa only[Bool.not_eq_true'] using hs
    refine sJ ?_
    have e:es.flatMap Expr.row++[int k,int o,bool n,int v.kind,int v.num,str v.text,str q,str m,.sl ks.length (ks.flatMap Expr.row),.sl ss.length (ss.flatMap Query.row)]=(es++[Expr.mk k o n v q m ks ss]).flatMap Expr.row:=by rw[List.flatMap_append];simp [ai]
    have e2:es.length+1=(es++[Expr.mk k o n v q m ks ss]).length:=by simp
    rw[e,e2]
    try rw[dW i aa]
    exact⟨_,none,ak rfl (ak rfl (aq _)),av _,⟨i+1,_,rfl,rfl,aa,by rw[hst,hes];subst hs;rfl,rfl,rfl⟩,aE⟩
   ·have hs:star=true:=by simpa only[Bool.not_eq_false'] using hs
    try rw[dW i aa]
    exact⟨_,none,ak rfl (ak rfl (aq _)),av _,⟨i+1,es,rfl,rfl,aa,by rw[hst,hes];subst hs;simp [Item.star],rfl,rfl⟩,aE⟩
  ·have hie:i=items.length:=by omega
   subst hie
   rw[List.take_length] at hes
   subst hes
   refine fun _=>?_
   refine dLoop.gh [.ren 25 37] ⟨ae,ae,?_⟩
   refine dLoop0.intro (fun f L p=>∃(i:Nat) (es:List Expr),f 30=vi i/\f 3 = .c (.s 37 es.length)/\i<=from_.length/\es=aU items++(from_.take i).flatMap Source.on/\L=[(1,.str [.v (.bool distinct),.sl items.length (items.flatMap Item.row) none,.sl from_.length (from_.flatMap Source.row) none,.sl where_.length (where_.flatMap Expr.row) none,.sl order.length (order.flatMap SortKey.row) none,.v (.int .i64 limit)]),(37,.arr 29 es.length (es.flatMap Expr.row) none)]/\p=none) (fun f _ _=>(from_.length-eO (f 30)).toNat) [(1,.str [.v (.bool distinct),.sl items.length (items.flatMap Item.row) none,.sl from_.length (from_.flatMap Source.row) none,.sl where_.length (where_.flatMap Expr.row) none,.sl order.length (order.flatMap SortKey.row) none,.v (.int .i64 limit)]),(37,.arr 29 (aU items).length ((aU items).flatMap Expr.row) none)] none ⟨ak rfl (ak rfl (aq _)),av _,?_⟩ ?_
   ·simp only[tt,seval,h3]
    exact⟨0,aU items,rfl,rfl,aa,by simp,rfl⟩
   ·rintro g L p ⟨i,es,hi5,h3,hi,hes,rfl,rfl⟩
    simp only[tt,seval] at hi5 h3
    simp only[tt,seval,hi5,h3,Int.ofNat_lt]
    refine ab (fun hlt=>?_) (fun hge=>?_)
    ·have hlt:i<from_.length:=by omega
     have hst:=wH hlt
     have hel:es.length<=(aU items).length+(from_.flatMap Source.on).length:=by have:=nA from_ i;rw[hes,aA];omega
     obtain⟨it,bH⟩:∃it,it=from_[i]:=⟨_,rfl⟩
     rw[<-bH] at hst
     have hon:it.on.length<=1048576:=by
      have h1:=eT dY (aH hlt)
      rw[<-bH] at h1
      obtain⟨table,as_,on⟩:=it
      rw[dw,aL] at h1
      show on.length<=_
      omega
     refine⟨aa,aa,_,aD Source.row_len (aC hlt),Source.ne _ _,?_⟩
     obtain⟨table,as_,on⟩:=it
     have hon:on.length<=1048576:=hon
     rw[<-bH,Source.row_mk]
     simp only[tt,seval]
     refine⟨ac,by rw[aQ aK],⟨by simp only[maxLen];omega,aa⟩,?_⟩
     have e2:es.length+on.length=(es++on).length:=by simp
     rw[<-List.flatMap_append,e2]
     try rw[dW i aa]
     exact⟨_,none,ak rfl (ak rfl (aq _)),av _,⟨i+1,_,rfl,rfl,aa,by rw[hst,hes,bw];rfl,rfl,rfl⟩,aE⟩
    ·have hie:i=from_.length:=by omega
     subst hie
     rw[List.take_length] at hes
     have hel:es.length=(aU items).length+(from_.flatMap Source.on).length:=by rw[hes,aA]
     refine⟨ac,by rw[aQ aK],⟨by simp only[maxLen];omega,aa⟩,?_⟩
     have e2:es.length+where_.length=(es++where_).length:=by simp
     rw[<-List.flatMap_append,e2]
     obtain⟨fs,hfs⟩:∃fs,fs=es++where_:=⟨_,rfl⟩
     have hfl:fs.length=(aU items).length+(from_.flatMap Source.on).length+where_.length:=by rw[hfs,aA,hel]
     have hfs':fs=aU items++from_.flatMap Source.on++where_:=by rw[hfs,hes]
     rw[<-hfs]
     refine fun _=>?_
     refine dLoop.gh [.ren 42 54] ⟨ae,ae,?_⟩
     refine dLoop0.intro (fun f L p=>∃(i:Nat) (es:List Expr),f 46=vi i/\f 3 = .c (.s 54 es.length)/\i<=order.length/\es=fs++(order.take i).map SortKey.e/\L=[(1,.str [.v (.bool distinct),.sl items.length (items.flatMap Item.row) none,.sl from_.length (from_.flatMap Source.row) none,.sl where_.length (where_.flatMap Expr.row) none,.sl order.length (order.flatMap SortKey.row) none,.v (.int .i64 limit)]),(54,.arr 29 es.length (es.flatMap Expr.row) none)]/\p=none) (fun f _ _=>(order.length-eO (f 46)).toNat) [(1,.str [.v (.bool distinct),.sl items.length (items.flatMap Item.row) none,.sl from_.length (from_.flatMap Source.row) none,.sl where_.length (where_.flatMap Expr.row) none,.sl order.length (order.flatMap SortKey.row) none,.v (.int .i64 limit)]),(54,.arr 29 fs.length (fs.flatMap Expr.row) none)] none ⟨ak rfl (ak rfl (aq _)),av _,?_⟩ ?_
     ·simp only[tt,seval]
      exact⟨0,fs,rfl,rfl,aa,by simp,rfl⟩
     ·rintro g L p ⟨i,es,hi6,h3,hi,hes,rfl,rfl⟩
      simp only[tt,seval] at hi6 h3
      simp only[tt,seval,hi6,h3,Int.ofNat_lt]
      refine ab (fun hlt=>?_) (fun hge=>?_)
      ·have hlt:i<order.length:=by omega
       have hst:=sU hlt
       have hel:es.length=fs.length+i:=by rw[hes,aA,List.length_map,List.length_take];omega
       obtain⟨it,bH⟩:∃it,it=order[i]:=⟨_,rfl⟩
       rw[<-bH] at hst
       refine⟨aa,aa,_,aD SortKey.row_len (aC hlt),SortKey.ne _ _,?_⟩
       obtain⟨⟨k,o,n,v,q,m,ks,ss⟩,desc⟩:=it
       rw[<-bH,SortKey.row_mk,ai]
       simp only[tt,seval,hi6]
       refine sJ ?_
       have e:es.flatMap Expr.row++[int k,int o,bool n,int v.kind,int v.num,str v.text,str q,str m,.sl ks.length (ks.flatMap Expr.row),.sl ss.length (ss.flatMap Query.row)]=(es++[Expr.mk k o n v q m ks ss]).flatMap Expr.row:=by rw[List.flatMap_append];simp [ai]
       have e2:es.length+1=(es++[Expr.mk k o n v q m ks ss]).length:=by simp
       rw[e,e2]
       try rw[dW i aa]
       exact⟨_,none,ak rfl (ak rfl (aq _)),av _,⟨i+1,_,rfl,rfl,aa,by rw[hst,hes,bw];rfl,rfl,rfl⟩,aE⟩
      ·have hie:i=order.length:=by omega
       subst hie
       rw[List.take_length] at hes
       refine⟨_,[],rfl,au ?_⟩
       simp only[tt,seval]
       rw[hes,hfs']
       exact⟨rfl,rfl⟩
def bO (l:List Nat):Nat:=l.foldl max 0
theorem gq (l:List Nat) (x:Nat):bO (l++[x])=max (bO l) x:=by simp [bO]
theorem mr {l:List Nat} {b:Nat} (h:∀x∈l,x<=b):bO l<=b:=by
 unfold bO
 suffices H:∀(l:List Nat) (a:Nat),a<=b->(∀x∈l,x<=b)->l.foldl max a<=b from H l 0 (Nat.zero_le _) h
 intro l
 induction l with
 |nil=>exact fun a h _=>h
 |cons y r ih=>exact fun a h hx=>ih _ (Nat.max_le.2 ⟨h,hx y (by simp)⟩) fun x hm=>hx x (by simp [hm])
theorem dh {α:Type} (g:α->Nat) {l:List α} {i:Nat} (h:i<l.length):(l.take (i+1)).map g=(l.take i).map g++[g l[i]]:=by
 rw[List.take_succ_eq_append_getElem h,List.map_append];rfl
theorem ES (a b:Nat):(if (b:Int)>(a:Int) then (b:Int) else (a:Int))=((max a b:Nat):Int):=by split<;>omega
theorem CB {x e:Expr} (h:x∈e.kids):szExpr x+1<=szExpr e:=by
 obtain⟨k,o,n,v,q,m,ks,ss⟩:=e
 have h:x∈ks:=h
 rw[aZ,aL]
 have:=eT szExpr h
 have:=List.length_pos_of_mem h
 omega
theorem CC {q:Query} {e:Expr} (h:q∈e.sub):szQuery q+1<=szExpr e:=by
 obtain⟨k,o,n,v,q',m,ks,ss⟩:=e
 have h:q∈ss:=h
 rw[aZ,bI]
 have:=eT szQuery h
 have:=List.length_pos_of_mem h
 omega
theorem rb {x e:Expr} (h:dZ x e):szExpr x+1<=szExpr e:=by
 rcases h with h|⟨q,hq,h⟩
 ·exact CB h
 ·have:=CC hq;have:=qL h;omega
def Dz (g:Expr->Nat) (e:Expr):Nat:=1+bO (e.kids.map g++e.sub.map fun q=>bO ((exprsQ q).map g))
noncomputable def dpE:Expr->Nat:=d7 Dz
theorem xx {e:Expr} {g:Expr->Nat} (h:∀x,dZ x e->g x<=szExpr x+1):Dz g e<=szExpr e+1:=by
 unfold Dz
 have:bO (e.kids.map g++e.sub.map fun q=>bO ((exprsQ q).map g))<=szExpr e:=mr fun y hy=>by
  rcases List.mem_append.1 hy with hy|hy
  ·obtain⟨x,hx,rfl⟩:=List.mem_map.1 hy
   have:=h x (.inl hx);have:=rb (.inl hx:dZ x e);omega
  ·obtain⟨q,hq,rfl⟩:=List.mem_map.1 hy
   refine mr fun z hz=>?_
   obtain⟨x,hx,rfl⟩:=List.mem_map.1 hz
   have:=h x (.inr ⟨q,hq,hx⟩);have:=rb (.inr ⟨q,hq,hx⟩:dZ x e);omega
 omega
theorem rU (a b:Nat):Cl Tryz.prog 105 [vi a,vi b] [] fun r _=>r=vi (max a b:Nat):=by
 refine am ah false Tryz.func105 rfl ac ?_
 simp only[Tryz.f105,tt,seval]
 refine ab (fun h=>?_) (fun h=>?_)
 ·exact⟨_,_,o6 aa,ao rfl⟩
 ·exact⟨_,_,o6 aa,ao rfl⟩
theorem ub (l:List Expr) (g:Expr->Nat) (h:∀x∈l,Cl Tryz.prog 75 [.ag (ar x.row)] [] fun r _=>r=vi (g x:Nat)) (hl:l.length<=1048576):Cl Tryz.prog 197 [.c (.sl l.length (l.flatMap Expr.row) none)] [] fun r _=>r=vi (bO (l.map g):Nat):=by
 refine am ah false Tryz.func197 rfl ac ?_
 simp only[Tryz.f197,tt,seval]
 refine fun _=>?_
 refine dLoop.intro (fun f L p=>∃i:Nat,f 8=vi i/\i<=l.length/\f 3=vi (bO ((l.take i).map g):Nat)/\L=[]/\p=none) (fun f _ _=>(l.length-eO (f 8)).toNat) [] none ⟨aq _,av _,?_⟩ ?_
 ·simp only[tt,seval]
  exact⟨0,rfl,aa,by simp [bO]⟩
 ·rintro g' L p ⟨i,hix,hi,hac,rfl,rfl⟩
  simp only[tt,seval] at hix hac
  simp only[tt,seval,hix,hac,Int.ofNat_lt]
  refine ab (fun hlt=>?_) (fun hge=>?_)
  ·have hlt:i<l.length:=by omega
   obtain⟨it,bH⟩:∃it,it=l[i]:=⟨_,rfl⟩
   have hmem:it∈l:=by rw[bH];exact aH hlt
   refine⟨aa,aa,_,aD aK (aC hlt),Expr.ne _ _,?_⟩
   have hstep:bO ((l.take (i+1)).map g)=max (bO ((l.take i).map g)) (g l[i]):=by rw[dh g hlt,gq]
   rw[<-bH] at hstep
   obtain⟨k,o,n,v,q,m,ks,ss⟩:=it
   rw[<-bH,ai]
   simp only[tt,seval]
   refine cZ (h _ hmem) ?_ ?_<;>simp only[tt,seval,hix,ai]
   rw[ES,aI (n:=(i:Int)+1) aa aa]
   exact⟨_,none,aq _,av _,⟨i+1,rfl,aa,o6 (by rw[hstep]),rfl,rfl⟩,aE⟩
  ·have hie:i=l.length:=by omega
   subst hie
   rw[List.take_length] at hac
   try rw[List.take_length]
   exact⟨_,_,rfl,ao rfl⟩
theorem yG (q:Query) (g:Expr->Nat) (h:∀x∈exprsQ q,Cl Tryz.prog 75 [.ag (ar x.row)] [] fun r _=>r=vi (g x:Nat)) (hsz:szQuery q<=1048576):Cl Tryz.prog 133 [.ag (ar q.row)] [] fun r _=>r=vi (bO ((exprsQ q).map g):Nat):=by
 have hlen:=ej q
 obtain⟨distinct,items,from_,where_,order,limit⟩:=q
 rw[bj]
 refine am ah false Tryz.func133 rfl ac ?_
 simp only[Tryz.f133,tt,seval]
 refine cZ (pM distinct items from_ where_ order limit hsz) ?_ ?_<;>simp only[tt,seval,bj]
 generalize exprsQ (Query.mk distinct items from_ where_ order limit)=l at *
 refine cZ (ub l g h aa) ?_ ?_<;>simp only[tt,seval]
 exact⟨_,_,rfl,ao rfl⟩
theorem qy (kind op:Int) (not:Bool) (val:Val) (qual name:ByteArray) (kids:List Expr) (sub:List Query) (g:Expr->Nat) (hg:∀x,dZ x (Expr.mk kind op not val qual name kids sub)->(Cl Tryz.prog 75 [.ag (ar x.row)] [] fun r _=>r=vi (g x:Nat))/\g x<=szExpr x+1) (hsz:szExpr (Expr.mk kind op not val qual name kids sub)<=1048576):Cl Tryz.prog 75 [.ag (ar (Expr.mk kind op not val qual name kids sub).row)] [] fun r _=>r=vi (Dz g (Expr.mk kind op not val qual name kids sub):Nat):=by
 have hdl:=xx (g:=g) (fun x hx=>(hg x hx).2)
 have e:Dz g (Expr.mk kind op not val qual name kids sub)=1+bO (kids.map g++sub.map fun q=>bO ((exprsQ q).map g)):=rfl
 rw[e] at hdl ⊢
 rw[ai]
 refine am ah false Tryz.func75 rfl ac ?_
 simp only[Tryz.f75,tt,seval]
 refine fun _=>?_
 refine dLoop.intro (fun f L p=>∃i:Nat,f 11=vi i/\i<=kids.length/\f 3=vi (bO ((kids.take i).map g):Nat)/\L=[(1,.str [.v (.int .i64 kind),.v (.int .i64 op),.v (.bool not),.v (.int .i64 val.kind),.v (.int .i64 val.num),.v (.string val.text),.v (.string qual),.v (.string name),.sl kids.length (kids.flatMap Expr.row) none,.sl sub.length (sub.flatMap Query.row) none])]/\p=none) (fun f _ _=>(kids.length-eO (f 11)).toNat) [(1,.str [.v (.int .i64 kind),.v (.int .i64 op),.v (.bool not),.v (.int .i64 val.kind),.v (.int .i64 val.num),.v (.string val.text),.v (.string qual),.v (.string name),.sl kids.length (kids.flatMap Expr.row) none,.sl sub.length (sub.flatMap Query.row) none])] none ⟨ak rfl (aq _),av _,?_⟩ ?_
 ·simp only[tt,seval]
  exact⟨0,rfl,aa,by simp [bO]⟩
 ·rintro g' L p ⟨i,hix,hi,hac,rfl,rfl⟩
  simp only[tt,seval] at hix hac
  simp only[tt,seval,hix,hac,Int.ofNat_lt]
  refine ab (fun hlt=>?_) (fun hge=>?_)
  ·have hlt:i<kids.length:=by omega
   obtain⟨it,bH⟩:∃it,it=kids[i]:=⟨_,rfl⟩
   have hmem:it∈kids:=by rw[bH];exact aH hlt
   refine⟨aa,aa,_,aD aK (aC hlt),Expr.ne _ _,?_⟩
   have hstep:bO ((kids.take (i+1)).map g)=max (bO ((kids.take i).map g)) (g kids[i]):=by rw[dh g hlt,gq]
   rw[<-bH] at hstep
   obtain⟨k,o,n,v,q,m,ks,ss⟩:=it
   rw[<-bH,ai]
   simp only[tt,seval]
   refine cZ ((hg _ (.inl hmem)).1) ?_ ?_<;>simp only[tt,seval,hix,ai]
   rw[ES,aI (n:=(i:Int)+1) aa aa]
   exact⟨_,none,ak rfl (aq _),av _,⟨i+1,rfl,aa,o6 (by rw[hstep]),rfl,rfl⟩,aE⟩
  ·have hie:i=kids.length:=by omega
   subst hie
   rw[List.take_length] at hac
   refine fun _=>?_
   refine dLoop.intro (fun f L p=>∃i:Nat,f 23=vi i/\i<=sub.length/\f 3=vi (bO (kids.map g++(sub.take i).map fun q=>bO ((exprsQ q).map g)):Nat)/\L=[(1,.str [.v (.int .i64 kind),.v (.int .i64 op),.v (.bool not),.v (.int .i64 val.kind),.v (.int .i64 val.num),.v (.string val.text),.v (.string qual),.v (.string name),.sl kids.length (kids.flatMap Expr.row) none,.sl sub.length (sub.flatMap Query.row) none])]/\p=none) (fun f _ _=>(sub.length-eO (f 23)).toNat) [(1,.str [.v (.int .i64 kind),.v (.int .i64 op),.v (.bool not),.v (.int .i64 val.kind),.v (.int .i64 val.num),.v (.string val.text),.v (.string qual),.v (.string name),.sl kids.length (kids.flatMap Expr.row) none,.sl sub.length (sub.flatMap Query.row) none])] none ⟨ak rfl (aq _),av _,?_⟩ ?_
   ·simp only[tt,seval,hac]
    exact⟨0,rfl,aa,by simp [bO]⟩
   ·rintro g' L p ⟨i,hix,hi,hac,rfl,rfl⟩
    simp only[tt,seval] at hix hac
    simp only[tt,seval,hix,hac,Int.ofNat_lt]
    refine ab (fun hlt=>?_) (fun hge=>?_)
    ·have hlt:i<sub.length:=by omega
     obtain⟨it,bH⟩:∃it,it=sub[i]:=⟨_,rfl⟩
     have hmem:it∈sub:=by rw[bH];exact aH hlt
     refine⟨aa,aa,_,aD Query.row_len (aC hlt),Query.ne _ _,?_⟩
     have hstep:bO (kids.map g++(sub.take (i+1)).map fun q=>bO ((exprsQ q).map g))=max (bO (kids.map g++(sub.take i).map fun q=>bO ((exprsQ q).map g))) (bO ((exprsQ sub[i]).map g)):=by rw[dh _ hlt,<-bw,gq]
     rw[<-bH] at hstep
     obtain⟨ds,its,frs,whs,ods,lim⟩:=it
     rw[<-bH,bj]
     simp only[tt,seval]
     refine cZ (yG (Query.mk ds its frs whs ods lim) g (fun x hx=>(hg x (.inr ⟨_,hmem,hx⟩)).1) (Nat.le_trans (lx (e:=(Expr.mk kind op not val qual name kids sub)) hmem) hsz)) ?_ ?_<;>simp only[tt,seval,hix,bj]
     rw[ES,aI (n:=(i:Int)+1) aa aa]
     exact⟨_,none,ak rfl (aq _),av _,⟨i+1,rfl,aa,o6 (by rw[hstep]),rfl,rfl⟩,aE⟩
    ·have hie:i=sub.length:=by omega
     subst hie
     rw[List.take_length] at hac
     try rw[List.take_length]
     rw[aI aa aa]
     exact⟨_,_,o6 aa,ao rfl⟩
theorem vQ (e:Expr):(szExpr e<=1048576->Cl Tryz.prog 75 [.ag (ar e.row)] [] fun r _=>r=vi (dpE e:Nat))/\dpE e<=szExpr e+1:=by
 refine gk (P:=fun e d=>(szExpr e<=1048576->Cl Tryz.prog 75 [.ag (ar e.row)] [] fun r _=>r=vi (d:Nat))/\d<=szExpr e+1) (fun e g hg=>⟨fun hsz=>?_,xx fun x hx=>(hg x hx).2⟩) e
 obtain⟨kind,op,not,val,qual,name,kids,sub⟩:=e
 exact qy kind op not val qual name kids sub g (fun x hx=>⟨(hg x hx).1 (Nat.le_trans (gx hx) hsz),(hg x hx).2⟩) hsz
theorem AJ (q:Query) (g:Expr->Nat) (h:∀x∈exprsQ q,Cl Tryz.prog 46 [.ag (ar x.row)] [] fun r _=>r=vi (g x:Nat)) (hsz:szQuery q<=1048576):Cl Tryz.prog 106 [.ag (ar q.row)] [] fun r _=>r=vi (bO ((exprsQ q).map g):Nat):=by
 have hlen:=ej q
 obtain⟨distinct,items,from_,where_,order,limit⟩:=q
 rw[bj]
 refine am ah false Tryz.func106 rfl ac ?_
 simp only[Tryz.f106,tt,seval]
 refine cZ (mZ distinct items from_ where_ order limit hsz) ?_ ?_<;>simp only[tt,seval,bj]
 generalize exprsQ (Query.mk distinct items from_ where_ order limit)=l at *
 refine dLoop.intro (fun f L p=>∃i:Nat,f 5=vi i/\i<=l.length/\f 3=vi (bO ((l.take i).map g):Nat)/\L=[(1,.str [.v (.bool distinct),.sl items.length (items.flatMap Item.row) none,.sl from_.length (from_.flatMap Source.row) none,.sl where_.length (where_.flatMap Expr.row) none,.sl order.length (order.flatMap SortKey.row) none,.v (.int .i64 limit)])]/\p=none) (fun f _ _=>(l.length-eO (f 5)).toNat) [(1,.str [.v (.bool distinct),.sl items.length (items.flatMap Item.row) none,.sl from_.length (from_.flatMap Source.row) none,.sl where_.length (where_.flatMap Expr.row) none,.sl order.length (order.flatMap SortKey.row) none,.v (.int .i64 limit)])] none ⟨ak rfl (aq _),av _,?_⟩ ?_
 ·simp only[tt,seval]
  exact⟨0,rfl,aa,by simp [bO]⟩
 ·rintro g' L p ⟨i,hix,hi,hac,rfl,rfl⟩
  simp only[tt,seval] at hix hac
  simp only[tt,seval,hix,hac,Int.ofNat_lt]
  refine fun _=>?_
  refine ab (fun hlt=>?_) (fun hge=>?_)
  ·have hlt:i<l.length:=by omega
   have hmem:l[i]∈l:=aH hlt
   refine⟨aa,aa,_,aD aK (aC hlt),Expr.ne _ _,?_⟩
   simp only[seval,Expr.tk,aK]
   refine cZ (h _ hmem) ?_ ?_<;>simp only[tt,seval]
   refine cZ (rU (bO ((l.take i).map g)) (g l[i])) ?_ ?_<;>simp only[tt,seval,hix]
   rw[dW i aa]
   have hstep:bO ((l.take (i+1)).map g)=max (bO ((l.take i).map g)) (g l[i]):=by rw[dh g hlt,gq]
   exact⟨_,none,ak rfl (aq _),av _,⟨i+1,rfl,aa,o6 (by rw[hstep]),rfl,rfl⟩,aE⟩
  ·have hie:i=l.length:=by omega
   subst hie
   rw[List.take_length] at hac
   try rw[List.take_length]
   exact⟨_,_,rfl,ao rfl⟩
theorem rV (kind op:Int) (not:Bool) (val:Val) (qual name:ByteArray) (kids:List Expr) (sub:List Query) (g:Expr->Nat) (hg:∀x,dZ x (Expr.mk kind op not val qual name kids sub)->(Cl Tryz.prog 46 [.ag (ar x.row)] [] fun r _=>r=vi (g x:Nat))/\g x<=szExpr x+1) (hsz:szExpr (Expr.mk kind op not val qual name kids sub)<=1048576):Cl Tryz.prog 46 [.ag (ar (Expr.mk kind op not val qual name kids sub).row)] [] fun r _=>r=vi (Dz g (Expr.mk kind op not val qual name kids sub):Nat):=by
 have hdl:=xx (g:=g) (fun x hx=>(hg x hx).2)
 have e:Dz g (Expr.mk kind op not val qual name kids sub)=1+bO (kids.map g++sub.map fun q=>bO ((exprsQ q).map g)):=rfl
 rw[e] at hdl ⊢
 rw[ai]
 refine am ah false Tryz.func46 rfl ac ?_
 simp only[Tryz.f46,tt,seval]
 refine dLoop.intro (fun f L p=>∃i:Nat,f 4=vi i/\i<=kids.length/\f 3=vi (bO ((kids.take i).map g):Nat)/\L=[(1,.str [.v (.int .i64 kind),.v (.int .i64 op),.v (.bool not),.v (.int .i64 val.kind),.v (.int .i64 val.num),.v (.string val.text),.v (.string qual),.v (.string name),.sl kids.length (kids.flatMap Expr.row) none,.sl sub.length (sub.flatMap Query.row) none])]/\p=none) (fun f _ _=>(kids.length-eO (f 4)).toNat) [(1,.str [.v (.int .i64 kind),.v (.int .i64 op),.v (.bool not),.v (.int .i64 val.kind),.v (.int .i64 val.num),.v (.string val.text),.v (.string qual),.v (.string name),.sl kids.length (kids.flatMap Expr.row) none,.sl sub.length (sub.flatMap Query.row) none])] none ⟨ak rfl (aq _),av _,?_⟩ ?_
 ·simp only[tt,seval]
  exact⟨0,rfl,aa,by simp [bO]⟩
 ·rintro g' L p ⟨i,hix,hi,hac,rfl,rfl⟩
  simp only[tt,seval] at hix hac
  simp only[tt,seval,hix,hac,Int.ofNat_lt]
  refine fun _=>?_
  refine ab (fun hlt=>?_) (fun hge=>?_)
  ·have hlt:i<kids.length:=by omega
   have hmem:kids[i]∈kids:=aH hlt
   refine⟨aa,aa,_,aD aK (aC hlt),Expr.ne _ _,?_⟩
   simp only[seval,Expr.tk,aK]
   refine cZ ((hg _ (.inl hmem)).1) ?_ ?_<;>simp only[tt,seval]
   refine cZ (rU (bO ((kids.take i).map g)) (g kids[i])) ?_ ?_<;>simp only[tt,seval,hix]
   rw[dW i aa]
   have hstep:bO ((kids.take (i+1)).map g)=max (bO ((kids.take i).map g)) (g kids[i]):=by rw[dh g hlt,gq]
   exact⟨_,none,ak rfl (aq _),av _,⟨i+1,rfl,aa,o6 (by rw[hstep]),rfl,rfl⟩,aE⟩
  ·have hie:i=kids.length:=by omega
   subst hie
   rw[List.take_length] at hac
   refine dLoop.intro (fun f L p=>∃i:Nat,f 5=vi i/\i<=sub.length/\f 3=vi (bO (kids.map g++(sub.take i).map fun q=>bO ((exprsQ q).map g)):Nat)/\L=[(1,.str [.v (.int .i64 kind),.v (.int .i64 op),.v (.bool not),.v (.int .i64 val.kind),.v (.int .i64 val.num),.v (.string val.text),.v (.string qual),.v (.string name),.sl kids.length (kids.flatMap Expr.row) none,.sl sub.length (sub.flatMap Query.row) none])]/\p=none) (fun f _ _=>(sub.length-eO (f 5)).toNat) [(1,.str [.v (.int .i64 kind),.v (.int .i64 op),.v (.bool not),.v (.int .i64 val.kind),.v (.int .i64 val.num),.v (.string val.text),.v (.string qual),.v (.string name),.sl kids.length (kids.flatMap Expr.row) none,.sl sub.length (sub.flatMap Query.row) none])] none ⟨ak rfl (aq _),av _,?_⟩ ?_
   ·simp only[tt,seval,hac]
    exact⟨0,rfl,aa,by simp [bO]⟩
   ·rintro g' L p ⟨i,hix,hi,hac,rfl,rfl⟩
    simp only[tt,seval] at hix hac
    simp only[tt,seval,hix,hac,Int.ofNat_lt]
    refine fun _=>?_
    refine ab (fun hlt=>?_) (fun hge=>?_)
    ·have hlt:i<sub.length:=by omega
     have hmem:sub[i]∈sub:=aH hlt
     refine⟨aa,aa,_,aD Query.row_len (aC hlt),Query.ne _ _,?_⟩
     simp only[seval,Query.tk,Query.row_len]
     refine cZ (AJ (sub[i]) g (fun x hx=>(hg x (.inr ⟨_,hmem,hx⟩)).1) (Nat.le_trans (lx (e:=(Expr.mk kind op not val qual name kids sub)) hmem) hsz)) ?_ ?_<;>simp only[tt,seval]
     refine cZ (rU (bO (kids.map g++(sub.take i).map fun q=>bO ((exprsQ q).map g))) (bO ((exprsQ sub[i]).map g))) ?_ ?_<;>simp only[tt,seval,hix]
     rw[dW i aa]
     have hstep:bO (kids.map g++(sub.take (i+1)).map fun q=>bO ((exprsQ q).map g))=max (bO (kids.map g++(sub.take i).map fun q=>bO ((exprsQ q).map g))) (bO ((exprsQ sub[i]).map g)):=by rw[dh _ hlt,<-bw,gq]
     exact⟨_,none,ak rfl (aq _),av _,⟨i+1,rfl,aa,o6 (by rw[hstep]),rfl,rfl⟩,aE⟩
    ·have hie:i=sub.length:=by omega
     subst hie
     rw[List.take_length] at hac
     try rw[List.take_length]
     rw[aI aa aa]
     exact⟨_,_,o6 aa,ao rfl⟩
theorem yH (e:Expr):(szExpr e<=1048576->Cl Tryz.prog 46 [.ag (ar e.row)] [] fun r _=>r=vi (dpE e:Nat))/\dpE e<=szExpr e+1:=by
 refine gk (P:=fun e d=>(szExpr e<=1048576->Cl Tryz.prog 46 [.ag (ar e.row)] [] fun r _=>r=vi (d:Nat))/\d<=szExpr e+1) (fun e g hg=>⟨fun hsz=>?_,xx fun x hx=>(hg x hx).2⟩) e
 obtain⟨kind,op,not,val,qual,name,kids,sub⟩:=e
 exact rV kind op not val qual name kids sub g (fun x hx=>⟨(hg x hx).1 (Nat.le_trans (gx hx) hsz),(hg x hx).2⟩) hsz
def xy (g:Expr->Nat) (e:Expr):Nat:=1+(e.kids.map g).sum+(e.sub.map fun q=>((exprsQ q).map g).sum).sum
noncomputable def ndE:Expr->Nat:=d7 xy
theorem ki {α:Type} (g:α->Nat) {l:List α} {i:Nat} (h:i<l.length):((l.take (i+1)).map g).sum=((l.take i).map g).sum+g l[i]:=qn g h
theorem rX {α:Type} {f g:α->Nat}:∀ {l:List α},(∀x∈l,f x<=g x)->(l.map f).sum<=(l.map g).sum
 | [],_=>Nat.le_refl _
 |x::r,h=>by
  have h1:=h x (by simp)
  have h2:=rX (l:=r) fun y hy=>h y (by simp [hy])
  simp only[List.map_cons,List.sum_cons];omega
theorem ms {α:Type} (f:α->Nat):∀l:List α,(l.map fun x=>f x+1).sum=l.length+(l.map f).sum
 | []=>rfl
 |x::r=>by simp only[List.map_cons,List.sum_cons,ms f r,List.length_cons];omega
theorem pN:∀l:List Item,((aU l).map fun x=>szExpr x+1).sum<=fY l
 | []=>by simp [aU]
 |.mk s q e a::r=>by
  have:=pN r
  rw[fY,kG]
  cases s with
  |true=>
   have h:aU (.mk true q e a::r)=aU r:=rfl
   rw[h];omega
  |false=>
   have h:aU (.mk false q e a::r)=e::aU r:=rfl
   rw[h,List.map_cons,List.sum_cons];omega
theorem AK:∀l:List Source,((l.flatMap Source.on).map fun x=>szExpr x+1).sum<=cO l
 | []=>by simp
 |.mk t a o::r=>by
  have:=AK r
  rw[cO,dw,List.flatMap_cons,List.map_append,List.sum_append,aL]
  have h:(Source.mk t a o).on=o:=rfl
  rw[h,ms];omega
theorem xz:∀l:List SortKey,((l.map SortKey.e).map fun x=>szExpr x+1).sum<=d8 l
 | []=>by simp
 |.mk e d::r=>by
  have:=xz r
  rw[d8,j6,List.map_cons,List.map_cons,List.sum_cons]
  have h:(SortKey.mk e d).e=e:=rfl
  rw[h];omega
theorem vR (q:Query):((exprsQ q).map fun x=>szExpr x+1).sum<=szQuery q:=by
 obtain⟨d,it,fr,wh,or,li⟩:=q
 have h1:=pN it
 have h2:=AK fr
 have h3:=xz or
 rw[dy,aL]
 have e:exprsQ (.mk d it fr wh or li)=aU it++fr.flatMap Source.on++wh++or.map SortKey.e:=rfl
 rw[e,List.map_append,List.map_append,List.map_append,List.sum_append,List.sum_append,List.sum_append,ms szExpr wh]
 omega
theorem DA {e:Expr} {g:Expr->Nat} (h:∀x,dZ x e->g x<=szExpr x+1):xy g e<=szExpr e+1:=by
 obtain⟨k,o,n,v,q,m,ks,ss⟩:=e
 have e1:xy g (.mk k o n v q m ks ss)=1+(ks.map g).sum+(ss.map fun q=>((exprsQ q).map g).sum).sum:=rfl
 rw[e1,aZ,aL,bI]
 have h1:=rX (l:=ks) (f:=g) (g:=fun x=>szExpr x+1) fun x hx=>h x (.inl hx)
 have h2:=rX (l:=ss) (f:=fun q=>((exprsQ q).map g).sum) (g:=szQuery) fun q hq=>Nat.le_trans (rX fun x hx=>h x (.inr ⟨q,hq,hx⟩)) (vR q)
 rw[ms] at h1
 omega
theorem nK (l:List Expr) (g:Expr->Nat) (h:∀x∈l,Cl Tryz.prog 76 [.ag (ar x.row)] [] fun r _=>r=vi (g x:Nat)) (hl:l.length<=1048576) (hs:(l.map g).sum<=2097152):Cl Tryz.prog 134 [.c (.sl l.length (l.flatMap Expr.row) none)] [] fun r _=>r=vi ((l.map g).sum:Nat):=by
 refine am ah false Tryz.func134 rfl ac ?_
 simp only[Tryz.f134,tt,seval]
 refine fun _=>?_
 refine dLoop.intro (fun f L p=>∃i:Nat,f 8=vi i/\i<=l.length/\f 3=vi (((l.take i).map g).sum:Nat)/\L=[]/\p=none) (fun f _ _=>(l.length-eO (f 8)).toNat) [] none ⟨aq _,av _,?_⟩ ?_
 ·simp only[tt,seval]
  exact⟨0,rfl,aa,by simp []⟩
 ·rintro g' L p ⟨i,hix,hi,hac,rfl,rfl⟩
  simp only[tt,seval] at hix hac
  simp only[tt,seval,hix,hac,Int.ofNat_lt]
  refine ab (fun hlt=>?_) (fun hge=>?_)
  ·have hlt:i<l.length:=by omega
   obtain⟨it,bH⟩:∃it,it=l[i]:=⟨_,rfl⟩
   have hmem:it∈l:=by rw[bH];exact aH hlt
   refine⟨aa,aa,_,aD aK (aC hlt),Expr.ne _ _,?_⟩
   have hstep:((l.take (i+1)).map g).sum=((l.take i).map g).sum+g l[i]:=ki g hlt
   rw[<-bH] at hstep
   obtain⟨k,o,n,v,q,m,ks,ss⟩:=it
   rw[<-bH,ai]
   simp only[tt,seval]
   refine cZ (h _ hmem) ?_ ?_<;>simp only[tt,seval,hix,ai]
   obtain⟨rst,hrst⟩:=fx g l (i+1)
   rw[dW i aa]
   rw[aI aa aa]
   exact⟨_,none,aq _,av _,⟨i+1,rfl,aa,o6 (by rw[hstep];omega),rfl,rfl⟩,aE⟩
  ·have hie:i=l.length:=by omega
   subst hie
   rw[List.take_length] at hac
   try rw[List.take_length]
   exact⟨_,_,rfl,ao rfl⟩
theorem uc (q:Query) (g:Expr->Nat) (h:∀x∈exprsQ q,Cl Tryz.prog 76 [.ag (ar x.row)] [] fun r _=>r=vi (g x:Nat)) (hsz:szQuery q<=1048576) (hs:((exprsQ q).map g).sum<=2097152):Cl Tryz.prog 135 [.ag (ar q.row)] [] fun r _=>r=vi (((exprsQ q).map g).sum:Nat):=by
 have hlen:=ej q
 obtain⟨distinct,items,from_,where_,order,limit⟩:=q
 rw[bj]
 refine am ah false Tryz.func135 rfl ac ?_
 simp only[Tryz.f135,tt,seval]
 refine cZ (pM distinct items from_ where_ order limit hsz) ?_ ?_<;>simp only[tt,seval,bj]
 generalize exprsQ (Query.mk distinct items from_ where_ order limit)=l at *
 refine cZ (nK l g h aa hs) ?_ ?_<;>simp only[tt,seval]
 exact⟨_,_,rfl,ao rfl⟩
theorem ud (kind op:Int) (not:Bool) (val:Val) (qual name:ByteArray) (kids:List Expr) (sub:List Query) (g:Expr->Nat) (hg:∀x,dZ x (Expr.mk kind op not val qual name kids sub)->(Cl Tryz.prog 76 [.ag (ar x.row)] [] fun r _=>r=vi (g x:Nat))/\g x<=szExpr x+1) (hsz:szExpr (Expr.mk kind op not val qual name kids sub)<=1048576):Cl Tryz.prog 76 [.ag (ar (Expr.mk kind op not val qual name kids sub).row)] [] fun r _=>r=vi (xy g (Expr.mk kind op not val qual name kids sub):Nat):=by
 have hdl:=DA (g:=g) (fun x hx=>(hg x hx).2)
 have hks:=hsz
 rw[aZ,aL,bI] at hks
 have e:xy g (Expr.mk kind op not val qual name kids sub)=1+(kids.map g).sum+(sub.map fun q=>((exprsQ q).map g).sum).sum:=rfl
 rw[e] at hdl ⊢
 rw[ai]
 refine am ah false Tryz.func76 rfl ac ?_
 simp only[Tryz.f76,tt,seval]
 refine cZ (nK kids g (fun x hx=>(hg x (.inl hx)).1) aa aa) ?_ ?_<;>simp only[tt,seval]
 rw[aI aa aa]
 refine fun _=>?_
 refine dLoop.intro (fun f L p=>∃i:Nat,f 13=vi i/\i<=sub.length/\f 3=vi ((1+(kids.map g).sum+((sub.take i).map fun q=>((exprsQ q).map g).sum).sum):Nat)/\L=[(1,.str [.v (.int .i64 kind),.v (.int .i64 op),.v (.bool not),.v (.int .i64 val.kind),.v (.int .i64 val.num),.v (.string val.text),.v (.string qual),.v (.string name),.sl kids.length (kids.flatMap Expr.row) none,.sl sub.length (sub.flatMap Query.row) none])]/\p=none) (fun f _ _=>(sub.length-eO (f 13)).toNat) [(1,.str [.v (.int .i64 kind),.v (.int .i64 op),.v (.bool not),.v (.int .i64 val.kind),.v (.int .i64 val.num),.v (.string val.text),.v (.string qual),.v (.string name),.sl kids.length (kids.flatMap Expr.row) none,.sl sub.length (sub.flatMap Query.row) none])] none ⟨ak rfl (aq _),av _,?_⟩ ?_
 ·simp only[tt,seval]
  exact⟨0,rfl,aa,by simp⟩
 ·rintro g' L p ⟨i,hix,hi,hac,rfl,rfl⟩
  simp only[tt,seval] at hix hac
  simp only[tt,seval,hix,hac,Int.ofNat_lt]
  refine ab (fun hlt=>?_) (fun hge=>?_)
  ·have hlt:i<sub.length:=by omega
   obtain⟨it,bH⟩:∃it,it=sub[i]:=⟨_,rfl⟩
   have hmem:it∈sub:=by rw[bH];exact aH hlt
   refine⟨aa,aa,_,aD Query.row_len (aC hlt),Query.ne _ _,?_⟩
   have hstep:((sub.take (i+1)).map fun q=>((exprsQ q).map g).sum).sum=((sub.take i).map fun q=>((exprsQ q).map g).sum).sum+((exprsQ sub[i]).map g).sum:=ki _ hlt
   rw[<-bH] at hstep
   obtain⟨ds,its,frs,whs,ods,lim⟩:=it
   rw[<-bH,bj]
   simp only[tt,seval]
   obtain⟨rst,hrst⟩:=fx (fun q=>((exprsQ q).map g).sum) sub (i+1)
   refine cZ (uc (Query.mk ds its frs whs ods lim) g (fun x hx=>(hg x (.inr ⟨_,hmem,hx⟩)).1) (Nat.le_trans (lx (e:=(Expr.mk kind op not val qual name kids sub)) hmem) hsz) aa) ?_ ?_<;>simp only[tt,seval,hix,bj]
   rw[dW i aa]
   rw[aI aa aa]
   exact⟨_,none,ak rfl (aq _),av _,⟨i+1,rfl,aa,o6 (by rw[hstep];omega),rfl,rfl⟩,aE⟩
  ·have hie:i=sub.length:=by omega
   subst hie
   rw[List.take_length] at hac
   try rw[List.take_length]
   exact⟨_,_,rfl,ao rfl⟩
theorem AL (e:Expr):(szExpr e<=1048576->Cl Tryz.prog 76 [.ag (ar e.row)] [] fun r _=>r=vi (ndE e:Nat))/\ndE e<=szExpr e+1:=by
 refine gk (P:=fun e d=>(szExpr e<=1048576->Cl Tryz.prog 76 [.ag (ar e.row)] [] fun r _=>r=vi (d:Nat))/\d<=szExpr e+1) (fun e g hg=>⟨fun hsz=>?_,DA fun x hx=>(hg x hx).2⟩) e
 obtain⟨kind,op,not,val,qual,name,kids,sub⟩:=e
 exact ud kind op not val qual name kids sub g (fun x hx=>⟨(hg x hx).1 (Nat.le_trans (gx hx) hsz),(hg x hx).2⟩) hsz
theorem yI (q:Query) (hsz:szQuery q<=1048576):Cl Tryz.prog 102 [.ag (ar q.row)] [] fun r _=>r = .c (.sl (exprsQ q).length ((exprsQ q).flatMap Expr.row) none):=by
 obtain⟨distinct,items,from_,where_,order,limit⟩:=q
 exact mZ distinct items from_ where_ order limit hsz
theorem AM {l:Int} (h:0<=l):cz l 1=l-1:=by unfold cz;split<;>omega
theorem ue (kind op:Int) (not:Bool) (val:Val) (qual name:ByteArray) (kids:List Expr) (sub:List Query) (g:Expr->Nat) (hg:∀x,dZ x (Expr.mk kind op not val qual name kids sub)->∀l:Int,0<=l->l<=200->Cl Tryz.prog 44 [.ag (ar x.row),vi l] [] fun r _=>r=vi (cz l (g x))) (hsz:szExpr (Expr.mk kind op not val qual name kids sub)<=1048576) (l0:Int) (hl0:0<=l0) (hl1:l0<=200):Cl Tryz.prog 44 [.ag (ar (Expr.mk kind op not val qual name kids sub).row),vi l0] [] fun r _=>r=vi (cz l0 (xy g (Expr.mk kind op not val qual name kids sub))):=by
 have hks:=hsz
 rw[aZ,aL,bI] at hks
 have e:xy g (Expr.mk kind op not val qual name kids sub)=1+(kids.map g).sum+(sub.map fun q=>((exprsQ q).map g).sum).sum:=rfl
 rw[e]
 rw[ai]
 refine am ah false Tryz.func44 rfl ac ?_
 simp only[Tryz.f44,tt,seval]
 rw[aI aa aa]
 refine dLoop.intro (fun f L p=>∃i:Nat,f 5=vi i/\i<=kids.length/\f 1=vi (cz l0 (1+((kids.take i).map g).sum))/\L=[(2,.str [.v (.int .i64 kind),.v (.int .i64 op),.v (.bool not),.v (.int .i64 val.kind),.v (.int .i64 val.num),.v (.string val.text),.v (.string qual),.v (.string name),.sl kids.length (kids.flatMap Expr.row) none,.sl sub.length (sub.flatMap Query.row) none])]/\p=none) (fun f _ _=>(kids.length-eO (f 5)).toNat) [(2,.str [.v (.int .i64 kind),.v (.int .i64 op),.v (.bool not),.v (.int .i64 val.kind),.v (.int .i64 val.num),.v (.string val.text),.v (.string qual),.v (.string name),.sl kids.length (kids.flatMap Expr.row) none,.sl sub.length (sub.flatMap Query.row) none])] none ⟨ak rfl (aq _),av _,?_⟩ ?_
 ·simp only[tt,seval]
  exact⟨0,rfl,aa,by simp [AM hl0]⟩
 ·rintro g' L p ⟨i,hix,hi,hac,rfl,rfl⟩
  simp only[tt,seval] at hix hac
  simp only[tt,seval,hix]
  refine fun _=>?_
  have hc:(i<kids.length/\0<=cz l0 (1+((kids.take i).map g).sum))∨(cz l0 (1+((kids.take i).map g).sum)=cz l0 (1+(kids.map g).sum)/\i<kids.length /\ ¬ 0<=cz l0 (1+((kids.take i).map g).sum))∨(cz l0 (1+((kids.take i).map g).sum)=cz l0 (1+(kids.map g).sum) /\ ¬i<kids.length):=by
   by_cases h1:i<kids.length
   ·by_cases h2:0<=cz l0 (1+((kids.take i).map g).sum)
    ·exact .inl ⟨h1,h2⟩
    ·obtain⟨rst,hrst⟩:=fx (g) kids i
     have hb:=fw (s:=(1+((kids.take i).map g).sum)) hl0
     have h3:=oE (b:=rst) (by omega:cz l0 (1+((kids.take i).map g).sum)<0) hl0
     refine .inr (.inl ⟨?_,h1,h2⟩)
     rw[show (1+(kids.map g).sum)=(1+((kids.take i).map g).sum)+rst by omega,h3];omega
   ·refine .inr (.inr ⟨?_,h1⟩)
    have:i=kids.length:=by omega
    subst this
    rw[List.take_length]
  rcases hc with⟨hlt,hp⟩|⟨he,hlt,hn⟩|⟨he,hge⟩
  ·simp only[tt,seval,aF (show (i:Int)<kids.length by omega),hix,hac]
   refine ab (fun _=>?_) (fun hn=>absurd hp hn)
   refine⟨aa,aa,_,aD aK (aC hlt),Expr.ne _ _,?_⟩
   have hmem:kids[i]∈kids:=aH hlt
   simp only[seval,Expr.tk,aK]
   have hb:=fw (s:=(1+((kids.take i).map g).sum)) hl0
   refine cZ (hg kids[i] (.inl hmem) (cz l0 (1+((kids.take i).map g).sum)) hp aa) ?_ ?_<;>simp only[tt,seval,hix]
   rw[aI (n:=(i:Int)+1) aa aa,<-sK hp]
   exact⟨_,none,ak rfl (aq _),av _,⟨i+1,rfl,aa,o6 (by rw[ki g hlt,Nat.add_assoc]),rfl,rfl⟩,aE⟩
  case' inr.inl=>
   simp only[tt,seval,aF (show (i:Int)<kids.length by omega),hix,hac]
   refine ab (fun hp=>absurd hp hn) (fun _=>?_)
  case' inr.inr=>
   simp only[tt,seval,aG (show ¬(i:Int)<kids.length by omega),hix,hac]
  all_goals
   rw[he] at hac
   try rw[he]
   refine dLoop.intro (fun f L p=>∃i:Nat,f 6=vi i/\i<=sub.length/\f 1=vi (cz l0 (1+(kids.map g).sum+((sub.take i).map fun q=>((exprsQ q).map g).sum).sum))/\L=[(2,.str [.v (.int .i64 kind),.v (.int .i64 op),.v (.bool not),.v (.int .i64 val.kind),.v (.int .i64 val.num),.v (.string val.text),.v (.string qual),.v (.string name),.sl kids.length (kids.flatMap Expr.row) none,.sl sub.length (sub.flatMap Query.row) none])]/\p=none) (fun f _ _=>(sub.length-eO (f 6)).toNat) [(2,.str [.v (.int .i64 kind),.v (.int .i64 op),.v (.bool not),.v (.int .i64 val.kind),.v (.int .i64 val.num),.v (.string val.text),.v (.string qual),.v (.string name),.sl kids.length (kids.flatMap Expr.row) none,.sl sub.length (sub.flatMap Query.row) none])] none ⟨ak rfl (aq _),av _,?_⟩ ?_
   ·simp only[tt,seval,hac]
    exact⟨0,rfl,aa,by simp⟩
   ·rintro g' L p ⟨i,hix,hi,hac,rfl,rfl⟩
    simp only[tt,seval] at hix hac
    simp only[tt,seval,hix]
    refine fun _=>?_
    have hc:(i<sub.length/\0<=cz l0 (1+(kids.map g).sum+((sub.take i).map fun q=>((exprsQ q).map g).sum).sum))∨(cz l0 (1+(kids.map g).sum+((sub.take i).map fun q=>((exprsQ q).map g).sum).sum)=cz l0 (1+(kids.map g).sum+(sub.map fun q=>((exprsQ q).map g).sum).sum)/\i<sub.length /\ ¬ 0<=cz l0 (1+(kids.map g).sum+((sub.take i).map fun q=>((exprsQ q).map g).sum).sum))∨(cz l0 (1+(kids.map g).sum+((sub.take i).map fun q=>((exprsQ q).map g).sum).sum)=cz l0 (1+(kids.map g).sum+(sub.map fun q=>((exprsQ q).map g).sum).sum) /\ ¬i<sub.length):=by
     by_cases h1:i<sub.length
     ·by_cases h2:0<=cz l0 (1+(kids.map g).sum+((sub.take i).map fun q=>((exprsQ q).map g).sum).sum)
      ·exact .inl ⟨h1,h2⟩
      ·obtain⟨rst,hrst⟩:=fx (fun q=>((exprsQ q).map g).sum) sub i
       have hb:=fw (s:=(1+(kids.map g).sum+((sub.take i).map fun q=>((exprsQ q).map g).sum).sum)) hl0
       have h3:=oE (b:=rst) (by omega:cz l0 (1+(kids.map g).sum+((sub.take i).map fun q=>((exprsQ q).map g).sum).sum)<0) hl0
       refine .inr (.inl ⟨?_,h1,h2⟩)
       rw[show (1+(kids.map g).sum+(sub.map fun q=>((exprsQ q).map g).sum).sum)=(1+(kids.map g).sum+((sub.take i).map fun q=>((exprsQ q).map g).sum).sum)+rst by omega,h3];omega
     ·refine .inr (.inr ⟨?_,h1⟩)
      have:i=sub.length:=by omega
      subst this
      rw[List.take_length]
    rcases hc with⟨hlt,hp⟩|⟨he,hlt,hn⟩|⟨he,hge⟩
    ·simp only[tt,seval,aF (show (i:Int)<sub.length by omega),hix,hac]
     refine ab (fun _=>?_) (fun hn=>absurd hp hn)
     refine⟨aa,aa,_,aD Query.row_len (aC hlt),Query.ne _ _,?_⟩
     have hmem:sub[i]∈sub:=aH hlt
     have hqs:=lx (e:=(Expr.mk kind op not val qual name kids sub)) hmem
     have hql:=ej sub[i]
     simp only[seval,Query.tk,Query.row_len]
     refine cZ (yI sub[i] aa) ?_ ?_<;>simp only[tt,seval]
     have hl:∀x∈exprsQ sub[i],∀l:Int,0<=l->l<=200->Cl Tryz.prog 44 [.ag (ar x.row),vi l] [] fun r _=>r=vi (cz l (g x)):=fun x hx=>hg x (.inr ⟨_,hmem,hx⟩)
     have hstep2:((sub.take (i+1)).map fun q=>((exprsQ q).map g).sum).sum=((sub.take i).map fun q=>((exprsQ q).map g).sum).sum+((exprsQ sub[i]).map g).sum:=ki _ hlt
     generalize exprsQ sub[i]=l at *
     have hac2:=hac
     obtain⟨S,hS⟩:∃S,S=(1+(kids.map g).sum+((sub.take i).map fun q=>((exprsQ q).map g).sum).sum):=⟨_,rfl⟩
     rw[<-hS] at hac2
     try rw[<-hS]
     refine dLoop.intro (fun f L p=>∃k:Nat,f 8=vi k/\k<=l.length/\f 1=vi (cz l0 (S+((l.take k).map g).sum))/\L=[(2,.str [.v (.int .i64 kind),.v (.int .i64 op),.v (.bool not),.v (.int .i64 val.kind),.v (.int .i64 val.num),.v (.string val.text),.v (.string qual),.v (.string name),.sl kids.length (kids.flatMap Expr.row) none,.sl sub.length (sub.flatMap Query.row) none])]/\p=none) (fun f _ _=>(l.length-eO (f 8)).toNat) [(2,.str [.v (.int .i64 kind),.v (.int .i64 op),.v (.bool not),.v (.int .i64 val.kind),.v (.int .i64 val.num),.v (.string val.text),.v (.string qual),.v (.string name),.sl kids.length (kids.flatMap Expr.row) none,.sl sub.length (sub.flatMap Query.row) none])] none ⟨ak rfl (aq _),av _,?_⟩ ?_
     ·simp only[tt,seval,hac2]
      exact⟨0,rfl,aa,by simp⟩
     ·rintro g' L p ⟨k,hkx,hk0,hac3,rfl,rfl⟩
      simp only[tt,seval] at hkx hac3
      simp only[tt,seval,hkx]
      refine fun _=>?_
      have hc3:(k<l.length/\0<=cz l0 (S+((l.take k).map g).sum))∨(cz l0 (S+((l.take k).map g).sum)=cz l0 (S+(l.map g).sum)/\k<l.length /\ ¬ 0<=cz l0 (S+((l.take k).map g).sum))∨(cz l0 (S+((l.take k).map g).sum)=cz l0 (S+(l.map g).sum) /\ ¬k<l.length):=by
       by_cases h1:k<l.length
       ·by_cases h2:0<=cz l0 (S+((l.take k).map g).sum)
        ·exact .inl ⟨h1,h2⟩
        ·obtain⟨rst3,hrst3⟩:=fx (g) l k
         have hb3:=fw (s:=(S+((l.take k).map g).sum)) hl0
         have h3:=oE (b:=rst3) (by omega:cz l0 (S+((l.take k).map g).sum)<0) hl0
         refine .inr (.inl ⟨?_,h1,h2⟩)
         rw[show (S+(l.map g).sum)=(S+((l.take k).map g).sum)+rst3 by omega,h3];omega
       ·refine .inr (.inr ⟨?_,h1⟩)
        have:k=l.length:=by omega
        subst this
        rw[List.take_length]
      rcases hc3 with⟨hlt3,hp3⟩|⟨he3,hlt3,hn3⟩|⟨he3,hge3⟩
      ·simp only[tt,seval,aF (show (k:Int)<l.length by omega),hkx,hac3]
       refine ab (fun _=>?_) (fun hn3=>absurd hp3 hn3)
       refine⟨aa,aa,_,aD aK (aC hlt3),Expr.ne _ _,?_⟩
       simp only[seval,Expr.tk,aK]
       have hb3:=fw (s:=(S+((l.take k).map g).sum)) hl0
       refine cZ (hl l[k] (aH hlt3) (cz l0 (S+((l.take k).map g).sum)) hp3 aa) ?_ ?_<;>simp only[tt,seval,hkx]
       rw[aI (n:=(k:Int)+1) aa aa,<-sK hp3]
       exact⟨_,none,ak rfl (aq _),av _,⟨k+1,rfl,aa,o6 (by rw[ki g hlt3,Nat.add_assoc]),rfl,rfl⟩,aE⟩
      case' inr.inl=>
       simp only[tt,seval,aF (show (k:Int)<l.length by omega),hkx,hac3]
       refine ab (fun hp3=>absurd hp3 hn3) (fun _=>?_)
      case' inr.inr=>
       simp only[tt,seval,aG (show ¬(k:Int)<l.length by omega),hkx,hac3]
      all_goals
       rw[he3] at hac3
       try rw[he3]
       simp only[tt,seval,hix,hac3]
       try rw[dW i aa]
       exact⟨_,none,ak rfl (aq _),av _,⟨i+1,rfl,aa,o6 (by rw[hstep2,hS];congr 1;omega),rfl,rfl⟩,aE⟩
    case' inr.inl=>
     simp only[tt,seval,aF (show (i:Int)<sub.length by omega),hix,hac]
     refine ab (fun hp=>absurd hp hn) (fun _=>?_)
    case' inr.inr=>
     simp only[tt,seval,aG (show ¬(i:Int)<sub.length by omega),hix,hac]
    all_goals
     rw[he] at hac
     try rw[he]
     exact⟨_,_,rfl,ao rfl⟩
theorem AN (e:Expr):szExpr e<=1048576->∀l:Int,0<=l->l<=200->Cl Tryz.prog 44 [.ag (ar e.row),vi l] [] fun r _=>r=vi (cz l (ndE e)):=by
 refine gk (P:=fun e d=>szExpr e<=1048576->∀l:Int,0<=l->l<=200->Cl Tryz.prog 44 [.ag (ar e.row),vi l] [] fun r _=>r=vi (cz l d)) (fun e g hg hsz l h0 h1=>?_) e
 obtain⟨kind,op,not,val,qual,name,kids,sub⟩:=e
 exact ue kind op not val qual name kids sub g (fun x hx=>hg x hx (Nat.le_trans (gx hx) hsz)) hsz l h0 h1
theorem IG:((true==false)=false)/\((false==true)=false)/\((false==false)=true)/\((true==true)=true):=⟨rfl,rfl,rfl,rfl⟩
def zV (v:Val):Bool:=decide (v.kind=0)&&(decide (v.num=0)&&decide (v.text=⟨#[]⟩))
def dd (kind op:Int) (not:Bool) (val:Val) (qual name:ByteArray) (nk ns:Nat):Bool:=
 decide (kind=0)&&(decide (op=0)&&(decide (not=false)&&(zV val&&(decide (qual=⟨#[]⟩)&&(decide (name=⟨#[]⟩)&&(decide (nk=0)&&decide (ns=0)))))))
theorem vS (v:Val) (w:World):(Op.equalIn 10000 25 (.agg [.int .i64 v.kind,.int .i64 v.num,.string v.text].toArray) (.agg [.int .i64 0,.int .i64 0,.string ⟨#[]⟩].toArray)).run Tryz.prog w = .ok (zV v) w:=by
 refine Go.Vc.equalIn_fk (ks:=[(0,.int),(1,.int),(2,.str)]) ac ac ac ?_ w
 simp only[Go.Vc.eqFK,List.getElem?_cons_zero,List.getElem?_cons_succ,zV]
 by_cases h1:v.kind=0<;>by_cases h2:v.num=0<;>by_cases h3:v.text=⟨#[]⟩<;>simp [h1,h2,h3]
def ir (v:Val):Bool:=d4 v&&((decide (¬v.kind=1)||decide (0<=v.num))&&decide (v.text.size<=40))
def bD (s:ByteArray):Bool:=decide (1<=s.size/\s.size<=20)
def cE (s:ByteArray):Bool:=decide (s=⟨#[]⟩)||bD s
theorem CD (v:Val):Cl Tryz.prog 165 [.ag (ar v.row)] [] fun r _=>r=vb (ir v):=by
 obtain⟨zb,hzb⟩:∃zb,zb=ir v:=⟨_,rfl⟩
 rw[<-hzb,Val.row]
 refine am ah false Tryz.func165 rfl ac ?_
 simp only[Tryz.f165,tt,seval]
 refine cZ (y7 v) ?_ ?_<;>simp only[tt,seval,Val.row]
 cases hv:d4 v<;>by_cases h1:v.kind=1<;>by_cases h2:0<=v.num
 all_goals try simp only[tt,seval,h1,h2]
 all_goals try refine fun _=>?_
 all_goals exact⟨_,_,aY (by rw[hzb];simp [ir,hv,h1,h2];try omega),ao rfl⟩
theorem CE (v:Val):Cl Tryz.prog 198 [.ag (ar v.row)] [] fun r _=>r=vb (ir v):=by
 obtain⟨zb,hzb⟩:∃zb,zb=ir v:=⟨_,rfl⟩
 rw[<-hzb,Val.row]
 refine am ah false Tryz.func198 rfl ac ?_
 simp only[Tryz.f198,tt,seval]
 refine cZ (oJ v) ?_ ?_<;>simp only[tt,seval,Val.row]
 cases hv:d4 v<;>by_cases h1:v.kind=1<;>by_cases h2:0<=v.num
 all_goals try simp only[tt,seval,h1,h2]
 all_goals try refine fun _=>?_
 all_goals exact⟨_,_,aY (by rw[hzb];simp [ir,hv,h1,h2];try omega),ao rfl⟩
theorem kW (s:ByteArray):Cl Tryz.prog 167 [vs s] [] fun r _=>r=vb (cE s):=by
 refine am ah false Tryz.func167 rfl ac ?_
 simp only[Tryz.f167,tt,seval]
 by_cases h:s=⟨#[]⟩
 ·simp only[tt,seval,aF h]
  exact⟨_,_,aY (by simp [cE,h]),ao rfl⟩
 ·simp only[tt,seval,aG h]
  refine cZ (oF s) ?_ ?_<;>simp only[tt,seval]
  exact⟨_,_,aY (by simp [cE,h,bD]),ao rfl⟩
theorem vT (s:ByteArray):Cl Tryz.prog 202 [vs s] [] fun r _=>r=vb (cE s):=by
 refine am ah false Tryz.func202 rfl ac ?_
 simp only[Tryz.f202,tt,seval]
 by_cases h:s=⟨#[]⟩
 ·simp only[tt,seval,aF h]
  exact⟨_,_,aY (by simp [cE,h]),ao rfl⟩
 ·simp only[tt,seval,aG h]
  refine cZ (iD s) ?_ ?_<;>simp only[tt,seval]
  exact⟨_,_,aY (by simp [cE,h,bD]),ao rfl⟩
theorem ET (l:List Expr) (fg:FuncId):Cl Tryz.prog 176 [.c (.sl l.length (l.flatMap Expr.row) none),.c (.sl 0 [] none),.c (.fn fg [] [])] [] fun r _=>r=vb (decide (l.length=0)):=by
 refine am ah false Tryz.func176 rfl ac ?_
 simp only[Tryz.f176,tt,seval]
 refine fun _=>?_
 by_cases h:l.length=0
 case neg=>
  simp only[tt,seval,aG (show ¬(l.length:Int)=0 by omega)]
  exact⟨_,_,aY (aG h).symm,ao rfl⟩
 have hs:l=[]:=List.eq_nil_of_length_eq_zero h
 subst hs
 simp only[tt,seval]
 refine dLoop.intro (fun f L p=>f 17=vi 0/\L=[]/\p=none) (fun _ _ _=>0) [] none ⟨aq _,av _,?_⟩ ?_
 ·simp only[tt,seval]
 ·rintro g L p ⟨h5',rfl,rfl⟩
  simp only[tt,seval] at h5'
  simp only[tt,seval,h5']
  exact⟨_,_,rfl,ao rfl⟩
theorem EU (l:List Query) (fg:FuncId):Cl Tryz.prog 119 [.c (.sl l.length (l.flatMap Query.row) none),.c (.sl 0 [] none),.c (.fn fg [] [])] [] fun r _=>r=vb (decide (l.length=0)):=by
 refine am ah false Tryz.func119 rfl ac ?_
 simp only[Tryz.f119,tt,seval]
 refine fun _=>?_
 by_cases h:l.length=0
 case neg=>
  simp only[tt,seval,aG (show ¬(l.length:Int)=0 by omega)]
  exact⟨_,_,aY (aG h).symm,ao rfl⟩
 have hs:l=[]:=List.eq_nil_of_length_eq_zero h
 subst hs
 simp only[tt,seval]
 refine dLoop.intro (fun f L p=>f 17=vi 0/\L=[]/\p=none) (fun _ _ _=>0) [] none ⟨aq _,av _,?_⟩ ?_
 ·simp only[tt,seval]
 ·rintro g L p ⟨h5',rfl,rfl⟩
  simp only[tt,seval] at h5'
  simp only[tt,seval,h5']
  exact⟨_,_,rfl,ao rfl⟩
theorem yJ (l:List Expr):Cl Tryz.prog 59 [.c (.sl l.length (l.flatMap Expr.row) none),.c (.sl 0 [] none)] [] fun r _=>r=vb (decide (l.length=0)):=by
 refine am ah false Tryz.func59 rfl ac ?_
 simp only[Tryz.f59,tt,seval]
 refine fun _=>?_
 by_cases h:l.length=0
 case neg=>
  simp only[tt,seval,aG (show ¬(l.length:Int)=0 by omega)]
  exact⟨_,_,aY (aG h).symm,ao rfl⟩
 have hs:l=[]:=List.eq_nil_of_length_eq_zero h
 subst hs
 simp only[tt,seval]
 refine dLoop.intro (fun f L p=>f 5=vi 0/\L=[]/\p=none) (fun _ _ _=>0) [] none ⟨aq _,av _,?_⟩ ?_
 ·simp only[tt,seval]
 ·rintro g L p ⟨h5',rfl,rfl⟩
  simp only[tt,seval] at h5'
  simp only[tt,seval,h5']
  exact⟨_,_,rfl,ao rfl⟩
theorem rY (l:List Expr):Cl Tryz.prog 118 [.c (.sl l.length (l.flatMap Expr.row) none),.c (.sl 0 [] none)] [] fun r _=>r=vb (decide (l.length=0)):=by
 refine am ah false Tryz.func118 rfl ac ?_
 simp only[Tryz.f118,tt,seval]
 refine cZ (ET l 55) ?_ ?_<;>simp only[tt,seval]
 exact⟨_,_,rfl,ao rfl⟩
theorem AO (kind op:Int) (not:Bool) (val:Val) (qual name:ByteArray) (kids:List Expr) (sub:List Query):Cl Tryz.prog 55 [.ag (ar (Expr.mk kind op not val qual name kids sub).row),.ag (ar (Expr.mk 0 0 false ⟨0,0,⟨#[]⟩⟩ ⟨#[]⟩ ⟨#[]⟩ [] []).row)] [] fun r _=>r=vb (dd kind op not val qual name kids.length sub.length):=by
 obtain⟨zb,hzb⟩:∃zb,zb=dd kind op not val qual name kids.length sub.length:=⟨_,rfl⟩
 rw[<-hzb,ai,ai]
 refine am ah false Tryz.func55 rfl ac ?_
 simp only[Tryz.f55,tt,seval]
 by_cases h1:kind=0
 case neg=>
  simp only[tt,seval,h1]
  exact⟨_,_,aY (by rw[hzb];simp [dd,h1]),ao rfl⟩
 simp only[tt,seval,h1]
 by_cases h2:op=0
 case neg=>
  simp only[tt,seval,h2]
  exact⟨_,_,aY (by rw[hzb];simp [dd,h1,h2]),ao rfl⟩
 simp only[tt,seval,h2]
 by_cases h3:not=false
 case neg=>
  simp only[tt,seval,(Bool.not_eq_false _▸h3:not=true),IG]
  exact⟨_,_,aY (by rw[hzb];simp [dd,h1,h2,h3]),ao rfl⟩
 simp only[tt,seval,h3]
 rw[u0 ac (vS val)]
 simp only[tt,seval]
 by_cases h4:zV val=true
 case neg=>
  simp only[tt,seval,(Bool.not_eq_true _▸h4:zV val=false)]
  exact⟨_,_,aY (by rw[hzb];simp [dd,h1,h2,h3,h4]),ao rfl⟩
 simp only[tt,seval,h4]
 by_cases h5:qual=⟨#[]⟩
 case neg=>
  simp only[tt,seval,h5]
  exact⟨_,_,aY (by rw[hzb];simp [dd,h1,h2,h3,h4,h5]),ao rfl⟩
 simp only[tt,seval,h5]
 by_cases h6:name=⟨#[]⟩
 case neg=>
  simp only[tt,seval,h6]
  exact⟨_,_,aY (by rw[hzb];simp [dd,h1,h2,h3,h4,h5,h6]),ao rfl⟩
 simp only[tt,seval,h6]
 refine cZ (rY kids) ?_ ?_<;>simp only[tt,seval]
 by_cases h7:kids.length=0
 case neg=>
  simp only[tt,seval,h7]
  exact⟨_,_,aY (by rw[hzb];simp [dd,h1,h2,h3,h4,h5,h6,h7]),ao rfl⟩
 simp only[tt,seval,aF h7]
 refine cZ (EU sub 120) ?_ ?_<;>simp only[tt,seval]
 exact⟨_,_,aY (by rw[hzb];simp [dd,h1,h2,h3,h4,h5,h6,h7]),ao rfl⟩
theorem CF (kind op:Int) (not:Bool) (val:Val) (qual name:ByteArray) (kids:List Expr) (sub:List Query):Cl Tryz.prog 20 [.ag (ar (Expr.mk kind op not val qual name kids sub).row),.ag (ar (Expr.mk 0 0 false ⟨0,0,⟨#[]⟩⟩ ⟨#[]⟩ ⟨#[]⟩ [] []).row)] [] fun r _=>r=vb (dd kind op not val qual name kids.length sub.length):=by
 obtain⟨zb,hzb⟩:∃zb,zb=dd kind op not val qual name kids.length sub.length:=⟨_,rfl⟩
 rw[<-hzb,ai,ai]
 refine am ah false Tryz.func20 rfl ac ?_
 simp only[Tryz.f20,tt,seval]
 by_cases h1:kind=0
 case neg=>
  simp only[tt,seval,h1]
  exact⟨_,_,aY (by rw[hzb];simp [dd,h1]),ao rfl⟩
 simp only[tt,seval,h1]
 by_cases h2:op=0
 case neg=>
  simp only[tt,seval,h2]
  exact⟨_,_,aY (by rw[hzb];simp [dd,h1,h2]),ao rfl⟩
 simp only[tt,seval,h2]
 by_cases h3:not=false
 case neg=>
  simp only[tt,seval,(Bool.not_eq_false _▸h3:not=true),IG]
  exact⟨_,_,aY (by rw[hzb];simp [dd,h1,h2,h3]),ao rfl⟩
 simp only[tt,seval,h3]
 rw[dc ac (vS val)]
 simp only[tt,seval]
 by_cases h4:zV val=true
 case neg=>
  simp only[tt,seval,(Bool.not_eq_true _▸h4:zV val=false)]
  exact⟨_,_,aY (by rw[hzb];simp [dd,h1,h2,h3,h4]),ao rfl⟩
 simp only[tt,seval,h4]
 by_cases h5:qual=⟨#[]⟩
 case neg=>
  simp only[tt,seval,h5]
  exact⟨_,_,aY (by rw[hzb];simp [dd,h1,h2,h3,h4,h5]),ao rfl⟩
 simp only[tt,seval,h5]
 by_cases h6:name=⟨#[]⟩
 case neg=>
  simp only[tt,seval,h6]
  exact⟨_,_,aY (by rw[hzb];simp [dd,h1,h2,h3,h4,h5,h6]),ao rfl⟩
 simp only[tt,seval,h6]
 refine fun _=>?_
 by_cases h8:sub.length=0
 case neg=>
  simp only[tt,seval,aG (show ¬(sub.length:Int)=0 by omega)]
  exact⟨_,_,aY (by rw[hzb];simp [dd,h1,h2,h3,h4,h5,h6,h8]),ao rfl⟩
 simp only[tt,seval,show (sub.length:Int)=0 from by omega]
 refine cZ (yJ kids) ?_ ?_<;>simp only[tt,seval]
 by_cases h7:kids.length=0
 case neg=>
  simp only[tt,seval,h7]
  exact⟨_,_,aY (by rw[hzb];simp [dd,h1,h2,h3,h4,h5,h6,h7]),ao rfl⟩
 simp only[tt,seval,aF h7]
 have hs:sub=[]:=List.eq_nil_of_length_eq_zero h8
 subst hs
 refine dLoop.intro (fun f L p=>f 5=vi 0/\L=[(2,.str [.v (.int .i64 0),.v (.int .i64 0),.v (.bool false),.v (.int .i64 val.kind),.v (.int .i64 val.num),.v (.string val.text),.v (.string ⟨#[]⟩),.v (.string ⟨#[]⟩),.sl kids.length (kids.flatMap Expr.row) none,.sl 0 [] none])]/\p=none) (fun _ _ _=>0) [(2,.str [.v (.int .i64 0),.v (.int .i64 0),.v (.bool false),.v (.int .i64 val.kind),.v (.int .i64 val.num),.v (.string val.text),.v (.string ⟨#[]⟩),.v (.string ⟨#[]⟩),.sl kids.length (kids.flatMap Expr.row) none,.sl 0 [] none])] none ⟨ak rfl (aq _),av _,?_⟩ ?_
 ·simp only[tt,seval]
 ·rintro g L p ⟨h5',rfl,rfl⟩
  simp only[tt,seval] at h5'
  simp only[tt,seval,h5']
  exact⟨_,_,aY (by rw[hzb];simp [dd,h1,h2,h3,h4,h5,h6,h7]),ao rfl⟩
theorem iu (v:Val) (w:World):(Op.equalIn 10000 25 (.agg [.int .i64 v.kind,.int .i64 v.num,.string v.text].toArray) (.agg [.int .i64 0,.int .i64 0,.string ByteArray.empty].toArray)).run Tryz.prog w = .ok (zV v) w:=vS v w
def bJ (kind:Int):Bool×Bool×Bool×Bool×Int×Int×Int:=
 if kind=1 then (false,false,true,false,0,0,0) else if kind=2 then (false,false,false,true,0,0,0) else if kind=3 then (true,false,false,false,1,1,0) else if kind=4 then (true,false,false,false,2,2,0)
 else if kind=5 then (false,true,false,false,1,1,0) else if kind=6 then (false,true,false,false,3,3,0) else if kind=7 then (false,true,false,false,2,9,0) else if kind=8 then (false,true,false,false,1,1,1)
 else if kind=9 then (false,false,false,false,0,0,1) else (false,false,false,false,0,0,0)
def cA (kind op:Int) (val:Val) (qual name:ByteArray):Bool:=
 if kind=1 then ir val else if kind=2 then (bD name&&cE qual) else if kind=3 then (decide (op=15)||decide (op=16)) else if kind=4 then decide (1<=op/\op<=14) else decide (5<=kind/\kind<=9)
def ax (kind op:Int) (not:Bool) (val:Val) (qual name:ByteArray) (nk ns:Int):Bool:=
 cA kind op val qual name&&(((bJ kind).1||decide (op=0))&&(((bJ kind).2.1 || !not)&&(((bJ kind).2.2.1||zV val)&&(((bJ kind).2.2.2.1||(decide (qual=⟨#[]⟩)&&decide (name=⟨#[]⟩))) &&
  (decide ((bJ kind).2.2.2.2.1<=nk/\nk<=(bJ kind).2.2.2.2.2.1)&&decide (ns=(bJ kind).2.2.2.2.2.2))))))
set_option maxHeartbeats 4000000 in
theorem yK (kind op:Int) (not:Bool) (val:Val) (qual name:ByteArray) (kids:List Expr) (sub:List Query) (hkl:kids.length<=1048576) (hsl:sub.length<=1048576):Cl Tryz.prog 103 [.ag (ar (Expr.mk kind op not val qual name kids sub).row)] [] fun r _=>r=vb (ax kind op not val qual name kids.length sub.length):=by
 obtain⟨zb,hzb⟩:∃zb,zb=ax kind op not val qual name kids.length sub.length:=⟨_,rfl⟩
 rw[<-hzb,ai]
 refine am ah false Tryz.func103 rfl ac ?_
 simp only[Tryz.f103,tt,seval]
 refine fun _ _=>?_
 have hk0:0<=(kids.length:Int)/\(kids.length:Int)<=1048576:=by omega
 have hs0:0<=(sub.length:Int)/\(sub.length:Int)<=1048576:=by omega
 generalize (kids.length:Int)=nk at *
 generalize (sub.length:Int)=ns at *
 rcases (show kind=1∨kind=2∨kind=3∨kind=4∨kind=5∨kind=6∨kind=7∨kind=8∨kind=9∨(kind<1∨9<kind) by omega) with rfl|rfl|rfl|rfl|rfl|rfl|rfl|rfl|rfl|hk
 ·try simp only[tt,seval]
  by_cases hq:qual=⟨#[]⟩
  case neg=>
   simp only[tt,seval,hq]
   exact⟨_,_,aY (by rw[hzb];simp [ax,cA,bJ,hq];try omega),ao rfl⟩
  simp only[tt,seval,hq]
  by_cases hn:name=⟨#[]⟩
  case neg=>
   simp only[tt,seval,hn]
   exact⟨_,_,aY (by rw[hzb];simp [ax,cA,bJ,hq,hn];try omega),ao rfl⟩
  simp only[tt,seval,hn]
  by_cases ho:op=0
  case neg=>
   simp only[tt,seval,ho]
   exact⟨_,_,aY (by rw[hzb];simp [ax,cA,bJ,hq,hn,ho];try omega),ao rfl⟩
  simp only[tt,seval,ho]
  cases not
  case true=>
   simp only[tt,seval]
   refine cZ (dS 1 5 8) ?_ ?_<;>simp only[tt,seval]
   exact⟨_,_,aY (by rw[hzb];simp [ax,cA,bJ,hq,hn,ho];try omega),ao rfl⟩
  simp only[tt,seval]
  refine cZ (CD val) ?_ ?_<;>simp only[tt,seval,Val.row]
  cases hl:ir val
  case false=>
   simp only[tt,seval]
   exact⟨_,_,aY (by rw[hzb];simp [ax,cA,bJ,hq,hn,ho,hl];try omega),ao rfl⟩
  simp only[tt,seval]
  rw[aI aa aa]
  by_cases hz:nk+ns=0
  case neg=>
   simp only[tt,seval,hz]
   exact⟨_,_,aY (by rw[hzb];simp [ax,cA,bJ,hq,hn,ho,hl];try omega),ao rfl⟩
  simp only[tt,seval,hz]
  exact⟨_,_,aY (by rw[hzb];simp [ax,cA,bJ,hq,hn,ho,hl];try omega),ao rfl⟩
 ·try simp only[tt,seval]
  rw[dc ac (iu val)]
  simp only[tt,seval]
  cases hv:zV val
  case false=>
   simp only[tt,seval]
   exact⟨_,_,aY (by rw[hzb];simp [ax,cA,bJ,bD,hv];try omega),ao rfl⟩
  simp only[tt,seval]
  by_cases ho:op=0
  case neg=>
   simp only[tt,seval,ho]
   exact⟨_,_,aY (by rw[hzb];simp [ax,cA,bJ,bD,hv,ho];try omega),ao rfl⟩
  simp only[tt,seval,ho]
  cases not
  case true=>
   simp only[tt,seval]
   refine cZ (dS 2 5 8) ?_ ?_<;>simp only[tt,seval]
   exact⟨_,_,aY (by rw[hzb];simp [ax,cA,bJ,bD,hv,ho];try omega),ao rfl⟩
  simp only[tt,seval]
  refine cZ (oF name) ?_ ?_<;>simp only[tt,seval]
  cases hnb:decide (1<=name.size/\name.size<=20)
  case false=>
   simp only[tt,seval]
   exact⟨_,_,aY (by rw[hzb];simp [ax,cA,bJ,bD,hv,ho,hnb];try omega),ao rfl⟩
  simp only[tt,seval]
  refine cZ (kW qual) ?_ ?_<;>simp only[tt,seval]
  cases hmb:cE qual
  case false=>
   simp only[tt,seval]
   exact⟨_,_,aY (by rw[hzb];simp [ax,cA,bJ,bD,hv,ho,hnb,hmb];try omega),ao rfl⟩
  simp only[tt,seval]
  rw[aI aa aa]
  by_cases hz:nk+ns=0
  case neg=>
   simp only[tt,seval,hz]
   exact⟨_,_,aY (by rw[hzb];simp [ax,cA,bJ,bD,hv,ho,hnb,hmb];try omega),ao rfl⟩
  simp only[tt,seval,hz]
  exact⟨_,_,aY (by rw[hzb];simp [ax,cA,bJ,bD,hv,ho,hnb,hmb];try omega),ao rfl⟩
 ·try simp only[tt,seval]
  by_cases hq:qual=⟨#[]⟩
  case neg=>
   simp only[tt,seval,hq]
   exact⟨_,_,aY (by rw[hzb];simp [ax,cA,bJ,hq];try omega),ao rfl⟩
  simp only[tt,seval,hq]
  by_cases hn:name=⟨#[]⟩
  case neg=>
   simp only[tt,seval,hn]
   exact⟨_,_,aY (by rw[hzb];simp [ax,cA,bJ,hq,hn];try omega),ao rfl⟩
  simp only[tt,seval,hn]
  rw[dc ac (iu val)]
  simp only[tt,seval]
  cases hv:zV val
  case false=>
   simp only[tt,seval]
   exact⟨_,_,aY (by rw[hzb];simp [ax,cA,bJ,hq,hn,hv];try omega),ao rfl⟩
  simp only[tt,seval]
  cases not
  case true=>
   simp only[tt,seval]
   refine cZ (dS 3 5 8) ?_ ?_<;>simp only[tt,seval]
   exact⟨_,_,aY (by rw[hzb];simp [ax,cA,bJ,hq,hn,hv];try omega),ao rfl⟩
  simp only[tt,seval]
  by_cases ho15:op=15
  case' neg=>
   simp only[tt,seval,ho15]
   by_cases ho16:op=16
   case neg=>
    simp only[tt,seval,ho16]
    exact⟨_,_,aY (by rw[hzb];simp [ax,cA,bJ,hq,hn,hv,ho15,ho16];try omega),ao rfl⟩
   simp only[tt,seval,ho16]
  case' pos=>try simp only[tt,seval,ho15]
  all_goals
   by_cases hk1:nk=1
   case neg=>
    simp only[tt,seval,hk1]
    exact⟨_,_,aY (by rw[hzb];simp [ax,cA,bJ, *];try omega),ao rfl⟩
   simp only[tt,seval,hk1]
   by_cases hs0:ns=0
   case neg=>
    simp only[tt,seval,hs0]
    exact⟨_,_,aY (by rw[hzb];simp [ax,cA,bJ, *];try omega),ao rfl⟩
   simp only[tt,seval,hs0]
   exact⟨_,_,aY (by rw[hzb];simp [ax,cA,bJ, *];try omega),ao rfl⟩
 ·try simp only[tt,seval]
  by_cases hq:qual=⟨#[]⟩
  case neg=>
   simp only[tt,seval,hq]
   exact⟨_,_,aY (by rw[hzb];simp [ax,cA,bJ,hq];try omega),ao rfl⟩
  simp only[tt,seval,hq]
  by_cases hn:name=⟨#[]⟩
  case neg=>
   simp only[tt,seval,hn]
   exact⟨_,_,aY (by rw[hzb];simp [ax,cA,bJ,hq,hn];try omega),ao rfl⟩
  simp only[tt,seval,hn]
  rw[dc ac (iu val)]
  simp only[tt,seval]
  cases hv:zV val
  case false=>
   simp only[tt,seval]
   exact⟨_,_,aY (by rw[hzb];simp [ax,cA,bJ,hq,hn,hv];try omega),ao rfl⟩
  simp only[tt,seval]
  cases not
  case true=>
   simp only[tt,seval]
   refine cZ (dS 4 5 8) ?_ ?_<;>simp only[tt,seval]
   exact⟨_,_,aY (by rw[hzb];simp [ax,cA,bJ,hq,hn,hv];try omega),ao rfl⟩
  simp only[tt,seval]
  refine cZ (dS op 1 14) ?_ ?_<;>simp only[tt,seval]
  cases hop:decide ((1:Int)<=op/\op<=14)
  case false=>
   simp only[tt,seval]
   exact⟨_,_,aY (by rw[hzb];simp [ax,cA,bJ,hq,hn,hv,hop];try omega),ao rfl⟩
  simp only[tt,seval]
  by_cases hk2:nk=2
  case neg=>
   simp only[tt,seval,hk2]
   exact⟨_,_,aY (by rw[hzb];simp [ax,cA,bJ,hq,hn,hv,hop];try omega),ao rfl⟩
  simp only[tt,seval,hk2]
  by_cases hs0:ns=0
  case neg=>
   simp only[tt,seval,hs0]
   exact⟨_,_,aY (by rw[hzb];simp [ax,cA,bJ,hq,hn,hv,hop,hk2,hs0];try omega),ao rfl⟩
  simp only[tt,seval,hs0]
  exact⟨_,_,aY (by rw[hzb];simp [ax,cA,bJ,hq,hn,hv,hop,hk2,hs0];try omega),ao rfl⟩
 ·try simp only[tt,seval]
  by_cases hq:qual=⟨#[]⟩
  case neg=>
   simp only[tt,seval,hq]
   exact⟨_,_,aY (by rw[hzb];simp [ax,cA,bJ,hq];try omega),ao rfl⟩
  simp only[tt,seval,hq]
  by_cases hn:name=⟨#[]⟩
  case neg=>
   simp only[tt,seval,hn]
   exact⟨_,_,aY (by rw[hzb];simp [ax,cA,bJ,hq,hn];try omega),ao rfl⟩
  simp only[tt,seval,hn]
  rw[dc ac (iu val)]
  simp only[tt,seval]
  cases hv:zV val
  case false=>
   simp only[tt,seval]
   exact⟨_,_,aY (by rw[hzb];simp [ax,cA,bJ,hq,hn,hv];try omega),ao rfl⟩
  simp only[tt,seval]
  by_cases ho:op=0
  case neg=>
   simp only[tt,seval,ho]
   exact⟨_,_,aY (by rw[hzb];simp [ax,cA,bJ,hq,hn,hv,ho];try omega),ao rfl⟩
  simp only[tt,seval,ho]
  cases not
  case' true=>
   simp only[tt,seval]
   refine cZ (dS 5 5 8) ?_ ?_<;>simp only[tt,seval]
  case' false=>try simp only[tt,seval]
  all_goals
   by_cases hk1:nk=1
   case neg=>
    simp only[tt,seval,hk1]
    exact⟨_,_,aY (by rw[hzb];simp [ax,cA,bJ,hq,hn,hv,ho];try omega),ao rfl⟩
   simp only[tt,seval,hk1]
   by_cases hs0:ns=0
   case neg=>
    simp only[tt,seval,hs0]
    exact⟨_,_,aY (by rw[hzb];simp [ax,cA,bJ,hq,hn,hv,ho,hk1,hs0];try omega),ao rfl⟩
   simp only[tt,seval,hs0]
   exact⟨_,_,aY (by rw[hzb];simp [ax,cA,bJ,hq,hn,hv,ho,hk1,hs0];try omega),ao rfl⟩
 ·try simp only[tt,seval]
  by_cases hq:qual=⟨#[]⟩
  case neg=>
   simp only[tt,seval,hq]
   exact⟨_,_,aY (by rw[hzb];simp [ax,cA,bJ,hq];try omega),ao rfl⟩
  simp only[tt,seval,hq]
  by_cases hn:name=⟨#[]⟩
  case neg=>
   simp only[tt,seval,hn]
   exact⟨_,_,aY (by rw[hzb];simp [ax,cA,bJ,hq,hn];try omega),ao rfl⟩
  simp only[tt,seval,hn]
  rw[dc ac (iu val)]
  simp only[tt,seval]
  cases hv:zV val
  case false=>
   simp only[tt,seval]
   exact⟨_,_,aY (by rw[hzb];simp [ax,cA,bJ,hq,hn,hv];try omega),ao rfl⟩
  simp only[tt,seval]
  by_cases ho:op=0
  case neg=>
   simp only[tt,seval,ho]
   exact⟨_,_,aY (by rw[hzb];simp [ax,cA,bJ,hq,hn,hv,ho];try omega),ao rfl⟩
  simp only[tt,seval,ho]
  cases not
  case' true=>
   simp only[tt,seval]
   refine cZ (dS 6 5 8) ?_ ?_<;>simp only[tt,seval]
  case' false=>try simp only[tt,seval]
  all_goals
   by_cases hk3:nk=3
   case neg=>
    simp only[tt,seval,hk3]
    exact⟨_,_,aY (by rw[hzb];simp [ax,cA,bJ,hq,hn,hv,ho];try omega),ao rfl⟩
   simp only[tt,seval,hk3]
   by_cases hs0:ns=0
   case neg=>
    simp only[tt,seval,hs0]
    exact⟨_,_,aY (by rw[hzb];simp [ax,cA,bJ,hq,hn,hv,ho,hk3,hs0];try omega),ao rfl⟩
   simp only[tt,seval,hs0]
   exact⟨_,_,aY (by rw[hzb];simp [ax,cA,bJ,hq,hn,hv,ho,hk3,hs0];try omega),ao rfl⟩
 ·try simp only[tt,seval]
  by_cases hq:qual=⟨#[]⟩
  case neg=>
   simp only[tt,seval,hq]
   exact⟨_,_,aY (by rw[hzb];simp [ax,cA,bJ,hq];try omega),ao rfl⟩
  simp only[tt,seval,hq]
  by_cases hn:name=⟨#[]⟩
  case neg=>
   simp only[tt,seval,hn]
   exact⟨_,_,aY (by rw[hzb];simp [ax,cA,bJ,hq,hn];try omega),ao rfl⟩
  simp only[tt,seval,hn]
  rw[dc ac (iu val)]
  simp only[tt,seval]
  cases hv:zV val
  case false=>
   simp only[tt,seval]
   exact⟨_,_,aY (by rw[hzb];simp [ax,cA,bJ,hq,hn,hv];try omega),ao rfl⟩
  simp only[tt,seval]
  by_cases ho:op=0
  case neg=>
   simp only[tt,seval,ho]
   exact⟨_,_,aY (by rw[hzb];simp [ax,cA,bJ,hq,hn,hv,ho];try omega),ao rfl⟩
  simp only[tt,seval,ho]
  cases not
  case' true=>
   simp only[tt,seval]
   refine cZ (dS 7 5 8) ?_ ?_<;>simp only[tt,seval]
  case' false=>try simp only[tt,seval]
  all_goals
   refine cZ (dS nk 2 9) ?_ ?_<;>simp only[tt,seval]
   cases hkr:decide ((2:Int)<=nk/\nk<=9)
   case false=>
    simp only[tt,seval]
    exact⟨_,_,aY (by rw[hzb];simp [ax,cA,bJ,hq,hn,hv,ho,hkr];try omega),ao rfl⟩
   simp only[tt,seval]
   by_cases hs0:ns=0
   case neg=>
    simp only[tt,seval,hs0]
    exact⟨_,_,aY (by rw[hzb];simp [ax,cA,bJ,hq,hn,hv,ho,hkr,hs0];try omega),ao rfl⟩
   simp only[tt,seval,hs0]
   exact⟨_,_,aY (by rw[hzb];simp [ax,cA,bJ,hq,hn,hv,ho,hkr,hs0];try omega),ao rfl⟩
 ·try simp only[tt,seval]
  by_cases hq:qual=⟨#[]⟩
  case neg=>
   simp only[tt,seval,hq]
   exact⟨_,_,aY (by rw[hzb];simp [ax,cA,bJ,hq];try omega),ao rfl⟩
  simp only[tt,seval,hq]
  by_cases hn:name=⟨#[]⟩
  case neg=>
   simp only[tt,seval,hn]
   exact⟨_,_,aY (by rw[hzb];simp [ax,cA,bJ,hq,hn];try omega),ao rfl⟩
  simp only[tt,seval,hn]
  rw[dc ac (iu val)]
  simp only[tt,seval]
  cases hv:zV val
  case false=>
   simp only[tt,seval]
   exact⟨_,_,aY (by rw[hzb];simp [ax,cA,bJ,hq,hn,hv];try omega),ao rfl⟩
  simp only[tt,seval]
  by_cases ho:op=0
  case neg=>
   simp only[tt,seval,ho]
   exact⟨_,_,aY (by rw[hzb];simp [ax,cA,bJ,hq,hn,hv,ho];try omega),ao rfl⟩
  simp only[tt,seval,ho]
  cases not
  case' true=>
   simp only[tt,seval]
   refine cZ (dS 8 5 8) ?_ ?_<;>simp only[tt,seval]
  case' false=>try simp only[tt,seval]
  all_goals
   by_cases hk1:nk=1
   case neg=>
    simp only[tt,seval,hk1]
    exact⟨_,_,aY (by rw[hzb];simp [ax,cA,bJ,hq,hn,hv,ho];try omega),ao rfl⟩
   simp only[tt,seval,hk1]
   by_cases hs1:ns=1
   case neg=>
    simp only[tt,seval,hs1]
    exact⟨_,_,aY (by rw[hzb];simp [ax,cA,bJ,hq,hn,hv,ho,hk1,hs1];try omega),ao rfl⟩
   simp only[tt,seval,hs1]
   exact⟨_,_,aY (by rw[hzb];simp [ax,cA,bJ,hq,hn,hv,ho,hk1,hs1];try omega),ao rfl⟩
 ·try simp only[tt,seval]
  by_cases hq:qual=⟨#[]⟩
  case neg=>
   simp only[tt,seval,hq]
   exact⟨_,_,aY (by rw[hzb];simp [ax,cA,bJ,hq];try omega),ao rfl⟩
  simp only[tt,seval,hq]
  by_cases hn:name=⟨#[]⟩
  case neg=>
   simp only[tt,seval,hn]
   exact⟨_,_,aY (by rw[hzb];simp [ax,cA,bJ,hq,hn];try omega),ao rfl⟩
  simp only[tt,seval,hn]
  rw[dc ac (iu val)]
  simp only[tt,seval]
  cases hv:zV val
  case false=>
   simp only[tt,seval]
   exact⟨_,_,aY (by rw[hzb];simp [ax,cA,bJ,hq,hn,hv];try omega),ao rfl⟩
  simp only[tt,seval]
  by_cases ho:op=0
  case neg=>
   simp only[tt,seval,ho]
   exact⟨_,_,aY (by rw[hzb];simp [ax,cA,bJ,hq,hn,hv,ho];try omega),ao rfl⟩
  simp only[tt,seval,ho]
  cases not
  case true=>
   simp only[tt,seval]
   refine cZ (dS 9 5 8) ?_ ?_<;>simp only[tt,seval]
   exact⟨_,_,aY (by rw[hzb];simp [ax,cA,bJ,hq,hn,hv,ho];try omega),ao rfl⟩
  simp only[tt,seval]
  by_cases hk0:nk=0
  case neg=>
   simp only[tt,seval,hk0]
   exact⟨_,_,aY (by rw[hzb];simp [ax,cA,bJ,hq,hn,hv,ho];try omega),ao rfl⟩
  simp only[tt,seval,hk0]
  by_cases hs1:ns=1
  case neg=>
   simp only[tt,seval,hs1]
   exact⟨_,_,aY (by rw[hzb];simp [ax,cA,bJ,hq,hn,hv,ho,hk0,hs1];try omega),ao rfl⟩
  simp only[tt,seval,hs1]
  exact⟨_,_,aY (by rw[hzb];simp [ax,cA,bJ,hq,hn,hv,ho,hk0,hs1];try omega),ao rfl⟩
 ·have n1:¬kind=1:=by omega
  have n2:¬kind=2:=by omega
  have n3:¬kind=3:=by omega
  have n4:¬kind=4:=by omega
  have n5:¬kind=5:=by omega
  have n6:¬kind=6:=by omega
  have n7:¬kind=7:=by omega
  have n8:¬kind=8:=by omega
  have n9:¬kind=9:=by omega
  have hk58:decide ((5:Int)<=kind/\kind<=8)=false:=aG aa
  simp only[tt,seval,n2]
  by_cases hq:qual=⟨#[]⟩
  case neg=>
   simp only[tt,seval,hq,n3,n4]
   exact⟨_,_,aY (by rw[hzb];simp [ax,cA,bJ,n1,n2,n3,n4,n5,n6,n7,n8,n9,hq];try omega),ao rfl⟩
  simp only[tt,seval,hq]
  by_cases hn:name=⟨#[]⟩
  case neg=>
   simp only[tt,seval,hn,n3,n4]
   exact⟨_,_,aY (by rw[hzb];simp [ax,cA,bJ,n1,n2,n3,n4,n5,n6,n7,n8,n9,hq,hn];try omega),ao rfl⟩
  simp only[tt,seval,hn,n1]
  rw[dc ac (iu val)]
  simp only[tt,seval,n3,n4]
  cases hv:zV val
  case false=>
   simp only[tt,seval]
   exact⟨_,_,aY (by rw[hzb];simp [ax,cA,bJ,n1,n2,n3,n4,n5,n6,n7,n8,n9,hq,hn,hv];try omega),ao rfl⟩
  simp only[tt,seval]
  by_cases ho:op=0
  case neg=>
   simp only[tt,seval,ho,n1,n2,n3,n4,n5,n6,n7,n8,n9]
   exact⟨_,_,aY (by rw[hzb];simp [ax,cA,bJ,n1,n2,n3,n4,n5,n6,n7,n8,n9,hq,hn,hv,ho];try omega),ao rfl⟩
  simp only[tt,seval,ho]
  cases not
  case true=>
   simp only[tt,seval]
   refine cZ (dS kind 5 8) ?_ ?_<;>simp only[tt,seval]
   simp only[tt,seval,hk58]
   exact⟨_,_,aY (by rw[hzb];simp [ax,cA,bJ,n1,n2,n3,n4,n5,n6,n7,n8,n9];try omega),ao rfl⟩
  case false=>
   simp only[tt,seval,n1,n2,n3,n4,n5,n6,n7,n8,n9]
   exact⟨_,_,aY (by rw[hzb];simp [ax,cA,bJ,n1,n2,n3,n4,n5,n6,n7,n8,n9];try omega),ao rfl⟩
def eP (kind op:Int) (val:Val) (qual name:ByteArray):S:=.tu [([.v (.bool (bJ kind).1),.v (.bool (bJ kind).2.1),.v (.bool (bJ kind).2.2.1),.v (.bool (bJ kind).2.2.2.1),.v (.int .i64 (bJ kind).2.2.2.2.1),.v (.int .i64 (bJ kind).2.2.2.2.2.1),.v (.int .i64 (bJ kind).2.2.2.2.2.2)],false),([.v (.bool (cA kind op val qual name))],true)]
set_option maxHeartbeats 2000000 in
theorem uf (kind op:Int) (not:Bool) (val:Val) (qual name:ByteArray) (kids:List Expr) (sub:List Query):Cl Tryz.prog 136 [.ag (ar (Expr.mk kind op not val qual name kids sub).row)] [] fun r _=>r=eP kind op val qual name:=by
 obtain⟨zs,hzs⟩:∃zs,zs=eP kind op val qual name:=⟨_,rfl⟩
 rw[<-hzs,ai]
 refine am ah false Tryz.func136 rfl ac ?_
 simp only[Tryz.f136,tt,seval]
 rcases (show kind=1∨kind=2∨kind=3∨kind=4∨kind=5∨kind=6∨kind=7∨kind=8∨kind=9∨(kind<1∨9<kind) by omega) with rfl|rfl|rfl|rfl|rfl|rfl|rfl|rfl|rfl|hk
 ·try simp only[tt,seval]
  refine cZ (CE val) ?_ ?_<;>simp only[tt,seval,Val.row]
  exact⟨_,_,(by rw[hzs];simp [eP,cA,bJ,]),ao rfl⟩
 ·try simp only[tt,seval]
  refine cZ (iD name) ?_ ?_<;>simp only[tt,seval]
  cases hnb:decide (1<=name.size/\name.size<=20)
  case false=>
   simp only[tt,seval]
   exact⟨_,_,(by rw[hzs];simp [eP,cA,bJ,bD,cE,hnb]),ao rfl⟩
  simp only[tt,seval]
  by_cases hq:qual=⟨#[]⟩
  case pos=>
   simp only[tt,seval,hq]
   exact⟨_,_,(by rw[hzs];simp [eP,cA,bJ,bD,cE,hnb,hq]),ao rfl⟩
  simp only[tt,seval,hq]
  refine cZ (iD qual) ?_ ?_<;>simp only[tt,seval]
  exact⟨_,_,(by rw[hzs];simp [eP,cA,bJ,bD,cE,hnb,hq]),ao rfl⟩
 ·try simp only[tt,seval]
  refine dDrawn.intro [] (.take 0 (.take 1 (.take 2 (.take 3 (.take 4 (.take 5 (.br 6 (.take 7 (.take 8 (.br 9 (.take 10 .done) .nobr))) (.br 9 (.take 6 (.take 7 (.take 8 (.take 10 .done)))) .nobr)))))))) ac ?_
  simp only[tt,seval]
  by_cases h15:op=15
  case pos=>
   simp only[tt,seval,aF h15]
   refine ab ?_ ?_<;>exact⟨_,_,(by rw[hzs];simp [eP,cA,bJ,h15]),ao rfl⟩
  simp only[tt,seval,aG h15]
  refine ab ?_ ?_<;>exact⟨_,_,(by rw[hzs];simp [eP,cA,bJ,h15]),ao rfl⟩
 ·try simp only[tt,seval]
  refine dDrawn.intro [] (.take 0 (.take 1 (.take 2 (.take 3 (.take 4 (.take 5 (.br 6 (.take 7 (.take 8 (.br 9 (.take 10 .done) .nobr))) (.br 9 (.take 6 (.take 7 (.take 8 (.take 10 .done)))) .nobr)))))))) ac ?_
  simp only[tt,seval]
  by_cases h1:1<=op
  case neg=>
   simp only[tt,seval,aG h1]
   refine ab ?_ ?_<;>exact⟨_,_,(by rw[hzs];simp [eP,cA,bJ,h1]),ao rfl⟩
  simp only[tt,seval,aF h1]
  refine ab ?_ ?_<;>exact⟨_,_,(by rw[hzs];simp [eP,cA,bJ,h1]),ao rfl⟩
 ·try simp only[tt,seval]
  exact⟨_,_,(by rw[hzs];simp [eP,cA,bJ,]),ao rfl⟩
 ·try simp only[tt,seval]
  exact⟨_,_,(by rw[hzs];simp [eP,cA,bJ,]),ao rfl⟩
 ·try simp only[tt,seval]
  exact⟨_,_,(by rw[hzs];simp [eP,cA,bJ,]),ao rfl⟩
 ·try simp only[tt,seval]
  exact⟨_,_,(by rw[hzs];simp [eP,cA,bJ,]),ao rfl⟩
 ·try simp only[tt,seval]
  exact⟨_,_,(by rw[hzs];simp [eP,cA,bJ,]),ao rfl⟩
 ·have n1:¬kind=1:=by omega
  have n2:¬kind=2:=by omega
  have n3:¬kind=3:=by omega
  have n4:¬kind=4:=by omega
  have n5:¬kind=5:=by omega
  have n6:¬kind=6:=by omega
  have n7:¬kind=7:=by omega
  have n8:¬kind=8:=by omega
  have n9:¬kind=9:=by omega
  simp only[tt,seval,n1,n2,n3,n4,n5,n6,n7,n8,n9]
  exact⟨_,_,(by rw[hzs];simp [eP,cA,bJ,n1,n2,n3,n4,n5,n6,n7,n8,n9];omega),ao rfl⟩
end Go.Proofs.YtoegnikpokgbfaaGreatDoor
