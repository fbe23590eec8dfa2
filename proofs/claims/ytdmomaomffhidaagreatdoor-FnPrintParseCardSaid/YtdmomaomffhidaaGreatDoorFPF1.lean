/-
  Trees in order.
  Conditions: none.
-/
import Derived.Test.YtdmomaomffhidaaGreatDoorFPB1
set_option linter.unusedVariables false
set_option linter.unusedSimpArgs false
set_option linter.unusedSectionVars false
set_option linter.unnecessarySimpa false
set_option maxRecDepth 8000
namespace Go.Proofs.YtdmomaomffhidaaGreatDoor
open Go Go.Dv
open Go.Vc (D cU cV cF b0)
theorem pn (distinct:Bool) (items:List Item) (from_:List Source) (where_:List Expr) (order:List SortKey) (limit:Int) (hsz:szQuery (Query.mk distinct items from_ where_ order limit)<=1048576):Cl Tryz.prog 97 [.ag (ar (Query.mk distinct items from_ where_ order limit).row)] [] fun r _=>r = .c (.sl (exprsQ (Query.mk distinct items from_ where_ order limit)).length ((exprsQ (Query.mk distinct items from_ where_ order limit)).flatMap Expr.row) none):=by
 have hlen:=fe (Query.mk distinct items from_ where_ order limit)
 have q0:exprsQ (Query.mk distinct items from_ where_ order limit)=aY items++from_.flatMap Source.on++where_++order.map SortKey.e:=rfl
 rw[q0] at hlen ⊢
 simp only[aB,List.length_map] at hlen
 have htot:=Nat.le_trans hlen hsz
 have hil:=eE items
 rw[dt,dM,d4,aO,cI] at hsz
 rw[bj]
 refine ai ac false Tryz.func97 rfl ae ?_
 simp only[Tryz.f97,tt,seval]
 refine dLoop.gh [.ren 7 30] ⟨ah,ah,?_⟩
 refine dLoop0.intro (fun f L p=>∃(i:Nat) (es:List Expr),f 4=vi i/\f 3 = .c (.s 30 es.length)/\i<=items.length/\es=aY (items.take i)/\L=[(1,.str [.v (.bool distinct),.sl items.length (items.flatMap Item.row) none,.sl from_.length (from_.flatMap Source.row) none,.sl where_.length (where_.flatMap Expr.row) none,.sl order.length (order.flatMap SortKey.row) none,.v (.int .i64 limit)]),(30,.arr 46 es.length (es.flatMap Expr.row) none)]/\p=none) (fun f _ _=>(items.length-eN (f 4)).toNat) [(1,.str [.v (.bool distinct),.sl items.length (items.flatMap Item.row) none,.sl from_.length (from_.flatMap Source.row) none,.sl where_.length (where_.flatMap Expr.row) none,.sl order.length (order.flatMap SortKey.row) none,.v (.int .i64 limit)]),(30,.arr 46 0 [] none)] none ⟨al rfl (al rfl (ao _)),aq _,?_⟩ ?_
 ·simp only[tt,seval]
  exact⟨0,[],rfl,rfl,aa,rfl,rfl⟩
 ·rintro g L p ⟨i,es,hi4,h3,hi,hes,rfl,rfl⟩
  simp only[tt,seval] at hi4 h3
  simp only[tt,seval,hi4,Int.ofNat_lt]
  refine fun _=>?_
  refine ab (fun hlt=>?_) (fun hge=>?_)
  ·have hlt:i<items.length:=by omega
   have hst:=pB hlt
   have hel:es.length<=items.length:=by rw[hes];exact Nat.le_trans (eE _) (by rw[List.length_take];omega)
   have hei:es.length<=i:=by rw[hes];exact Nat.le_trans (eE _) (by rw[List.length_take];omega)
   obtain⟨it,bt⟩:∃it,it=items[i]:=⟨_,rfl⟩
   rw[<-bt] at hst
   refine⟨aa,aa,_,aD Item.row_len (aA hlt),Item.ne _ _,?_⟩
   obtain⟨star,qual,⟨k,o,n,v,q,m,ks,ss⟩,as_⟩:=it
   rw[<-bt,Item.row_mk,ak]
   simp only[tt,seval,hi4,h3,Int.ofNat_lt]
   refine ab (fun hs=>?_) (fun hs=>?_)
   ·have hs:star=false:=by simpa only[Bool.not_eq_true'] using hs
    refine⟨aa,aa,_,aD Item.row_len (aA hlt),Item.ne _ _,?_⟩
    rw[<-bt,Item.row_mk,ak]
    simp only[tt,seval,hi4]
    refine qj ?_
    have e:es.flatMap Expr.row++[int k,int o,bool n,int v.kind,int v.num,str v.text,str q,str m,.sl ks.length (ks.flatMap Expr.row),.sl ss.length (ss.flatMap Query.row)]=(es++[Expr.mk k o n v q m ks ss]).flatMap Expr.row:=by rw[List.flatMap_append];simp [ak]
    have e2:es.length+1=(es++[Expr.mk k o n v q m ks ss]).length:=by simp
    rw[e,e2]
    try rw[dY i aa]
    exact⟨_,none,al rfl (al rfl (ao _)),aq _,⟨i+1,_,rfl,rfl,aa,by rw[hst,hes];subst hs;rfl,rfl,rfl⟩,az⟩
   ·have hs:star=true:=by simpa only[Bool.not_eq_false'] using hs
    try rw[dY i aa]
    exact⟨_,none,al rfl (al rfl (ao _)),aq _,⟨i+1,es,rfl,rfl,aa,by rw[hst,hes];subst hs;simp [Item.star],rfl,rfl⟩,az⟩
  ·have hie:i=items.length:=by omega
   subst hie
   rw[List.take_length] at hes
   subst hes
   refine dLoop.gh [.ren 30 45] ⟨ah,ah,?_⟩
   refine dLoop0.intro (fun f L p=>∃(i:Nat) (es:List Expr),f 5=vi i/\f 3 = .c (.s 45 es.length)/\i<=from_.length/\es=aY items++(from_.take i).flatMap Source.on/\L=[(1,.str [.v (.bool distinct),.sl items.length (items.flatMap Item.row) none,.sl from_.length (from_.flatMap Source.row) none,.sl where_.length (where_.flatMap Expr.row) none,.sl order.length (order.flatMap SortKey.row) none,.v (.int .i64 limit)]),(45,.arr 46 es.length (es.flatMap Expr.row) none)]/\p=none) (fun f _ _=>(from_.length-eN (f 5)).toNat) [(1,.str [.v (.bool distinct),.sl items.length (items.flatMap Item.row) none,.sl from_.length (from_.flatMap Source.row) none,.sl where_.length (where_.flatMap Expr.row) none,.sl order.length (order.flatMap SortKey.row) none,.v (.int .i64 limit)]),(45,.arr 46 (aY items).length ((aY items).flatMap Expr.row) none)] none ⟨al rfl (al rfl (ao _)),aq _,?_⟩ ?_
   ·simp only[tt,seval,h3]
    exact⟨0,aY items,rfl,rfl,aa,by simp,rfl⟩
   ·rintro g L p ⟨i,es,hi5,h3,hi,hes,rfl,rfl⟩
    simp only[tt,seval] at hi5 h3
    simp only[tt,seval,hi5,h3,Int.ofNat_lt]
    refine fun _=>?_
    refine ab (fun hlt=>?_) (fun hge=>?_)
    ·have hlt:i<from_.length:=by omega
     have hst:=zn hlt
     have hel:es.length<=(aY items).length+(from_.flatMap Source.on).length:=by have:=pC from_ i;rw[hes,aB];omega
     obtain⟨it,bt⟩:∃it,it=from_[i]:=⟨_,rfl⟩
     rw[<-bt] at hst
     have hon:it.on.length<=1048576:=by
      have h1:=fy cD (aJ hlt)
      rw[<-bt] at h1
      obtain⟨table,as_,on⟩:=it
      rw[dk,aO] at h1
      show on.length<=_
      omega
     refine⟨aa,aa,_,aD Source.row_len (aA hlt),Source.ne _ _,?_⟩
     obtain⟨table,as_,on⟩:=it
     have hon:on.length<=1048576:=hon
     rw[<-bt,Source.row_mk]
     simp only[tt,seval]
     refine⟨ae,by rw[bT aI],⟨by simp only[maxLen];omega,aa⟩,?_⟩
     have e2:es.length+on.length=(es++on).length:=by simp
     rw[<-List.flatMap_append,e2]
     try rw[dY i aa]
     exact⟨_,none,al rfl (al rfl (ao _)),aq _,⟨i+1,_,rfl,rfl,aa,by rw[hst,hes,aK];rfl,rfl,rfl⟩,az⟩
    ·have hie:i=from_.length:=by omega
     subst hie
     rw[List.take_length] at hes
     have hel:es.length=(aY items).length+(from_.flatMap Source.on).length:=by rw[hes,aB]
     refine⟨ae,by rw[bT aI],⟨by simp only[maxLen];omega,aa⟩,?_⟩
     have e2:es.length+where_.length=(es++where_).length:=by simp
     rw[<-List.flatMap_append,e2]
     obtain⟨fs,hfs⟩:∃fs,fs=es++where_:=⟨_,rfl⟩
     have hfl:fs.length=(aY items).length+(from_.flatMap Source.on).length+where_.length:=by rw[hfs,aB,hel]
     have hfs':fs=aY items++from_.flatMap Source.on++where_:=by rw[hfs,hes]
     rw[<-hfs]
     refine dLoop.gh [.ren 49 65] ⟨ah,ah,?_⟩
     refine dLoop0.intro (fun f L p=>∃(i:Nat) (es:List Expr),f 6=vi i/\f 3 = .c (.s 65 es.length)/\i<=order.length/\es=fs++(order.take i).map SortKey.e/\L=[(1,.str [.v (.bool distinct),.sl items.length (items.flatMap Item.row) none,.sl from_.length (from_.flatMap Source.row) none,.sl where_.length (where_.flatMap Expr.row) none,.sl order.length (order.flatMap SortKey.row) none,.v (.int .i64 limit)]),(65,.arr 46 es.length (es.flatMap Expr.row) none)]/\p=none) (fun f _ _=>(order.length-eN (f 6)).toNat) [(1,.str [.v (.bool distinct),.sl items.length (items.flatMap Item.row) none,.sl from_.length (from_.flatMap Source.row) none,.sl where_.length (where_.flatMap Expr.row) none,.sl order.length (order.flatMap SortKey.row) none,.v (.int .i64 limit)]),(65,.arr 46 fs.length (fs.flatMap Expr.row) none)] none ⟨al rfl (al rfl (ao _)),aq _,?_⟩ ?_
     ·simp only[tt,seval]
      exact⟨0,fs,rfl,rfl,aa,by simp,rfl⟩
     ·rintro g L p ⟨i,es,hi6,h3,hi,hes,rfl,rfl⟩
      simp only[tt,seval] at hi6 h3
      simp only[tt,seval,hi6,h3,Int.ofNat_lt]
      refine fun _=>?_
      refine ab (fun hlt=>?_) (fun hge=>?_)
      ·have hlt:i<order.length:=by omega
       have hst:=vN hlt
       have hel:es.length=fs.length+i:=by rw[hes,aB,List.length_map,List.length_take];omega
       obtain⟨it,bt⟩:∃it,it=order[i]:=⟨_,rfl⟩
       rw[<-bt] at hst
       refine⟨aa,aa,_,aD SortKey.row_len (aA hlt),SortKey.ne _ _,?_⟩
       obtain⟨⟨k,o,n,v,q,m,ks,ss⟩,desc⟩:=it
       rw[<-bt,SortKey.row_mk,ak]
       simp only[tt,seval,hi6]
       refine qj ?_
       have e:es.flatMap Expr.row++[int k,int o,bool n,int v.kind,int v.num,str v.text,str q,str m,.sl ks.length (ks.flatMap Expr.row),.sl ss.length (ss.flatMap Query.row)]=(es++[Expr.mk k o n v q m ks ss]).flatMap Expr.row:=by rw[List.flatMap_append];simp [ak]
       have e2:es.length+1=(es++[Expr.mk k o n v q m ks ss]).length:=by simp
       rw[e,e2]
       try rw[dY i aa]
       exact⟨_,none,al rfl (al rfl (ao _)),aq _,⟨i+1,_,rfl,rfl,aa,by rw[hst,hes,aK];rfl,rfl,rfl⟩,az⟩
      ·have hie:i=order.length:=by omega
       subst hie
       rw[List.take_length] at hes
       refine⟨_,[],rfl,ap ?_⟩
       simp only[tt,seval]
       rw[hes,hfs']
       exact⟨rfl,rfl⟩
theorem rK (distinct:Bool) (items:List Item) (from_:List Source) (where_:List Expr) (order:List SortKey) (limit:Int) (hsz:szQuery (Query.mk distinct items from_ where_ order limit)<=1048576):Cl Tryz.prog 174 [.ag (ar (Query.mk distinct items from_ where_ order limit).row)] [] fun r _=>r = .c (.sl (exprsQ (Query.mk distinct items from_ where_ order limit)).length ((exprsQ (Query.mk distinct items from_ where_ order limit)).flatMap Expr.row) none):=by
 have hlen:=fe (Query.mk distinct items from_ where_ order limit)
 have q0:exprsQ (Query.mk distinct items from_ where_ order limit)=aY items++from_.flatMap Source.on++where_++order.map SortKey.e:=rfl
 rw[q0] at hlen ⊢
 simp only[aB,List.length_map] at hlen
 have htot:=Nat.le_trans hlen hsz
 have hil:=eE items
 rw[dt,dM,d4,aO,cI] at hsz
 rw[bj]
 refine ai ac false Tryz.func174 rfl ae ?_
 simp only[Tryz.f174,tt,seval]
 refine fun _=>?_
 refine dLoop.gh [.ren 10 25] ⟨ah,ah,?_⟩
 refine dLoop0.intro (fun f L p=>∃(i:Nat) (es:List Expr),f 14=vi i/\f 3 = .c (.s 25 es.length)/\i<=items.length/\es=aY (items.take i)/\L=[(1,.str [.v (.bool distinct),.sl items.length (items.flatMap Item.row) none,.sl from_.length (from_.flatMap Source.row) none,.sl where_.length (where_.flatMap Expr.row) none,.sl order.length (order.flatMap SortKey.row) none,.v (.int .i64 limit)]),(25,.arr 46 es.length (es.flatMap Expr.row) none)]/\p=none) (fun f _ _=>(items.length-eN (f 14)).toNat) [(1,.str [.v (.bool distinct),.sl items.length (items.flatMap Item.row) none,.sl from_.length (from_.flatMap Source.row) none,.sl where_.length (where_.flatMap Expr.row) none,.sl order.length (order.flatMap SortKey.row) none,.v (.int .i64 limit)]),(25,.arr 46 0 [] none)] none ⟨al rfl (al rfl (ao _)),aq _,?_⟩ ?_
 ·simp only[tt,seval]
  exact⟨0,[],rfl,rfl,aa,rfl,rfl⟩
 ·rintro g L p ⟨i,es,hi4,h3,hi,hes,rfl,rfl⟩
  simp only[tt,seval] at hi4 h3
  simp only[tt,seval,hi4,Int.ofNat_lt]
  refine ab (fun hlt=>?_) (fun hge=>?_)
  ·have hlt:i<items.length:=by omega
   have hst:=pB hlt
   have hel:es.length<=items.length:=by rw[hes];exact Nat.le_trans (eE _) (by rw[List.length_take];omega)
   have hei:es.length<=i:=by rw[hes];exact Nat.le_trans (eE _) (by rw[List.length_take];omega)
   obtain⟨it,bt⟩:∃it,it=items[i]:=⟨_,rfl⟩
   rw[<-bt] at hst
   refine⟨aa,aa,_,aD Item.row_len (aA hlt),Item.ne _ _,?_⟩
   obtain⟨star,qual,⟨k,o,n,v,q,m,ks,ss⟩,as_⟩:=it
   rw[<-bt,Item.row_mk,ak]
   simp only[tt,seval,hi4,h3]
   refine ab (fun hs=>?_) (fun hs=>?_)
   ·have hs:star=false:=by simpa only[Bool.not_eq_true'] using hs
    refine qj ?_
    have e:es.flatMap Expr.row++[int k,int o,bool n,int v.kind,int v.num,str v.text,str q,str m,.sl ks.length (ks.flatMap Expr.row),.sl ss.length (ss.flatMap Query.row)]=(es++[Expr.mk k o n v q m ks ss]).flatMap Expr.row:=by rw[List.flatMap_append];simp [ak]
    have e2:es.length+1=(es++[Expr.mk k o n v q m ks ss]).length:=by simp
    rw[e,e2]
    try rw[dY i aa]
    exact⟨_,none,al rfl (al rfl (ao _)),aq _,⟨i+1,_,rfl,rfl,aa,by rw[hst,hes];subst hs;rfl,rfl,rfl⟩,az⟩
   ·have hs:star=true:=by simpa only[Bool.not_eq_false'] using hs
    try rw[dY i aa]
    exact⟨_,none,al rfl (al rfl (ao _)),aq _,⟨i+1,es,rfl,rfl,aa,by rw[hst,hes];subst hs;simp [Item.star],rfl,rfl⟩,az⟩
  ·have hie:i=items.length:=by omega
   subst hie
   rw[List.take_length] at hes
   subst hes
   refine fun _=>?_
   refine dLoop.gh [.ren 25 37] ⟨ah,ah,?_⟩
   refine dLoop0.intro (fun f L p=>∃(i:Nat) (es:List Expr),f 30=vi i/\f 3 = .c (.s 37 es.length)/\i<=from_.length/\es=aY items++(from_.take i).flatMap Source.on/\L=[(1,.str [.v (.bool distinct),.sl items.length (items.flatMap Item.row) none,.sl from_.length (from_.flatMap Source.row) none,.sl where_.length (where_.flatMap Expr.row) none,.sl order.length (order.flatMap SortKey.row) none,.v (.int .i64 limit)]),(37,.arr 46 es.length (es.flatMap Expr.row) none)]/\p=none) (fun f _ _=>(from_.length-eN (f 30)).toNat) [(1,.str [.v (.bool distinct),.sl items.length (items.flatMap Item.row) none,.sl from_.length (from_.flatMap Source.row) none,.sl where_.length (where_.flatMap Expr.row) none,.sl order.length (order.flatMap SortKey.row) none,.v (.int .i64 limit)]),(37,.arr 46 (aY items).length ((aY items).flatMap Expr.row) none)] none ⟨al rfl (al rfl (ao _)),aq _,?_⟩ ?_
   ·simp only[tt,seval,h3]
    exact⟨0,aY items,rfl,rfl,aa,by simp,rfl⟩
   ·rintro g L p ⟨i,es,hi5,h3,hi,hes,rfl,rfl⟩
    simp only[tt,seval] at hi5 h3
    simp only[tt,seval,hi5,h3,Int.ofNat_lt]
    refine ab (fun hlt=>?_) (fun hge=>?_)
    ·have hlt:i<from_.length:=by omega
     have hst:=zn hlt
     have hel:es.length<=(aY items).length+(from_.flatMap Source.on).length:=by have:=pC from_ i;rw[hes,aB];omega
     obtain⟨it,bt⟩:∃it,it=from_[i]:=⟨_,rfl⟩
     rw[<-bt] at hst
     have hon:it.on.length<=1048576:=by
      have h1:=fy cD (aJ hlt)
      rw[<-bt] at h1
      obtain⟨table,as_,on⟩:=it
      rw[dk,aO] at h1
      show on.length<=_
      omega
     refine⟨aa,aa,_,aD Source.row_len (aA hlt),Source.ne _ _,?_⟩
     obtain⟨table,as_,on⟩:=it
     have hon:on.length<=1048576:=hon
     rw[<-bt,Source.row_mk]
     simp only[tt,seval]
     refine⟨ae,by rw[bT aI],⟨by simp only[maxLen];omega,aa⟩,?_⟩
     have e2:es.length+on.length=(es++on).length:=by simp
     rw[<-List.flatMap_append,e2]
     try rw[dY i aa]
     exact⟨_,none,al rfl (al rfl (ao _)),aq _,⟨i+1,_,rfl,rfl,aa,by rw[hst,hes,aK];rfl,rfl,rfl⟩,az⟩
    ·have hie:i=from_.length:=by omega
     subst hie
     rw[List.take_length] at hes
     have hel:es.length=(aY items).length+(from_.flatMap Source.on).length:=by rw[hes,aB]
     refine⟨ae,by rw[bT aI],⟨by simp only[maxLen];omega,aa⟩,?_⟩
     have e2:es.length+where_.length=(es++where_).length:=by simp
     rw[<-List.flatMap_append,e2]
     obtain⟨fs,hfs⟩:∃fs,fs=es++where_:=⟨_,rfl⟩
     have hfl:fs.length=(aY items).length+(from_.flatMap Source.on).length+where_.length:=by rw[hfs,aB,hel]
     have hfs':fs=aY items++from_.flatMap Source.on++where_:=by rw[hfs,hes]
     rw[<-hfs]
     refine fun _=>?_
     refine dLoop.gh [.ren 42 54] ⟨ah,ah,?_⟩
     refine dLoop0.intro (fun f L p=>∃(i:Nat) (es:List Expr),f 46=vi i/\f 3 = .c (.s 54 es.length)/\i<=order.length/\es=fs++(order.take i).map SortKey.e/\L=[(1,.str [.v (.bool distinct),.sl items.length (items.flatMap Item.row) none,.sl from_.length (from_.flatMap Source.row) none,.sl where_.length (where_.flatMap Expr.row) none,.sl order.length (order.flatMap SortKey.row) none,.v (.int .i64 limit)]),(54,.arr 46 es.length (es.flatMap Expr.row) none)]/\p=none) (fun f _ _=>(order.length-eN (f 46)).toNat) [(1,.str [.v (.bool distinct),.sl items.length (items.flatMap Item.row) none,.sl from_.length (from_.flatMap Source.row) none,.sl where_.length (where_.flatMap Expr.row) none,.sl order.length (order.flatMap SortKey.row) none,.v (.int .i64 limit)]),(54,.arr 46 fs.length (fs.flatMap Expr.row) none)] none ⟨al rfl (al rfl (ao _)),aq _,?_⟩ ?_
     ·simp only[tt,seval]
      exact⟨0,fs,rfl,rfl,aa,by simp,rfl⟩
     ·rintro g L p ⟨i,es,hi6,h3,hi,hes,rfl,rfl⟩
      simp only[tt,seval] at hi6 h3
      simp only[tt,seval,hi6,h3,Int.ofNat_lt]
      refine ab (fun hlt=>?_) (fun hge=>?_)
      ·have hlt:i<order.length:=by omega
       have hst:=vN hlt
       have hel:es.length=fs.length+i:=by rw[hes,aB,List.length_map,List.length_take];omega
       obtain⟨it,bt⟩:∃it,it=order[i]:=⟨_,rfl⟩
       rw[<-bt] at hst
       refine⟨aa,aa,_,aD SortKey.row_len (aA hlt),SortKey.ne _ _,?_⟩
       obtain⟨⟨k,o,n,v,q,m,ks,ss⟩,desc⟩:=it
       rw[<-bt,SortKey.row_mk,ak]
       simp only[tt,seval,hi6]
       refine qj ?_
       have e:es.flatMap Expr.row++[int k,int o,bool n,int v.kind,int v.num,str v.text,str q,str m,.sl ks.length (ks.flatMap Expr.row),.sl ss.length (ss.flatMap Query.row)]=(es++[Expr.mk k o n v q m ks ss]).flatMap Expr.row:=by rw[List.flatMap_append];simp [ak]
       have e2:es.length+1=(es++[Expr.mk k o n v q m ks ss]).length:=by simp
       rw[e,e2]
       try rw[dY i aa]
       exact⟨_,none,al rfl (al rfl (ao _)),aq _,⟨i+1,_,rfl,rfl,aa,by rw[hst,hes,aK];rfl,rfl,rfl⟩,az⟩
      ·have hie:i=order.length:=by omega
       subst hie
       rw[List.take_length] at hes
       refine⟨_,[],rfl,ap ?_⟩
       simp only[tt,seval]
       rw[hes,hfs']
       exact⟨rfl,rfl⟩
def bU (l:List Nat):Nat:=l.foldl max 0
theorem iA (l:List Nat) (x:Nat):bU (l++[x])=max (bU l) x:=by simp [bU]
theorem og {l:List Nat} {b:Nat} (h:∀x∈l,x<=b):bU l<=b:=by
 unfold bU
 suffices H:∀(l:List Nat) (a:Nat),a<=b->(∀x∈l,x<=b)->l.foldl max a<=b from H l 0 (Nat.zero_le _) h
 intro l
 induction l with
 |nil=>exact fun a h _=>h
 |cons y r ih=>exact fun a h hx=>ih _ (Nat.max_le.2 ⟨h,hx y (by simp)⟩) fun x hm=>hx x (by simp [hm])
theorem ee {α:Type} (g:α->Nat) {l:List α} {i:Nat} (h:i<l.length):(l.take (i+1)).map g=(l.take i).map g++[g l[i]]:=by
 rw[List.take_succ_eq_append_getElem h,List.map_append];rfl
theorem HW (a b:Nat):(if (b:Int)>(a:Int) then (b:Int) else (a:Int))=((max a b:Nat):Int):=by split<;>omega
theorem FF {x e:Expr} (h:x∈e.kids):szExpr x+1<=szExpr e:=by
 obtain⟨k,o,n,v,q,m,ks,ss⟩:=e
 have h:x∈ks:=h
 rw[bb,aO]
 have:=fy szExpr h
 have:=List.length_pos_of_mem h
 omega
theorem FG {q:Query} {e:Expr} (h:q∈e.sub):szQuery q+1<=szExpr e:=by
 obtain⟨k,o,n,v,q',m,ks,ss⟩:=e
 have h:q∈ss:=h
 rw[bb,bJ]
 have:=fy szQuery h
 have:=List.length_pos_of_mem h
 omega
theorem tN {x e:Expr} (h:eT x e):szExpr x+1<=szExpr e:=by
 rcases h with h|⟨q,hq,h⟩
 ·exact FF h
 ·have:=FG hq;have:=th h;omega
def GC (g:Expr->Nat) (e:Expr):Nat:=1+bU (e.kids.map g++e.sub.map fun q=>bU ((exprsQ q).map g))
noncomputable def dpE:Expr->Nat:=eU GC
theorem A6 {e:Expr} {g:Expr->Nat} (h:∀x,eT x e->g x<=szExpr x+1):GC g e<=szExpr e+1:=by
 unfold GC
 have:bU (e.kids.map g++e.sub.map fun q=>bU ((exprsQ q).map g))<=szExpr e:=og fun y hy=>by
  rcases List.mem_append.1 hy with hy|hy
  ·obtain⟨x,hx,rfl⟩:=List.mem_map.1 hy
   have:=h x (.inl hx);have:=tN (.inl hx:eT x e);omega
  ·obtain⟨q,hq,rfl⟩:=List.mem_map.1 hy
   refine og fun z hz=>?_
   obtain⟨x,hx,rfl⟩:=List.mem_map.1 hz
   have:=h x (.inr ⟨q,hq,hx⟩);have:=tN (.inr ⟨q,hq,hx⟩:eT x e);omega
 omega
theorem uN (a b:Nat):Cl Tryz.prog 99 [vi a,vi b] [] fun r _=>r=vi (max a b:Nat):=by
 refine ai ac false Tryz.func99 rfl ae ?_
 simp only[Tryz.f99,tt,seval]
 refine ab (fun h=>?_) (fun h=>?_)
 ·exact⟨_,_,kK aa,am rfl⟩
 ·exact⟨_,_,kK aa,am rfl⟩
theorem wY (l:List Expr) (g:Expr->Nat) (h:∀x∈l,Cl Tryz.prog 125 [.ag (ar x.row)] [] fun r _=>r=vi (g x:Nat)) (hl:l.length<=1048576):Cl Tryz.prog 173 [.c (.sl l.length (l.flatMap Expr.row) none)] [] fun r _=>r=vi (bU (l.map g):Nat):=by
 refine ai ac false Tryz.func173 rfl ae ?_
 simp only[Tryz.f173,tt,seval]
 refine fun _=>?_
 refine dLoop.intro (fun f L p=>∃i:Nat,f 8=vi i/\i<=l.length/\f 3=vi (bU ((l.take i).map g):Nat)/\L=[]/\p=none) (fun f _ _=>(l.length-eN (f 8)).toNat) [] none ⟨ao _,aq _,?_⟩ ?_
 ·simp only[tt,seval]
  exact⟨0,rfl,aa,by simp [bU]⟩
 ·rintro g' L p ⟨i,hix,hi,hac,rfl,rfl⟩
  simp only[tt,seval] at hix hac
  simp only[tt,seval,hix,hac,Int.ofNat_lt]
  refine ab (fun hlt=>?_) (fun hge=>?_)
  ·have hlt:i<l.length:=by omega
   obtain⟨it,bt⟩:∃it,it=l[i]:=⟨_,rfl⟩
   have hmem:it∈l:=by rw[bt];exact aJ hlt
   refine⟨aa,aa,_,aD aI (aA hlt),Expr.ne _ _,?_⟩
   have hstep:bU ((l.take (i+1)).map g)=max (bU ((l.take i).map g)) (g l[i]):=by rw[ee g hlt,iA]
   rw[<-bt] at hstep
   obtain⟨k,o,n,v,q,m,ks,ss⟩:=it
   rw[<-bt,ak]
   simp only[tt,seval]
   refine cZ (h _ hmem) ?_ ?_<;>simp only[tt,seval,hix,ak]
   rw[HW,aC (n:=(i:Int)+1) aa aa]
   exact⟨_,none,ao _,aq _,⟨i+1,rfl,aa,kK (by rw[hstep]),rfl,rfl⟩,az⟩
  ·have hie:i=l.length:=by omega
   subst hie
   rw[List.take_length] at hac
   try rw[List.take_length]
   exact⟨_,_,rfl,am rfl⟩
theorem Bo (q:Query) (g:Expr->Nat) (h:∀x∈exprsQ q,Cl Tryz.prog 125 [.ag (ar x.row)] [] fun r _=>r=vi (g x:Nat)) (hsz:szQuery q<=1048576):Cl Tryz.prog 82 [.ag (ar q.row)] [] fun r _=>r=vi (bU ((exprsQ q).map g):Nat):=by
 have hlen:=fe q
 obtain⟨distinct,items,from_,where_,order,limit⟩:=q
 rw[bj]
 refine ai ac false Tryz.func82 rfl ae ?_
 simp only[Tryz.f82,tt,seval]
 refine cZ (rK distinct items from_ where_ order limit hsz) ?_ ?_<;>simp only[tt,seval,bj]
 generalize exprsQ (Query.mk distinct items from_ where_ order limit)=l at *
 refine cZ (wY l g h aa) ?_ ?_<;>simp only[tt,seval]
 exact⟨_,_,rfl,am rfl⟩
theorem sK (kind op:Int) (not:Bool) (val:Val) (qual name:ByteArray) (kids:List Expr) (sub:List Query) (g:Expr->Nat) (hg:∀x,eT x (Expr.mk kind op not val qual name kids sub)->(Cl Tryz.prog 125 [.ag (ar x.row)] [] fun r _=>r=vi (g x:Nat))/\g x<=szExpr x+1) (hsz:szExpr (Expr.mk kind op not val qual name kids sub)<=1048576):Cl Tryz.prog 125 [.ag (ar (Expr.mk kind op not val qual name kids sub).row)] [] fun r _=>r=vi (GC g (Expr.mk kind op not val qual name kids sub):Nat):=by
 have hdl:=A6 (g:=g) (fun x hx=>(hg x hx).2)
 have e:GC g (Expr.mk kind op not val qual name kids sub)=1+bU (kids.map g++sub.map fun q=>bU ((exprsQ q).map g)):=rfl
 rw[e] at hdl ⊢
 rw[ak]
 refine ai ac false Tryz.func125 rfl ae ?_
 simp only[Tryz.f125,tt,seval]
 refine fun _=>?_
 refine dLoop.intro (fun f L p=>∃i:Nat,f 11=vi i/\i<=kids.length/\f 3=vi (bU ((kids.take i).map g):Nat)/\L=[(1,.str [.v (.int .i64 kind),.v (.int .i64 op),.v (.bool not),.v (.int .i64 val.kind),.v (.int .i64 val.num),.v (.string val.text),.v (.string qual),.v (.string name),.sl kids.length (kids.flatMap Expr.row) none,.sl sub.length (sub.flatMap Query.row) none])]/\p=none) (fun f _ _=>(kids.length-eN (f 11)).toNat) [(1,.str [.v (.int .i64 kind),.v (.int .i64 op),.v (.bool not),.v (.int .i64 val.kind),.v (.int .i64 val.num),.v (.string val.text),.v (.string qual),.v (.string name),.sl kids.length (kids.flatMap Expr.row) none,.sl sub.length (sub.flatMap Query.row) none])] none ⟨al rfl (ao _),aq _,?_⟩ ?_
 ·simp only[tt,seval]
  exact⟨0,rfl,aa,by simp [bU]⟩
 ·rintro g' L p ⟨i,hix,hi,hac,rfl,rfl⟩
  simp only[tt,seval] at hix hac
  simp only[tt,seval,hix,hac,Int.ofNat_lt]
  refine ab (fun hlt=>?_) (fun hge=>?_)
  ·have hlt:i<kids.length:=by omega
   obtain⟨it,bt⟩:∃it,it=kids[i]:=⟨_,rfl⟩
   have hmem:it∈kids:=by rw[bt];exact aJ hlt
   refine⟨aa,aa,_,aD aI (aA hlt),Expr.ne _ _,?_⟩
   have hstep:bU ((kids.take (i+1)).map g)=max (bU ((kids.take i).map g)) (g kids[i]):=by rw[ee g hlt,iA]
   rw[<-bt] at hstep
   obtain⟨k,o,n,v,q,m,ks,ss⟩:=it
   rw[<-bt,ak]
   simp only[tt,seval]
   refine cZ ((hg _ (.inl hmem)).1) ?_ ?_<;>simp only[tt,seval,hix,ak]
   rw[HW,aC (n:=(i:Int)+1) aa aa]
   exact⟨_,none,al rfl (ao _),aq _,⟨i+1,rfl,aa,kK (by rw[hstep]),rfl,rfl⟩,az⟩
  ·have hie:i=kids.length:=by omega
   subst hie
   rw[List.take_length] at hac
   refine fun _=>?_
   refine dLoop.intro (fun f L p=>∃i:Nat,f 23=vi i/\i<=sub.length/\f 3=vi (bU (kids.map g++(sub.take i).map fun q=>bU ((exprsQ q).map g)):Nat)/\L=[(1,.str [.v (.int .i64 kind),.v (.int .i64 op),.v (.bool not),.v (.int .i64 val.kind),.v (.int .i64 val.num),.v (.string val.text),.v (.string qual),.v (.string name),.sl kids.length (kids.flatMap Expr.row) none,.sl sub.length (sub.flatMap Query.row) none])]/\p=none) (fun f _ _=>(sub.length-eN (f 23)).toNat) [(1,.str [.v (.int .i64 kind),.v (.int .i64 op),.v (.bool not),.v (.int .i64 val.kind),.v (.int .i64 val.num),.v (.string val.text),.v (.string qual),.v (.string name),.sl kids.length (kids.flatMap Expr.row) none,.sl sub.length (sub.flatMap Query.row) none])] none ⟨al rfl (ao _),aq _,?_⟩ ?_
   ·simp only[tt,seval,hac]
    exact⟨0,rfl,aa,by simp [bU]⟩
   ·rintro g' L p ⟨i,hix,hi,hac,rfl,rfl⟩
    simp only[tt,seval] at hix hac
    simp only[tt,seval,hix,hac,Int.ofNat_lt]
    refine ab (fun hlt=>?_) (fun hge=>?_)
    ·have hlt:i<sub.length:=by omega
     obtain⟨it,bt⟩:∃it,it=sub[i]:=⟨_,rfl⟩
     have hmem:it∈sub:=by rw[bt];exact aJ hlt
     refine⟨aa,aa,_,aD Query.row_len (aA hlt),Query.ne _ _,?_⟩
     have hstep:bU (kids.map g++(sub.take (i+1)).map fun q=>bU ((exprsQ q).map g))=max (bU (kids.map g++(sub.take i).map fun q=>bU ((exprsQ q).map g))) (bU ((exprsQ sub[i]).map g)):=by rw[ee _ hlt,<-aK,iA]
     rw[<-bt] at hstep
     obtain⟨ds,its,frs,whs,ods,lim⟩:=it
     rw[<-bt,bj]
     simp only[tt,seval]
     refine cZ (Bo (Query.mk ds its frs whs ods lim) g (fun x hx=>(hg x (.inr ⟨_,hmem,hx⟩)).1) (Nat.le_trans (lu (e:=(Expr.mk kind op not val qual name kids sub)) hmem) hsz)) ?_ ?_<;>simp only[tt,seval,hix,bj]
     rw[HW,aC (n:=(i:Int)+1) aa aa]
     exact⟨_,none,al rfl (ao _),aq _,⟨i+1,rfl,aa,kK (by rw[hstep]),rfl,rfl⟩,az⟩
    ·have hie:i=sub.length:=by omega
     subst hie
     rw[List.take_length] at hac
     try rw[List.take_length]
     rw[aC aa aa]
     exact⟨_,_,kK aa,am rfl⟩
theorem yE (e:Expr):(szExpr e<=1048576->Cl Tryz.prog 125 [.ag (ar e.row)] [] fun r _=>r=vi (dpE e:Nat))/\dpE e<=szExpr e+1:=by
 refine ir (P:=fun e d=>(szExpr e<=1048576->Cl Tryz.prog 125 [.ag (ar e.row)] [] fun r _=>r=vi (d:Nat))/\d<=szExpr e+1) (fun e g hg=>⟨fun hsz=>?_,A6 fun x hx=>(hg x hx).2⟩) e
 obtain⟨kind,op,not,val,qual,name,kids,sub⟩:=e
 exact sK kind op not val qual name kids sub g (fun x hx=>⟨(hg x hx).1 (Nat.le_trans (gK hx) hsz),(hg x hx).2⟩) hsz
theorem Dn (q:Query) (g:Expr->Nat) (h:∀x∈exprsQ q,Cl Tryz.prog 100 [.ag (ar x.row)] [] fun r _=>r=vi (g x:Nat)) (hsz:szQuery q<=1048576):Cl Tryz.prog 40 [.ag (ar q.row)] [] fun r _=>r=vi (bU ((exprsQ q).map g):Nat):=by
 have hlen:=fe q
 obtain⟨distinct,items,from_,where_,order,limit⟩:=q
 rw[bj]
 refine ai ac false Tryz.func40 rfl ae ?_
 simp only[Tryz.f40,tt,seval]
 refine cZ (pn distinct items from_ where_ order limit hsz) ?_ ?_<;>simp only[tt,seval,bj]
 generalize exprsQ (Query.mk distinct items from_ where_ order limit)=l at *
 refine dLoop.intro (fun f L p=>∃i:Nat,f 5=vi i/\i<=l.length/\f 3=vi (bU ((l.take i).map g):Nat)/\L=[(1,.str [.v (.bool distinct),.sl items.length (items.flatMap Item.row) none,.sl from_.length (from_.flatMap Source.row) none,.sl where_.length (where_.flatMap Expr.row) none,.sl order.length (order.flatMap SortKey.row) none,.v (.int .i64 limit)])]/\p=none) (fun f _ _=>(l.length-eN (f 5)).toNat) [(1,.str [.v (.bool distinct),.sl items.length (items.flatMap Item.row) none,.sl from_.length (from_.flatMap Source.row) none,.sl where_.length (where_.flatMap Expr.row) none,.sl order.length (order.flatMap SortKey.row) none,.v (.int .i64 limit)])] none ⟨al rfl (ao _),aq _,?_⟩ ?_
 ·simp only[tt,seval]
  exact⟨0,rfl,aa,by simp [bU]⟩
 ·rintro g' L p ⟨i,hix,hi,hac,rfl,rfl⟩
  simp only[tt,seval] at hix hac
  simp only[tt,seval,hix,hac,Int.ofNat_lt]
  refine fun _=>?_
  refine ab (fun hlt=>?_) (fun hge=>?_)
  ·have hlt:i<l.length:=by omega
   have hmem:l[i]∈l:=aJ hlt
   refine⟨aa,aa,_,aD aI (aA hlt),Expr.ne _ _,?_⟩
   simp only[seval,Expr.tk,aI]
   refine cZ (h _ hmem) ?_ ?_<;>simp only[tt,seval]
   refine cZ (uN (bU ((l.take i).map g)) (g l[i])) ?_ ?_<;>simp only[tt,seval,hix]
   rw[dY i aa]
   have hstep:bU ((l.take (i+1)).map g)=max (bU ((l.take i).map g)) (g l[i]):=by rw[ee g hlt,iA]
   exact⟨_,none,al rfl (ao _),aq _,⟨i+1,rfl,aa,kK (by rw[hstep]),rfl,rfl⟩,az⟩
  ·have hie:i=l.length:=by omega
   subst hie
   rw[List.take_length] at hac
   try rw[List.take_length]
   exact⟨_,_,rfl,am rfl⟩
theorem uO (kind op:Int) (not:Bool) (val:Val) (qual name:ByteArray) (kids:List Expr) (sub:List Query) (g:Expr->Nat) (hg:∀x,eT x (Expr.mk kind op not val qual name kids sub)->(Cl Tryz.prog 100 [.ag (ar x.row)] [] fun r _=>r=vi (g x:Nat))/\g x<=szExpr x+1) (hsz:szExpr (Expr.mk kind op not val qual name kids sub)<=1048576):Cl Tryz.prog 100 [.ag (ar (Expr.mk kind op not val qual name kids sub).row)] [] fun r _=>r=vi (GC g (Expr.mk kind op not val qual name kids sub):Nat):=by
 have hdl:=A6 (g:=g) (fun x hx=>(hg x hx).2)
 have e:GC g (Expr.mk kind op not val qual name kids sub)=1+bU (kids.map g++sub.map fun q=>bU ((exprsQ q).map g)):=rfl
 rw[e] at hdl ⊢
 rw[ak]
 refine ai ac false Tryz.func100 rfl ae ?_
 simp only[Tryz.f100,tt,seval]
 refine dLoop.intro (fun f L p=>∃i:Nat,f 4=vi i/\i<=kids.length/\f 3=vi (bU ((kids.take i).map g):Nat)/\L=[(1,.str [.v (.int .i64 kind),.v (.int .i64 op),.v (.bool not),.v (.int .i64 val.kind),.v (.int .i64 val.num),.v (.string val.text),.v (.string qual),.v (.string name),.sl kids.length (kids.flatMap Expr.row) none,.sl sub.length (sub.flatMap Query.row) none])]/\p=none) (fun f _ _=>(kids.length-eN (f 4)).toNat) [(1,.str [.v (.int .i64 kind),.v (.int .i64 op),.v (.bool not),.v (.int .i64 val.kind),.v (.int .i64 val.num),.v (.string val.text),.v (.string qual),.v (.string name),.sl kids.length (kids.flatMap Expr.row) none,.sl sub.length (sub.flatMap Query.row) none])] none ⟨al rfl (ao _),aq _,?_⟩ ?_
 ·simp only[tt,seval]
  exact⟨0,rfl,aa,by simp [bU]⟩
 ·rintro g' L p ⟨i,hix,hi,hac,rfl,rfl⟩
  simp only[tt,seval] at hix hac
  simp only[tt,seval,hix,hac,Int.ofNat_lt]
  refine fun _=>?_
  refine ab (fun hlt=>?_) (fun hge=>?_)
  ·have hlt:i<kids.length:=by omega
   have hmem:kids[i]∈kids:=aJ hlt
   refine⟨aa,aa,_,aD aI (aA hlt),Expr.ne _ _,?_⟩
   simp only[seval,Expr.tk,aI]
   refine cZ ((hg _ (.inl hmem)).1) ?_ ?_<;>simp only[tt,seval]
   refine cZ (uN (bU ((kids.take i).map g)) (g kids[i])) ?_ ?_<;>simp only[tt,seval,hix]
   rw[dY i aa]
   have hstep:bU ((kids.take (i+1)).map g)=max (bU ((kids.take i).map g)) (g kids[i]):=by rw[ee g hlt,iA]
   exact⟨_,none,al rfl (ao _),aq _,⟨i+1,rfl,aa,kK (by rw[hstep]),rfl,rfl⟩,az⟩
  ·have hie:i=kids.length:=by omega
   subst hie
   rw[List.take_length] at hac
   refine dLoop.intro (fun f L p=>∃i:Nat,f 5=vi i/\i<=sub.length/\f 3=vi (bU (kids.map g++(sub.take i).map fun q=>bU ((exprsQ q).map g)):Nat)/\L=[(1,.str [.v (.int .i64 kind),.v (.int .i64 op),.v (.bool not),.v (.int .i64 val.kind),.v (.int .i64 val.num),.v (.string val.text),.v (.string qual),.v (.string name),.sl kids.length (kids.flatMap Expr.row) none,.sl sub.length (sub.flatMap Query.row) none])]/\p=none) (fun f _ _=>(sub.length-eN (f 5)).toNat) [(1,.str [.v (.int .i64 kind),.v (.int .i64 op),.v (.bool not),.v (.int .i64 val.kind),.v (.int .i64 val.num),.v (.string val.text),.v (.string qual),.v (.string name),.sl kids.length (kids.flatMap Expr.row) none,.sl sub.length (sub.flatMap Query.row) none])] none ⟨al rfl (ao _),aq _,?_⟩ ?_
   ·simp only[tt,seval,hac]
    exact⟨0,rfl,aa,by simp [bU]⟩
   ·rintro g' L p ⟨i,hix,hi,hac,rfl,rfl⟩
    simp only[tt,seval] at hix hac
    simp only[tt,seval,hix,hac,Int.ofNat_lt]
    refine fun _=>?_
    refine ab (fun hlt=>?_) (fun hge=>?_)
    ·have hlt:i<sub.length:=by omega
     have hmem:sub[i]∈sub:=aJ hlt
     refine⟨aa,aa,_,aD Query.row_len (aA hlt),Query.ne _ _,?_⟩
     simp only[seval,Query.tk,Query.row_len]
     refine cZ (Dn (sub[i]) g (fun x hx=>(hg x (.inr ⟨_,hmem,hx⟩)).1) (Nat.le_trans (lu (e:=(Expr.mk kind op not val qual name kids sub)) hmem) hsz)) ?_ ?_<;>simp only[tt,seval]
     refine cZ (uN (bU (kids.map g++(sub.take i).map fun q=>bU ((exprsQ q).map g))) (bU ((exprsQ sub[i]).map g))) ?_ ?_<;>simp only[tt,seval,hix]
     rw[dY i aa]
     have hstep:bU (kids.map g++(sub.take (i+1)).map fun q=>bU ((exprsQ q).map g))=max (bU (kids.map g++(sub.take i).map fun q=>bU ((exprsQ q).map g))) (bU ((exprsQ sub[i]).map g)):=by rw[ee _ hlt,<-aK,iA]
     exact⟨_,none,al rfl (ao _),aq _,⟨i+1,rfl,aa,kK (by rw[hstep]),rfl,rfl⟩,az⟩
    ·have hie:i=sub.length:=by omega
     subst hie
     rw[List.take_length] at hac
     try rw[List.take_length]
     rw[aC aa aa]
     exact⟨_,_,kK aa,am rfl⟩
theorem Bp (e:Expr):(szExpr e<=1048576->Cl Tryz.prog 100 [.ag (ar e.row)] [] fun r _=>r=vi (dpE e:Nat))/\dpE e<=szExpr e+1:=by
 refine ir (P:=fun e d=>(szExpr e<=1048576->Cl Tryz.prog 100 [.ag (ar e.row)] [] fun r _=>r=vi (d:Nat))/\d<=szExpr e+1) (fun e g hg=>⟨fun hsz=>?_,A6 fun x hx=>(hg x hx).2⟩) e
 obtain⟨kind,op,not,val,qual,name,kids,sub⟩:=e
 exact uO kind op not val qual name kids sub g (fun x hx=>⟨(hg x hx).1 (Nat.le_trans (gK hx) hsz),(hg x hx).2⟩) hsz
def A7 (g:Expr->Nat) (e:Expr):Nat:=1+(e.kids.map g).sum+(e.sub.map fun q=>((exprsQ q).map g).sum).sum
noncomputable def ndE:Expr->Nat:=eU A7
theorem lR {α:Type} (g:α->Nat) {l:List α} {i:Nat} (h:i<l.length):((l.take (i+1)).map g).sum=((l.take i).map g).sum+g l[i]:=sA g h
theorem uP {α:Type} {f g:α->Nat}:∀ {l:List α},(∀x∈l,f x<=g x)->(l.map f).sum<=(l.map g).sum
 | [],_=>Nat.le_refl _
 |x::r,h=>by
  have h1:=h x (by simp)
  have h2:=uP (l:=r) fun y hy=>h y (by simp [hy])
  simp only[List.map_cons,List.sum_cons];omega
theorem oh {α:Type} (f:α->Nat):∀l:List α,(l.map fun x=>f x+1).sum=l.length+(l.map f).sum
 | []=>rfl
 |x::r=>by simp only[List.map_cons,List.sum_cons,oh f r,List.length_cons];omega
theorem rL:∀l:List Item,((aY l).map fun x=>szExpr x+1).sum<=hZ l
 | []=>by simp [aY]
 |.mk s q e a::r=>by
  have:=rL r
  rw[hZ,jw]
  cases s with
  |true=>
   have h:aY (.mk true q e a::r)=aY r:=rfl
   rw[h];omega
  |false=>
   have h:aY (.mk false q e a::r)=e::aY r:=rfl
   rw[h,List.map_cons,List.sum_cons];omega
theorem Do:∀l:List Source,((l.flatMap Source.on).map fun x=>szExpr x+1).sum<=cQ l
 | []=>by simp
 |.mk t a o::r=>by
  have:=Do r
  rw[cQ,dk,List.flatMap_cons,List.map_append,List.sum_append,aO]
  have h:(Source.mk t a o).on=o:=rfl
  rw[h,oh];omega
theorem A8:∀l:List SortKey,((l.map SortKey.e).map fun x=>szExpr x+1).sum<=dL l
 | []=>by simp
 |.mk e d::r=>by
  have:=A8 r
  rw[dL,ii,List.map_cons,List.map_cons,List.sum_cons]
  have h:(SortKey.mk e d).e=e:=rfl
  rw[h];omega
theorem yF (q:Query):((exprsQ q).map fun x=>szExpr x+1).sum<=szQuery q:=by
 obtain⟨d,it,fr,wh,or,li⟩:=q
 have h1:=rL it
 have h2:=Do fr
 have h3:=A8 or
 rw[dt,aO]
 have e:exprsQ (.mk d it fr wh or li)=aY it++fr.flatMap Source.on++wh++or.map SortKey.e:=rfl
 rw[e,List.map_append,List.map_append,List.map_append,List.sum_append,List.sum_append,List.sum_append,oh szExpr wh]
 omega
theorem GD {e:Expr} {g:Expr->Nat} (h:∀x,eT x e->g x<=szExpr x+1):A7 g e<=szExpr e+1:=by
 obtain⟨k,o,n,v,q,m,ks,ss⟩:=e
 have e1:A7 g (.mk k o n v q m ks ss)=1+(ks.map g).sum+(ss.map fun q=>((exprsQ q).map g).sum).sum:=rfl
 rw[e1,bb,aO,bJ]
 have h1:=uP (l:=ks) (f:=g) (g:=fun x=>szExpr x+1) fun x hx=>h x (.inl hx)
 have h2:=uP (l:=ss) (f:=fun q=>((exprsQ q).map g).sum) (g:=szQuery) fun q hq=>Nat.le_trans (uP fun x hx=>h x (.inr ⟨q,hq,hx⟩)) (yF q)
 rw[oh] at h1
 omega
theorem pQ (l:List Expr) (g:Expr->Nat) (h:∀x∈l,Cl Tryz.prog 126 [.ag (ar x.row)] [] fun r _=>r=vi (g x:Nat)) (hl:l.length<=1048576) (hs:(l.map g).sum<=2097152):Cl Tryz.prog 175 [.c (.sl l.length (l.flatMap Expr.row) none)] [] fun r _=>r=vi ((l.map g).sum:Nat):=by
 refine ai ac false Tryz.func175 rfl ae ?_
 simp only[Tryz.f175,tt,seval]
 refine fun _=>?_
 refine dLoop.intro (fun f L p=>∃i:Nat,f 8=vi i/\i<=l.length/\f 3=vi (((l.take i).map g).sum:Nat)/\L=[]/\p=none) (fun f _ _=>(l.length-eN (f 8)).toNat) [] none ⟨ao _,aq _,?_⟩ ?_
 ·simp only[tt,seval]
  exact⟨0,rfl,aa,by simp []⟩
 ·rintro g' L p ⟨i,hix,hi,hac,rfl,rfl⟩
  simp only[tt,seval] at hix hac
  simp only[tt,seval,hix,hac,Int.ofNat_lt]
  refine ab (fun hlt=>?_) (fun hge=>?_)
  ·have hlt:i<l.length:=by omega
   obtain⟨it,bt⟩:∃it,it=l[i]:=⟨_,rfl⟩
   have hmem:it∈l:=by rw[bt];exact aJ hlt
   refine⟨aa,aa,_,aD aI (aA hlt),Expr.ne _ _,?_⟩
   have hstep:((l.take (i+1)).map g).sum=((l.take i).map g).sum+g l[i]:=lR g hlt
   rw[<-bt] at hstep
   obtain⟨k,o,n,v,q,m,ks,ss⟩:=it
   rw[<-bt,ak]
   simp only[tt,seval]
   refine cZ (h _ hmem) ?_ ?_<;>simp only[tt,seval,hix,ak]
   obtain⟨rst,hrst⟩:=gI g l (i+1)
   rw[dY i aa]
   rw[aC aa aa]
   exact⟨_,none,ao _,aq _,⟨i+1,rfl,aa,kK (by rw[hstep];omega),rfl,rfl⟩,az⟩
  ·have hie:i=l.length:=by omega
   subst hie
   rw[List.take_length] at hac
   try rw[List.take_length]
   exact⟨_,_,rfl,am rfl⟩
theorem wZ (q:Query) (g:Expr->Nat) (h:∀x∈exprsQ q,Cl Tryz.prog 126 [.ag (ar x.row)] [] fun r _=>r=vi (g x:Nat)) (hsz:szQuery q<=1048576) (hs:((exprsQ q).map g).sum<=2097152):Cl Tryz.prog 83 [.ag (ar q.row)] [] fun r _=>r=vi (((exprsQ q).map g).sum:Nat):=by
 have hlen:=fe q
 obtain⟨distinct,items,from_,where_,order,limit⟩:=q
 rw[bj]
 refine ai ac false Tryz.func83 rfl ae ?_
 simp only[Tryz.f83,tt,seval]
 refine cZ (rK distinct items from_ where_ order limit hsz) ?_ ?_<;>simp only[tt,seval,bj]
 generalize exprsQ (Query.mk distinct items from_ where_ order limit)=l at *
 refine cZ (pQ l g h aa hs) ?_ ?_<;>simp only[tt,seval]
 exact⟨_,_,rfl,am rfl⟩
theorem x3 (kind op:Int) (not:Bool) (val:Val) (qual name:ByteArray) (kids:List Expr) (sub:List Query) (g:Expr->Nat) (hg:∀x,eT x (Expr.mk kind op not val qual name kids sub)->(Cl Tryz.prog 126 [.ag (ar x.row)] [] fun r _=>r=vi (g x:Nat))/\g x<=szExpr x+1) (hsz:szExpr (Expr.mk kind op not val qual name kids sub)<=1048576):Cl Tryz.prog 126 [.ag (ar (Expr.mk kind op not val qual name kids sub).row)] [] fun r _=>r=vi (A7 g (Expr.mk kind op not val qual name kids sub):Nat):=by
 have hdl:=GD (g:=g) (fun x hx=>(hg x hx).2)
 have hks:=hsz
 rw[bb,aO,bJ] at hks
 have e:A7 g (Expr.mk kind op not val qual name kids sub)=1+(kids.map g).sum+(sub.map fun q=>((exprsQ q).map g).sum).sum:=rfl
 rw[e] at hdl ⊢
 rw[ak]
 refine ai ac false Tryz.func126 rfl ae ?_
 simp only[Tryz.f126,tt,seval]
 refine cZ (pQ kids g (fun x hx=>(hg x (.inl hx)).1) aa aa) ?_ ?_<;>simp only[tt,seval]
 rw[aC aa aa]
 refine fun _=>?_
 refine dLoop.intro (fun f L p=>∃i:Nat,f 13=vi i/\i<=sub.length/\f 3=vi ((1+(kids.map g).sum+((sub.take i).map fun q=>((exprsQ q).map g).sum).sum):Nat)/\L=[(1,.str [.v (.int .i64 kind),.v (.int .i64 op),.v (.bool not),.v (.int .i64 val.kind),.v (.int .i64 val.num),.v (.string val.text),.v (.string qual),.v (.string name),.sl kids.length (kids.flatMap Expr.row) none,.sl sub.length (sub.flatMap Query.row) none])]/\p=none) (fun f _ _=>(sub.length-eN (f 13)).toNat) [(1,.str [.v (.int .i64 kind),.v (.int .i64 op),.v (.bool not),.v (.int .i64 val.kind),.v (.int .i64 val.num),.v (.string val.text),.v (.string qual),.v (.string name),.sl kids.length (kids.flatMap Expr.row) none,.sl sub.length (sub.flatMap Query.row) none])] none ⟨al rfl (ao _),aq _,?_⟩ ?_
 ·simp only[tt,seval]
  exact⟨0,rfl,aa,by simp⟩
 ·rintro g' L p ⟨i,hix,hi,hac,rfl,rfl⟩
  simp only[tt,seval] at hix hac
  simp only[tt,seval,hix,hac,Int.ofNat_lt]
  refine ab (fun hlt=>?_) (fun hge=>?_)
  ·have hlt:i<sub.length:=by omega
   obtain⟨it,bt⟩:∃it,it=sub[i]:=⟨_,rfl⟩
   have hmem:it∈sub:=by rw[bt];exact aJ hlt
   refine⟨aa,aa,_,aD Query.row_len (aA hlt),Query.ne _ _,?_⟩
   have hstep:((sub.take (i+1)).map fun q=>((exprsQ q).map g).sum).sum=((sub.take i).map fun q=>((exprsQ q).map g).sum).sum+((exprsQ sub[i]).map g).sum:=lR _ hlt
   rw[<-bt] at hstep
   obtain⟨ds,its,frs,whs,ods,lim⟩:=it
   rw[<-bt,bj]
   simp only[tt,seval]
   obtain⟨rst,hrst⟩:=gI (fun q=>((exprsQ q).map g).sum) sub (i+1)
   refine cZ (wZ (Query.mk ds its frs whs ods lim) g (fun x hx=>(hg x (.inr ⟨_,hmem,hx⟩)).1) (Nat.le_trans (lu (e:=(Expr.mk kind op not val qual name kids sub)) hmem) hsz) aa) ?_ ?_<;>simp only[tt,seval,hix,bj]
   rw[dY i aa]
   rw[aC aa aa]
   exact⟨_,none,al rfl (ao _),aq _,⟨i+1,rfl,aa,kK (by rw[hstep];omega),rfl,rfl⟩,az⟩
  ·have hie:i=sub.length:=by omega
   subst hie
   rw[List.take_length] at hac
   try rw[List.take_length]
   exact⟨_,_,rfl,am rfl⟩
theorem Dp (e:Expr):(szExpr e<=1048576->Cl Tryz.prog 126 [.ag (ar e.row)] [] fun r _=>r=vi (ndE e:Nat))/\ndE e<=szExpr e+1:=by
 refine ir (P:=fun e d=>(szExpr e<=1048576->Cl Tryz.prog 126 [.ag (ar e.row)] [] fun r _=>r=vi (d:Nat))/\d<=szExpr e+1) (fun e g hg=>⟨fun hsz=>?_,GD fun x hx=>(hg x hx).2⟩) e
 obtain⟨kind,op,not,val,qual,name,kids,sub⟩:=e
 exact x3 kind op not val qual name kids sub g (fun x hx=>⟨(hg x hx).1 (Nat.le_trans (gK hx) hsz),(hg x hx).2⟩) hsz
theorem Bq (q:Query) (hsz:szQuery q<=1048576):Cl Tryz.prog 97 [.ag (ar q.row)] [] fun r _=>r = .c (.sl (exprsQ q).length ((exprsQ q).flatMap Expr.row) none):=by
 obtain⟨distinct,items,from_,where_,order,limit⟩:=q
 exact pn distinct items from_ where_ order limit hsz
theorem Dq {l:Int} (h:0<=l):cN l 1=l-1:=by unfold cN;split<;>omega
theorem x4 (kind op:Int) (not:Bool) (val:Val) (qual name:ByteArray) (kids:List Expr) (sub:List Query) (g:Expr->Nat) (hg:∀x,eT x (Expr.mk kind op not val qual name kids sub)->∀l:Int,0<=l->l<=200->Cl Tryz.prog 141 [.ag (ar x.row),vi l] [] fun r _=>r=vi (cN l (g x))) (hsz:szExpr (Expr.mk kind op not val qual name kids sub)<=1048576) (l0:Int) (hl0:0<=l0) (hl1:l0<=200):Cl Tryz.prog 141 [.ag (ar (Expr.mk kind op not val qual name kids sub).row),vi l0] [] fun r _=>r=vi (cN l0 (A7 g (Expr.mk kind op not val qual name kids sub))):=by
 have hks:=hsz
 rw[bb,aO,bJ] at hks
 have e:A7 g (Expr.mk kind op not val qual name kids sub)=1+(kids.map g).sum+(sub.map fun q=>((exprsQ q).map g).sum).sum:=rfl
 rw[e]
 rw[ak]
 refine ai ac false Tryz.func141 rfl ae ?_
 simp only[Tryz.f141,tt,seval]
 rw[aC aa aa]
 refine dLoop.intro (fun f L p=>∃i:Nat,f 5=vi i/\i<=kids.length/\f 1=vi (cN l0 (1+((kids.take i).map g).sum))/\L=[(2,.str [.v (.int .i64 kind),.v (.int .i64 op),.v (.bool not),.v (.int .i64 val.kind),.v (.int .i64 val.num),.v (.string val.text),.v (.string qual),.v (.string name),.sl kids.length (kids.flatMap Expr.row) none,.sl sub.length (sub.flatMap Query.row) none])]/\p=none) (fun f _ _=>(kids.length-eN (f 5)).toNat) [(2,.str [.v (.int .i64 kind),.v (.int .i64 op),.v (.bool not),.v (.int .i64 val.kind),.v (.int .i64 val.num),.v (.string val.text),.v (.string qual),.v (.string name),.sl kids.length (kids.flatMap Expr.row) none,.sl sub.length (sub.flatMap Query.row) none])] none ⟨al rfl (ao _),aq _,?_⟩ ?_
 ·simp only[tt,seval]
  exact⟨0,rfl,aa,by simp [Dq hl0]⟩
 ·rintro g' L p ⟨i,hix,hi,hac,rfl,rfl⟩
  simp only[tt,seval] at hix hac
  simp only[tt,seval,hix]
  refine fun _=>?_
  have hc:(i<kids.length/\0<=cN l0 (1+((kids.take i).map g).sum))∨(cN l0 (1+((kids.take i).map g).sum)=cN l0 (1+(kids.map g).sum)/\i<kids.length /\ ¬ 0<=cN l0 (1+((kids.take i).map g).sum))∨(cN l0 (1+((kids.take i).map g).sum)=cN l0 (1+(kids.map g).sum) /\ ¬i<kids.length):=by
   by_cases h1:i<kids.length
   ·by_cases h2:0<=cN l0 (1+((kids.take i).map g).sum)
    ·exact .inl ⟨h1,h2⟩
    ·obtain⟨rst,hrst⟩:=gI (g) kids i
     have hb:=gH (s:=(1+((kids.take i).map g).sum)) hl0
     have h3:=qD (b:=rst) (by omega:cN l0 (1+((kids.take i).map g).sum)<0) hl0
     refine .inr (.inl ⟨?_,h1,h2⟩)
     rw[show (1+(kids.map g).sum)=(1+((kids.take i).map g).sum)+rst by omega,h3];omega
   ·refine .inr (.inr ⟨?_,h1⟩)
    have:i=kids.length:=by omega
    subst this
    rw[List.take_length]
  rcases hc with⟨hlt,hp⟩|⟨he,hlt,hn⟩|⟨he,hge⟩
  ·simp only[tt,seval,aw (show (i:Int)<kids.length by omega),hix,hac]
   refine ab (fun _=>?_) (fun hn=>absurd hp hn)
   refine⟨aa,aa,_,aD aI (aA hlt),Expr.ne _ _,?_⟩
   have hmem:kids[i]∈kids:=aJ hlt
   simp only[seval,Expr.tk,aI]
   have hb:=gH (s:=(1+((kids.take i).map g).sum)) hl0
   refine cZ (hg kids[i] (.inl hmem) (cN l0 (1+((kids.take i).map g).sum)) hp aa) ?_ ?_<;>simp only[tt,seval,hix]
   rw[aC (n:=(i:Int)+1) aa aa,<-vq hp]
   exact⟨_,none,al rfl (ao _),aq _,⟨i+1,rfl,aa,kK (by rw[lR g hlt,Nat.add_assoc]),rfl,rfl⟩,az⟩
  case' inr.inl=>
   simp only[tt,seval,aw (show (i:Int)<kids.length by omega),hix,hac]
   refine ab (fun hp=>absurd hp hn) (fun _=>?_)
  case' inr.inr=>
   simp only[tt,seval,ax (show ¬(i:Int)<kids.length by omega),hix,hac]
  all_goals
   rw[he] at hac
   try rw[he]
   refine dLoop.intro (fun f L p=>∃i:Nat,f 6=vi i/\i<=sub.length/\f 1=vi (cN l0 (1+(kids.map g).sum+((sub.take i).map fun q=>((exprsQ q).map g).sum).sum))/\L=[(2,.str [.v (.int .i64 kind),.v (.int .i64 op),.v (.bool not),.v (.int .i64 val.kind),.v (.int .i64 val.num),.v (.string val.text),.v (.string qual),.v (.string name),.sl kids.length (kids.flatMap Expr.row) none,.sl sub.length (sub.flatMap Query.row) none])]/\p=none) (fun f _ _=>(sub.length-eN (f 6)).toNat) [(2,.str [.v (.int .i64 kind),.v (.int .i64 op),.v (.bool not),.v (.int .i64 val.kind),.v (.int .i64 val.num),.v (.string val.text),.v (.string qual),.v (.string name),.sl kids.length (kids.flatMap Expr.row) none,.sl sub.length (sub.flatMap Query.row) none])] none ⟨al rfl (ao _),aq _,?_⟩ ?_
   ·simp only[tt,seval,hac]
    exact⟨0,rfl,aa,by simp⟩
   ·rintro g' L p ⟨i,hix,hi,hac,rfl,rfl⟩
    simp only[tt,seval] at hix hac
    simp only[tt,seval,hix]
    refine fun _=>?_
    have hc:(i<sub.length/\0<=cN l0 (1+(kids.map g).sum+((sub.take i).map fun q=>((exprsQ q).map g).sum).sum))∨(cN l0 (1+(kids.map g).sum+((sub.take i).map fun q=>((exprsQ q).map g).sum).sum)=cN l0 (1+(kids.map g).sum+(sub.map fun q=>((exprsQ q).map g).sum).sum)/\i<sub.length /\ ¬ 0<=cN l0 (1+(kids.map g).sum+((sub.take i).map fun q=>((exprsQ q).map g).sum).sum))∨(cN l0 (1+(kids.map g).sum+((sub.take i).map fun q=>((exprsQ q).map g).sum).sum)=cN l0 (1+(kids.map g).sum+(sub.map fun q=>((exprsQ q).map g).sum).sum) /\ ¬i<sub.length):=by
     by_cases h1:i<sub.length
     ·by_cases h2:0<=cN l0 (1+(kids.map g).sum+((sub.take i).map fun q=>((exprsQ q).map g).sum).sum)
      ·exact .inl ⟨h1,h2⟩
      ·obtain⟨rst,hrst⟩:=gI (fun q=>((exprsQ q).map g).sum) sub i
       have hb:=gH (s:=(1+(kids.map g).sum+((sub.take i).map fun q=>((exprsQ q).map g).sum).sum)) hl0
       have h3:=qD (b:=rst) (by omega:cN l0 (1+(kids.map g).sum+((sub.take i).map fun q=>((exprsQ q).map g).sum).sum)<0) hl0
       refine .inr (.inl ⟨?_,h1,h2⟩)
       rw[show (1+(kids.map g).sum+(sub.map fun q=>((exprsQ q).map g).sum).sum)=(1+(kids.map g).sum+((sub.take i).map fun q=>((exprsQ q).map g).sum).sum)+rst by omega,h3];omega
     ·refine .inr (.inr ⟨?_,h1⟩)
      have:i=sub.length:=by omega
      subst this
      rw[List.take_length]
    rcases hc with⟨hlt,hp⟩|⟨he,hlt,hn⟩|⟨he,hge⟩
    ·simp only[tt,seval,aw (show (i:Int)<sub.length by omega),hix,hac]
     refine ab (fun _=>?_) (fun hn=>absurd hp hn)
     refine⟨aa,aa,_,aD Query.row_len (aA hlt),Query.ne _ _,?_⟩
     have hmem:sub[i]∈sub:=aJ hlt
     have hqs:=lu (e:=(Expr.mk kind op not val qual name kids sub)) hmem
     have hql:=fe sub[i]
     simp only[seval,Query.tk,Query.row_len]
     refine cZ (Bq sub[i] aa) ?_ ?_<;>simp only[tt,seval]
     have hl:∀x∈exprsQ sub[i],∀l:Int,0<=l->l<=200->Cl Tryz.prog 141 [.ag (ar x.row),vi l] [] fun r _=>r=vi (cN l (g x)):=fun x hx=>hg x (.inr ⟨_,hmem,hx⟩)
     have hstep2:((sub.take (i+1)).map fun q=>((exprsQ q).map g).sum).sum=((sub.take i).map fun q=>((exprsQ q).map g).sum).sum+((exprsQ sub[i]).map g).sum:=lR _ hlt
     generalize exprsQ sub[i]=l at *
     have hac2:=hac
     obtain⟨S,hS⟩:∃S,S=(1+(kids.map g).sum+((sub.take i).map fun q=>((exprsQ q).map g).sum).sum):=⟨_,rfl⟩
     rw[<-hS] at hac2
     try rw[<-hS]
     refine dLoop.intro (fun f L p=>∃k:Nat,f 8=vi k/\k<=l.length/\f 1=vi (cN l0 (S+((l.take k).map g).sum))/\L=[(2,.str [.v (.int .i64 kind),.v (.int .i64 op),.v (.bool not),.v (.int .i64 val.kind),.v (.int .i64 val.num),.v (.string val.text),.v (.string qual),.v (.string name),.sl kids.length (kids.flatMap Expr.row) none,.sl sub.length (sub.flatMap Query.row) none])]/\p=none) (fun f _ _=>(l.length-eN (f 8)).toNat) [(2,.str [.v (.int .i64 kind),.v (.int .i64 op),.v (.bool not),.v (.int .i64 val.kind),.v (.int .i64 val.num),.v (.string val.text),.v (.string qual),.v (.string name),.sl kids.length (kids.flatMap Expr.row) none,.sl sub.length (sub.flatMap Query.row) none])] none ⟨al rfl (ao _),aq _,?_⟩ ?_
     ·simp only[tt,seval,hac2]
      exact⟨0,rfl,aa,by simp⟩
     ·rintro g' L p ⟨k,hkx,hk0,hac3,rfl,rfl⟩
      simp only[tt,seval] at hkx hac3
      simp only[tt,seval,hkx]
      refine fun _=>?_
      have hc3:(k<l.length/\0<=cN l0 (S+((l.take k).map g).sum))∨(cN l0 (S+((l.take k).map g).sum)=cN l0 (S+(l.map g).sum)/\k<l.length /\ ¬ 0<=cN l0 (S+((l.take k).map g).sum))∨(cN l0 (S+((l.take k).map g).sum)=cN l0 (S+(l.map g).sum) /\ ¬k<l.length):=by
       by_cases h1:k<l.length
       ·by_cases h2:0<=cN l0 (S+((l.take k).map g).sum)
        ·exact .inl ⟨h1,h2⟩
        ·obtain⟨rst3,hrst3⟩:=gI (g) l k
         have hb3:=gH (s:=(S+((l.take k).map g).sum)) hl0
         have h3:=qD (b:=rst3) (by omega:cN l0 (S+((l.take k).map g).sum)<0) hl0
         refine .inr (.inl ⟨?_,h1,h2⟩)
         rw[show (S+(l.map g).sum)=(S+((l.take k).map g).sum)+rst3 by omega,h3];omega
       ·refine .inr (.inr ⟨?_,h1⟩)
        have:k=l.length:=by omega
        subst this
        rw[List.take_length]
      rcases hc3 with⟨hlt3,hp3⟩|⟨he3,hlt3,hn3⟩|⟨he3,hge3⟩
      ·simp only[tt,seval,aw (show (k:Int)<l.length by omega),hkx,hac3]
       refine ab (fun _=>?_) (fun hn3=>absurd hp3 hn3)
       refine⟨aa,aa,_,aD aI (aA hlt3),Expr.ne _ _,?_⟩
       simp only[seval,Expr.tk,aI]
       have hb3:=gH (s:=(S+((l.take k).map g).sum)) hl0
       refine cZ (hl l[k] (aJ hlt3) (cN l0 (S+((l.take k).map g).sum)) hp3 aa) ?_ ?_<;>simp only[tt,seval,hkx]
       rw[aC (n:=(k:Int)+1) aa aa,<-vq hp3]
       exact⟨_,none,al rfl (ao _),aq _,⟨k+1,rfl,aa,kK (by rw[lR g hlt3,Nat.add_assoc]),rfl,rfl⟩,az⟩
      case' inr.inl=>
       simp only[tt,seval,aw (show (k:Int)<l.length by omega),hkx,hac3]
       refine ab (fun hp3=>absurd hp3 hn3) (fun _=>?_)
      case' inr.inr=>
       simp only[tt,seval,ax (show ¬(k:Int)<l.length by omega),hkx,hac3]
      all_goals
       rw[he3] at hac3
       try rw[he3]
       simp only[tt,seval,hix,hac3]
       try rw[dY i aa]
       exact⟨_,none,al rfl (ao _),aq _,⟨i+1,rfl,aa,kK (by rw[hstep2,hS];congr 1;omega),rfl,rfl⟩,az⟩
    case' inr.inl=>
     simp only[tt,seval,aw (show (i:Int)<sub.length by omega),hix,hac]
     refine ab (fun hp=>absurd hp hn) (fun _=>?_)
    case' inr.inr=>
     simp only[tt,seval,ax (show ¬(i:Int)<sub.length by omega),hix,hac]
    all_goals
     rw[he] at hac
     try rw[he]
     exact⟨_,_,rfl,am rfl⟩
theorem Dr (e:Expr):szExpr e<=1048576->∀l:Int,0<=l->l<=200->Cl Tryz.prog 141 [.ag (ar e.row),vi l] [] fun r _=>r=vi (cN l (ndE e)):=by
 refine ir (P:=fun e d=>szExpr e<=1048576->∀l:Int,0<=l->l<=200->Cl Tryz.prog 141 [.ag (ar e.row),vi l] [] fun r _=>r=vi (cN l d)) (fun e g hg hsz l h0 h1=>?_) e
 obtain⟨kind,op,not,val,qual,name,kids,sub⟩:=e
 exact x4 kind op not val qual name kids sub g (fun x hx=>hg x hx (Nat.le_trans (gK hx) hsz)) hsz l h0 h1
theorem JZ:((true==false)=false)/\((false==true)=false)/\((false==false)=true)/\((true==true)=true):=⟨rfl,rfl,rfl,rfl⟩
def zV (v:Val):Bool:=decide (v.kind=0)&&(decide (v.num=0)&&decide (v.text=⟨#[]⟩))
def dW (kind op:Int) (not:Bool) (val:Val) (qual name:ByteArray) (nk ns:Nat):Bool:=
 decide (kind=0)&&(decide (op=0)&&(decide (not=false)&&(zV val&&(decide (qual=⟨#[]⟩)&&(decide (name=⟨#[]⟩)&&(decide (nk=0)&&decide (ns=0)))))))
theorem yG (v:Val) (w:World):(Op.equalIn 10000 43 (.agg [.int .i64 v.kind,.int .i64 v.num,.string v.text].toArray) (.agg [.int .i64 0,.int .i64 0,.string ⟨#[]⟩].toArray)).run Tryz.prog w = .ok (zV v) w:=by
 refine Go.Vc.equalIn_fk (ks:=[(0,.int),(1,.int),(2,.str)]) ae ae ae ?_ w
 simp only[Go.Vc.eqFK,List.getElem?_cons_zero,List.getElem?_cons_succ,zV]
 by_cases h1:v.kind=0<;>by_cases h2:v.num=0<;>by_cases h3:v.text=⟨#[]⟩<;>simp [h1,h2,h3]
def jp (v:Val):Bool:=dz v&&((decide (¬v.kind=1)||decide (0<=v.num))&&decide (v.text.size<=40))
def bH (s:ByteArray):Bool:=decide (1<=s.size/\s.size<=20)
def cY (s:ByteArray):Bool:=decide (s=⟨#[]⟩)||bH s
theorem FH (v:Val):Cl Tryz.prog 228 [.ag (ar v.row)] [] fun r _=>r=vb (jp v):=by
 obtain⟨zb,hzb⟩:∃zb,zb=jp v:=⟨_,rfl⟩
 rw[<-hzb,Val.row]
 refine ai ac false Tryz.func228 rfl ae ?_
 simp only[Tryz.f228,tt,seval]
 refine cZ (AB v) ?_ ?_<;>simp only[tt,seval,Val.row]
 cases hv:dz v<;>by_cases h1:v.kind=1<;>by_cases h2:0<=v.num
 all_goals try simp only[tt,seval,h1,h2]
 all_goals try refine fun _=>?_
 all_goals exact⟨_,_,aR (by rw[hzb];simp [jp,hv,h1,h2];try omega),am rfl⟩
theorem FI (v:Val):Cl Tryz.prog 249 [.ag (ar v.row)] [] fun r _=>r=vb (jp v):=by
 obtain⟨zb,hzb⟩:∃zb,zb=jp v:=⟨_,rfl⟩
 rw[<-hzb,Val.row]
 refine ai ac false Tryz.func249 rfl ae ?_
 simp only[Tryz.f249,tt,seval]
 refine cZ (qK v) ?_ ?_<;>simp only[tt,seval,Val.row]
 cases hv:dz v<;>by_cases h1:v.kind=1<;>by_cases h2:0<=v.num
 all_goals try simp only[tt,seval,h1,h2]
 all_goals try refine fun _=>?_
 all_goals exact⟨_,_,aR (by rw[hzb];simp [jp,hv,h1,h2];try omega),am rfl⟩
theorem mn (s:ByteArray):Cl Tryz.prog 95 [vs s] [] fun r _=>r=vb (cY s):=by
 refine ai ac false Tryz.func95 rfl ae ?_
 simp only[Tryz.f95,tt,seval]
 by_cases h:s=⟨#[]⟩
 ·simp only[tt,seval,aw h]
  exact⟨_,_,aR (by simp [cY,h]),am rfl⟩
 ·simp only[tt,seval,ax h]
  refine cZ (ju s) ?_ ?_<;>simp only[tt,seval]
  exact⟨_,_,aR (by simp [cY,h,bH]),am rfl⟩
theorem yH (s:ByteArray):Cl Tryz.prog 176 [vs s] [] fun r _=>r=vb (cY s):=by
 refine ai ac false Tryz.func176 rfl ae ?_
 simp only[Tryz.f176,tt,seval]
 by_cases h:s=⟨#[]⟩
 ·simp only[tt,seval,aw h]
  exact⟨_,_,aR (by simp [cY,h]),am rfl⟩
 ·simp only[tt,seval,ax h]
  refine cZ (fX s) ?_ ?_<;>simp only[tt,seval]
  exact⟨_,_,aR (by simp [cY,h,bH]),am rfl⟩
theorem HX (l:List Expr) (fg:FuncId):Cl Tryz.prog 128 [.c (.sl l.length (l.flatMap Expr.row) none),.c (.sl 0 [] none),.c (.fn fg [] [])] [] fun r _=>r=vb (decide (l.length=0)):=by
 refine ai ac false Tryz.func128 rfl ae ?_
 simp only[Tryz.f128,tt,seval]
 refine fun _=>?_
 by_cases h:l.length=0
 case neg=>
  simp only[tt,seval,ax (show ¬(l.length:Int)=0 by omega)]
  exact⟨_,_,aR (ax h).symm,am rfl⟩
 have hs:l=[]:=List.eq_nil_of_length_eq_zero h
 subst hs
 simp only[tt,seval]
 refine dLoop.intro (fun f L p=>f 17=vi 0/\L=[]/\p=none) (fun _ _ _=>0) [] none ⟨ao _,aq _,?_⟩ ?_
 ·simp only[tt,seval]
 ·rintro g L p ⟨h5',rfl,rfl⟩
  simp only[tt,seval] at h5'
  simp only[tt,seval,h5']
  exact⟨_,_,rfl,am rfl⟩
theorem HY (l:List Query) (fg:FuncId):Cl Tryz.prog 56 [.c (.sl l.length (l.flatMap Query.row) none),.c (.sl 0 [] none),.c (.fn fg [] [])] [] fun r _=>r=vb (decide (l.length=0)):=by
 refine ai ac false Tryz.func56 rfl ae ?_
 simp only[Tryz.f56,tt,seval]
 refine fun _=>?_
 by_cases h:l.length=0
 case neg=>
  simp only[tt,seval,ax (show ¬(l.length:Int)=0 by omega)]
  exact⟨_,_,aR (ax h).symm,am rfl⟩
 have hs:l=[]:=List.eq_nil_of_length_eq_zero h
 subst hs
 simp only[tt,seval]
 refine dLoop.intro (fun f L p=>f 17=vi 0/\L=[]/\p=none) (fun _ _ _=>0) [] none ⟨ao _,aq _,?_⟩ ?_
 ·simp only[tt,seval]
 ·rintro g L p ⟨h5',rfl,rfl⟩
  simp only[tt,seval] at h5'
  simp only[tt,seval,h5']
  exact⟨_,_,rfl,am rfl⟩
theorem Br (l:List Expr):Cl Tryz.prog 44 [.c (.sl l.length (l.flatMap Expr.row) none),.c (.sl 0 [] none)] [] fun r _=>r=vb (decide (l.length=0)):=by
 refine ai ac false Tryz.func44 rfl ae ?_
 simp only[Tryz.f44,tt,seval]
 refine fun _=>?_
 by_cases h:l.length=0
 case neg=>
  simp only[tt,seval,ax (show ¬(l.length:Int)=0 by omega)]
  exact⟨_,_,aR (ax h).symm,am rfl⟩
 have hs:l=[]:=List.eq_nil_of_length_eq_zero h
 subst hs
 simp only[tt,seval]
 refine dLoop.intro (fun f L p=>f 5=vi 0/\L=[]/\p=none) (fun _ _ _=>0) [] none ⟨ao _,aq _,?_⟩ ?_
 ·simp only[tt,seval]
 ·rintro g L p ⟨h5',rfl,rfl⟩
  simp only[tt,seval] at h5'
  simp only[tt,seval,h5']
  exact⟨_,_,rfl,am rfl⟩
theorem uQ (l:List Expr):Cl Tryz.prog 55 [.c (.sl l.length (l.flatMap Expr.row) none),.c (.sl 0 [] none)] [] fun r _=>r=vb (decide (l.length=0)):=by
 refine ai ac false Tryz.func55 rfl ae ?_
 simp only[Tryz.f55,tt,seval]
 refine cZ (HX l 20) ?_ ?_<;>simp only[tt,seval]
 exact⟨_,_,rfl,am rfl⟩
theorem Ds (kind op:Int) (not:Bool) (val:Val) (qual name:ByteArray) (kids:List Expr) (sub:List Query):Cl Tryz.prog 20 [.ag (ar (Expr.mk kind op not val qual name kids sub).row),.ag (ar (Expr.mk 0 0 false ⟨0,0,⟨#[]⟩⟩ ⟨#[]⟩ ⟨#[]⟩ [] []).row)] [] fun r _=>r=vb (dW kind op not val qual name kids.length sub.length):=by
 obtain⟨zb,hzb⟩:∃zb,zb=dW kind op not val qual name kids.length sub.length:=⟨_,rfl⟩
 rw[<-hzb,ak,ak]
 refine ai ac false Tryz.func20 rfl ae ?_
 simp only[Tryz.f20,tt,seval]
 by_cases h1:kind=0
 case neg=>
  simp only[tt,seval,h1]
  exact⟨_,_,aR (by rw[hzb];simp [dW,h1]),am rfl⟩
 simp only[tt,seval,h1]
 by_cases h2:op=0
 case neg=>
  simp only[tt,seval,h2]
  exact⟨_,_,aR (by rw[hzb];simp [dW,h1,h2]),am rfl⟩
 simp only[tt,seval,h2]
 by_cases h3:not=false
 case neg=>
  simp only[tt,seval,(Bool.not_eq_false _▸h3:not=true),JZ]
  exact⟨_,_,aR (by rw[hzb];simp [dW,h1,h2,h3]),am rfl⟩
 simp only[tt,seval,h3]
 rw[o5 ae (yG val)]
 simp only[tt,seval]
 by_cases h4:zV val=true
 case neg=>
  simp only[tt,seval,(Bool.not_eq_true _▸h4:zV val=false)]
  exact⟨_,_,aR (by rw[hzb];simp [dW,h1,h2,h3,h4]),am rfl⟩
 simp only[tt,seval,h4]
 by_cases h5:qual=⟨#[]⟩
 case neg=>
  simp only[tt,seval,h5]
  exact⟨_,_,aR (by rw[hzb];simp [dW,h1,h2,h3,h4,h5]),am rfl⟩
 simp only[tt,seval,h5]
 by_cases h6:name=⟨#[]⟩
 case neg=>
  simp only[tt,seval,h6]
  exact⟨_,_,aR (by rw[hzb];simp [dW,h1,h2,h3,h4,h5,h6]),am rfl⟩
 simp only[tt,seval,h6]
 refine cZ (uQ kids) ?_ ?_<;>simp only[tt,seval]
 by_cases h7:kids.length=0
 case neg=>
  simp only[tt,seval,h7]
  exact⟨_,_,aR (by rw[hzb];simp [dW,h1,h2,h3,h4,h5,h6,h7]),am rfl⟩
 simp only[tt,seval,aw h7]
 refine cZ (HY sub 57) ?_ ?_<;>simp only[tt,seval]
 exact⟨_,_,aR (by rw[hzb];simp [dW,h1,h2,h3,h4,h5,h6,h7]),am rfl⟩
theorem FJ (kind op:Int) (not:Bool) (val:Val) (qual name:ByteArray) (kids:List Expr) (sub:List Query):Cl Tryz.prog 21 [.ag (ar (Expr.mk kind op not val qual name kids sub).row),.ag (ar (Expr.mk 0 0 false ⟨0,0,⟨#[]⟩⟩ ⟨#[]⟩ ⟨#[]⟩ [] []).row)] [] fun r _=>r=vb (dW kind op not val qual name kids.length sub.length):=by
 obtain⟨zb,hzb⟩:∃zb,zb=dW kind op not val qual name kids.length sub.length:=⟨_,rfl⟩
 rw[<-hzb,ak,ak]
 refine ai ac false Tryz.func21 rfl ae ?_
 simp only[Tryz.f21,tt,seval]
 by_cases h1:kind=0
 case neg=>
  simp only[tt,seval,h1]
  exact⟨_,_,aR (by rw[hzb];simp [dW,h1]),am rfl⟩
 simp only[tt,seval,h1]
 by_cases h2:op=0
 case neg=>
  simp only[tt,seval,h2]
  exact⟨_,_,aR (by rw[hzb];simp [dW,h1,h2]),am rfl⟩
 simp only[tt,seval,h2]
 by_cases h3:not=false
 case neg=>
  simp only[tt,seval,(Bool.not_eq_false _▸h3:not=true),JZ]
  exact⟨_,_,aR (by rw[hzb];simp [dW,h1,h2,h3]),am rfl⟩
 simp only[tt,seval,h3]
 rw[dV ae (yG val)]
 simp only[tt,seval]
 by_cases h4:zV val=true
 case neg=>
  simp only[tt,seval,(Bool.not_eq_true _▸h4:zV val=false)]
  exact⟨_,_,aR (by rw[hzb];simp [dW,h1,h2,h3,h4]),am rfl⟩
 simp only[tt,seval,h4]
 by_cases h5:qual=⟨#[]⟩
 case neg=>
  simp only[tt,seval,h5]
  exact⟨_,_,aR (by rw[hzb];simp [dW,h1,h2,h3,h4,h5]),am rfl⟩
 simp only[tt,seval,h5]
 by_cases h6:name=⟨#[]⟩
 case neg=>
  simp only[tt,seval,h6]
  exact⟨_,_,aR (by rw[hzb];simp [dW,h1,h2,h3,h4,h5,h6]),am rfl⟩
 simp only[tt,seval,h6]
 refine fun _=>?_
 by_cases h8:sub.length=0
 case neg=>
  simp only[tt,seval,ax (show ¬(sub.length:Int)=0 by omega)]
  exact⟨_,_,aR (by rw[hzb];simp [dW,h1,h2,h3,h4,h5,h6,h8]),am rfl⟩
 simp only[tt,seval,show (sub.length:Int)=0 from by omega]
 refine cZ (Br kids) ?_ ?_<;>simp only[tt,seval]
 by_cases h7:kids.length=0
 case neg=>
  simp only[tt,seval,h7]
  exact⟨_,_,aR (by rw[hzb];simp [dW,h1,h2,h3,h4,h5,h6,h7]),am rfl⟩
 simp only[tt,seval,aw h7]
 have hs:sub=[]:=List.eq_nil_of_length_eq_zero h8
 subst hs
 refine dLoop.intro (fun f L p=>f 5=vi 0/\L=[(2,.str [.v (.int .i64 0),.v (.int .i64 0),.v (.bool false),.v (.int .i64 val.kind),.v (.int .i64 val.num),.v (.string val.text),.v (.string ⟨#[]⟩),.v (.string ⟨#[]⟩),.sl kids.length (kids.flatMap Expr.row) none,.sl 0 [] none])]/\p=none) (fun _ _ _=>0) [(2,.str [.v (.int .i64 0),.v (.int .i64 0),.v (.bool false),.v (.int .i64 val.kind),.v (.int .i64 val.num),.v (.string val.text),.v (.string ⟨#[]⟩),.v (.string ⟨#[]⟩),.sl kids.length (kids.flatMap Expr.row) none,.sl 0 [] none])] none ⟨al rfl (ao _),aq _,?_⟩ ?_
 ·simp only[tt,seval]
 ·rintro g L p ⟨h5',rfl,rfl⟩
  simp only[tt,seval] at h5'
  simp only[tt,seval,h5']
  exact⟨_,_,aR (by rw[hzb];simp [dW,h1,h2,h3,h4,h5,h6,h7]),am rfl⟩
theorem jq (v:Val) (w:World):(Op.equalIn 10000 43 (.agg [.int .i64 v.kind,.int .i64 v.num,.string v.text].toArray) (.agg [.int .i64 0,.int .i64 0,.string ByteArray.empty].toArray)).run Tryz.prog w = .ok (zV v) w:=yG v w
def bQ (kind:Int):Bool×Bool×Bool×Bool×Int×Int×Int:=
 if kind=1 then (false,false,true,false,0,0,0) else if kind=2 then (false,false,false,true,0,0,0) else if kind=3 then (true,false,false,false,1,1,0) else if kind=4 then (true,false,false,false,2,2,0)
 else if kind=5 then (false,true,false,false,1,1,0) else if kind=6 then (false,true,false,false,3,3,0) else if kind=7 then (false,true,false,false,2,9,0) else if kind=8 then (false,true,false,false,1,1,1)
 else if kind=9 then (false,false,false,false,0,0,1) else (false,false,false,false,0,0,0)
def cP (kind op:Int) (val:Val) (qual name:ByteArray):Bool:=
 if kind=1 then jp val else if kind=2 then (bH name&&cY qual) else if kind=3 then (decide (op=15)||decide (op=16)) else if kind=4 then decide (1<=op/\op<=14) else decide (5<=kind/\kind<=9)
def aE (kind op:Int) (not:Bool) (val:Val) (qual name:ByteArray) (nk ns:Int):Bool:=
 cP kind op val qual name&&(((bQ kind).1||decide (op=0))&&(((bQ kind).2.1 || !not)&&(((bQ kind).2.2.1||zV val)&&(((bQ kind).2.2.2.1||(decide (qual=⟨#[]⟩)&&decide (name=⟨#[]⟩))) &&
  (decide ((bQ kind).2.2.2.2.1<=nk/\nk<=(bQ kind).2.2.2.2.2.1)&&decide (ns=(bQ kind).2.2.2.2.2.2))))))
set_option maxHeartbeats 4000000 in
theorem Bt (kind op:Int) (not:Bool) (val:Val) (qual name:ByteArray) (kids:List Expr) (sub:List Query) (hkl:kids.length<=1048576) (hsl:sub.length<=1048576):Cl Tryz.prog 180 [.ag (ar (Expr.mk kind op not val qual name kids sub).row)] [] fun r _=>r=vb (aE kind op not val qual name kids.length sub.length):=by
 obtain⟨zb,hzb⟩:∃zb,zb=aE kind op not val qual name kids.length sub.length:=⟨_,rfl⟩
 rw[<-hzb,ak]
 refine ai ac false Tryz.func180 rfl ae ?_
 simp only[Tryz.f180,tt,seval]
 refine fun _ _=>?_
 have hk0:0<=(kids.length:Int)/\(kids.length:Int)<=1048576:=by omega
 have hs0:0<=(sub.length:Int)/\(sub.length:Int)<=1048576:=by omega
 generalize (kids.length:Int)=nk at *
 generalize (sub.length:Int)=ns at *
 rcases (show kind=1∨kind=2∨kind=3∨kind=4∨kind=5∨kind=6∨kind=7∨kind=8∨kind=9∨(kind<1∨9<kind) by omega) with rfl|rfl|rfl|rfl|rfl|rfl|rfl|rfl|rfl|hk
 ·try simp only[tt,seval]
  by_cases hq:qual=⟨#[]⟩
  case neg=>
   simp only[tt,seval,hq]
   exact⟨_,_,aR (by rw[hzb];simp [aE,cP,bQ,hq];try omega),am rfl⟩
  simp only[tt,seval,hq]
  by_cases hn:name=⟨#[]⟩
  case neg=>
   simp only[tt,seval,hn]
   exact⟨_,_,aR (by rw[hzb];simp [aE,cP,bQ,hq,hn];try omega),am rfl⟩
  simp only[tt,seval,hn]
  by_cases ho:op=0
  case neg=>
   simp only[tt,seval,ho]
   exact⟨_,_,aR (by rw[hzb];simp [aE,cP,bQ,hq,hn,ho];try omega),am rfl⟩
  simp only[tt,seval,ho]
  cases not
  case true=>
   simp only[tt,seval]
   refine cZ (dr 1 5 8) ?_ ?_<;>simp only[tt,seval]
   exact⟨_,_,aR (by rw[hzb];simp [aE,cP,bQ,hq,hn,ho];try omega),am rfl⟩
  simp only[tt,seval]
  refine cZ (FH val) ?_ ?_<;>simp only[tt,seval,Val.row]
  cases hl:jp val
  case false=>
   simp only[tt,seval]
   exact⟨_,_,aR (by rw[hzb];simp [aE,cP,bQ,hq,hn,ho,hl];try omega),am rfl⟩
  simp only[tt,seval]
  rw[aC aa aa]
  by_cases hz:nk+ns=0
  case neg=>
   simp only[tt,seval,hz]
   exact⟨_,_,aR (by rw[hzb];simp [aE,cP,bQ,hq,hn,ho,hl];try omega),am rfl⟩
  simp only[tt,seval,hz]
  exact⟨_,_,aR (by rw[hzb];simp [aE,cP,bQ,hq,hn,ho,hl];try omega),am rfl⟩
 ·try simp only[tt,seval]
  rw[dV ae (jq val)]
  simp only[tt,seval]
  cases hv:zV val
  case false=>
   simp only[tt,seval]
   exact⟨_,_,aR (by rw[hzb];simp [aE,cP,bQ,bH,hv];try omega),am rfl⟩
  simp only[tt,seval]
  by_cases ho:op=0
  case neg=>
   simp only[tt,seval,ho]
   exact⟨_,_,aR (by rw[hzb];simp [aE,cP,bQ,bH,hv,ho];try omega),am rfl⟩
  simp only[tt,seval,ho]
  cases not
  case true=>
   simp only[tt,seval]
   refine cZ (dr 2 5 8) ?_ ?_<;>simp only[tt,seval]
   exact⟨_,_,aR (by rw[hzb];simp [aE,cP,bQ,bH,hv,ho];try omega),am rfl⟩
  simp only[tt,seval]
  refine cZ (ju name) ?_ ?_<;>simp only[tt,seval]
  cases hnb:decide (1<=name.size/\name.size<=20)
  case false=>
   simp only[tt,seval]
   exact⟨_,_,aR (by rw[hzb];simp [aE,cP,bQ,bH,hv,ho,hnb];try omega),am rfl⟩
  simp only[tt,seval]
  refine cZ (mn qual) ?_ ?_<;>simp only[tt,seval]
  cases hmb:cY qual
  case false=>
   simp only[tt,seval]
   exact⟨_,_,aR (by rw[hzb];simp [aE,cP,bQ,bH,hv,ho,hnb,hmb];try omega),am rfl⟩
  simp only[tt,seval]
  rw[aC aa aa]
  by_cases hz:nk+ns=0
  case neg=>
   simp only[tt,seval,hz]
   exact⟨_,_,aR (by rw[hzb];simp [aE,cP,bQ,bH,hv,ho,hnb,hmb];try omega),am rfl⟩
  simp only[tt,seval,hz]
  exact⟨_,_,aR (by rw[hzb];simp [aE,cP,bQ,bH,hv,ho,hnb,hmb];try omega),am rfl⟩
 ·try simp only[tt,seval]
  by_cases hq:qual=⟨#[]⟩
  case neg=>
   simp only[tt,seval,hq]
   exact⟨_,_,aR (by rw[hzb];simp [aE,cP,bQ,hq];try omega),am rfl⟩
  simp only[tt,seval,hq]
  by_cases hn:name=⟨#[]⟩
  case neg=>
   simp only[tt,seval,hn]
   exact⟨_,_,aR (by rw[hzb];simp [aE,cP,bQ,hq,hn];try omega),am rfl⟩
  simp only[tt,seval,hn]
  rw[dV ae (jq val)]
  simp only[tt,seval]
  cases hv:zV val
  case false=>
   simp only[tt,seval]
   exact⟨_,_,aR (by rw[hzb];simp [aE,cP,bQ,hq,hn,hv];try omega),am rfl⟩
  simp only[tt,seval]
  cases not
  case true=>
   simp only[tt,seval]
   refine cZ (dr 3 5 8) ?_ ?_<;>simp only[tt,seval]
   exact⟨_,_,aR (by rw[hzb];simp [aE,cP,bQ,hq,hn,hv];try omega),am rfl⟩
  simp only[tt,seval]
  by_cases ho15:op=15
  case' neg=>
   simp only[tt,seval,ho15]
   by_cases ho16:op=16
   case neg=>
    simp only[tt,seval,ho16]
    exact⟨_,_,aR (by rw[hzb];simp [aE,cP,bQ,hq,hn,hv,ho15,ho16];try omega),am rfl⟩
   simp only[tt,seval,ho16]
  case' pos=>try simp only[tt,seval,ho15]
  all_goals
   by_cases hk1:nk=1
   case neg=>
    simp only[tt,seval,hk1]
    exact⟨_,_,aR (by rw[hzb];simp [aE,cP,bQ, *];try omega),am rfl⟩
   simp only[tt,seval,hk1]
   by_cases hs0:ns=0
   case neg=>
    simp only[tt,seval,hs0]
    exact⟨_,_,aR (by rw[hzb];simp [aE,cP,bQ, *];try omega),am rfl⟩
   simp only[tt,seval,hs0]
   exact⟨_,_,aR (by rw[hzb];simp [aE,cP,bQ, *];try omega),am rfl⟩
 ·try simp only[tt,seval]
  by_cases hq:qual=⟨#[]⟩
  case neg=>
   simp only[tt,seval,hq]
   exact⟨_,_,aR (by rw[hzb];simp [aE,cP,bQ,hq];try omega),am rfl⟩
  simp only[tt,seval,hq]
  by_cases hn:name=⟨#[]⟩
  case neg=>
   simp only[tt,seval,hn]
   exact⟨_,_,aR (by rw[hzb];simp [aE,cP,bQ,hq,hn];try omega),am rfl⟩
  simp only[tt,seval,hn]
  rw[dV ae (jq val)]
  simp only[tt,seval]
  cases hv:zV val
  case false=>
   simp only[tt,seval]
   exact⟨_,_,aR (by rw[hzb];simp [aE,cP,bQ,hq,hn,hv];try omega),am rfl⟩
  simp only[tt,seval]
  cases not
  case true=>
   simp only[tt,seval]
   refine cZ (dr 4 5 8) ?_ ?_<;>simp only[tt,seval]
   exact⟨_,_,aR (by rw[hzb];simp [aE,cP,bQ,hq,hn,hv];try omega),am rfl⟩
  simp only[tt,seval]
  refine cZ (dr op 1 14) ?_ ?_<;>simp only[tt,seval]
  cases hop:decide ((1:Int)<=op/\op<=14)
  case false=>
   simp only[tt,seval]
   exact⟨_,_,aR (by rw[hzb];simp [aE,cP,bQ,hq,hn,hv,hop];try omega),am rfl⟩
  simp only[tt,seval]
  by_cases hk2:nk=2
  case neg=>
   simp only[tt,seval,hk2]
   exact⟨_,_,aR (by rw[hzb];simp [aE,cP,bQ,hq,hn,hv,hop];try omega),am rfl⟩
  simp only[tt,seval,hk2]
  by_cases hs0:ns=0
  case neg=>
   simp only[tt,seval,hs0]
   exact⟨_,_,aR (by rw[hzb];simp [aE,cP,bQ,hq,hn,hv,hop,hk2,hs0];try omega),am rfl⟩
  simp only[tt,seval,hs0]
  exact⟨_,_,aR (by rw[hzb];simp [aE,cP,bQ,hq,hn,hv,hop,hk2,hs0];try omega),am rfl⟩
 ·try simp only[tt,seval]
  by_cases hq:qual=⟨#[]⟩
  case neg=>
   simp only[tt,seval,hq]
   exact⟨_,_,aR (by rw[hzb];simp [aE,cP,bQ,hq];try omega),am rfl⟩
  simp only[tt,seval,hq]
  by_cases hn:name=⟨#[]⟩
  case neg=>
   simp only[tt,seval,hn]
   exact⟨_,_,aR (by rw[hzb];simp [aE,cP,bQ,hq,hn];try omega),am rfl⟩
  simp only[tt,seval,hn]
  rw[dV ae (jq val)]
  simp only[tt,seval]
  cases hv:zV val
  case false=>
   simp only[tt,seval]
   exact⟨_,_,aR (by rw[hzb];simp [aE,cP,bQ,hq,hn,hv];try omega),am rfl⟩
  simp only[tt,seval]
  by_cases ho:op=0
  case neg=>
   simp only[tt,seval,ho]
   exact⟨_,_,aR (by rw[hzb];simp [aE,cP,bQ,hq,hn,hv,ho];try omega),am rfl⟩
  simp only[tt,seval,ho]
  cases not
  case' true=>
   simp only[tt,seval]
   refine cZ (dr 5 5 8) ?_ ?_<;>simp only[tt,seval]
  case' false=>try simp only[tt,seval]
  all_goals
   by_cases hk1:nk=1
   case neg=>
    simp only[tt,seval,hk1]
    exact⟨_,_,aR (by rw[hzb];simp [aE,cP,bQ,hq,hn,hv,ho];try omega),am rfl⟩
   simp only[tt,seval,hk1]
   by_cases hs0:ns=0
   case neg=>
    simp only[tt,seval,hs0]
    exact⟨_,_,aR (by rw[hzb];simp [aE,cP,bQ,hq,hn,hv,ho,hk1,hs0];try omega),am rfl⟩
   simp only[tt,seval,hs0]
   exact⟨_,_,aR (by rw[hzb];simp [aE,cP,bQ,hq,hn,hv,ho,hk1,hs0];try omega),am rfl⟩
 ·try simp only[tt,seval]
  by_cases hq:qual=⟨#[]⟩
  case neg=>
   simp only[tt,seval,hq]
   exact⟨_,_,aR (by rw[hzb];simp [aE,cP,bQ,hq];try omega),am rfl⟩
  simp only[tt,seval,hq]
  by_cases hn:name=⟨#[]⟩
  case neg=>
   simp only[tt,seval,hn]
   exact⟨_,_,aR (by rw[hzb];simp [aE,cP,bQ,hq,hn];try omega),am rfl⟩
  simp only[tt,seval,hn]
  rw[dV ae (jq val)]
  simp only[tt,seval]
  cases hv:zV val
  case false=>
   simp only[tt,seval]
   exact⟨_,_,aR (by rw[hzb];simp [aE,cP,bQ,hq,hn,hv];try omega),am rfl⟩
  simp only[tt,seval]
  by_cases ho:op=0
  case neg=>
   simp only[tt,seval,ho]
   exact⟨_,_,aR (by rw[hzb];simp [aE,cP,bQ,hq,hn,hv,ho];try omega),am rfl⟩
  simp only[tt,seval,ho]
  cases not
  case' true=>
   simp only[tt,seval]
   refine cZ (dr 6 5 8) ?_ ?_<;>simp only[tt,seval]
  case' false=>try simp only[tt,seval]
  all_goals
   by_cases hk3:nk=3
   case neg=>
    simp only[tt,seval,hk3]
    exact⟨_,_,aR (by rw[hzb];simp [aE,cP,bQ,hq,hn,hv,ho];try omega),am rfl⟩
   simp only[tt,seval,hk3]
   by_cases hs0:ns=0
   case neg=>
    simp only[tt,seval,hs0]
    exact⟨_,_,aR (by rw[hzb];simp [aE,cP,bQ,hq,hn,hv,ho,hk3,hs0];try omega),am rfl⟩
   simp only[tt,seval,hs0]
   exact⟨_,_,aR (by rw[hzb];simp [aE,cP,bQ,hq,hn,hv,ho,hk3,hs0];try omega),am rfl⟩
 ·try simp only[tt,seval]
  by_cases hq:qual=⟨#[]⟩
  case neg=>
   simp only[tt,seval,hq]
   exact⟨_,_,aR (by rw[hzb];simp [aE,cP,bQ,hq];try omega),am rfl⟩
  simp only[tt,seval,hq]
  by_cases hn:name=⟨#[]⟩
  case neg=>
   simp only[tt,seval,hn]
   exact⟨_,_,aR (by rw[hzb];simp [aE,cP,bQ,hq,hn];try omega),am rfl⟩
  simp only[tt,seval,hn]
  rw[dV ae (jq val)]
  simp only[tt,seval]
  cases hv:zV val
  case false=>
   simp only[tt,seval]
   exact⟨_,_,aR (by rw[hzb];simp [aE,cP,bQ,hq,hn,hv];try omega),am rfl⟩
  simp only[tt,seval]
  by_cases ho:op=0
  case neg=>
   simp only[tt,seval,ho]
   exact⟨_,_,aR (by rw[hzb];simp [aE,cP,bQ,hq,hn,hv,ho];try omega),am rfl⟩
  simp only[tt,seval,ho]
  cases not
  case' true=>
   simp only[tt,seval]
   refine cZ (dr 7 5 8) ?_ ?_<;>simp only[tt,seval]
  case' false=>try simp only[tt,seval]
  all_goals
   refine cZ (dr nk 2 9) ?_ ?_<;>simp only[tt,seval]
   cases hkr:decide ((2:Int)<=nk/\nk<=9)
   case false=>
    simp only[tt,seval]
    exact⟨_,_,aR (by rw[hzb];simp [aE,cP,bQ,hq,hn,hv,ho,hkr];try omega),am rfl⟩
   simp only[tt,seval]
   by_cases hs0:ns=0
   case neg=>
    simp only[tt,seval,hs0]
    exact⟨_,_,aR (by rw[hzb];simp [aE,cP,bQ,hq,hn,hv,ho,hkr,hs0];try omega),am rfl⟩
   simp only[tt,seval,hs0]
   exact⟨_,_,aR (by rw[hzb];simp [aE,cP,bQ,hq,hn,hv,ho,hkr,hs0];try omega),am rfl⟩
 ·try simp only[tt,seval]
  by_cases hq:qual=⟨#[]⟩
  case neg=>
   simp only[tt,seval,hq]
   exact⟨_,_,aR (by rw[hzb];simp [aE,cP,bQ,hq];try omega),am rfl⟩
  simp only[tt,seval,hq]
  by_cases hn:name=⟨#[]⟩
  case neg=>
   simp only[tt,seval,hn]
   exact⟨_,_,aR (by rw[hzb];simp [aE,cP,bQ,hq,hn];try omega),am rfl⟩
  simp only[tt,seval,hn]
  rw[dV ae (jq val)]
  simp only[tt,seval]
  cases hv:zV val
  case false=>
   simp only[tt,seval]
   exact⟨_,_,aR (by rw[hzb];simp [aE,cP,bQ,hq,hn,hv];try omega),am rfl⟩
  simp only[tt,seval]
  by_cases ho:op=0
  case neg=>
   simp only[tt,seval,ho]
   exact⟨_,_,aR (by rw[hzb];simp [aE,cP,bQ,hq,hn,hv,ho];try omega),am rfl⟩
  simp only[tt,seval,ho]
  cases not
  case' true=>
   simp only[tt,seval]
   refine cZ (dr 8 5 8) ?_ ?_<;>simp only[tt,seval]
  case' false=>try simp only[tt,seval]
  all_goals
   by_cases hk1:nk=1
   case neg=>
    simp only[tt,seval,hk1]
    exact⟨_,_,aR (by rw[hzb];simp [aE,cP,bQ,hq,hn,hv,ho];try omega),am rfl⟩
   simp only[tt,seval,hk1]
   by_cases hs1:ns=1
   case neg=>
    simp only[tt,seval,hs1]
    exact⟨_,_,aR (by rw[hzb];simp [aE,cP,bQ,hq,hn,hv,ho,hk1,hs1];try omega),am rfl⟩
   simp only[tt,seval,hs1]
   exact⟨_,_,aR (by rw[hzb];simp [aE,cP,bQ,hq,hn,hv,ho,hk1,hs1];try omega),am rfl⟩
 ·try simp only[tt,seval]
  by_cases hq:qual=⟨#[]⟩
  case neg=>
   simp only[tt,seval,hq]
   exact⟨_,_,aR (by rw[hzb];simp [aE,cP,bQ,hq];try omega),am rfl⟩
  simp only[tt,seval,hq]
  by_cases hn:name=⟨#[]⟩
  case neg=>
   simp only[tt,seval,hn]
   exact⟨_,_,aR (by rw[hzb];simp [aE,cP,bQ,hq,hn];try omega),am rfl⟩
  simp only[tt,seval,hn]
  rw[dV ae (jq val)]
  simp only[tt,seval]
  cases hv:zV val
  case false=>
   simp only[tt,seval]
   exact⟨_,_,aR (by rw[hzb];simp [aE,cP,bQ,hq,hn,hv];try omega),am rfl⟩
  simp only[tt,seval]
  by_cases ho:op=0
  case neg=>
   simp only[tt,seval,ho]
   exact⟨_,_,aR (by rw[hzb];simp [aE,cP,bQ,hq,hn,hv,ho];try omega),am rfl⟩
  simp only[tt,seval,ho]
  cases not
  case true=>
   simp only[tt,seval]
   refine cZ (dr 9 5 8) ?_ ?_<;>simp only[tt,seval]
   exact⟨_,_,aR (by rw[hzb];simp [aE,cP,bQ,hq,hn,hv,ho];try omega),am rfl⟩
  simp only[tt,seval]
  by_cases hk0:nk=0
  case neg=>
   simp only[tt,seval,hk0]
   exact⟨_,_,aR (by rw[hzb];simp [aE,cP,bQ,hq,hn,hv,ho];try omega),am rfl⟩
  simp only[tt,seval,hk0]
  by_cases hs1:ns=1
  case neg=>
   simp only[tt,seval,hs1]
   exact⟨_,_,aR (by rw[hzb];simp [aE,cP,bQ,hq,hn,hv,ho,hk0,hs1];try omega),am rfl⟩
  simp only[tt,seval,hs1]
  exact⟨_,_,aR (by rw[hzb];simp [aE,cP,bQ,hq,hn,hv,ho,hk0,hs1];try omega),am rfl⟩
 ·have n1:¬kind=1:=by omega
  have n2:¬kind=2:=by omega
  have n3:¬kind=3:=by omega
  have n4:¬kind=4:=by omega
  have n5:¬kind=5:=by omega
  have n6:¬kind=6:=by omega
  have n7:¬kind=7:=by omega
  have n8:¬kind=8:=by omega
  have n9:¬kind=9:=by omega
  have hk58:decide ((5:Int)<=kind/\kind<=8)=false:=ax aa
  simp only[tt,seval,n2]
  by_cases hq:qual=⟨#[]⟩
  case neg=>
   simp only[tt,seval,hq,n3,n4]
   exact⟨_,_,aR (by rw[hzb];simp [aE,cP,bQ,n1,n2,n3,n4,n5,n6,n7,n8,n9,hq];try omega),am rfl⟩
  simp only[tt,seval,hq]
  by_cases hn:name=⟨#[]⟩
  case neg=>
   simp only[tt,seval,hn,n3,n4]
   exact⟨_,_,aR (by rw[hzb];simp [aE,cP,bQ,n1,n2,n3,n4,n5,n6,n7,n8,n9,hq,hn];try omega),am rfl⟩
  simp only[tt,seval,hn,n1]
  rw[dV ae (jq val)]
  simp only[tt,seval,n3,n4]
  cases hv:zV val
  case false=>
   simp only[tt,seval]
   exact⟨_,_,aR (by rw[hzb];simp [aE,cP,bQ,n1,n2,n3,n4,n5,n6,n7,n8,n9,hq,hn,hv];try omega),am rfl⟩
  simp only[tt,seval]
  by_cases ho:op=0
  case neg=>
   simp only[tt,seval,ho,n1,n2,n3,n4,n5,n6,n7,n8,n9]
   exact⟨_,_,aR (by rw[hzb];simp [aE,cP,bQ,n1,n2,n3,n4,n5,n6,n7,n8,n9,hq,hn,hv,ho];try omega),am rfl⟩
  simp only[tt,seval,ho]
  cases not
  case true=>
   simp only[tt,seval]
   refine cZ (dr kind 5 8) ?_ ?_<;>simp only[tt,seval]
   simp only[tt,seval,hk58]
   exact⟨_,_,aR (by rw[hzb];simp [aE,cP,bQ,n1,n2,n3,n4,n5,n6,n7,n8,n9];try omega),am rfl⟩
  case false=>
   simp only[tt,seval,n1,n2,n3,n4,n5,n6,n7,n8,n9]
   exact⟨_,_,aR (by rw[hzb];simp [aE,cP,bQ,n1,n2,n3,n4,n5,n6,n7,n8,n9];try omega),am rfl⟩
def fW (kind op:Int) (val:Val) (qual name:ByteArray):S:=.tu [([.v (.bool (bQ kind).1),.v (.bool (bQ kind).2.1),.v (.bool (bQ kind).2.2.1),.v (.bool (bQ kind).2.2.2.1),.v (.int .i64 (bQ kind).2.2.2.2.1),.v (.int .i64 (bQ kind).2.2.2.2.2.1),.v (.int .i64 (bQ kind).2.2.2.2.2.2)],false),([.v (.bool (cP kind op val qual name))],true)]
set_option maxHeartbeats 2000000 in
theorem x5 (kind op:Int) (not:Bool) (val:Val) (qual name:ByteArray) (kids:List Expr) (sub:List Query):Cl Tryz.prog 208 [.ag (ar (Expr.mk kind op not val qual name kids sub).row)] [] fun r _=>r=fW kind op val qual name:=by
 obtain⟨zs,hzs⟩:∃zs,zs=fW kind op val qual name:=⟨_,rfl⟩
 rw[<-hzs,ak]
 refine ai ac false Tryz.func208 rfl ae ?_
 simp only[Tryz.f208,tt,seval]
 rcases (show kind=1∨kind=2∨kind=3∨kind=4∨kind=5∨kind=6∨kind=7∨kind=8∨kind=9∨(kind<1∨9<kind) by omega) with rfl|rfl|rfl|rfl|rfl|rfl|rfl|rfl|rfl|hk
 ·try simp only[tt,seval]
  refine cZ (FI val) ?_ ?_<;>simp only[tt,seval,Val.row]
  exact⟨_,_,(by rw[hzs];simp [fW,cP,bQ,]),am rfl⟩
 ·try simp only[tt,seval]
  refine cZ (fX name) ?_ ?_<;>simp only[tt,seval]
  cases hnb:decide (1<=name.size/\name.size<=20)
  case false=>
   simp only[tt,seval]
   exact⟨_,_,(by rw[hzs];simp [fW,cP,bQ,bH,cY,hnb]),am rfl⟩
  simp only[tt,seval]
  by_cases hq:qual=⟨#[]⟩
  case pos=>
   simp only[tt,seval,hq]
   exact⟨_,_,(by rw[hzs];simp [fW,cP,bQ,bH,cY,hnb,hq]),am rfl⟩
  simp only[tt,seval,hq]
  refine cZ (fX qual) ?_ ?_<;>simp only[tt,seval]
  exact⟨_,_,(by rw[hzs];simp [fW,cP,bQ,bH,cY,hnb,hq]),am rfl⟩
 ·try simp only[tt,seval]
  refine dDrawn.intro [] (.take 0 (.take 1 (.take 2 (.take 3 (.take 4 (.take 5 (.br 6 (.take 7 (.take 8 (.br 9 (.take 10 .done) .nobr))) (.br 9 (.take 6 (.take 7 (.take 8 (.take 10 .done)))) .nobr)))))))) ae ?_
  simp only[tt,seval]
  by_cases h15:op=15
  case pos=>
   simp only[tt,seval,aw h15]
   refine ab ?_ ?_<;>exact⟨_,_,(by rw[hzs];simp [fW,cP,bQ,h15]),am rfl⟩
  simp only[tt,seval,ax h15]
  refine ab ?_ ?_<;>exact⟨_,_,(by rw[hzs];simp [fW,cP,bQ,h15]),am rfl⟩
 ·try simp only[tt,seval]
  refine dDrawn.intro [] (.take 0 (.take 1 (.take 2 (.take 3 (.take 4 (.take 5 (.br 6 (.take 7 (.take 8 (.br 9 (.take 10 .done) .nobr))) (.br 9 (.take 6 (.take 7 (.take 8 (.take 10 .done)))) .nobr)))))))) ae ?_
  simp only[tt,seval]
  by_cases h1:1<=op
  case neg=>
   simp only[tt,seval,ax h1]
   refine ab ?_ ?_<;>exact⟨_,_,(by rw[hzs];simp [fW,cP,bQ,h1]),am rfl⟩
  simp only[tt,seval,aw h1]
  refine ab ?_ ?_<;>exact⟨_,_,(by rw[hzs];simp [fW,cP,bQ,h1]),am rfl⟩
 ·try simp only[tt,seval]
  exact⟨_,_,(by rw[hzs];simp [fW,cP,bQ,]),am rfl⟩
 ·try simp only[tt,seval]
  exact⟨_,_,(by rw[hzs];simp [fW,cP,bQ,]),am rfl⟩
 ·try simp only[tt,seval]
  exact⟨_,_,(by rw[hzs];simp [fW,cP,bQ,]),am rfl⟩
 ·try simp only[tt,seval]
  exact⟨_,_,(by rw[hzs];simp [fW,cP,bQ,]),am rfl⟩
 ·try simp only[tt,seval]
  exact⟨_,_,(by rw[hzs];simp [fW,cP,bQ,]),am rfl⟩
 ·have n1:¬kind=1:=by omega
  have n2:¬kind=2:=by omega
  have n3:¬kind=3:=by omega
  have n4:¬kind=4:=by omega
  have n5:¬kind=5:=by omega
  have n6:¬kind=6:=by omega
  have n7:¬kind=7:=by omega
  have n8:¬kind=8:=by omega
  have n9:¬kind=9:=by omega
  simp only[tt,seval,n1,n2,n3,n4,n5,n6,n7,n8,n9]
  exact⟨_,_,(by rw[hzs];simp [fW,cP,bQ,n1,n2,n3,n4,n5,n6,n7,n8,n9];omega),am rfl⟩
theorem er:ByteArray.empty=⟨#[]⟩:=rfl
theorem iB {α:Type} {g:α->Bool} {l:List α} {x:α} (h:x∈l) (hx:g x=false):l.all g=false:=by
 cases h':l.all g with
 |false=>rfl
 |true=>have:=List.all_eq_true.1 h' x h;rw[hx] at this;cases this
theorem lS {α:Type} {g:α->Bool} {l:List α} (h:∀j (hj:j<l.length),g l[j]=true):l.all g=true:=List.all_eq_true.2 fun x hx=>by
 obtain⟨j,hj,rfl⟩:=List.mem_iff_getElem.1 hx
 exact h j hj
def lT:Expr->Bool | .mk kind op not val qual name kids sub=>dW kind op not val qual name kids.length sub.length
def nj:Item->Bool | .mk star qual e as_=>if star=true then (cY qual&&(decide (as_=⟨#[]⟩)&&lT e)) else (decide (qual=⟨#[]⟩)&&cY as_)
def nl (i:Nat):Source->Bool | .mk table as_ on=>bH table&&(cY as_&&(decide (on.length<=1)&&(decide (¬i=0)||decide (on.length=0))))
def Dt (l:List Source):Bool:=(List.range l.length).all fun i=>match l[i]? with|some s=>nl i s|none=>true
def hdB:Query->Bool | .mk _ items from_ where_ order limit=>decide (1<=items.length/\items.length<=12)&&(decide (1<=from_.length/\from_.length<=3)&&(decide (where_.length<=1)&&(decide (order.length<=12)&&(decide (-1<=limit)&&(items.all nj&&Dt from_)))))
theorem Du {l:List Source} {i:Nat} (h:i<l.length) (hb:nl i l[i]=false):Dt l=false:=by
 refine iB (x:=i) (List.mem_range.2 h) ?_
 rw[aA h];exact hb
theorem A9 {l:List Source} (h:∀j (hj:j<l.length),nl j l[j]=true):Dt l=true:=List.all_eq_true.2 fun j hj=>by
 have hj:=List.mem_range.1 hj
 rw[aA hj];exact h j hj
def jQ (g:Expr->Bool) (q:Query):Bool:=hdB q&&(exprsQ q).all g
def tO (g:Expr->Bool):Expr->Bool | .mk kind op not val qual name kids sub=>aE kind op not val qual name kids.length sub.length&&(kids.all g&&sub.all (jQ g))
noncomputable def fmE:Expr->Bool:=eU tO
theorem Dw (l:List Expr) (g:Expr->Bool) (h:∀x∈l,Cl Tryz.prog 219 [.ag (ar x.row)] [] fun r _=>r=vb (!g x)):Cl Tryz.prog 255 [.c (.sl l.length (l.flatMap Expr.row) none),.c (.fn 219 [] [])] [] fun r _=>∃n:Int,r=vi n/\decide (0<=n) = !(l.all g):=by
 refine ai ac false Tryz.func255 rfl ae ?_
 simp only[Tryz.f255,tt,seval]
 refine fun _=>?_
 refine dLoop.intro (fun f L p=>∃i:Nat,f 8=vi i/\i<=l.length/\(∀j (hj:j<l.length),j<i->g l[j]=true)/\L=[]/\p=none) (fun f _ _=>(l.length-eN (f 8)).toNat) [] none ⟨ao _,aq _,?_⟩ ?_
 ·simp only[tt,seval]
  exact⟨0,rfl,aa,fun j _ h=>absurd h (Nat.not_lt_zero _)⟩
 ·rintro g' L p ⟨i,hix,hi,hall,rfl,rfl⟩
  simp only[tt,seval] at hix
  simp only[tt,seval,hix,Int.ofNat_lt]
  refine ab (fun hlt=>?_) (fun hge=>?_)
  ·refine⟨aa,aa,_,aD aI (aA hlt),Expr.ne _ _,?_⟩
   simp only[seval,Expr.tk,aI]
   refine cZ (h l[i] (aJ hlt)) ?_ ?_<;>simp only[tt,seval,hix]
   refine ab (fun hb=>?_) (fun hb=>?_)
   ·have hb:g l[i]=false:=by simpa only[Bool.not_eq_true'] using hb
    refine⟨vi i,[],⟨i,rfl,?_⟩,am rfl⟩
    rw[aw aa,iB (aJ hlt) hb];rfl
   ·have hb:g l[i]=true:=by simpa only[Bool.not_eq_false'] using hb
    try rw[dY i aa]
    exact⟨_,none,ao _,aq _,⟨i+1,rfl,aa,fun j hj hji=>by
     by_cases e:j=i
     ·subst e;exact hb
     ·exact hall j hj aa,rfl,rfl⟩,az⟩
  ·refine⟨vi (-1),[],⟨-1,rfl,?_⟩,am rfl⟩
   rw[lS fun j hj=>hall j hj aa];rfl
theorem x6 (l:List Expr) (g:Expr->Bool) (h:∀x∈l,Cl Tryz.prog 219 [.ag (ar x.row)] [] fun r _=>r=vb (!g x)):Cl Tryz.prog 218 [.c (.sl l.length (l.flatMap Expr.row) none),.c (.fn 219 [] [])] [] fun r _=>r=vb (!(l.all g)):=by
 refine ai ac false Tryz.func218 rfl ae ?_
 simp only[Tryz.f218,tt,seval]
 refine iQ (Dw l g h) ?_ ?_ ?_
 ·decide
 ·simp only[tt,seval]
 rintro r ⟨n,rfl,hn⟩
 simp only[tt,seval]
 exact⟨_,_,aR hn,am rfl⟩
theorem Dx (l:List Query) (g:Query->Bool) (h:∀x∈l,Cl Tryz.prog 210 [.ag (ar x.row)] [] fun r _=>r=vb (!g x)):Cl Tryz.prog 250 [.c (.sl l.length (l.flatMap Query.row) none),.c (.fn 210 [] [])] [] fun r _=>∃n:Int,r=vi n/\decide (0<=n) = !(l.all g):=by
 refine ai ac false Tryz.func250 rfl ae ?_
 simp only[Tryz.f250,tt,seval]
 refine fun _=>?_
 refine dLoop.intro (fun f L p=>∃i:Nat,f 8=vi i/\i<=l.length/\(∀j (hj:j<l.length),j<i->g l[j]=true)/\L=[]/\p=none) (fun f _ _=>(l.length-eN (f 8)).toNat) [] none ⟨ao _,aq _,?_⟩ ?_
 ·simp only[tt,seval]
  exact⟨0,rfl,aa,fun j _ h=>absurd h (Nat.not_lt_zero _)⟩
 ·rintro g' L p ⟨i,hix,hi,hall,rfl,rfl⟩
  simp only[tt,seval] at hix
  simp only[tt,seval,hix,Int.ofNat_lt]
  refine ab (fun hlt=>?_) (fun hge=>?_)
  ·refine⟨aa,aa,_,aD Query.row_len (aA hlt),Query.ne _ _,?_⟩
   simp only[seval,Query.tk,Query.row_len]
   refine cZ (h l[i] (aJ hlt)) ?_ ?_<;>simp only[tt,seval,hix]
   refine ab (fun hb=>?_) (fun hb=>?_)
   ·have hb:g l[i]=false:=by simpa only[Bool.not_eq_true'] using hb
    refine⟨vi i,[],⟨i,rfl,?_⟩,am rfl⟩
    rw[aw aa,iB (aJ hlt) hb];rfl
   ·have hb:g l[i]=true:=by simpa only[Bool.not_eq_false'] using hb
    try rw[dY i aa]
    exact⟨_,none,ao _,aq _,⟨i+1,rfl,aa,fun j hj hji=>by
     by_cases e:j=i
     ·subst e;exact hb
     ·exact hall j hj aa,rfl,rfl⟩,az⟩
  ·refine⟨vi (-1),[],⟨-1,rfl,?_⟩,am rfl⟩
   rw[lS fun j hj=>hall j hj aa];rfl
theorem x8 (l:List Query) (g:Query->Bool) (h:∀x∈l,Cl Tryz.prog 210 [.ag (ar x.row)] [] fun r _=>r=vb (!g x)):Cl Tryz.prog 209 [.c (.sl l.length (l.flatMap Query.row) none),.c (.fn 210 [] [])] [] fun r _=>r=vb (!(l.all g)):=by
 refine ai ac false Tryz.func209 rfl ae ?_
 simp only[Tryz.f209,tt,seval]
 refine iQ (Dx l g h) ?_ ?_ ?_
 ·decide
 ·simp only[tt,seval]
 rintro r ⟨n,rfl,hn⟩
 simp only[tt,seval]
 exact⟨_,_,aR hn,am rfl⟩
theorem IX (e:Expr) (b:Bool) (h:Cl Tryz.prog 127 [.ag (ar e.row)] [] fun r _=>r=vb b):Cl Tryz.prog 219 [.ag (ar e.row)] [] fun r _=>r=vb (!b):=by
 obtain⟨kind,op,not,val,qual,name,kids,sub⟩:=e
 rw[ak] at h ⊢
 refine ai ac false Tryz.func219 rfl ae ?_
 simp only[Tryz.f219,tt,seval]
 refine cZ (h) ?_ ?_<;>simp only[tt,seval]
 exact⟨_,_,rfl,am rfl⟩
theorem IY (e:Query) (b:Bool) (h:Cl Tryz.prog 84 [.ag (ar e.row)] [] fun r _=>r=vb b):Cl Tryz.prog 210 [.ag (ar e.row)] [] fun r _=>r=vb (!b):=by
 obtain⟨distinct,items,from_,where_,order,limit⟩:=e
 rw[bj] at h ⊢
 refine ai ac false Tryz.func210 rfl ae ?_
 simp only[Tryz.f210,tt,seval]
 refine cZ (h) ?_ ?_<;>simp only[tt,seval]
 exact⟨_,_,rfl,am rfl⟩
theorem pR (l:List Expr) (g:Expr->Bool) (h:∀x∈l,Cl Tryz.prog 127 [.ag (ar x.row)] [] fun r _=>r=vb (g x)):Cl Tryz.prog 151 [.c (.sl l.length (l.flatMap Expr.row) none)] [] fun r _=>r=vb (l.all g):=by
 refine ai ac false Tryz.func151 rfl ae ?_
 simp only[Tryz.f151,tt,seval]
 refine cZ (x6 l g (fun x hx=>IX x (g x) (h x hx))) ?_ ?_<;>simp only[tt,seval]
 exact⟨_,_,aR (Bool.not_not _),am rfl⟩
theorem FL (e:Expr):Cl Tryz.prog 177 [.ag (ar e.row)] [] fun r _=>r=vb (lT e):=by
 obtain⟨kind,op,not,val,qual,name,kids,sub⟩:=e
 rw[ak]
 refine ai ac false Tryz.func177 rfl ae ?_
 simp only[Tryz.f177,tt,seval]
 refine cZ (Ds kind op not val qual name kids sub) ?_ ?_<;>simp only[tt,seval,ak,er]
 exact⟨_,_,rfl,am rfl⟩
set_option maxHeartbeats 4000000 in
theorem sL (kind op:Int) (not:Bool) (val:Val) (qual name:ByteArray) (kids:List Expr) (sub:List Query) (g:Expr->Bool) (hkids:∀x∈kids,Cl Tryz.prog 127 [.ag (ar x.row)] [] fun r _=>r=vb (g x)) (hsub:∀q∈sub,Cl Tryz.prog 84 [.ag (ar q.row)] [] fun r _=>r=vb (jQ g q)) (hkl:kids.length<=1048576) (hsl:sub.length<=1048576):Cl Tryz.prog 127 [.ag (ar (Expr.mk kind op not val qual name kids sub).row)] [] fun r _=>r=vb (tO g (Expr.mk kind op not val qual name kids sub)):=by
 obtain⟨zb,hzb⟩:∃zb,zb=tO g (Expr.mk kind op not val qual name kids sub):=⟨_,rfl⟩
 rw[<-hzb,ak]
 refine ai ac false Tryz.func127 rfl ae ?_
 simp only[Tryz.f127,tt,seval]
 obtain⟨nk,hnk⟩:∃nk:Int,nk=kids.length:=⟨_,rfl⟩
 obtain⟨ns,hns⟩:∃ns:Int,ns=sub.length:=⟨_,rfl⟩
 rw[tO,aE,<-hnk,<-hns] at hzb
 by_cases hk:1<=kind/\kind<=9
 case neg=>
  have hokf:cP kind op val qual name=false:=by simp only[cP];(repeat' split)<;>first|omega|(exact ax aa)
  refine cZ (x5 kind op not val qual name kids sub) ?_ ?_<;>simp only[tt,seval,ak,fW,hokf]
  exact⟨_,_,aR (by rw[hzb,hokf];rfl),am rfl⟩
 have fo:=x5 kind op not val qual name kids sub
 unfold fW at fo
 generalize cP kind op val qual name=okv at fo hzb
 rcases (show kind=1∨kind=2∨kind=3∨kind=4∨kind=5∨kind=6∨kind=7∨kind=8∨kind=9 by omega) with rfl|rfl|rfl|rfl|rfl|rfl|rfl|rfl|rfl
 all_goals
  refine cZ (fo) ?_ ?_<;>simp only[tt,seval,ak,bQ]
  cases hok:okv
  case false=>(try simp only[tt,seval]);exact⟨_,_,aR (by clear hnk hns;rw[hzb];simp [bQ, *];try omega),am rfl⟩
  simp only[tt,seval]
  first
   |((by_cases ho:op=0;case neg=>(try simp only[tt,seval,ho]);exact⟨_,_,aR (by clear hnk hns;rw[hzb];simp [bQ, *];try omega),am rfl⟩);try simp only[tt,seval,ho])
   |skip
  first
   |(cases hno:not;case true=>(try simp only[tt,seval]);exact⟨_,_,aR (by clear hnk hns;rw[hzb];simp [bQ, *];try omega),am rfl⟩);(try simp only[tt,seval])
   |skip
  first
   |(rw[dV ae (jq val)];(try simp only[tt,seval]);cases hv:zV val;case false=>(try simp only[tt,seval]);exact⟨_,_,aR (by clear hnk hns;rw[hzb];simp [bQ, *];try omega),am rfl⟩);(try simp only[tt,seval])
   |skip
  first
   |((by_cases hq:qual=⟨#[]⟩;case neg=>(try simp only[tt,seval,hq]);exact⟨_,_,aR (by clear hnk hns;rw[hzb];simp [bQ, *];try omega),am rfl⟩);try simp only[tt,seval,hq];(by_cases hn:name=⟨#[]⟩;case neg=>(try simp only[tt,seval,hn]);exact⟨_,_,aR (by clear hnk hns;rw[hzb];simp [bQ, *];try omega),am rfl⟩);try simp only[tt,seval,hn])
   |skip
  refine fun _=>?_
  rw[<-hnk]
  first
   |((by_cases hlo:nk<0;case pos=>(try simp only[tt,seval,hlo]);exact⟨_,_,aR (by clear hnk hns;rw[hzb];simp [bQ, *];try omega),am rfl⟩);try simp only[tt,seval,hlo])
   |((by_cases hlo:nk<1;case pos=>(try simp only[tt,seval,hlo]);exact⟨_,_,aR (by clear hnk hns;rw[hzb];simp [bQ, *];try omega),am rfl⟩);try simp only[tt,seval,hlo])
   |((by_cases hlo:nk<2;case pos=>(try simp only[tt,seval,hlo]);exact⟨_,_,aR (by clear hnk hns;rw[hzb];simp [bQ, *];try omega),am rfl⟩);try simp only[tt,seval,hlo])
   |((by_cases hlo:nk<3;case pos=>(try simp only[tt,seval,hlo]);exact⟨_,_,aR (by clear hnk hns;rw[hzb];simp [bQ, *];try omega),am rfl⟩);try simp only[tt,seval,hlo])
  refine fun _=>?_
  try rw[<-hnk]
  first
   |((by_cases hhi:0<nk;case pos=>(try simp only[tt,seval,hhi]);exact⟨_,_,aR (by clear hnk hns;rw[hzb];simp [bQ, *];try omega),am rfl⟩);try simp only[tt,seval,hhi])
   |((by_cases hhi:1<nk;case pos=>(try simp only[tt,seval,hhi]);exact⟨_,_,aR (by clear hnk hns;rw[hzb];simp [bQ, *];try omega),am rfl⟩);try simp only[tt,seval,hhi])
   |((by_cases hhi:2<nk;case pos=>(try simp only[tt,seval,hhi]);exact⟨_,_,aR (by clear hnk hns;rw[hzb];simp [bQ, *];try omega),am rfl⟩);try simp only[tt,seval,hhi])
   |((by_cases hhi:3<nk;case pos=>(try simp only[tt,seval,hhi]);exact⟨_,_,aR (by clear hnk hns;rw[hzb];simp [bQ, *];try omega),am rfl⟩);try simp only[tt,seval,hhi])
   |((by_cases hhi:9<nk;case pos=>(try simp only[tt,seval,hhi]);exact⟨_,_,aR (by clear hnk hns;rw[hzb];simp [bQ, *];try omega),am rfl⟩);try simp only[tt,seval,hhi])
  refine fun _=>?_
  try rw[<-hns]
  first
   |((by_cases hns0:ns=0;case neg=>(try simp only[tt,seval,hns0]);exact⟨_,_,aR (by clear hnk hns;rw[hzb];simp [bQ, *];try omega),am rfl⟩);try simp only[tt,seval,hns0])
   |((by_cases hns0:ns=1;case neg=>(try simp only[tt,seval,hns0]);exact⟨_,_,aR (by clear hnk hns;rw[hzb];simp [bQ, *];try omega),am rfl⟩);try simp only[tt,seval,hns0])
  refine cZ (pR kids g hkids) ?_ ?_<;>simp only[tt,seval]
  cases hka:kids.all g
  case false=>(try simp only[tt,seval]);exact⟨_,_,aR (by clear hnk hns;rw[hzb];simp [bQ, *];try omega),am rfl⟩
  simp only[tt,seval]
  refine cZ (x8 sub (jQ g) (fun q hq=>IY q (jQ g q) (hsub q hq))) ?_ ?_<;>simp only[tt,seval]
  cases hsa:sub.all (jQ g)
  case false=>(try simp only[tt,seval]);exact⟨_,_,aR (by clear hnk hns;rw[hzb];simp [bQ, *];try omega),am rfl⟩
  simp only[tt,seval]
  exact⟨_,_,aR (by clear hnk hns;rw[hzb];simp [bQ, *];try omega),am rfl⟩
theorem uR (distinct:Bool) (items:List Item) (from_:List Source) (where_:List Expr) (order:List SortKey) (limit:Int) (g:Expr->Bool) (h:¬(1<=items.length/\items.length<=12)):jQ g (Query.mk distinct items from_ where_ order limit)=false:=by simp only[jQ,hdB,ax h,Bool.false_and]
theorem yI (distinct:Bool) (items:List Item) (from_:List Source) (where_:List Expr) (order:List SortKey) (limit:Int) (g:Expr->Bool) (h:¬(1<=from_.length/\from_.length<=3)):jQ g (Query.mk distinct items from_ where_ order limit)=false:=by simp only[jQ,hdB,ax h,Bool.false_and,Bool.and_false]
theorem Aa (distinct:Bool) (items:List Item) (from_:List Source) (where_:List Expr) (order:List SortKey) (limit:Int) (g:Expr->Bool) (h:¬where_.length<=1):jQ g (Query.mk distinct items from_ where_ order limit)=false:=by simp only[jQ,hdB,ax h,Bool.false_and,Bool.and_false]
theorem Ab (distinct:Bool) (items:List Item) (from_:List Source) (where_:List Expr) (order:List SortKey) (limit:Int) (g:Expr->Bool) (h:¬order.length<=12):jQ g (Query.mk distinct items from_ where_ order limit)=false:=by simp only[jQ,hdB,ax h,Bool.false_and,Bool.and_false]
theorem Ac (distinct:Bool) (items:List Item) (from_:List Source) (where_:List Expr) (order:List SortKey) (limit:Int) (g:Expr->Bool) (h:¬ -1<=limit):jQ g (Query.mk distinct items from_ where_ order limit)=false:=by simp only[jQ,hdB,ax h,Bool.false_and,Bool.and_false]
theorem sM (distinct:Bool) (items:List Item) (from_:List Source) (where_:List Expr) (order:List SortKey) (limit:Int) (g:Expr->Bool) {x:Item} (hm:x∈items) (h:nj x=false):jQ g (Query.mk distinct items from_ where_ order limit)=false:=by simp only[jQ,hdB,iB hm h,Bool.false_and,Bool.and_false]
theorem xb (distinct:Bool) (items:List Item) (from_:List Source) (where_:List Expr) (order:List SortKey) (limit:Int) (g:Expr->Bool) {i:Nat} (hm:i<from_.length) (h:nl i from_[i]=false):jQ g (Query.mk distinct items from_ where_ order limit)=false:=by simp only[jQ,hdB,Du hm h,Bool.false_and,Bool.and_false]
theorem IZ (distinct:Bool) (items:List Item) (from_:List Source) (where_:List Expr) (order:List SortKey) (limit:Int) (g:Expr->Bool) (h1:1<=items.length/\items.length<=12) (h2:1<=from_.length/\from_.length<=3) (h3:where_.length<=1) (h4:order.length<=12) (h5 : -1<=limit) (h6:∀j (hj:j<items.length),nj items[j]=true) (h7:∀j (hj:j<from_.length),nl j from_[j]=true) :
 jQ g (Query.mk distinct items from_ where_ order limit)=(exprsQ (Query.mk distinct items from_ where_ order limit)).all g:=by simp only[jQ,hdB,aw h1,aw h2,aw h3,aw h4,aw h5,lS h6,A9 h7,Bool.true_and]
set_option maxHeartbeats 1000000 in
theorem qg (q:Query) (g:Expr->Bool) (h:∀x∈exprsQ q,Cl Tryz.prog 127 [.ag (ar x.row)] [] fun r _=>r=vb (g x)) (hsz:szQuery q<=1048576):Cl Tryz.prog 84 [.ag (ar q.row)] [] fun r _=>r=vb (jQ g q):=by
 obtain⟨distinct,items,from_,where_,order,limit⟩:=q
 obtain⟨zb,hzb⟩:∃zb,zb=jQ g (Query.mk distinct items from_ where_ order limit):=⟨_,rfl⟩
 rw[<-hzb,bj]
 refine ai ac false Tryz.func84 rfl ae ?_
 simp only[Tryz.f84,tt,seval]
 refine fun _=>?_
 by_cases c1:(items.length:Int)<1
 case pos=>
  simp only[tt,seval,aw c1]
  exact⟨_,_,aR (by rw[hzb];exact (uR distinct items from_ where_ order limit g aa).symm),am rfl⟩
 simp only[tt,seval,ax c1]
 refine fun _=>?_
 by_cases c2:(12:Int)<items.length
 case pos=>
  simp only[tt,seval,aw c2]
  exact⟨_,_,aR (by rw[hzb];exact (uR distinct items from_ where_ order limit g aa).symm),am rfl⟩
 simp only[tt,seval,ax c2]
 refine fun _=>?_
 by_cases c3:(from_.length:Int)<1
 case pos=>
  simp only[tt,seval,aw c3]
  exact⟨_,_,aR (by rw[hzb];exact (yI distinct items from_ where_ order limit g aa).symm),am rfl⟩
 simp only[tt,seval,ax c3]
 refine fun _=>?_
 by_cases c4:(3:Int)<from_.length
 case pos=>
  simp only[tt,seval,aw c4]
  exact⟨_,_,aR (by rw[hzb];exact (yI distinct items from_ where_ order limit g aa).symm),am rfl⟩
 simp only[tt,seval,ax c4]
 refine fun _=>?_
 by_cases c5:(1:Int)<where_.length
 case pos=>
  simp only[tt,seval,aw c5]
  exact⟨_,_,aR (by rw[hzb];exact (Aa distinct items from_ where_ order limit g aa).symm),am rfl⟩
 simp only[tt,seval,ax c5]
 refine fun _=>?_
 by_cases c6:(12:Int)<order.length
 case pos=>
  simp only[tt,seval,aw c6]
  exact⟨_,_,aR (by rw[hzb];exact (Ab distinct items from_ where_ order limit g aa).symm),am rfl⟩
 simp only[tt,seval,ax c6]
 refine ab (fun c7=>?_) (fun c7=>?_)
 ·exact⟨_,_,aR (by rw[hzb];exact (Ac distinct items from_ where_ order limit g aa).symm),am rfl⟩
 ·try simp only[tt,seval]
  refine fun _=>?_
  refine dLoop.intro (fun f L p=>∃i:Nat,f 49=vi i/\i<=items.length/\(∀j (hj:j<items.length),j<i->nj items[j]=true)/\L=[(1,.str [.v (.bool distinct),.sl items.length (items.flatMap Item.row) none,.sl from_.length (from_.flatMap Source.row) none,.sl where_.length (where_.flatMap Expr.row) none,.sl order.length (order.flatMap SortKey.row) none,.v (.int .i64 limit)])]/\p=none) (fun f _ _=>(items.length-eN (f 49)).toNat) [(1,.str [.v (.bool distinct),.sl items.length (items.flatMap Item.row) none,.sl from_.length (from_.flatMap Source.row) none,.sl where_.length (where_.flatMap Expr.row) none,.sl order.length (order.flatMap SortKey.row) none,.v (.int .i64 limit)])] none ⟨al rfl (ao _),aq _,?_⟩ ?_
  ·simp only[tt,seval]
   exact⟨0,rfl,aa,fun j _ h=>absurd h (Nat.not_lt_zero _)⟩
  ·rintro g' L p ⟨i,ix,hi,hall,rfl,rfl⟩
   simp only[tt,seval] at ix
   simp only[tt,seval,ix,Int.ofNat_lt]
   refine ab (fun hlt=>?_) (fun hge=>?_)
   ·have hlt:i<items.length:=by omega
    obtain⟨it,bt⟩:∃it,it=items[i]:=⟨_,rfl⟩
    refine⟨aa,aa,_,aD Item.row_len (aA hlt),Item.ne _ _,?_⟩
    obtain⟨star,qual,⟨k,o,n,v,q,m,ks,ss⟩,as_⟩:=it
    rw[<-bt,Item.row_mk,ak]
    simp only[tt,seval]
    cases star
    case true=>
     simp only[tt,seval]
     refine cZ (yH qual) ?_ ?_<;>simp only[tt,seval]
     cases hm:cY qual
     case false=>
      simp only[tt,seval]
      exact⟨_,_,aR (by rw[hzb];exact (sM distinct items from_ where_ order limit g (bt▸aJ hlt) (by simp [nj,hm])).symm),am rfl⟩
     simp only[tt,seval]
     by_cases ha:as_=⟨#[]⟩
     case neg=>
      simp only[tt,seval,ax ha]
      exact⟨_,_,aR (by rw[hzb];exact (sM distinct items from_ where_ order limit g (bt▸aJ hlt) (by simp [nj,hm,ha])).symm),am rfl⟩
     simp only[tt,seval,aw ha]
     refine cZ (FL (Expr.mk k o n v q m ks ss)) ?_ ?_<;>simp only[tt,seval,ak]
     cases hz:dW k o n v q m ks.length ss.length
     case false=>
      simp only[tt,seval,lT,hz]
      exact⟨_,_,aR (by rw[hzb];exact (sM distinct items from_ where_ order limit g (bt▸aJ hlt) (by simp [nj,hm,ha,lT,hz])).symm),am rfl⟩
     simp only[tt,seval,lT,hz,ix]
     try rw[dY i aa]
     exact⟨_,none,al rfl (ao _),aq _,⟨i+1,rfl,aa,fun j hj hji=>by
      by_cases e:j=i
      ·subst e;rw[<-bt];simp [nj,hm,ha,lT,hz]
      ·exact hall j hj aa,rfl,rfl⟩,az⟩
    case false=>
     simp only[tt,seval]
     by_cases hq:qual=⟨#[]⟩
     case neg=>
      simp only[tt,seval,ax hq]
      exact⟨_,_,aR (by rw[hzb];exact (sM distinct items from_ where_ order limit g (bt▸aJ hlt) (by simp [nj,hq])).symm),am rfl⟩
     simp only[tt,seval,aw hq]
     refine cZ (yH as_) ?_ ?_<;>simp only[tt,seval,ix]
     cases hm:cY as_
     case false=>
      simp only[tt,seval]
      exact⟨_,_,aR (by rw[hzb];exact (sM distinct items from_ where_ order limit g (bt▸aJ hlt) (by simp [nj,hm])).symm),am rfl⟩
     simp only[tt,seval]
     try rw[dY i aa]
     exact⟨_,none,al rfl (ao _),aq _,⟨i+1,rfl,aa,fun j hj hji=>by
      by_cases e:j=i
      ·subst e;rw[<-bt];simp [nj,hm,hq]
      ·exact hall j hj aa,rfl,rfl⟩,az⟩
   ·have hall:=fun j hj=>hall j hj aa
    have hall1:=hall
    clear hall
    refine fun _=>?_
    refine dLoop.intro (fun f L p=>∃i:Nat,f 92=vi i/\i<=from_.length/\(∀j (hj:j<from_.length),j<i->nl j from_[j]=true)/\L=[(1,.str [.v (.bool distinct),.sl items.length (items.flatMap Item.row) none,.sl from_.length (from_.flatMap Source.row) none,.sl where_.length (where_.flatMap Expr.row) none,.sl order.length (order.flatMap SortKey.row) none,.v (.int .i64 limit)])]/\p=none) (fun f _ _=>(from_.length-eN (f 92)).toNat) [(1,.str [.v (.bool distinct),.sl items.length (items.flatMap Item.row) none,.sl from_.length (from_.flatMap Source.row) none,.sl where_.length (where_.flatMap Expr.row) none,.sl order.length (order.flatMap SortKey.row) none,.v (.int .i64 limit)])] none ⟨al rfl (ao _),aq _,?_⟩ ?_
    ·simp only[tt,seval]
     exact⟨0,rfl,aa,fun j _ h=>absurd h (Nat.not_lt_zero _)⟩
    ·rintro g' L p ⟨i,ix,hi,hall,rfl,rfl⟩
     simp only[tt,seval] at ix
     simp only[tt,seval,ix,Int.ofNat_lt]
     refine ab (fun hlt=>?_) (fun hge=>?_)
     ·have hlt:i<from_.length:=by omega
      obtain⟨it,bt⟩:∃it,it=from_[i]:=⟨_,rfl⟩
      refine⟨aa,aa,_,aD Source.row_len (aA hlt),Source.ne _ _,?_⟩
      obtain⟨table,as_,on⟩:=it
      rw[<-bt,Source.row_mk]
      simp only[tt,seval]
      refine cZ (fX table) ?_ ?_<;>simp only[tt,seval]
      cases hnb:decide (1<=table.size/\table.size<=20)
      case false=>
       simp only[tt,seval]
       exact⟨_,_,aR (by rw[hzb];exact (xb distinct items from_ where_ order limit g hlt (by rw[<-bt];simp [nl,bH,hnb])).symm),am rfl⟩
      simp only[tt,seval]
      refine cZ (yH as_) ?_ ?_<;>simp only[tt,seval]
      cases hm:cY as_
      case false=>
       simp only[tt,seval]
       exact⟨_,_,aR (by rw[hzb];exact (xb distinct items from_ where_ order limit g hlt (by rw[<-bt];simp [nl,bH,hnb,hm])).symm),am rfl⟩
      simp only[tt,seval]
      refine fun _=>?_
      by_cases c8:(1:Int)<on.length
      case pos=>
       simp only[tt,seval,aw c8]
       exact⟨_,_,aR (by rw[hzb];exact (xb distinct items from_ where_ order limit g hlt (by rw[<-bt];simp only[nl,ax (show ¬on.length<=1 by omega),Bool.false_and,Bool.and_false])).symm),am rfl⟩
      simp only[tt,seval,ax c8]
      by_cases c9:(i:Int)=0
      case neg=>
       simp only[tt,seval,c9,ix]
       try rw[dY i aa]
       exact⟨_,none,al rfl (ao _),aq _,⟨i+1,rfl,aa,fun j hj hji=>by
        by_cases e:j=i
        ·subst e;rw[<-bt];simp only[nl,bH,hnb,hm,aw (show on.length<=1 by omega),aw (show ¬j=0 by omega),Bool.true_and,Bool.true_or]
        ·exact hall j hj aa,rfl,rfl⟩,az⟩
      simp only[tt,seval,aw c9,ix]
      refine fun _=>?_
      refine ab (fun It=>?_) (fun It=>?_)
      ·exact⟨_,_,aR (by rw[hzb];exact (xb distinct items from_ where_ order limit g hlt (by rw[<-bt];simp only[nl,ax (show ¬ ¬i=0 by omega),ax (show ¬on.length=0 by omega),Bool.or_false,Bool.and_false])).symm),am rfl⟩
      ·have hi0:i=0:=by omega
       try rw[dY i aa]
       exact⟨_,none,al rfl (ao _),aq _,⟨i+1,rfl,aa,fun j hj hji=>by
        by_cases e:j=i
        ·subst e;rw[<-bt];simp only[nl,bH,hnb,hm,aw (show on.length<=1 by omega),aw (show on.length=0 by omega),Bool.true_and,Bool.or_true]
        ·exact hall j hj aa,rfl,rfl⟩,az⟩
     ·have hall:=fun j hj=>hall j hj aa
      refine cZ (rK distinct items from_ where_ order limit hsz) ?_ ?_<;>simp only[tt,seval,bj]
      refine cZ (pR (exprsQ (Query.mk distinct items from_ where_ order limit)) g h) ?_ ?_<;>simp only[tt,seval]
      exact⟨_,_,aR (by rw[hzb,IZ distinct items from_ where_ order limit g ⟨aa,aa⟩ ⟨aa,aa⟩ aa aa aa hall1 hall]),am rfl⟩
set_option maxHeartbeats 1000000 in
theorem rM (q:Query) (g:Expr->Bool) (h:∀x∈exprsQ q,Cl Tryz.prog 98 [.ag (ar x.row)] [] fun r _=>r=vb (g x)) (hsz:szQuery q<=1048576):Cl Tryz.prog 39 [.ag (ar q.row)] [] fun r _=>r=vb (jQ g q):=by
 obtain⟨distinct,items,from_,where_,order,limit⟩:=q
 obtain⟨zb,hzb⟩:∃zb,zb=jQ g (Query.mk distinct items from_ where_ order limit):=⟨_,rfl⟩
 rw[<-hzb,bj]
 refine ai ac false Tryz.func39 rfl ae ?_
 simp only[Tryz.f39,tt,seval]
 refine fun _=>?_
 refine cZ (dr items.length 1 12) ?_ ?_<;>simp only[tt,seval]
 by_cases c1:(1:Int)<=items.length/\(items.length:Int)<=12
 case neg=>
  simp only[tt,seval,ax c1]
  exact⟨_,_,aR (by rw[hzb];exact (uR distinct items from_ where_ order limit g aa).symm),am rfl⟩
 simp only[tt,seval,aw c1]
 refine fun _=>?_
 refine cZ (dr from_.length 1 3) ?_ ?_<;>simp only[tt,seval]
 by_cases c2:(1:Int)<=from_.length/\(from_.length:Int)<=3
 case neg=>
  simp only[tt,seval,ax c2]
  exact⟨_,_,aR (by rw[hzb];exact (yI distinct items from_ where_ order limit g aa).symm),am rfl⟩
 simp only[tt,seval,aw c2]
 refine fun _=>?_
 by_cases c5:(1:Int)<where_.length
 case pos=>
  simp only[tt,seval,aw c5]
  exact⟨_,_,aR (by rw[hzb];exact (Aa distinct items from_ where_ order limit g aa).symm),am rfl⟩
 simp only[tt,seval,ax c5]
 refine fun _=>?_
 by_cases c6:(12:Int)<order.length
 case pos=>
  simp only[tt,seval,aw c6]
  exact⟨_,_,aR (by rw[hzb];exact (Ab distinct items from_ where_ order limit g aa).symm),am rfl⟩
 simp only[tt,seval,ax c6]
 refine ab (fun c7=>?_) (fun c7=>?_)
 ·exact⟨_,_,aR (by rw[hzb];exact (Ac distinct items from_ where_ order limit g aa).symm),am rfl⟩
 ·try simp only[tt,seval]
  refine dLoop.intro (fun f L p=>∃i:Nat,f 3=vi i/\i<=items.length/\(∀j (hj:j<items.length),j<i->nj items[j]=true)/\L=[(1,.str [.v (.bool distinct),.sl items.length (items.flatMap Item.row) none,.sl from_.length (from_.flatMap Source.row) none,.sl where_.length (where_.flatMap Expr.row) none,.sl order.length (order.flatMap SortKey.row) none,.v (.int .i64 limit)])]/\p=none) (fun f _ _=>(items.length-eN (f 3)).toNat) [(1,.str [.v (.bool distinct),.sl items.length (items.flatMap Item.row) none,.sl from_.length (from_.flatMap Source.row) none,.sl where_.length (where_.flatMap Expr.row) none,.sl order.length (order.flatMap SortKey.row) none,.v (.int .i64 limit)])] none ⟨al rfl (ao _),aq _,?_⟩ ?_
  ·simp only[tt,seval]
   exact⟨0,rfl,aa,fun j _ h=>absurd h (Nat.not_lt_zero _)⟩
  ·rintro g' L p ⟨i,ix,hi,hall,rfl,rfl⟩
   simp only[tt,seval] at ix
   simp only[tt,seval,ix,Int.ofNat_lt]
   refine fun _=>?_
   refine ab (fun hlt=>?_) (fun hge=>?_)
   ·have hlt:i<items.length:=by omega
    obtain⟨it,bt⟩:∃it,it=items[i]:=⟨_,rfl⟩
    refine⟨aa,aa,_,aD Item.row_len (aA hlt),Item.ne _ _,?_⟩
    obtain⟨star,qual,⟨k,o,n,v,q,m,ks,ss⟩,as_⟩:=it
    rw[<-bt,Item.row_mk,ak]
    simp only[tt,seval]
    cases star
    case true=>
     simp only[tt,seval]
     refine cZ (mn qual) ?_ ?_<;>simp only[tt,seval]
     cases hm:cY qual
     case false=>
      simp only[tt,seval]
      exact⟨_,_,aR (by rw[hzb];exact (sM distinct items from_ where_ order limit g (bt▸aJ hlt) (by simp [nj,hm])).symm),am rfl⟩
     simp only[tt,seval]
     by_cases ha:as_=⟨#[]⟩
     case neg=>
      simp only[tt,seval,ax ha]
      exact⟨_,_,aR (by rw[hzb];exact (sM distinct items from_ where_ order limit g (bt▸aJ hlt) (by simp [nj,hm,ha])).symm),am rfl⟩
     simp only[tt,seval,aw ha]
     refine cZ (FJ k o n v q m ks ss) ?_ ?_<;>simp only[tt,seval,ak,er]
     cases hz:dW k o n v q m ks.length ss.length
     case false=>
      simp only[tt,seval]
      exact⟨_,_,aR (by rw[hzb];exact (sM distinct items from_ where_ order limit g (bt▸aJ hlt) (by simp [nj,hm,ha,lT,hz])).symm),am rfl⟩
     simp only[tt,seval,ix]
     try rw[dY i aa]
     exact⟨_,none,al rfl (ao _),aq _,⟨i+1,rfl,aa,fun j hj hji=>by
      by_cases e:j=i
      ·subst e;rw[<-bt];simp [nj,hm,ha,lT,hz]
      ·exact hall j hj aa,rfl,rfl⟩,az⟩
    case false=>
     simp only[tt,seval]
     by_cases hq:qual=⟨#[]⟩
     case neg=>
      simp only[tt,seval,ax hq]
      exact⟨_,_,aR (by rw[hzb];exact (sM distinct items from_ where_ order limit g (bt▸aJ hlt) (by simp [nj,hq])).symm),am rfl⟩
     simp only[tt,seval,aw hq]
     refine cZ (mn as_) ?_ ?_<;>simp only[tt,seval,ix]
     cases hm:cY as_
     case false=>
      simp only[tt,seval]
      exact⟨_,_,aR (by rw[hzb];exact (sM distinct items from_ where_ order limit g (bt▸aJ hlt) (by simp [nj,hm])).symm),am rfl⟩
     simp only[tt,seval]
     try rw[dY i aa]
     exact⟨_,none,al rfl (ao _),aq _,⟨i+1,rfl,aa,fun j hj hji=>by
      by_cases e:j=i
      ·subst e;rw[<-bt];simp [nj,hm,hq]
      ·exact hall j hj aa,rfl,rfl⟩,az⟩
   ·have hall:=fun j hj=>hall j hj aa
    have hall1:=hall
    clear hall
    refine dLoop.intro (fun f L p=>∃i:Nat,f 5=vi i/\i<=from_.length/\(∀j (hj:j<from_.length),j<i->nl j from_[j]=true)/\L=[(1,.str [.v (.bool distinct),.sl items.length (items.flatMap Item.row) none,.sl from_.length (from_.flatMap Source.row) none,.sl where_.length (where_.flatMap Expr.row) none,.sl order.length (order.flatMap SortKey.row) none,.v (.int .i64 limit)])]/\p=none) (fun f _ _=>(from_.length-eN (f 5)).toNat) [(1,.str [.v (.bool distinct),.sl items.length (items.flatMap Item.row) none,.sl from_.length (from_.flatMap Source.row) none,.sl where_.length (where_.flatMap Expr.row) none,.sl order.length (order.flatMap SortKey.row) none,.v (.int .i64 limit)])] none ⟨al rfl (ao _),aq _,?_⟩ ?_
    ·simp only[tt,seval]
     exact⟨0,rfl,aa,fun j _ h=>absurd h (Nat.not_lt_zero _)⟩
    ·rintro g' L p ⟨i,ix,hi,hall,rfl,rfl⟩
     simp only[tt,seval] at ix
     simp only[tt,seval,ix,Int.ofNat_lt]
     refine fun _=>?_
     refine ab (fun hlt=>?_) (fun hge=>?_)
     ·have hlt:i<from_.length:=by omega
      obtain⟨it,bt⟩:∃it,it=from_[i]:=⟨_,rfl⟩
      refine⟨aa,aa,_,aD Source.row_len (aA hlt),Source.ne _ _,?_⟩
      obtain⟨table,as_,on⟩:=it
      rw[<-bt,Source.row_mk]
      simp only[tt,seval]
      refine cZ (ju table) ?_ ?_<;>simp only[tt,seval]
      cases hnb:decide (1<=table.size/\table.size<=20)
      case false=>
       simp only[tt,seval]
       exact⟨_,_,aR (by rw[hzb];exact (xb distinct items from_ where_ order limit g hlt (by rw[<-bt];simp [nl,bH,hnb])).symm),am rfl⟩
      simp only[tt,seval]
      refine cZ (mn as_) ?_ ?_<;>simp only[tt,seval]
      cases hm:cY as_
      case false=>
       simp only[tt,seval]
       exact⟨_,_,aR (by rw[hzb];exact (xb distinct items from_ where_ order limit g hlt (by rw[<-bt];simp [nl,bH,hnb,hm])).symm),am rfl⟩
      simp only[tt,seval]
      refine fun _=>?_
      by_cases c8:(1:Int)<on.length
      case pos=>
       simp only[tt,seval,aw c8]
       exact⟨_,_,aR (by rw[hzb];exact (xb distinct items from_ where_ order limit g hlt (by rw[<-bt];simp only[nl,ax (show ¬on.length<=1 by omega),Bool.false_and,Bool.and_false])).symm),am rfl⟩
      simp only[tt,seval,ax c8,ix]
      by_cases c9:(i:Int)=0
      case neg=>
       simp only[tt,seval,c9,ix]
       try rw[dY i aa]
       exact⟨_,none,al rfl (ao _),aq _,⟨i+1,rfl,aa,fun j hj hji=>by
        by_cases e:j=i
        ·subst e;rw[<-bt];simp only[nl,bH,hnb,hm,aw (show on.length<=1 by omega),aw (show ¬j=0 by omega),Bool.true_and,Bool.true_or]
        ·exact hall j hj aa,rfl,rfl⟩,az⟩
      simp only[tt,seval,aw c9,ix]
      refine fun _=>?_
      refine ab (fun It=>?_) (fun It=>?_)
      ·exact⟨_,_,aR (by rw[hzb];exact (xb distinct items from_ where_ order limit g hlt (by rw[<-bt];simp only[nl,ax (show ¬ ¬i=0 by omega),ax (show ¬on.length=0 by omega),Bool.or_false,Bool.and_false])).symm),am rfl⟩
      ·have hi0:i=0:=by omega
       try rw[dY i aa]
       exact⟨_,none,al rfl (ao _),aq _,⟨i+1,rfl,aa,fun j hj hji=>by
        by_cases e:j=i
        ·subst e;rw[<-bt];simp only[nl,bH,hnb,hm,aw (show on.length<=1 by omega),aw (show on.length=0 by omega),Bool.true_and,Bool.or_true]
        ·exact hall j hj aa,rfl,rfl⟩,az⟩
     ·have hall:=fun j hj=>hall j hj aa
      have hq:=IZ distinct items from_ where_ order limit g ⟨aa,aa⟩ ⟨aa,aa⟩ aa aa aa hall1 hall
      have hql:=fe (Query.mk distinct items from_ where_ order limit)
      refine cZ (pn distinct items from_ where_ order limit hsz) ?_ ?_<;>simp only[tt,seval,bj]
      rw[hq] at hzb
      generalize exprsQ (Query.mk distinct items from_ where_ order limit)=l at *
      refine dLoop.intro (fun f L p=>∃i:Nat,f 8=vi i/\i<=l.length/\(∀j (hj:j<l.length),j<i->g l[j]=true)/\L=[(1,.str [.v (.bool distinct),.sl items.length (items.flatMap Item.row) none,.sl from_.length (from_.flatMap Source.row) none,.sl where_.length (where_.flatMap Expr.row) none,.sl order.length (order.flatMap SortKey.row) none,.v (.int .i64 limit)])]/\p=none) (fun f _ _=>(l.length-eN (f 8)).toNat) [(1,.str [.v (.bool distinct),.sl items.length (items.flatMap Item.row) none,.sl from_.length (from_.flatMap Source.row) none,.sl where_.length (where_.flatMap Expr.row) none,.sl order.length (order.flatMap SortKey.row) none,.v (.int .i64 limit)])] none ⟨al rfl (ao _),aq _,?_⟩ ?_
      ·simp only[tt,seval]
       exact⟨0,rfl,aa,fun j _ h=>absurd h (Nat.not_lt_zero _)⟩
      ·rintro g' L p ⟨i,ix,hi,hal,rfl,rfl⟩
       simp only[tt,seval] at ix
       simp only[tt,seval,ix,Int.ofNat_lt]
       refine fun _=>ab (fun hlt=>?_) (fun hge=>?_)
       ·have hlt:i<l.length:=by omega
        refine⟨aa,aa,_,aD aI (aA hlt),Expr.ne _ _,?_⟩
        simp only[seval,Expr.tk,aI]
        refine cZ (h l[i] (aJ hlt)) ?_ ?_<;>simp only[tt,seval,ix]
        refine ab (fun hb=>?_) (fun hb=>?_)
        ·have hb:g l[i]=false:=by simpa only[Bool.not_eq_true'] using hb
         exact⟨_,_,aR (by rw[hzb];exact (iB (aJ hlt) hb).symm),am rfl⟩
        ·have hb:g l[i]=true:=by simpa only[Bool.not_eq_false'] using hb
         try rw[dY i aa]
         exact⟨_,none,al rfl (ao _),aq _,⟨i+1,rfl,aa,fun j hj hji=>by
          by_cases e:j=i
          ·subst e;exact hb
          ·exact hal j hj aa,rfl,rfl⟩,az⟩
       ·exact⟨_,_,aR (by rw[hzb];exact (lS fun j hj=>hal j hj aa).symm),am rfl⟩
theorem gw {n:Nat} {l:List D} (h:l.length=n):fG n l=some l:=by
 have:=cT (r:=[]) h
 rwa[List.append_nil] at this
theorem Dy {kind op:Int} {not:Bool} {val:Val} {qual name:ByteArray} {nk ns:Int} (h:aE kind op not val qual name nk ns=true):ns<=1:=by
 simp only[aE,Bool.and_eq_true,decide_eq_true_eq] at h
 have h:=h.2.2.2.2.2.2
 rw[h];unfold bQ;(repeat' split)<;>decide
theorem uS (kind op:Int) (not:Bool) (val:Val) (qual name:ByteArray) (kids:List Expr) (sub:List Query) (g:Expr->Bool) (hg:∀x,eT x (Expr.mk kind op not val qual name kids sub)->Cl Tryz.prog 98 [.ag (ar x.row)] [] fun r _=>r=vb (g x)) (hsz:szExpr (Expr.mk kind op not val qual name kids sub)<=1048576):Cl Tryz.prog 98 [.ag (ar (Expr.mk kind op not val qual name kids sub).row)] [] fun r _=>r=vb (tO g (Expr.mk kind op not val qual name kids sub)):=by
 have hks:=hsz
 rw[bb,aO,bJ] at hks
 obtain⟨zb,hzb⟩:∃zb,zb=tO g (Expr.mk kind op not val qual name kids sub):=⟨_,rfl⟩
 rw[<-hzb]
 have e:tO g (Expr.mk kind op not val qual name kids sub)=(aE kind op not val qual name kids.length sub.length&&(kids.all g&&sub.all (jQ g))):=rfl
 rw[e] at hzb
 rw[ak]
 refine ai ac false Tryz.func98 rfl ae ?_
 simp only[Tryz.f98,tt,seval]
 refine cZ (Bt kind op not val qual name kids sub aa aa) ?_ ?_<;>simp only[tt,seval,ak]
 cases hb:aE kind op not val qual name kids.length sub.length
 case false=>
  simp only[tt,seval]
  exact⟨_,_,aR (by rw[hzb,hb];rfl),am rfl⟩
 have hns:=Dy hb
 rw[hb,Bool.true_and] at hzb
 simp only[tt,seval]
 refine dLoop.intro (fun f L p=>∃i:Nat,f 3=vi i/\i<=kids.length/\(∀j (hj:j<kids.length),j<i->g kids[j]=true)/\L=[(1,.str [.v (.int .i64 kind),.v (.int .i64 op),.v (.bool not),.v (.int .i64 val.kind),.v (.int .i64 val.num),.v (.string val.text),.v (.string qual),.v (.string name),.sl kids.length (kids.flatMap Expr.row) none,.sl sub.length (sub.flatMap Query.row) none])]/\p=none) (fun f _ _=>(kids.length-eN (f 3)).toNat) [(1,.str [.v (.int .i64 kind),.v (.int .i64 op),.v (.bool not),.v (.int .i64 val.kind),.v (.int .i64 val.num),.v (.string val.text),.v (.string qual),.v (.string name),.sl kids.length (kids.flatMap Expr.row) none,.sl sub.length (sub.flatMap Query.row) none])] none ⟨al rfl (ao _),aq _,?_⟩ ?_
 ·simp only[tt,seval]
  exact⟨0,rfl,aa,fun j _ h=>absurd h (Nat.not_lt_zero _)⟩
 ·rintro g' L p ⟨i,ix,hi,hal,rfl,rfl⟩
  simp only[tt,seval] at ix
  simp only[tt,seval,ix,Int.ofNat_lt]
  refine fun _=>ab (fun hlt=>?_) (fun hge=>?_)
  ·have hlt:i<kids.length:=by omega
   refine⟨aa,aa,_,aD aI (aA hlt),Expr.ne _ _,?_⟩
   simp only[seval,Expr.tk,aI]
   refine cZ (hg kids[i] (.inl (aJ hlt))) ?_ ?_<;>simp only[tt,seval,ix]
   refine ab (fun hb=>?_) (fun hb=>?_)
   ·have hb:g kids[i]=false:=by simpa only[Bool.not_eq_true'] using hb
    exact⟨_,_,aR (by rw[hzb,iB (aJ hlt) hb];rfl),am rfl⟩
   ·have hb:g kids[i]=true:=by simpa only[Bool.not_eq_false'] using hb
    try rw[dY i aa]
    exact⟨_,none,al rfl (ao _),aq _,⟨i+1,rfl,aa,fun j hj hji=>by
     by_cases e:j=i
     ·subst e;exact hb
     ·exact hal j hj aa,rfl,rfl⟩,az⟩
  ·rw[lS fun j hj=>hal j hj aa,Bool.true_and] at hzb
   refine fun _=>?_
   rcases sub with _|⟨q,_|⟨q2,rest⟩⟩
   ·simp only[tt,seval]
    exact⟨_,_,aR (by rw[hzb];rfl),am rfl⟩
   ·simp only[tt,seval]
    refine⟨q.row++[],by simp,Query.ne _ _,?_⟩
    simp only[tt,seval,gw (Query.row_len q),Query.row_len]
    refine cZ (rM q g (fun x hx=>hg x (.inr ⟨q,by show q∈[q];simp,hx⟩)) (Nat.le_trans (lu (e:=(Expr.mk kind op not val qual name kids [q])) (by show q∈[q];simp)) hsz)) ?_ ?_<;>simp only[tt,seval]
    exact⟨_,_,aR (by rw[hzb];simp),am rfl⟩
   ·simp only[List.length_cons] at hns;omega
theorem Bu (e:Expr):szExpr e<=1048576->Cl Tryz.prog 98 [.ag (ar e.row)] [] fun r _=>r=vb (fmE e):=by
 refine ir (P:=fun e b=>szExpr e<=1048576->Cl Tryz.prog 98 [.ag (ar e.row)] [] fun r _=>r=vb b) (fun e g hg hsz=>?_) e
 obtain⟨kind,op,not,val,qual,name,kids,sub⟩:=e
 exact uS kind op not val qual name kids sub g (fun x hx=>hg x hx (Nat.le_trans (gK hx) hsz)) hsz
theorem yJ (e:Expr):szExpr e<=1048576->Cl Tryz.prog 127 [.ag (ar e.row)] [] fun r _=>r=vb (fmE e):=by
 refine ir (P:=fun e b=>szExpr e<=1048576->Cl Tryz.prog 127 [.ag (ar e.row)] [] fun r _=>r=vb b) (fun e g hg hsz=>?_) e
 obtain⟨kind,op,not,val,qual,name,kids,sub⟩:=e
 have hks:=hsz
 rw[bb,aO,bJ] at hks
 have hg:=fun x hx=>hg x hx (Nat.le_trans (gK hx) hsz)
 exact sL kind op not val qual name kids sub g (fun x hx=>hg x (.inl hx)) (fun q hq=>qg q g (fun x hx=>hg x (.inr ⟨q,hq,hx⟩)) (Nat.le_trans (lu (e:=(Expr.mk kind op not val qual name kids sub)) hq) hsz)) aa aa
noncomputable def mA (e:Expr):Bool:=decide (dpE e<=24)&&(decide (ndE e<=200)&&fmE e)
theorem Bv (d n:Nat):Cl Tryz.prog 81 [vi d,vi n] [] fun r _=>r=vb (decide (d<=24)&&decide (n<=200)):=by
 refine ai ac false Tryz.func81 rfl ae ?_
 simp only[Tryz.f81,tt,seval]
 by_cases h1:(d:Int)<=24
 ·simp only[tt,seval,aw h1]
  exact⟨_,_,aR (by rw[aw (show d<=24 by omega),Bool.true_and];exact decide_eq_decide.2 aa),am rfl⟩
 ·simp only[tt,seval,ax h1]
  exact⟨_,_,aR (by rw[ax (show ¬d<=24 by omega)];rfl),am rfl⟩
theorem po (e:Expr) (hsz:szExpr e<=1048576):Cl Tryz.prog 54 [.ag (ar e.row)] [] fun r _=>r=vb (mA e):=by
 obtain⟨zb,hzb⟩:∃zb,zb=mA e:=⟨_,rfl⟩
 rw[<-hzb]
 rw[mA] at hzb
 have c1:=(yE e).1 hsz
 have c2:=(Dp e).1 hsz
 have c3:=yJ e hsz
 obtain⟨kind,op,not,val,qual,name,kids,sub⟩:=e
 generalize dpE (Expr.mk kind op not val qual name kids sub)=d at *
 generalize ndE (Expr.mk kind op not val qual name kids sub)=n at *
 generalize fmE (Expr.mk kind op not val qual name kids sub)=b at *
 rw[ak] at c1 c2 c3 ⊢
 refine ai ac false Tryz.func54 rfl ae ?_
 simp only[Tryz.f54,tt,seval]
 refine dDrawn.intro [] (dC [0,4,3,7,9,10,12,15,16,18]) ae ?_
 simp only[tt,seval]
 refine cZ (c1) ?_ ?_<;>simp only[tt,seval]
 refine cZ (c2) ?_ ?_<;>simp only[tt,seval]
 refine cZ (Bv d n) ?_ ?_<;>simp only[tt,seval]
 cases hb:(decide (d<=24)&&decide (n<=200))
 ·simp only[tt,seval]
  exact⟨_,_,aR (by rw[hzb,<-Bool.and_assoc,hb];rfl),am rfl⟩
 ·simp only[tt,seval]
  refine cZ (c3) ?_ ?_<;>simp only[tt,seval]
  exact⟨_,_,aR (by rw[hzb,<-Bool.and_assoc,hb];rfl),am rfl⟩
theorem xd (e:Expr) (hsz:szExpr e<=1048576):Cl Tryz.prog 59 [.ag (ar e.row)] [] fun r _=>r=vb (mA e):=by
 obtain⟨zb,hzb⟩:∃zb,zb=mA e:=⟨_,rfl⟩
 rw[<-hzb]
 rw[mA] at hzb
 have c1:=(Bp e).1 hsz
 have c2:=Dr e hsz 200 aa aa
 have c3:=Bu e hsz
 obtain⟨kind,op,not,val,qual,name,kids,sub⟩:=e
 generalize dpE (Expr.mk kind op not val qual name kids sub)=d at *
 generalize ndE (Expr.mk kind op not val qual name kids sub)=n at *
 generalize fmE (Expr.mk kind op not val qual name kids sub)=b at *
 rw[ak] at c1 c2 c3 ⊢
 refine ai ac false Tryz.func59 rfl ae ?_
 simp only[Tryz.f59,tt,seval]
 refine cZ (c2) ?_ ?_<;>simp only[tt,seval]
 by_cases h2:n<=200
 case neg=>
  have h0:cN 200 n<0:=by unfold cN;split<;>omega
  simp only[tt,seval,ax (show ¬(0:Int)<=cN 200 n by omega)]
  exact⟨_,_,aR (by rw[hzb,ax h2,Bool.false_and,Bool.and_false]),am rfl⟩
 have h0:0<=cN 200 n:=by unfold cN;split<;>omega
 simp only[tt,seval,aw h0]
 refine cZ (c3) ?_ ?_<;>simp only[tt,seval]
 cases b
 case false=>
  simp only[tt,seval]
  exact⟨_,_,aR (by rw[hzb,Bool.and_false,Bool.and_false]),am rfl⟩
 simp only[tt,seval]
 refine cZ (c1) ?_ ?_<;>simp only[tt,seval]
 exact⟨_,_,aR (by rw[hzb,aw h2,Bool.and_true,Bool.and_true];exact decide_eq_decide.2 aa),am rfl⟩
theorem ll:(∀a b:List Tok,(a++b).length=a.length+b.length)/\(∀(t:Tok) (a:List Tok),(t::a).length=a.length+1)/\([]:List Tok).length=0:=⟨fun _ _=>aB,fun _ _=>List.length_cons,rfl⟩
def kT (k:Nat):Tok:=⟨1,kw k,0⟩
def gT (s:ByteArray):Tok:=⟨5,s,0⟩
def nT (s:ByteArray):Tok:=⟨2,s,0⟩
def iT (n:Int):Tok:=⟨3,dj n,0⟩
def jY:Tok:=gT ⟨#[40]⟩
def kA:Tok:=gT ⟨#[41]⟩
def eK:Tok:=gT ⟨#[44]⟩
def Jm:Tok:=gT ⟨#[46]⟩
def Ef:Tok:=gT ⟨#[42]⟩
def eX (v:Val):Tok:=if v.kind=1 then iT v.num else if v.kind=2 then ⟨4,v.text,0⟩ else if v.kind=3 then (if v.num=1 then kT 21 else kT 22) else kT 20
def d5 (op:Int):Tok:=⟨if op=1∨op=2∨op=15 then 1 else 5,j1 op,0⟩
def cH (q:ByteArray):List Tok:=if q=⟨#[]⟩ then [] else [nT q,Jm]
def dh (a:ByteArray):List Tok:=if a=⟨#[]⟩ then [] else [kT 12,nT a]
def bE (b:Bool):List Tok:=if b=true then [kT 15] else []
def kY (w:Bool) (l:List Tok):List Tok:=if w=true then jY::(l++[kA]) else l
def zeroX:Expr:=.mk 0 0 false ⟨0,0,⟨#[]⟩⟩ ⟨#[]⟩ ⟨#[]⟩ [] []
def Bw (full:Bool) (kind op:Int) (kids:List Expr) (k:Nat):Bool:=lp kind op kids k||(full&&decide (nv (kids.getD k zeroX)<9))
def aP (full:Bool) (g:Expr->List Tok) (kind op:Int) (kids:List Expr) (k:Nat):List Tok:=kY (Bw full kind op kids k) (g (kids.getD k zeroX))
def bw (f:Nat->List Tok) (n:Nat):List Tok:=(List.range n).flatMap f
theorem dd (f:Nat->List Tok) (n:Nat):bw f (n+1)=bw f n++f n:=by
 unfold bw
 rw[List.range_succ,List.flatMap_append];simp
theorem Bx (f:Nat->List Tok) {k m:Nat} (h:k<=m):(bw f k).length<=(bw f m).length:=by
 induction m with
 |zero=>rw[Nat.le_zero.1 h];exact Nat.le_refl _
 |succ m ih=>
  by_cases e:k=m+1
  ·subst e;exact Nat.le_refl _
  ·rw[dd,aB];exact Nat.le_trans (ih aa) (Nat.le_add_right _ _)
theorem jc (f:Nat->List Tok) {k m:Nat} (h:k<m):(bw f k).length+(f k).length<=(bw f m).length:=by
 have:=Bx f (show k+1<=m from h)
 rwa[dd,aB] at this
def xK {α:Type} (l:List α) (h:α->List Tok) (i:Nat):List Tok:=match l[i]? with|some x=>h x|none=>[]
theorem eC {α:Type} {l:List α} {h:α->List Tok} {i:Nat} (hi:i<l.length):xK l h i=h l[i]:=by rw[xK,aA hi]
def kB (i:Nat):List Tok:=if 0<i then [eK] else []
def cM (g:Expr->List Tok):Item->List Tok | .mk star qual e as_=>if star=true then cH qual++[Ef] else g e++dh as_
def sw (g:Expr->List Tok):List Expr->List Tok | []=>[]|e::_=>kT 5::g e
def gY (g:Expr->List Tok) (i:Nat):Source->List Tok | .mk table as_ on=>(if 0<i then (if 0<on.length then [kT 4] else [eK]) else [])++(nT table::(dh as_++sw g on))
def pS (g:Expr->List Tok):List Expr->List Tok | []=>[]|e::_=>kT 6::g e
def jr (g:Expr->List Tok):SortKey->List Tok | .mk e desc=>g e++(if desc=true then [kT 10] else [])
def jR (n:Int):List Tok:=if 0<=n then [kT 11,iT n] else []
def dX (g:Expr->List Tok) (items:List Item) (i:Nat):List Tok:=kB i++xK items (cM g) i
def gP (g:Expr->List Tok) (from_:List Source) (i:Nat):List Tok:=xK from_ (gY g i) i
def fw (g:Expr->List Tok) (order:List SortKey) (i:Nat):List Tok:=(if i=0 then [kT 7,kT 8] else [eK])++xK order (jr g) i
def kV (g:Expr->List Tok):Query->List Tok
 |.mk distinct items from_ where_ order limit=>
  kT 1::((if distinct=true then [kT 2] else [])++(bw (dX g items) items.length++(kT 3::(bw (gP g from_) from_.length++(pS g where_++(bw (fw g order) order.length++jR limit))))))
def kW (g:Expr->List Tok):List Query->List Tok | []=>[]|q::_=>kV g q
def rN (full:Bool) (g:Expr->List Tok) (kind op:Int) (kids:List Expr) (j:Nat):List Tok:=kB j++aP full g kind op kids (j+1)
def np (full:Bool) (g:Expr->List Tok):Expr->List Tok
 |.mk kind op not val qual name kids sub=>
  if kind=1 then [eX val] else if kind=2 then cH qual++[nT name] else if kind=3 then d5 op::aP full g kind op kids 0 else if kind=9 then kT 19::jY::(kW g sub++[kA]) else
  aP full g kind op kids 0++(if kind=4 then d5 op::aP full g kind op kids 1 else if kind=5 then kT 16::(bE not++[kT 20]) else if kind=6 then bE not++(kT 18::(aP full g kind op kids 1++(kT 13::aP full g kind op kids 2))) else
   bE not++(kT 17::jY::((if kind=8 then kW g sub else bw (rN full g kind op kids) (kids.length-1))++[kA])))
noncomputable def nw (full:Bool):Expr->List Tok:=eU (np full)
def Expr.not:Expr->Bool | .mk _ _ n _ _ _ _ _=>n
def Query.lim:Query->Int | .mk _ _ _ _ _ l=>l
inductive Rg:Expr->Prop
 |mk {kind op:Int} {not:Bool} {val:Val} {qual name:ByteArray} {kids:List Expr} {sub:List Query}:(-9223372036854775808<=val.num/\val.num<=9223372036854775807)->(∀k,k∈kids->Rg k)->(∀q,q∈sub->q.lim<=9223372036854775807)->(∀q,q∈sub->∀x,x∈exprsQ q->Rg x)->Rg (.mk kind op not val qual name kids sub)
def KN (q:Query):Prop:=q.lim<=9223372036854775807/\∀x,x∈exprsQ q->Rg x
theorem Rg.num {kind op:Int} {not:Bool} {val:Val} {qual name:ByteArray} {kids:List Expr} {sub:List Query} (h:Rg (.mk kind op not val qual name kids sub)) : -9223372036854775808<=val.num/\val.num<=9223372036854775807:=by cases h;assumption
theorem qz {x e:Expr} (h:Rg e) (hb:eT x e):Rg x:=by
 cases h with
 |mk h1 h2 h3 h4=>
  rcases hb with hb|⟨q,hq,hb⟩
  ·exact h2 x hb
  ·exact h4 q hq x hb
theorem uT {q:Query} {e:Expr} (h:Rg e) (hq:q∈e.sub):KN q:=by
 cases h with
 |mk h1 h2 h3 h4=>exact⟨h3 q hq,h4 q hq⟩
theorem kD {α β γ:Type} [Inhabited α] [Inhabited β] [Inhabited γ] {F1:(Expr->α)->Expr->α} {F2:(Expr->β)->Expr->β} {F3:(Expr->γ)->Expr->γ} {P:Expr->α->β->γ->Prop}
 (h:∀e g1 g2 g3,(∀x,eT x e->P x (g1 x) (g2 x) (g3 x))->P e (F1 g1 e) (F2 g2 e) (F3 g3 e)) (e:Expr):P e (eU F1 e) (eU F2 e) (eU F3 e):=by
 suffices H:∀n:Nat,∀e:Expr,SizeOf.sizeOf e<n->P e (eU F1 e) (eU F2 e) (eU F3 e) from H _ e (Nat.lt_succ_self _)
 intro n
 induction n with
 |zero=>exact fun _ h=>absurd h (Nat.not_lt_zero _)
 |succ n ih=>
  intro e he
  rw[eU,eU,eU]
  refine h e _ _ _ fun x hx=>?_
  have:=qS hx
  simp only[dif_pos this]
  exact ih x aa
theorem xe:∀k:Nat,(kw k).size<=40:=fun k=>by
 by_cases h:k<29
 ·exact (by decide:∀k:Fin 29,(kw k.1).size<=40) ⟨k,h⟩
 ·have:kw k=⟨#[]⟩:=by
   unfold kw
   rw[List.getD_eq_getElem?_getD,List.getElem?_eq_none (by show 29<=k;omega)];rfl
  rw[this];decide
theorem dv (k:Nat):(kT k).text.size<=40:=xe k
theorem tP (op:Int):(j1 op).size<=40:=by
 unfold j1
 split
 ·rename_i h
  have e:op.toNat<17:=by omega
  exact (by decide:∀k:Fin 17,(GX.getD k.1 ⟨#[]⟩).size<=40) ⟨op.toNat,e⟩
 ·decide
theorem pT {n:Int} (h0 : -9223372036854775808<=n) (h1:n<=9223372036854775807):(dj n).size<=40:=by
 have:=qI h0 h1
 show ((Lib.itoa n).toArray).size<=40
 rw[List.size_toArray];omega
def Sm (n:Nat) (l:List Tok):Prop:=l.length<=n/\∀t∈l,t.text.size<=40
theorem Sm.nil:Sm 0 []:=⟨Nat.le_refl _,fun t h=>by cases h⟩
theorem Sm.cons {n:Nat} {t:Tok} {l:List Tok} (h:t.text.size<=40) (hl:Sm n l):Sm (n+1) (t::l):=⟨by simp;exact hl.1,fun x hx=>by
 rcases List.mem_cons.1 hx with rfl|hx
 ·exact h
 ·exact hl.2 x hx⟩
theorem Sm.app {n m:Nat} {a b:List Tok} (h:Sm n a) (k:Sm m b):Sm (n+m) (a++b):=⟨by rw[aB];have:=h.1;have:=k.1;omega,fun x hx=>by
 rcases List.mem_append.1 hx with hx|hx
 ·exact h.2 x hx
 ·exact k.2 x hx⟩
theorem Sm.le {n m:Nat} {l:List Tok} (h:Sm n l) (k:n<=m):Sm m l:=⟨Nat.le_trans h.1 k,h.2⟩
theorem Sm.one {t:Tok} (h:t.text.size<=40):Sm 1 [t]:=Sm.cons h Sm.nil
theorem Sm.ite {c:Prop} [Decidable c] {n:Nat} {a b:List Tok} (h:Sm n a) (k:Sm n b):Sm n (if c then a else b):=by split<;>assumption
theorem Sm.seq {f:Nat->List Tok} {b:Nat->Nat} {n:Nat} (h:∀i,i<n->Sm (b i) (f i)):Sm (((List.range n).map b).sum) (bw f n):=by
 induction n with
 |zero=>exact Sm.nil
 |succ n ih=>
  rw[dd,List.range_succ,List.map_append,List.sum_append,List.map_singleton,List.sum_singleton]
  exact (ih fun i hi=>h i aa).app (h n aa)
def rO {α:Type} (d:α->Nat):Option α->Nat
 |some x=>d x
 |none=>0
theorem mo {α:Type} (l:List α) (c:Nat) (d:α->Nat):((List.range l.length).map fun i=>c+rO (fun x=>d x) l[i]?).sum=c*l.length+(l.map d).sum:=by
 have e:∀l:List α,(List.range l.length).map (fun i=>c+rO (fun x=>d x) l[i]?)=l.map fun x=>c+d x:=by
  intro l
  refine List.ext_getElem (by simp) fun i h1 h2=>?_
  simp only[List.length_map,List.length_range] at h1
  simp [h1,rO]
 rw[e]
 induction l with
 |nil=>simp
 |cons x r ih=>simp only[List.map_cons,List.sum_cons,List.length_cons,ih,Nat.mul_add];omega
theorem HZ {v:Val} (h:jp v=true) (hr : -9223372036854775808<=v.num/\v.num<=9223372036854775807):(eX v).text.size<=40:=by
 simp only[jp,Bool.and_eq_true,decide_eq_true_eq] at h
 unfold eX
 split
 ·exact pT hr.1 hr.2
 ·split
  ·exact h.2.2
  ·split
   ·split<;>exact dv _
   ·exact dv _
theorem Ad {q:ByteArray} (h:cY q=true):Sm 2 (cH q):=by
 unfold cH
 split
 ·exact Sm.nil.le aa
 ·rename_i hq
  simp only[cY,bH,Bool.or_eq_true,decide_eq_true_eq,hq,false_or] at h
  exact Sm.cons (by show q.size<=40;omega) (Sm.one ah)
theorem GG {q:ByteArray} (h:cY q=true):Sm 2 (dh q):=by
 unfold dh
 split
 ·exact Sm.nil.le aa
 ·rename_i hq
  simp only[cY,bH,Bool.or_eq_true,decide_eq_true_eq,hq,false_or] at h
  exact Sm.cons (dv _) (Sm.one (by show q.size<=40;omega))
theorem uU (b:Bool):Sm 1 (bE b):=Sm.ite (Sm.one (dv _)) (Sm.nil.le aa)
theorem I0 {w:Bool} {n:Nat} {l:List Tok} (h:Sm n l):Sm (n+2) (kY w l):=Sm.ite ((Sm.cons ah (h.app (Sm.one ah))).le aa) (h.le aa)
theorem xg {kind op:Int} {not:Bool} {val:Val} {qual name:ByteArray} {nk ns:Int} (h:aE kind op not val qual name nk ns=true) :
 cP kind op val qual name=true/\((bQ kind).2.2.2.2.1<=nk/\nk<=(bQ kind).2.2.2.2.2.1)/\ns=(bQ kind).2.2.2.2.2.2:=by
 simp only[aE,Bool.and_eq_true,decide_eq_true_eq] at h
 exact⟨h.1,h.2.2.2.2.2.1,h.2.2.2.2.2.2⟩
theorem jd {kind op:Int} {not:Bool} {val:Val} {qual name:ByteArray} {nk ns:Int} (h:aE kind op not val qual name nk ns=true) :
 (kind=1/\jp val=true/\nk=0/\ns=0)∨(kind=2/\bH name=true/\cY qual=true/\nk=0/\ns=0)∨(kind=3/\(op=15∨op=16)/\nk=1/\ns=0)∨(kind=4/\(1<=op/\op<=14)/\nk=2/\ns=0)∨(kind=5/\nk=1/\ns=0)∨(kind=6/\nk=3/\ns=0)∨(kind=7/\(2<=nk/\nk<=9)/\ns=0)∨(kind=8/\nk=1/\ns=1)∨(kind=9/\nk=0/\ns=1):=by
 obtain⟨h1,h6,h7⟩:=xg h
 clear h
 by_cases k1:kind=1
 ·subst k1;exact .inl ⟨rfl,h1,by have:0<=nk/\nk<=0:=h6;omega,h7⟩
 by_cases k2:kind=2
 ·subst k2
  have h1:(bH name&&cY qual)=true:=h1
  simp only[Bool.and_eq_true] at h1
  exact .inr (.inl ⟨rfl,h1.1,h1.2,by have:0<=nk/\nk<=0:=h6;omega,h7⟩)
 by_cases k3:kind=3
 ·subst k3
  have h1:(decide (op=15)||decide (op=16))=true:=h1
  simp only[Bool.or_eq_true,decide_eq_true_eq] at h1
  exact .inr (.inr (.inl ⟨rfl,h1,by have:1<=nk/\nk<=1:=h6;omega,h7⟩))
 by_cases k4:kind=4
 ·subst k4
  have h1:decide (1<=op/\op<=14)=true:=h1
  simp only[decide_eq_true_eq] at h1
  exact .inr (.inr (.inr (.inl ⟨rfl,h1,by have:2<=nk/\nk<=2:=h6;omega,h7⟩)))
 simp only[cP,if_neg k1,if_neg k2,if_neg k3,if_neg k4,decide_eq_true_eq] at h1
 rcases (show kind=5∨kind=6∨kind=7∨kind=8∨kind=9 by omega) with rfl|rfl|rfl|rfl|rfl
 ·exact .inr (.inr (.inr (.inr (.inl ⟨rfl,by have:1<=nk/\nk<=1:=h6;omega,h7⟩))))
 ·exact .inr (.inr (.inr (.inr (.inr (.inl ⟨rfl,by have:3<=nk/\nk<=3:=h6;omega,h7⟩)))))
 ·exact .inr (.inr (.inr (.inr (.inr (.inr (.inl ⟨rfl,h6,h7⟩))))))
 ·exact .inr (.inr (.inr (.inr (.inr (.inr (.inr (.inl ⟨rfl,by have:1<=nk/\nk<=1:=h6;omega,h7⟩)))))))
 ·exact .inr (.inr (.inr (.inr (.inr (.inr (.inr (.inr ⟨rfl,by have:0<=nk/\nk<=0:=h6;omega,h7⟩)))))))
theorem jS {gf:Expr->Bool} {kind op:Int} {not:Bool} {val:Val} {qual name:ByteArray} {kids:List Expr} {sub:List Query} (h:tO gf (.mk kind op not val qual name kids sub)=true) :
 aE kind op not val qual name kids.length sub.length=true/\(∀x∈kids,gf x=true)/\∀q∈sub,jQ gf q=true:=by
 simp only[tO,Bool.and_eq_true,List.all_eq_true] at h
 exact h
theorem iV {gf:Expr->Bool} {distinct:Bool} {items:List Item} {from_:List Source} {where_:List Expr} {order:List SortKey} {limit:Int} (h:jQ gf (.mk distinct items from_ where_ order limit)=true) :
 (1<=items.length/\items.length<=12)/\(1<=from_.length/\from_.length<=3)/\where_.length<=1/\order.length<=12 /\ -1<=limit/\(∀x∈items,nj x=true)/\(∀i (hi:i<from_.length),nl i from_[i]=true)/\∀x∈exprsQ (.mk distinct items from_ where_ order limit),gf x=true:=by
 simp only[jQ,hdB,Bool.and_eq_true,List.all_eq_true,decide_eq_true_eq] at h
 obtain⟨⟨h1,h2,h3,h4,h5,h6,h7⟩,h8⟩:=h
 refine⟨h1,h2,h3,h4,h5,h6,fun i hi=>?_,h8⟩
 have:=List.all_eq_true.1 h7 i (List.mem_range.2 hi)
 rwa[aA hi] at this
theorem je {α:Type} {l:List α} (h:(l.length:Int)=1):∃a,l=[a]:=by
 match l,h with
 | [a],_=>exact⟨a,rfl⟩
 | [],h=>simp at h
 |_::_::_,h=>simp at h;omega
theorem mC {α:Type} {l:List α} (h:(l.length:Int)=0):l=[]:=List.eq_nil_of_length_eq_zero aa
theorem GH {α:Type} {l:List α} (h:(l.length:Int)=2):∃a b,l=[a,b]:=by
 match l,h with
 | [a,b],_=>exact⟨a,b,rfl⟩
 | [],h=>simp at h
 | [_],h=>simp at h
 |_::_::_::_,h=>simp at h;omega
theorem GJ {α:Type} {l:List α} (h:(l.length:Int)=3):∃a b c,l=[a,b,c]:=by
 match l,h with
 | [a,b,c],_=>exact⟨a,b,c,rfl⟩
 | [],h=>simp at h
 | [_],h=>simp at h
 | [_,_],h=>simp at h
 |_::_::_::_::_,h=>simp at h;omega
section
variable {gn:Expr->Nat} {g:Expr->List Tok}
def dI (gn:Expr->Nat) (x:Item):Nat:=if x.star=true then 0 else 150*gn x.e
theorem FM {x:Item} (hx:nj x=true) (h:x.star=false->Sm (150*gn x.e) (g x.e)):Sm (3+dI gn x) (cM g x):=by
 obtain⟨star,qual,e,as_⟩:=x
 cases star with
 |true=>
  simp only[nj,if_true,Bool.and_eq_true] at hx
  show Sm _ (cH qual++[Ef])
  exact ((Ad hx.1).app (Sm.one ah)).le (Nat.le_add_right _ _)
 |false=>
  simp only[nj,Bool.false_eq_true,if_false,Bool.and_eq_true] at hx
  show Sm (3+150*gn e) (g e++dh as_)
  exact ((h rfl).app (GG hx.2)).le (by show 150*gn e+2<=_;omega)
theorem Dz:∀l:List Item,(l.map (dI gn)).sum=150*((aY l).map gn).sum
 | []=>rfl
 |.mk s q e a::r=>by
  have ih:=Dz r
  cases s with
  |true=>
   have h:aY (.mk true q e a::r)=aY r:=rfl
   rw[h,<-ih,List.map_cons,List.sum_cons]
   show 0+_=_;omega
  |false=>
   have h:aY (.mk false q e a::r)=e::aY r:=rfl
   rw[h,List.map_cons,List.sum_cons,List.map_cons,List.sum_cons,Nat.mul_add,<-ih]
   rfl
theorem J0 {l:List Expr} (h:∀x∈l,Sm (150*gn x) (g x)):Sm (1+150*(l.map gn).sum) (sw g l):=by
 cases l with
 |nil=>exact Sm.nil.le (Nat.zero_le _)
 |cons e r=>exact (Sm.cons (dv _) (h e (by simp))).le (by rw[List.map_cons,List.sum_cons];omega)
theorem J1 {l:List Expr} (h:∀x∈l,Sm (150*gn x) (g x)):Sm (1+150*(l.map gn).sum) (pS g l):=by
 cases l with
 |nil=>exact Sm.nil.le (Nat.zero_le _)
 |cons e r=>exact (Sm.cons (dv _) (h e (by simp))).le (by rw[List.map_cons,List.sum_cons];omega)
theorem I1 {x:Source} {i:Nat} (hx:nl i x=true) (h:∀y∈x.on,Sm (150*gn y) (g y)):Sm (5+150*(x.on.map gn).sum) (gY g i x):=by
 obtain⟨table,as_,on⟩:=x
 simp only[nl,Bool.and_eq_true,bH,decide_eq_true_eq] at hx
 show Sm (5+150*(on.map gn).sum) ((if 0<i then (if 0<on.length then [kT 4] else [eK]) else [])++(nT table::(dh as_++sw g on)))
 exact ((Sm.ite (Sm.ite (Sm.one (dv _)) (Sm.one ah)) (Sm.nil.le aa:Sm 1 [])).app (Sm.cons (by show table.size<=40;omega) ((GG hx.2.1).app (J0 (l:=on) h)))).le aa
theorem FN {x:SortKey} (h:Sm (150*gn x.e) (g x.e)):Sm (1+150*gn x.e) (jr g x):=by
 obtain⟨e,desc⟩:=x
 exact (Sm.app h (Sm.ite (Sm.one (dv _)) (Sm.nil.le aa:Sm 1 []))).le (by show 150*gn e+1<=1+150*gn e;omega)
theorem FO (l:List Source):(l.map fun x=>150*(x.on.map gn).sum).sum=150*((l.flatMap Source.on).map gn).sum:=by
 induction l with
 |nil=>rfl
 |cons x r ih=>rw[List.map_cons,List.sum_cons,ih,List.flatMap_cons,List.map_append,List.sum_append,Nat.mul_add]
theorem Ae {α:Type} (c:Nat) (f:α->Nat) (l:List α):(l.map fun x=>c*f x).sum=c*(l.map f).sum:=by
 induction l with
 |nil=>rfl
 |cons x r ih=>rw[List.map_cons,List.sum_cons,ih,List.map_cons,List.sum_cons,Nat.mul_add]
theorem JF {gf:Expr->Bool} {q:Query} (hq:jQ gf q=true) (hl:q.lim<=9223372036854775807) (h:∀x∈exprsQ q,Sm (150*gn x) (g x)):Sm (105+150*((exprsQ q).map gn).sum) (kV g q):=by
 obtain⟨distinct,items,from_,where_,order,limit⟩:=q
 obtain⟨⟨_,a1⟩,⟨_,a2⟩,a3,a4,a5,a6,a7,_⟩:=iV hq
 have hl:limit<=9223372036854775807:=hl
 have e:exprsQ (.mk distinct items from_ where_ order limit)=aY items++from_.flatMap Source.on++where_++order.map SortKey.e:=rfl
 rw[e] at h ⊢
 have s1:Sm _ (bw (dX g items) items.length):=Sm.seq (b:=fun i=>4+rO (fun x=>dI gn x) items[i]?) fun i hi=>by
  have hm:=aJ hi
  have:=FM (gn:=gn) (g:=g) (a6 _ hm) fun hs=>h _ (by
   simp only[List.mem_append,aY,List.mem_map,List.mem_filter]
   exact .inl (.inl (.inl ⟨_,⟨hm,by rw[hs];rfl⟩,rfl⟩)))
  show Sm _ (kB i++xK items (cM g) i)
  rw[eC hi]
  simp only[aA hi,rO]
  exact ((Sm.ite (Sm.one ah) (Sm.nil.le aa:Sm 1 [])).app this).le aa
 have s2:Sm _ (bw (gP g from_) from_.length):=Sm.seq (b:=fun i=>5+rO (fun x=>150*(x.on.map gn).sum) from_[i]?) fun i hi=>by
  have hm:=aJ hi
  have:=I1 (gn:=gn) (g:=g) (a7 _ hi) fun y hy=>h _ (by
   simp only[List.mem_append,List.mem_flatMap]
   exact .inl (.inl (.inr ⟨_,hm,hy⟩)))
  show Sm _ (xK from_ (gY g i) i)
  rw[eC hi]
  simp only[aA hi,rO]
  exact this
 have s3:Sm _ (bw (fw g order) order.length):=Sm.seq (b:=fun i=>3+rO (fun x=>150*gn x.e) order[i]?) fun i hi=>by
  have hm:=aJ hi
  have:=FN (gn:=gn) (g:=g) (x:=order[i]) (h _ (by
   simp only[List.mem_append,List.mem_map]
   exact .inr ⟨_,hm,rfl⟩))
  show Sm _ ((if i=0 then [kT 7,kT 8] else [eK])++xK order (jr g) i)
  rw[eC hi]
  simp only[aA hi,rO]
  exact ((Sm.ite (Sm.cons (dv _) (Sm.one (dv _))) ((Sm.one ah).le aa)).app this).le aa
 rw[mo items 4 (dI gn),Dz] at s1
 rw[mo from_ 5 (fun x=>150*(x.on.map gn).sum),FO] at s2
 rw[mo order 3 (fun x=>150*gn x.e),show (fun x:SortKey=>150*gn x.e)=(fun x=>150*(fun y:SortKey=>gn y.e) x) from rfl,Ae] at s3
 have s4:Sm (1+150*(where_.map gn).sum) (pS g where_):=J1 fun x hx=>h x (by simp [hx])
 have s5:Sm 2 (jR limit):=by
  unfold jR
  split
  ·exact Sm.cons (dv _) (Sm.one (pT aa hl))
  ·exact Sm.nil.le aa
 have e2:((order.map SortKey.e).map gn).sum=(order.map fun y:SortKey=>gn y.e).sum:=by rw[List.map_map];rfl
 rw[List.map_append,List.map_append,List.map_append,List.sum_append,List.sum_append,List.sum_append,e2]
 exact (Sm.cons (dv _) ((Sm.ite (Sm.one (dv _)) (Sm.nil.le aa:Sm 1 [])).app (s1.app (Sm.cons (dv _) (s2.app (s4.app (s3.app s5))))))).le aa
theorem FP {full:Bool} {gf:Expr->Bool} {e:Expr} (hf:tO gf e=true) (hr:Rg e) (h:∀x,eT x e->gf x=true->Rg x->Sm (150*gn x) (g x)):Sm (150*A7 gn e) (np full g e):=by
 have hb:∀x,eT x e->Rg x:=fun x hx=>qz hr hx
 have hsub:∀q∈e.sub,q.lim<=9223372036854775807:=fun q hq=>(uT hr hq).1
 obtain⟨kind,op,not,val,qual,name,kids,sub⟩:=e
 have hnum:=hr.num
 obtain⟨hs,hk,hq⟩:=jS hf
 have hkid:∀k (hk':k<kids.length),Sm (150*gn kids[k]+2) (aP full g kind op kids k):=fun k hk'=>by
  have hm:=aJ hk'
  rw[aP,List.getD_eq_getElem?_getD,aA hk']
  exact I0 (h _ (.inl hm) (hk _ hm) (hb _ (.inl hm)))
 have hqs:∀q∈sub,Sm (105+150*((exprsQ q).map gn).sum) (kV g q):=fun q hm=>JF (hq q hm) (hsub q hm) fun x hx=>by
  obtain⟨d,it,fr,wh,od,li⟩:=q
  exact h x (.inr ⟨_,hm,hx⟩) ((iV (hq _ hm)).2.2.2.2.2.2.2 x hx) (hb _ (.inr ⟨_,hm,hx⟩))
 have en:A7 gn (.mk kind op not val qual name kids sub)=1+(kids.map gn).sum+(sub.map fun q=>((exprsQ q).map gn).sum).sum:=rfl
 rw[en]
 rcases jd hs with⟨rfl,hl,hk0,hs0⟩|⟨rfl,hn,hm,hk0,hs0⟩|⟨rfl,ho,hk0,hs0⟩|⟨rfl,ho,hk0,hs0⟩|⟨rfl,hk0,hs0⟩|⟨rfl,hk0,hs0⟩|⟨rfl,hk0,hs0⟩|⟨rfl,hk0,hs0⟩|⟨rfl,hk0,hs0⟩
 ·show Sm _ [eX val]
  exact (Sm.one (HZ hl hnum)).le aa
 ·show Sm _ (cH qual++[nT name])
  simp only[bH,decide_eq_true_eq] at hn
  exact ((Ad hm).app (Sm.one (by show name.size<=40;omega))).le aa
 ·obtain⟨a,rfl⟩:=je hk0
  show Sm _ (d5 op::aP full g 3 op [a] 0)
  have k0:=hkid 0 (by simp)
  exact (Sm.cons (tP _) k0).le (by simp;omega)
 ·obtain⟨a,b,rfl⟩:=GH hk0
  show Sm _ (aP full g 4 op [a,b] 0++(d5 op::aP full g 4 op [a,b] 1))
  have k0:=hkid 0 (by simp)
  have k1:=hkid 1 (by simp)
  exact (k0.app (Sm.cons (tP _) k1)).le (by simp;omega)
 ·obtain⟨a,rfl⟩:=je hk0
  show Sm _ (aP full g 5 op [a] 0++(kT 16::(bE not++[kT 20])))
  have k0:=hkid 0 (by simp)
  exact (k0.app (Sm.cons (dv _) ((uU _).app (Sm.one (dv _))))).le (by simp;omega)
 ·obtain⟨a,b,c,rfl⟩:=GJ hk0
  show Sm _ (aP full g 6 op [a,b,c] 0++(bE not++(kT 18::(aP full g 6 op [a,b,c] 1++(kT 13::aP full g 6 op [a,b,c] 2)))))
  have k0:=hkid 0 (by simp)
  have k1:=hkid 1 (by simp)
  have k2:=hkid 2 (by simp)
  exact (k0.app ((uU _).app (Sm.cons (dv _) (k1.app (Sm.cons (dv _) k2))))).le (by simp;omega)
 ·obtain⟨a,r,rfl⟩:∃a r,kids=a::r:=by
   cases kids with
   |nil=>simp at hk0
   |cons a r=>exact⟨a,r,rfl⟩
  show Sm _ (aP full g 7 op (a::r) 0++(bE not++(kT 17::jY::(bw (rN full g 7 op (a::r)) r.length++[kA]))))
  have k0:=hkid 0 (by simp)
  have s1:Sm _ (bw (rN full g 7 op (a::r)) r.length):=Sm.seq (b:=fun i=>3+rO (fun x=>150*gn x) r[i]?) fun i hi=>by
   have k1:=hkid (i+1) (by simpa using hi)
   simp only[aA hi,rO]
   exact ((Sm.ite (Sm.one ah) (Sm.nil.le aa:Sm 1 [])).app k1).le (by simp;omega)
  rw[mo r 3 (fun x=>150*gn x),Ae] at s1
  have hr8:r.length<=8:=by simp at hk0;omega
  exact (k0.app ((uU _).app (Sm.cons (dv _) (Sm.cons ah (s1.app (Sm.one ah)))))).le (by simp;omega)
 ·obtain⟨a,rfl⟩:=je hk0
  obtain⟨q,rfl⟩:=je hs0
  show Sm _ (aP full g 8 op [a] 0++(bE not++(kT 17::jY::(kV g q++[kA]))))
  have k0:=hkid 0 (by simp)
  have s1:=hqs q (by simp)
  exact (k0.app ((uU _).app (Sm.cons (dv _) (Sm.cons ah (s1.app (Sm.one ah)))))).le (by simp;omega)
 ·obtain⟨q,rfl⟩:=je hs0
  show Sm _ (kT 19::jY::(kV g q++[kA]))
  have s1:=hqs q (by simp)
  exact (Sm.cons (dv _) (Sm.cons ah (s1.app (Sm.one ah)))).le (by simp;omega)
end
theorem I2 (full:Bool) (e:Expr):fmE e=true->Rg e->Sm (150*ndE e) (nw full e):=
 kD (F1:=tO) (F2:=A7) (F3:=np full) (P:=fun e f n t=>f=true->Rg e->Sm (150*n) t) (fun e gf gn g hg hf hr=>FP hf hr hg) e
theorem rP (c:UInt8) (s:ByteArray):(ke c s).size<=2*s.size+2:=by
 have:=kf c s.data.toList
 rw[aF] at this
 show ((c::(bN c s.data.toList++[c])).toArray).size<=_
 rw[List.size_toArray,List.length_cons,aB,List.length_singleton];omega
theorem FQ {t:Tok} (h:t.text.size<=40):(cB t).size<=300:=by
 have h2:=rP 34 t.text
 have h3:=rP 39 t.text
 unfold cB j5
 (repeat' split)<;>first|omega|exact Nat.zero_le _
theorem I3 {l:List Tok} {n:Nat} (h:Sm n l) (i:Nat):(jn l i).length<=400:=by
 unfold jn
 split
 ·rename_i hi
  have:=FQ (h.2 _ (aJ hi))
  rw[aB,aF]
  split<;>simp<;>omega
 ·simp
theorem DA {l:List Tok} {n:Nat} (h:Sm n l) (hn:n<=100000):(dT l l.length).length<=50000000:=by
 suffices H:∀k,(dT l k).length<=400*k from Nat.le_trans (H _) (by have:=h.1;omega)
 intro k
 induction k with
 |zero=>exact Nat.zero_le _
 |succ k ih=>rw[df,aB];have:=I3 h k;omega
theorem j3 {A B C E:Prop} (k:E) (a:A:=by kernel_rfl) (b:B:=by simp only[maxLen];(try simp only[ll] at *);omega) (c:C:=by (try simp only[ll] at *);omega):A/\(B/\C)/\E:=⟨a,⟨b,c⟩,k⟩
theorem au {p:Prop} (h:p:=by (try simp only[ll] at *);omega):p:=h
end Go.Proofs.YtdmomaomffhidaaGreatDoor
