/-
  Trees in order.
  Conditions: none.
-/
import Derived.Test.YtbodcedhmccenaaGreatDoorPFB1
set_option linter.unusedVariables false
set_option linter.unusedSimpArgs false
set_option linter.unusedSectionVars false
set_option maxRecDepth 8000
namespace Go.Proofs.YtbodcedhmccenaaGreatDoor
open Go Go.Dv
open Go.Vc (D dg dh cX bk)
theorem pi (distinct:Bool) (items:List Item) (from_:List Source) (where_:List Expr) (order:List SortKey) (limit:Int) (hsz:szQuery (Query.mk distinct items from_ where_ order limit)<=1048576):Cl Tryz.prog 173 [.ag (ar (Query.mk distinct items from_ where_ order limit).row)] [] fun r _=>r = .c (.sl (exprsQ (Query.mk distinct items from_ where_ order limit)).length ((exprsQ (Query.mk distinct items from_ where_ order limit)).flatMap Expr.row) none):=by
 have hlen:=fk (Query.mk distinct items from_ where_ order limit)
 have q0:exprsQ (Query.mk distinct items from_ where_ order limit)=aY items++from_.flatMap Source.on++where_++order.map SortKey.e:=rfl
 rw[q0] at hlen ⊢
 simp only[aC,List.length_map] at hlen
 have htot:=Nat.le_trans hlen hsz
 have hil:=eM items
 rw[dC,dB,cM,aT,cB] at hsz
 rw[aF]
 refine ai ac false Tryz.func173 rfl ae ?_
 simp only[Tryz.f173,tt,seval]
 refine dLoop.gh [.ren 7 30] ⟨ah,ah,?_⟩
 refine dLoop0.intro (fun f L p=>∃(i:Nat) (es:List Expr),f 4=vi i/\f 3 = .c (.s 30 es.length)/\i<=items.length/\es=aY (items.take i)/\L=[(1,.str [.v (.bool distinct),.sl items.length (items.flatMap Item.row) none,.sl from_.length (from_.flatMap Source.row) none,.sl where_.length (where_.flatMap Expr.row) none,.sl order.length (order.flatMap SortKey.row) none,.v (.int .i64 limit)]),(30,.arr 52 es.length (es.flatMap Expr.row) none)]/\p=none) (fun f _ _=>(items.length-eH (f 4)).toNat) [(1,.str [.v (.bool distinct),.sl items.length (items.flatMap Item.row) none,.sl from_.length (from_.flatMap Source.row) none,.sl where_.length (where_.flatMap Expr.row) none,.sl order.length (order.flatMap SortKey.row) none,.v (.int .i64 limit)]),(30,.arr 52 0 [] none)] none ⟨ak rfl (ak rfl (ao _)),aq _,?_⟩ ?_
 ·simp only[tt,seval]
  exact⟨0,[],rfl,rfl,aa,rfl,rfl⟩
 ·rintro g L p ⟨i,es,hi4,h3,hi,hes,rfl,rfl⟩
  simp only[tt,seval] at hi4 h3
  simp only[tt,seval,hi4,Int.ofNat_lt]
  refine fun _=>?_
  refine ab (fun hlt=>?_) (fun hge=>?_)
  ·have hlt:i<items.length:=by omega
   have hst:=pB hlt
   have hel:es.length<=items.length:=by rw[hes];exact Nat.le_trans (eM _) (by rw[List.length_take];omega)
   have hei:es.length<=i:=by rw[hes];exact Nat.le_trans (eM _) (by rw[List.length_take];omega)
   obtain⟨it,bu⟩:∃it,it=items[i]:=⟨_,rfl⟩
   rw[<-bu] at hst
   refine⟨aa,aa,_,aH Item.row_len (aD hlt),Item.ne _ _,?_⟩
   obtain⟨star,qual,⟨k,o,n,v,q,m,ks,ss⟩,as_⟩:=it
   rw[<-bu,Item.row_mk,al]
   simp only[tt,seval,hi4,h3,Int.ofNat_lt]
   refine ab (fun hs=>?_) (fun hs=>?_)
   ·have hs:star=false:=by simpa only[Bool.not_eq_true'] using hs
    refine⟨aa,aa,_,aH Item.row_len (aD hlt),Item.ne _ _,?_⟩
    rw[<-bu,Item.row_mk,al]
    simp only[tt,seval,hi4]
    refine kU ?_
    have e:es.flatMap Expr.row++[int k,int o,bool n,int v.kind,int v.num,str v.text,str q,str m,.sl ks.length (ks.flatMap Expr.row),.sl ss.length (ss.flatMap Query.row)]=(es++[Expr.mk k o n v q m ks ss]).flatMap Expr.row:=by rw[List.flatMap_append];simp [al]
    have e2:es.length+1=(es++[Expr.mk k o n v q m ks ss]).length:=by simp
    rw[e,e2]
    try rw[eS i aa]
    exact⟨_,none,ak rfl (ak rfl (ao _)),aq _,⟨i+1,_,rfl,rfl,aa,by rw[hst,hes];subst hs;rfl,rfl,rfl⟩,aB⟩
   ·have hs:star=true:=by simpa only[Bool.not_eq_false'] using hs
    try rw[eS i aa]
    exact⟨_,none,ak rfl (ak rfl (ao _)),aq _,⟨i+1,es,rfl,rfl,aa,by rw[hst,hes];subst hs;simp [Item.star],rfl,rfl⟩,aB⟩
  ·have hie:i=items.length:=by omega
   subst hie
   rw[List.take_length] at hes
   subst hes
   refine dLoop.gh [.ren 30 45] ⟨ah,ah,?_⟩
   refine dLoop0.intro (fun f L p=>∃(i:Nat) (es:List Expr),f 5=vi i/\f 3 = .c (.s 45 es.length)/\i<=from_.length/\es=aY items++(from_.take i).flatMap Source.on/\L=[(1,.str [.v (.bool distinct),.sl items.length (items.flatMap Item.row) none,.sl from_.length (from_.flatMap Source.row) none,.sl where_.length (where_.flatMap Expr.row) none,.sl order.length (order.flatMap SortKey.row) none,.v (.int .i64 limit)]),(45,.arr 52 es.length (es.flatMap Expr.row) none)]/\p=none) (fun f _ _=>(from_.length-eH (f 5)).toNat) [(1,.str [.v (.bool distinct),.sl items.length (items.flatMap Item.row) none,.sl from_.length (from_.flatMap Source.row) none,.sl where_.length (where_.flatMap Expr.row) none,.sl order.length (order.flatMap SortKey.row) none,.v (.int .i64 limit)]),(45,.arr 52 (aY items).length ((aY items).flatMap Expr.row) none)] none ⟨ak rfl (ak rfl (ao _)),aq _,?_⟩ ?_
   ·simp only[tt,seval,h3]
    exact⟨0,aY items,rfl,rfl,aa,by simp,rfl⟩
   ·rintro g L p ⟨i,es,hi5,h3,hi,hes,rfl,rfl⟩
    simp only[tt,seval] at hi5 h3
    simp only[tt,seval,hi5,h3,Int.ofNat_lt]
    refine fun _=>?_
    refine ab (fun hlt=>?_) (fun hge=>?_)
    ·have hlt:i<from_.length:=by omega
     have hst:=yU hlt
     have hel:es.length<=(aY items).length+(from_.flatMap Source.on).length:=by have:=pC from_ i;rw[hes,aC];omega
     obtain⟨it,bu⟩:∃it,it=from_[i]:=⟨_,rfl⟩
     rw[<-bu] at hst
     have hon:it.on.length<=1048576:=by
      have h1:=fH cJ (aO hlt)
      rw[<-bu] at h1
      obtain⟨table,as_,on⟩:=it
      rw[dt,aT] at h1
      show on.length<=_
      omega
     refine⟨aa,aa,_,aH Source.row_len (aD hlt),Source.ne _ _,?_⟩
     obtain⟨table,as_,on⟩:=it
     have hon:on.length<=1048576:=hon
     rw[<-bu,Source.row_mk]
     simp only[tt,seval]
     refine⟨ae,by rw[cG aQ],⟨by simp only[maxLen];omega,aa⟩,?_⟩
     have e2:es.length+on.length=(es++on).length:=by simp
     rw[<-List.flatMap_append,e2]
     try rw[eS i aa]
     exact⟨_,none,ak rfl (ak rfl (ao _)),aq _,⟨i+1,_,rfl,rfl,aa,by rw[hst,hes,aL];rfl,rfl,rfl⟩,aB⟩
    ·have hie:i=from_.length:=by omega
     subst hie
     rw[List.take_length] at hes
     have hel:es.length=(aY items).length+(from_.flatMap Source.on).length:=by rw[hes,aC]
     refine⟨ae,by rw[cG aQ],⟨by simp only[maxLen];omega,aa⟩,?_⟩
     have e2:es.length+where_.length=(es++where_).length:=by simp
     rw[<-List.flatMap_append,e2]
     obtain⟨fs,hfs⟩:∃fs,fs=es++where_:=⟨_,rfl⟩
     have hfl:fs.length=(aY items).length+(from_.flatMap Source.on).length+where_.length:=by rw[hfs,aC,hel]
     have hfs':fs=aY items++from_.flatMap Source.on++where_:=by rw[hfs,hes]
     rw[<-hfs]
     refine dLoop.gh [.ren 49 65] ⟨ah,ah,?_⟩
     refine dLoop0.intro (fun f L p=>∃(i:Nat) (es:List Expr),f 6=vi i/\f 3 = .c (.s 65 es.length)/\i<=order.length/\es=fs++(order.take i).map SortKey.e/\L=[(1,.str [.v (.bool distinct),.sl items.length (items.flatMap Item.row) none,.sl from_.length (from_.flatMap Source.row) none,.sl where_.length (where_.flatMap Expr.row) none,.sl order.length (order.flatMap SortKey.row) none,.v (.int .i64 limit)]),(65,.arr 52 es.length (es.flatMap Expr.row) none)]/\p=none) (fun f _ _=>(order.length-eH (f 6)).toNat) [(1,.str [.v (.bool distinct),.sl items.length (items.flatMap Item.row) none,.sl from_.length (from_.flatMap Source.row) none,.sl where_.length (where_.flatMap Expr.row) none,.sl order.length (order.flatMap SortKey.row) none,.v (.int .i64 limit)]),(65,.arr 52 fs.length (fs.flatMap Expr.row) none)] none ⟨ak rfl (ak rfl (ao _)),aq _,?_⟩ ?_
     ·simp only[tt,seval]
      exact⟨0,fs,rfl,rfl,aa,by simp,rfl⟩
     ·rintro g L p ⟨i,es,hi6,h3,hi,hes,rfl,rfl⟩
      simp only[tt,seval] at hi6 h3
      simp only[tt,seval,hi6,h3,Int.ofNat_lt]
      refine fun _=>?_
      refine ab (fun hlt=>?_) (fun hge=>?_)
      ·have hlt:i<order.length:=by omega
       have hst:=vz hlt
       have hel:es.length=fs.length+i:=by rw[hes,aC,List.length_map,List.length_take];omega
       obtain⟨it,bu⟩:∃it,it=order[i]:=⟨_,rfl⟩
       rw[<-bu] at hst
       refine⟨aa,aa,_,aH SortKey.row_len (aD hlt),SortKey.ne _ _,?_⟩
       obtain⟨⟨k,o,n,v,q,m,ks,ss⟩,desc⟩:=it
       rw[<-bu,SortKey.row_mk,al]
       simp only[tt,seval,hi6]
       refine kU ?_
       have e:es.flatMap Expr.row++[int k,int o,bool n,int v.kind,int v.num,str v.text,str q,str m,.sl ks.length (ks.flatMap Expr.row),.sl ss.length (ss.flatMap Query.row)]=(es++[Expr.mk k o n v q m ks ss]).flatMap Expr.row:=by rw[List.flatMap_append];simp [al]
       have e2:es.length+1=(es++[Expr.mk k o n v q m ks ss]).length:=by simp
       rw[e,e2]
       try rw[eS i aa]
       exact⟨_,none,ak rfl (ak rfl (ao _)),aq _,⟨i+1,_,rfl,rfl,aa,by rw[hst,hes,aL];rfl,rfl,rfl⟩,aB⟩
      ·have hie:i=order.length:=by omega
       subst hie
       rw[List.take_length] at hes
       refine⟨_,[],rfl,am ?_⟩
       simp only[tt,seval]
       rw[hes,hfs']
       exact⟨rfl,rfl⟩
theorem rB (distinct:Bool) (items:List Item) (from_:List Source) (where_:List Expr) (order:List SortKey) (limit:Int) (hsz:szQuery (Query.mk distinct items from_ where_ order limit)<=1048576):Cl Tryz.prog 241 [.ag (ar (Query.mk distinct items from_ where_ order limit).row)] [] fun r _=>r = .c (.sl (exprsQ (Query.mk distinct items from_ where_ order limit)).length ((exprsQ (Query.mk distinct items from_ where_ order limit)).flatMap Expr.row) none):=by
 have hlen:=fk (Query.mk distinct items from_ where_ order limit)
 have q0:exprsQ (Query.mk distinct items from_ where_ order limit)=aY items++from_.flatMap Source.on++where_++order.map SortKey.e:=rfl
 rw[q0] at hlen ⊢
 simp only[aC,List.length_map] at hlen
 have htot:=Nat.le_trans hlen hsz
 have hil:=eM items
 rw[dC,dB,cM,aT,cB] at hsz
 rw[aF]
 refine ai ac false Tryz.func241 rfl ae ?_
 simp only[Tryz.f241,tt,seval]
 refine fun _=>?_
 refine dLoop.gh [.ren 10 25] ⟨ah,ah,?_⟩
 refine dLoop0.intro (fun f L p=>∃(i:Nat) (es:List Expr),f 14=vi i/\f 3 = .c (.s 25 es.length)/\i<=items.length/\es=aY (items.take i)/\L=[(1,.str [.v (.bool distinct),.sl items.length (items.flatMap Item.row) none,.sl from_.length (from_.flatMap Source.row) none,.sl where_.length (where_.flatMap Expr.row) none,.sl order.length (order.flatMap SortKey.row) none,.v (.int .i64 limit)]),(25,.arr 52 es.length (es.flatMap Expr.row) none)]/\p=none) (fun f _ _=>(items.length-eH (f 14)).toNat) [(1,.str [.v (.bool distinct),.sl items.length (items.flatMap Item.row) none,.sl from_.length (from_.flatMap Source.row) none,.sl where_.length (where_.flatMap Expr.row) none,.sl order.length (order.flatMap SortKey.row) none,.v (.int .i64 limit)]),(25,.arr 52 0 [] none)] none ⟨ak rfl (ak rfl (ao _)),aq _,?_⟩ ?_
 ·simp only[tt,seval]
  exact⟨0,[],rfl,rfl,aa,rfl,rfl⟩
 ·rintro g L p ⟨i,es,hi4,h3,hi,hes,rfl,rfl⟩
  simp only[tt,seval] at hi4 h3
  simp only[tt,seval,hi4,Int.ofNat_lt]
  refine ab (fun hlt=>?_) (fun hge=>?_)
  ·have hlt:i<items.length:=by omega
   have hst:=pB hlt
   have hel:es.length<=items.length:=by rw[hes];exact Nat.le_trans (eM _) (by rw[List.length_take];omega)
   have hei:es.length<=i:=by rw[hes];exact Nat.le_trans (eM _) (by rw[List.length_take];omega)
   obtain⟨it,bu⟩:∃it,it=items[i]:=⟨_,rfl⟩
   rw[<-bu] at hst
   refine⟨aa,aa,_,aH Item.row_len (aD hlt),Item.ne _ _,?_⟩
   obtain⟨star,qual,⟨k,o,n,v,q,m,ks,ss⟩,as_⟩:=it
   rw[<-bu,Item.row_mk,al]
   simp only[tt,seval,hi4,h3]
   refine ab (fun hs=>?_) (fun hs=>?_)
   ·have hs:star=false:=by simpa only[Bool.not_eq_true'] using hs
    refine kU ?_
    have e:es.flatMap Expr.row++[int k,int o,bool n,int v.kind,int v.num,str v.text,str q,str m,.sl ks.length (ks.flatMap Expr.row),.sl ss.length (ss.flatMap Query.row)]=(es++[Expr.mk k o n v q m ks ss]).flatMap Expr.row:=by rw[List.flatMap_append];simp [al]
    have e2:es.length+1=(es++[Expr.mk k o n v q m ks ss]).length:=by simp
    rw[e,e2]
    try rw[eS i aa]
    exact⟨_,none,ak rfl (ak rfl (ao _)),aq _,⟨i+1,_,rfl,rfl,aa,by rw[hst,hes];subst hs;rfl,rfl,rfl⟩,aB⟩
   ·have hs:star=true:=by simpa only[Bool.not_eq_false'] using hs
    try rw[eS i aa]
    exact⟨_,none,ak rfl (ak rfl (ao _)),aq _,⟨i+1,es,rfl,rfl,aa,by rw[hst,hes];subst hs;simp [Item.star],rfl,rfl⟩,aB⟩
  ·have hie:i=items.length:=by omega
   subst hie
   rw[List.take_length] at hes
   subst hes
   refine fun _=>?_
   refine dLoop.gh [.ren 25 37] ⟨ah,ah,?_⟩
   refine dLoop0.intro (fun f L p=>∃(i:Nat) (es:List Expr),f 30=vi i/\f 3 = .c (.s 37 es.length)/\i<=from_.length/\es=aY items++(from_.take i).flatMap Source.on/\L=[(1,.str [.v (.bool distinct),.sl items.length (items.flatMap Item.row) none,.sl from_.length (from_.flatMap Source.row) none,.sl where_.length (where_.flatMap Expr.row) none,.sl order.length (order.flatMap SortKey.row) none,.v (.int .i64 limit)]),(37,.arr 52 es.length (es.flatMap Expr.row) none)]/\p=none) (fun f _ _=>(from_.length-eH (f 30)).toNat) [(1,.str [.v (.bool distinct),.sl items.length (items.flatMap Item.row) none,.sl from_.length (from_.flatMap Source.row) none,.sl where_.length (where_.flatMap Expr.row) none,.sl order.length (order.flatMap SortKey.row) none,.v (.int .i64 limit)]),(37,.arr 52 (aY items).length ((aY items).flatMap Expr.row) none)] none ⟨ak rfl (ak rfl (ao _)),aq _,?_⟩ ?_
   ·simp only[tt,seval,h3]
    exact⟨0,aY items,rfl,rfl,aa,by simp,rfl⟩
   ·rintro g L p ⟨i,es,hi5,h3,hi,hes,rfl,rfl⟩
    simp only[tt,seval] at hi5 h3
    simp only[tt,seval,hi5,h3,Int.ofNat_lt]
    refine ab (fun hlt=>?_) (fun hge=>?_)
    ·have hlt:i<from_.length:=by omega
     have hst:=yU hlt
     have hel:es.length<=(aY items).length+(from_.flatMap Source.on).length:=by have:=pC from_ i;rw[hes,aC];omega
     obtain⟨it,bu⟩:∃it,it=from_[i]:=⟨_,rfl⟩
     rw[<-bu] at hst
     have hon:it.on.length<=1048576:=by
      have h1:=fH cJ (aO hlt)
      rw[<-bu] at h1
      obtain⟨table,as_,on⟩:=it
      rw[dt,aT] at h1
      show on.length<=_
      omega
     refine⟨aa,aa,_,aH Source.row_len (aD hlt),Source.ne _ _,?_⟩
     obtain⟨table,as_,on⟩:=it
     have hon:on.length<=1048576:=hon
     rw[<-bu,Source.row_mk]
     simp only[tt,seval]
     refine⟨ae,by rw[cG aQ],⟨by simp only[maxLen];omega,aa⟩,?_⟩
     have e2:es.length+on.length=(es++on).length:=by simp
     rw[<-List.flatMap_append,e2]
     try rw[eS i aa]
     exact⟨_,none,ak rfl (ak rfl (ao _)),aq _,⟨i+1,_,rfl,rfl,aa,by rw[hst,hes,aL];rfl,rfl,rfl⟩,aB⟩
    ·have hie:i=from_.length:=by omega
     subst hie
     rw[List.take_length] at hes
     have hel:es.length=(aY items).length+(from_.flatMap Source.on).length:=by rw[hes,aC]
     refine⟨ae,by rw[cG aQ],⟨by simp only[maxLen];omega,aa⟩,?_⟩
     have e2:es.length+where_.length=(es++where_).length:=by simp
     rw[<-List.flatMap_append,e2]
     obtain⟨fs,hfs⟩:∃fs,fs=es++where_:=⟨_,rfl⟩
     have hfl:fs.length=(aY items).length+(from_.flatMap Source.on).length+where_.length:=by rw[hfs,aC,hel]
     have hfs':fs=aY items++from_.flatMap Source.on++where_:=by rw[hfs,hes]
     rw[<-hfs]
     refine fun _=>?_
     refine dLoop.gh [.ren 42 54] ⟨ah,ah,?_⟩
     refine dLoop0.intro (fun f L p=>∃(i:Nat) (es:List Expr),f 46=vi i/\f 3 = .c (.s 54 es.length)/\i<=order.length/\es=fs++(order.take i).map SortKey.e/\L=[(1,.str [.v (.bool distinct),.sl items.length (items.flatMap Item.row) none,.sl from_.length (from_.flatMap Source.row) none,.sl where_.length (where_.flatMap Expr.row) none,.sl order.length (order.flatMap SortKey.row) none,.v (.int .i64 limit)]),(54,.arr 52 es.length (es.flatMap Expr.row) none)]/\p=none) (fun f _ _=>(order.length-eH (f 46)).toNat) [(1,.str [.v (.bool distinct),.sl items.length (items.flatMap Item.row) none,.sl from_.length (from_.flatMap Source.row) none,.sl where_.length (where_.flatMap Expr.row) none,.sl order.length (order.flatMap SortKey.row) none,.v (.int .i64 limit)]),(54,.arr 52 fs.length (fs.flatMap Expr.row) none)] none ⟨ak rfl (ak rfl (ao _)),aq _,?_⟩ ?_
     ·simp only[tt,seval]
      exact⟨0,fs,rfl,rfl,aa,by simp,rfl⟩
     ·rintro g L p ⟨i,es,hi6,h3,hi,hes,rfl,rfl⟩
      simp only[tt,seval] at hi6 h3
      simp only[tt,seval,hi6,h3,Int.ofNat_lt]
      refine ab (fun hlt=>?_) (fun hge=>?_)
      ·have hlt:i<order.length:=by omega
       have hst:=vz hlt
       have hel:es.length=fs.length+i:=by rw[hes,aC,List.length_map,List.length_take];omega
       obtain⟨it,bu⟩:∃it,it=order[i]:=⟨_,rfl⟩
       rw[<-bu] at hst
       refine⟨aa,aa,_,aH SortKey.row_len (aD hlt),SortKey.ne _ _,?_⟩
       obtain⟨⟨k,o,n,v,q,m,ks,ss⟩,desc⟩:=it
       rw[<-bu,SortKey.row_mk,al]
       simp only[tt,seval,hi6]
       refine kU ?_
       have e:es.flatMap Expr.row++[int k,int o,bool n,int v.kind,int v.num,str v.text,str q,str m,.sl ks.length (ks.flatMap Expr.row),.sl ss.length (ss.flatMap Query.row)]=(es++[Expr.mk k o n v q m ks ss]).flatMap Expr.row:=by rw[List.flatMap_append];simp [al]
       have e2:es.length+1=(es++[Expr.mk k o n v q m ks ss]).length:=by simp
       rw[e,e2]
       try rw[eS i aa]
       exact⟨_,none,ak rfl (ak rfl (ao _)),aq _,⟨i+1,_,rfl,rfl,aa,by rw[hst,hes,aL];rfl,rfl,rfl⟩,aB⟩
      ·have hie:i=order.length:=by omega
       subst hie
       rw[List.take_length] at hes
       refine⟨_,[],rfl,am ?_⟩
       simp only[tt,seval]
       rw[hes,hfs']
       exact⟨rfl,rfl⟩
def bY (l:List Nat):Nat:=l.foldl max 0
theorem hM (l:List Nat) (x:Nat):bY (l++[x])=max (bY l) x:=by simp [bY]
theorem oA {l:List Nat} {b:Nat} (h:∀x∈l,x<=b):bY l<=b:=by
 unfold bY
 suffices H:∀(l:List Nat) (a:Nat),a<=b->(∀x∈l,x<=b)->l.foldl max a<=b from H l 0 (Nat.zero_le _) h
 intro l
 induction l with
 |nil=>exact fun a h _=>h
 |cons y r ih=>exact fun a h hx=>ih _ (Nat.max_le.2 ⟨h,hx y (by simp)⟩) fun x hm=>hx x (by simp [hm])
theorem ep {α:Type} (g:α->Nat) {l:List α} {i:Nat} (h:i<l.length):(l.take (i+1)).map g=(l.take i).map g++[g l[i]]:=by
 rw[List.take_succ_eq_append_getElem h,List.map_append];rfl
theorem HZ (a b:Nat):(if (b:Int)>(a:Int) then (b:Int) else (a:Int))=((max a b:Nat):Int):=by split<;>omega
theorem FD {x e:Expr} (h:x∈e.kids):szExpr x+1<=szExpr e:=by
 obtain⟨k,o,n,v,q,m,ks,ss⟩:=e
 have h:x∈ks:=h
 rw[cL,aT]
 have:=fH szExpr h
 have:=List.length_pos_of_mem h
 omega
theorem FE {q:Query} {e:Expr} (h:q∈e.sub):szQuery q+1<=szExpr e:=by
 obtain⟨k,o,n,v,q',m,ks,ss⟩:=e
 have h:q∈ss:=h
 rw[cL,bT]
 have:=fH szQuery h
 have:=List.length_pos_of_mem h
 omega
theorem tH {x e:Expr} (h:f6 x e):szExpr x+1<=szExpr e:=by
 rcases h with h|⟨q,hq,h⟩
 ·exact FD h
 ·have:=FE hq;have:=gZ h;omega
def GK (g:Expr->Nat) (e:Expr):Nat:=1+bY (e.kids.map g++e.sub.map fun q=>bY ((exprsQ q).map g))
noncomputable def dpE:Expr->Nat:=dT GK
theorem zT {e:Expr} {g:Expr->Nat} (h:∀x,f6 x e->g x<=szExpr x+1):GK g e<=szExpr e+1:=by
 unfold GK
 have:bY (e.kids.map g++e.sub.map fun q=>bY ((exprsQ q).map g))<=szExpr e:=oA fun y hy=>by
  rcases List.mem_append.1 hy with hy|hy
  ·obtain⟨x,hx,rfl⟩:=List.mem_map.1 hy
   have:=h x (.inl hx);have:=tH (.inl hx:f6 x e);omega
  ·obtain⟨q,hq,rfl⟩:=List.mem_map.1 hy
   refine oA fun z hz=>?_
   obtain⟨x,hx,rfl⟩:=List.mem_map.1 hz
   have:=h x (.inr ⟨q,hq,hx⟩);have:=tH (.inr ⟨q,hq,hx⟩:f6 x e);omega
 omega
theorem uG (a b:Nat):Cl Tryz.prog 175 [vi a,vi b] [] fun r _=>r=vi (max a b:Nat):=by
 refine ai ac false Tryz.func175 rfl ae ?_
 simp only[Tryz.f175,tt,seval]
 refine ab (fun h=>?_) (fun h=>?_)
 ·exact⟨_,_,iU aa,ap rfl⟩
 ·exact⟨_,_,iU aa,ap rfl⟩
theorem wR (l:List Expr) (g:Expr->Nat) (h:∀x∈l,Cl Tryz.prog 88 [.ag (ar x.row)] [] fun r _=>r=vi (g x:Nat)) (hl:l.length<=1048576):Cl Tryz.prog 240 [.c (.sl l.length (l.flatMap Expr.row) none)] [] fun r _=>r=vi (bY (l.map g):Nat):=by
 refine ai ac false Tryz.func240 rfl ae ?_
 simp only[Tryz.f240,tt,seval]
 refine fun _=>?_
 refine dLoop.intro (fun f L p=>∃i:Nat,f 8=vi i/\i<=l.length/\f 3=vi (bY ((l.take i).map g):Nat)/\L=[]/\p=none) (fun f _ _=>(l.length-eH (f 8)).toNat) [] none ⟨ao _,aq _,?_⟩ ?_
 ·simp only[tt,seval]
  exact⟨0,rfl,aa,by simp [bY]⟩
 ·rintro g' L p ⟨i,hix,hi,hac,rfl,rfl⟩
  simp only[tt,seval] at hix hac
  simp only[tt,seval,hix,hac,Int.ofNat_lt]
  refine ab (fun hlt=>?_) (fun hge=>?_)
  ·have hlt:i<l.length:=by omega
   obtain⟨it,bu⟩:∃it,it=l[i]:=⟨_,rfl⟩
   have hmem:it∈l:=by rw[bu];exact aO hlt
   refine⟨aa,aa,_,aH aQ (aD hlt),Expr.ne _ _,?_⟩
   have hstep:bY ((l.take (i+1)).map g)=max (bY ((l.take i).map g)) (g l[i]):=by rw[ep g hlt,hM]
   rw[<-bu] at hstep
   obtain⟨k,o,n,v,q,m,ks,ss⟩:=it
   rw[<-bu,al]
   simp only[tt,seval]
   refine cZ (h _ hmem) ?_ ?_<;>simp only[tt,seval,hix,al]
   rw[HZ,ax (n:=(i:Int)+1) aa aa]
   exact⟨_,none,ao _,aq _,⟨i+1,rfl,aa,iU (by rw[hstep]),rfl,rfl⟩,aB⟩
  ·have hie:i=l.length:=by omega
   subst hie
   rw[List.take_length] at hac
   try rw[List.take_length]
   exact⟨_,_,rfl,ap rfl⟩
theorem tI (q:Query) (g:Expr->Nat) (h:∀x∈exprsQ q,Cl Tryz.prog 88 [.ag (ar x.row)] [] fun r _=>r=vi (g x:Nat)) (hsz:szQuery q<=1048576):Cl Tryz.prog 144 [.ag (ar q.row)] [] fun r _=>r=vi (bY ((exprsQ q).map g):Nat):=by
 have hlen:=fk q
 obtain⟨distinct,items,from_,where_,order,limit⟩:=q
 rw[aF]
 refine ai ac false Tryz.func144 rfl ae ?_
 simp only[Tryz.f144,tt,seval]
 refine cZ (rB distinct items from_ where_ order limit hsz) ?_ ?_<;>simp only[tt,seval,aF]
 generalize exprsQ (Query.mk distinct items from_ where_ order limit)=l at *
 refine cZ (wR l g h aa) ?_ ?_<;>simp only[tt,seval]
 exact⟨_,_,rfl,ap rfl⟩
theorem sC (kind op:Int) (not:Bool) (val:Val) (qual name:ByteArray) (kids:List Expr) (sub:List Query) (g:Expr->Nat) (hg:∀x,f6 x (Expr.mk kind op not val qual name kids sub)->(Cl Tryz.prog 88 [.ag (ar x.row)] [] fun r _=>r=vi (g x:Nat))/\g x<=szExpr x+1) (hsz:szExpr (Expr.mk kind op not val qual name kids sub)<=1048576):Cl Tryz.prog 88 [.ag (ar (Expr.mk kind op not val qual name kids sub).row)] [] fun r _=>r=vi (GK g (Expr.mk kind op not val qual name kids sub):Nat):=by
 have hdl:=zT (g:=g) (fun x hx=>(hg x hx).2)
 have e:GK g (Expr.mk kind op not val qual name kids sub)=1+bY (kids.map g++sub.map fun q=>bY ((exprsQ q).map g)):=rfl
 rw[e] at hdl ⊢
 rw[al]
 refine ai ac false Tryz.func88 rfl ae ?_
 simp only[Tryz.f88,tt,seval]
 refine fun _=>?_
 refine dLoop.intro (fun f L p=>∃i:Nat,f 11=vi i/\i<=kids.length/\f 3=vi (bY ((kids.take i).map g):Nat)/\L=[(1,.str [.v (.int .i64 kind),.v (.int .i64 op),.v (.bool not),.v (.int .i64 val.kind),.v (.int .i64 val.num),.v (.string val.text),.v (.string qual),.v (.string name),.sl kids.length (kids.flatMap Expr.row) none,.sl sub.length (sub.flatMap Query.row) none])]/\p=none) (fun f _ _=>(kids.length-eH (f 11)).toNat) [(1,.str [.v (.int .i64 kind),.v (.int .i64 op),.v (.bool not),.v (.int .i64 val.kind),.v (.int .i64 val.num),.v (.string val.text),.v (.string qual),.v (.string name),.sl kids.length (kids.flatMap Expr.row) none,.sl sub.length (sub.flatMap Query.row) none])] none ⟨ak rfl (ao _),aq _,?_⟩ ?_
 ·simp only[tt,seval]
  exact⟨0,rfl,aa,by simp [bY]⟩
 ·rintro g' L p ⟨i,hix,hi,hac,rfl,rfl⟩
  simp only[tt,seval] at hix hac
  simp only[tt,seval,hix,hac,Int.ofNat_lt]
  refine ab (fun hlt=>?_) (fun hge=>?_)
  ·have hlt:i<kids.length:=by omega
   obtain⟨it,bu⟩:∃it,it=kids[i]:=⟨_,rfl⟩
   have hmem:it∈kids:=by rw[bu];exact aO hlt
   refine⟨aa,aa,_,aH aQ (aD hlt),Expr.ne _ _,?_⟩
   have hstep:bY ((kids.take (i+1)).map g)=max (bY ((kids.take i).map g)) (g kids[i]):=by rw[ep g hlt,hM]
   rw[<-bu] at hstep
   obtain⟨k,o,n,v,q,m,ks,ss⟩:=it
   rw[<-bu,al]
   simp only[tt,seval]
   refine cZ ((hg _ (.inl hmem)).1) ?_ ?_<;>simp only[tt,seval,hix,al]
   rw[HZ,ax (n:=(i:Int)+1) aa aa]
   exact⟨_,none,ak rfl (ao _),aq _,⟨i+1,rfl,aa,iU (by rw[hstep]),rfl,rfl⟩,aB⟩
  ·have hie:i=kids.length:=by omega
   subst hie
   rw[List.take_length] at hac
   refine fun _=>?_
   refine dLoop.intro (fun f L p=>∃i:Nat,f 23=vi i/\i<=sub.length/\f 3=vi (bY (kids.map g++(sub.take i).map fun q=>bY ((exprsQ q).map g)):Nat)/\L=[(1,.str [.v (.int .i64 kind),.v (.int .i64 op),.v (.bool not),.v (.int .i64 val.kind),.v (.int .i64 val.num),.v (.string val.text),.v (.string qual),.v (.string name),.sl kids.length (kids.flatMap Expr.row) none,.sl sub.length (sub.flatMap Query.row) none])]/\p=none) (fun f _ _=>(sub.length-eH (f 23)).toNat) [(1,.str [.v (.int .i64 kind),.v (.int .i64 op),.v (.bool not),.v (.int .i64 val.kind),.v (.int .i64 val.num),.v (.string val.text),.v (.string qual),.v (.string name),.sl kids.length (kids.flatMap Expr.row) none,.sl sub.length (sub.flatMap Query.row) none])] none ⟨ak rfl (ao _),aq _,?_⟩ ?_
   ·simp only[tt,seval,hac]
    exact⟨0,rfl,aa,by simp [bY]⟩
   ·rintro g' L p ⟨i,hix,hi,hac,rfl,rfl⟩
    simp only[tt,seval] at hix hac
    simp only[tt,seval,hix,hac,Int.ofNat_lt]
    refine ab (fun hlt=>?_) (fun hge=>?_)
    ·have hlt:i<sub.length:=by omega
     obtain⟨it,bu⟩:∃it,it=sub[i]:=⟨_,rfl⟩
     have hmem:it∈sub:=by rw[bu];exact aO hlt
     refine⟨aa,aa,_,aH Query.row_len (aD hlt),Query.ne _ _,?_⟩
     have hstep:bY (kids.map g++(sub.take (i+1)).map fun q=>bY ((exprsQ q).map g))=max (bY (kids.map g++(sub.take i).map fun q=>bY ((exprsQ q).map g))) (bY ((exprsQ sub[i]).map g)):=by rw[ep _ hlt,<-aL,hM]
     rw[<-bu] at hstep
     obtain⟨ds,its,frs,whs,ods,lim⟩:=it
     rw[<-bu,aF]
     simp only[tt,seval]
     refine cZ (tI (Query.mk ds its frs whs ods lim) g (fun x hx=>(hg x (.inr ⟨_,hmem,hx⟩)).1) (Nat.le_trans (lf (e:=(Expr.mk kind op not val qual name kids sub)) hmem) hsz)) ?_ ?_<;>simp only[tt,seval,hix,aF]
     rw[HZ,ax (n:=(i:Int)+1) aa aa]
     exact⟨_,none,ak rfl (ao _),aq _,⟨i+1,rfl,aa,iU (by rw[hstep]),rfl,rfl⟩,aB⟩
    ·have hie:i=sub.length:=by omega
     subst hie
     rw[List.take_length] at hac
     try rw[List.take_length]
     rw[ax aa aa]
     exact⟨_,_,iU aa,ap rfl⟩
theorem ym (e:Expr):(szExpr e<=1048576->Cl Tryz.prog 88 [.ag (ar e.row)] [] fun r _=>r=vi (dpE e:Nat))/\dpE e<=szExpr e+1:=by
 refine hD (P:=fun e d=>(szExpr e<=1048576->Cl Tryz.prog 88 [.ag (ar e.row)] [] fun r _=>r=vi (d:Nat))/\d<=szExpr e+1) (fun e g hg=>⟨fun hsz=>?_,zT fun x hx=>(hg x hx).2⟩) e
 obtain⟨kind,op,not,val,qual,name,kids,sub⟩:=e
 exact sC kind op not val qual name kids sub g (fun x hx=>⟨(hg x hx).1 (Nat.le_trans (gD hx) hsz),(hg x hx).2⟩) hsz
theorem wS (q:Query) (g:Expr->Nat) (h:∀x∈exprsQ q,Cl Tryz.prog 86 [.ag (ar x.row)] [] fun r _=>r=vi (g x:Nat)) (hsz:szQuery q<=1048576):Cl Tryz.prog 99 [.ag (ar q.row)] [] fun r _=>r=vi (bY ((exprsQ q).map g):Nat):=by
 have hlen:=fk q
 obtain⟨distinct,items,from_,where_,order,limit⟩:=q
 rw[aF]
 refine ai ac false Tryz.func99 rfl ae ?_
 simp only[Tryz.f99,tt,seval]
 refine cZ (pi distinct items from_ where_ order limit hsz) ?_ ?_<;>simp only[tt,seval,aF]
 generalize exprsQ (Query.mk distinct items from_ where_ order limit)=l at *
 refine dLoop.intro (fun f L p=>∃i:Nat,f 5=vi i/\i<=l.length/\f 3=vi (bY ((l.take i).map g):Nat)/\L=[(1,.str [.v (.bool distinct),.sl items.length (items.flatMap Item.row) none,.sl from_.length (from_.flatMap Source.row) none,.sl where_.length (where_.flatMap Expr.row) none,.sl order.length (order.flatMap SortKey.row) none,.v (.int .i64 limit)])]/\p=none) (fun f _ _=>(l.length-eH (f 5)).toNat) [(1,.str [.v (.bool distinct),.sl items.length (items.flatMap Item.row) none,.sl from_.length (from_.flatMap Source.row) none,.sl where_.length (where_.flatMap Expr.row) none,.sl order.length (order.flatMap SortKey.row) none,.v (.int .i64 limit)])] none ⟨ak rfl (ao _),aq _,?_⟩ ?_
 ·simp only[tt,seval]
  exact⟨0,rfl,aa,by simp [bY]⟩
 ·rintro g' L p ⟨i,hix,hi,hac,rfl,rfl⟩
  simp only[tt,seval] at hix hac
  simp only[tt,seval,hix,hac,Int.ofNat_lt]
  refine fun _=>?_
  refine ab (fun hlt=>?_) (fun hge=>?_)
  ·have hlt:i<l.length:=by omega
   have hmem:l[i]∈l:=aO hlt
   refine⟨aa,aa,_,aH aQ (aD hlt),Expr.ne _ _,?_⟩
   simp only[seval,Expr.tk,aQ]
   refine cZ (h _ hmem) ?_ ?_<;>simp only[tt,seval]
   refine cZ (uG (bY ((l.take i).map g)) (g l[i])) ?_ ?_<;>simp only[tt,seval,hix]
   rw[eS i aa]
   have hstep:bY ((l.take (i+1)).map g)=max (bY ((l.take i).map g)) (g l[i]):=by rw[ep g hlt,hM]
   exact⟨_,none,ak rfl (ao _),aq _,⟨i+1,rfl,aa,iU (by rw[hstep]),rfl,rfl⟩,aB⟩
  ·have hie:i=l.length:=by omega
   subst hie
   rw[List.take_length] at hac
   try rw[List.take_length]
   exact⟨_,_,rfl,ap rfl⟩
theorem uH (kind op:Int) (not:Bool) (val:Val) (qual name:ByteArray) (kids:List Expr) (sub:List Query) (g:Expr->Nat) (hg:∀x,f6 x (Expr.mk kind op not val qual name kids sub)->(Cl Tryz.prog 86 [.ag (ar x.row)] [] fun r _=>r=vi (g x:Nat))/\g x<=szExpr x+1) (hsz:szExpr (Expr.mk kind op not val qual name kids sub)<=1048576):Cl Tryz.prog 86 [.ag (ar (Expr.mk kind op not val qual name kids sub).row)] [] fun r _=>r=vi (GK g (Expr.mk kind op not val qual name kids sub):Nat):=by
 have hdl:=zT (g:=g) (fun x hx=>(hg x hx).2)
 have e:GK g (Expr.mk kind op not val qual name kids sub)=1+bY (kids.map g++sub.map fun q=>bY ((exprsQ q).map g)):=rfl
 rw[e] at hdl ⊢
 rw[al]
 refine ai ac false Tryz.func86 rfl ae ?_
 simp only[Tryz.f86,tt,seval]
 refine dLoop.intro (fun f L p=>∃i:Nat,f 4=vi i/\i<=kids.length/\f 3=vi (bY ((kids.take i).map g):Nat)/\L=[(1,.str [.v (.int .i64 kind),.v (.int .i64 op),.v (.bool not),.v (.int .i64 val.kind),.v (.int .i64 val.num),.v (.string val.text),.v (.string qual),.v (.string name),.sl kids.length (kids.flatMap Expr.row) none,.sl sub.length (sub.flatMap Query.row) none])]/\p=none) (fun f _ _=>(kids.length-eH (f 4)).toNat) [(1,.str [.v (.int .i64 kind),.v (.int .i64 op),.v (.bool not),.v (.int .i64 val.kind),.v (.int .i64 val.num),.v (.string val.text),.v (.string qual),.v (.string name),.sl kids.length (kids.flatMap Expr.row) none,.sl sub.length (sub.flatMap Query.row) none])] none ⟨ak rfl (ao _),aq _,?_⟩ ?_
 ·simp only[tt,seval]
  exact⟨0,rfl,aa,by simp [bY]⟩
 ·rintro g' L p ⟨i,hix,hi,hac,rfl,rfl⟩
  simp only[tt,seval] at hix hac
  simp only[tt,seval,hix,hac,Int.ofNat_lt]
  refine fun _=>?_
  refine ab (fun hlt=>?_) (fun hge=>?_)
  ·have hlt:i<kids.length:=by omega
   have hmem:kids[i]∈kids:=aO hlt
   refine⟨aa,aa,_,aH aQ (aD hlt),Expr.ne _ _,?_⟩
   simp only[seval,Expr.tk,aQ]
   refine cZ ((hg _ (.inl hmem)).1) ?_ ?_<;>simp only[tt,seval]
   refine cZ (uG (bY ((kids.take i).map g)) (g kids[i])) ?_ ?_<;>simp only[tt,seval,hix]
   rw[eS i aa]
   have hstep:bY ((kids.take (i+1)).map g)=max (bY ((kids.take i).map g)) (g kids[i]):=by rw[ep g hlt,hM]
   exact⟨_,none,ak rfl (ao _),aq _,⟨i+1,rfl,aa,iU (by rw[hstep]),rfl,rfl⟩,aB⟩
  ·have hie:i=kids.length:=by omega
   subst hie
   rw[List.take_length] at hac
   refine dLoop.intro (fun f L p=>∃i:Nat,f 5=vi i/\i<=sub.length/\f 3=vi (bY (kids.map g++(sub.take i).map fun q=>bY ((exprsQ q).map g)):Nat)/\L=[(1,.str [.v (.int .i64 kind),.v (.int .i64 op),.v (.bool not),.v (.int .i64 val.kind),.v (.int .i64 val.num),.v (.string val.text),.v (.string qual),.v (.string name),.sl kids.length (kids.flatMap Expr.row) none,.sl sub.length (sub.flatMap Query.row) none])]/\p=none) (fun f _ _=>(sub.length-eH (f 5)).toNat) [(1,.str [.v (.int .i64 kind),.v (.int .i64 op),.v (.bool not),.v (.int .i64 val.kind),.v (.int .i64 val.num),.v (.string val.text),.v (.string qual),.v (.string name),.sl kids.length (kids.flatMap Expr.row) none,.sl sub.length (sub.flatMap Query.row) none])] none ⟨ak rfl (ao _),aq _,?_⟩ ?_
   ·simp only[tt,seval,hac]
    exact⟨0,rfl,aa,by simp [bY]⟩
   ·rintro g' L p ⟨i,hix,hi,hac,rfl,rfl⟩
    simp only[tt,seval] at hix hac
    simp only[tt,seval,hix,hac,Int.ofNat_lt]
    refine fun _=>?_
    refine ab (fun hlt=>?_) (fun hge=>?_)
    ·have hlt:i<sub.length:=by omega
     have hmem:sub[i]∈sub:=aO hlt
     refine⟨aa,aa,_,aH Query.row_len (aD hlt),Query.ne _ _,?_⟩
     simp only[seval,Query.tk,Query.row_len]
     refine cZ (wS (sub[i]) g (fun x hx=>(hg x (.inr ⟨_,hmem,hx⟩)).1) (Nat.le_trans (lf (e:=(Expr.mk kind op not val qual name kids sub)) hmem) hsz)) ?_ ?_<;>simp only[tt,seval]
     refine cZ (uG (bY (kids.map g++(sub.take i).map fun q=>bY ((exprsQ q).map g))) (bY ((exprsQ sub[i]).map g))) ?_ ?_<;>simp only[tt,seval,hix]
     rw[eS i aa]
     have hstep:bY (kids.map g++(sub.take (i+1)).map fun q=>bY ((exprsQ q).map g))=max (bY (kids.map g++(sub.take i).map fun q=>bY ((exprsQ q).map g))) (bY ((exprsQ sub[i]).map g)):=by rw[ep _ hlt,<-aL,hM]
     exact⟨_,none,ak rfl (ao _),aq _,⟨i+1,rfl,aa,iU (by rw[hstep]),rfl,rfl⟩,aB⟩
    ·have hie:i=sub.length:=by omega
     subst hie
     rw[List.take_length] at hac
     try rw[List.take_length]
     rw[ax aa aa]
     exact⟨_,_,iU aa,ap rfl⟩
theorem Ba (e:Expr):(szExpr e<=1048576->Cl Tryz.prog 86 [.ag (ar e.row)] [] fun r _=>r=vi (dpE e:Nat))/\dpE e<=szExpr e+1:=by
 refine hD (P:=fun e d=>(szExpr e<=1048576->Cl Tryz.prog 86 [.ag (ar e.row)] [] fun r _=>r=vi (d:Nat))/\d<=szExpr e+1) (fun e g hg=>⟨fun hsz=>?_,zT fun x hx=>(hg x hx).2⟩) e
 obtain⟨kind,op,not,val,qual,name,kids,sub⟩:=e
 exact uH kind op not val qual name kids sub g (fun x hx=>⟨(hg x hx).1 (Nat.le_trans (gD hx) hsz),(hg x hx).2⟩) hsz
def zU (g:Expr->Nat) (e:Expr):Nat:=1+(e.kids.map g).sum+(e.sub.map fun q=>((exprsQ q).map g).sum).sum
noncomputable def ndE:Expr->Nat:=dT zU
theorem lS {α:Type} (g:α->Nat) {l:List α} {i:Nat} (h:i<l.length):((l.take (i+1)).map g).sum=((l.take i).map g).sum+g l[i]:=sc g h
theorem pj {α:Type} {f g:α->Nat}:∀ {l:List α},(∀x∈l,f x<=g x)->(l.map f).sum<=(l.map g).sum
 | [],_=>Nat.le_refl _
 |x::r,h=>by
  have h1:=h x (by simp)
  have h2:=pj (l:=r) fun y hy=>h y (by simp [hy])
  simp only[List.map_cons,List.sum_cons];omega
theorem oB {α:Type} (f:α->Nat):∀l:List α,(l.map fun x=>f x+1).sum=l.length+(l.map f).sum
 | []=>rfl
 |x::r=>by simp only[List.map_cons,List.sum_cons,oB f r,List.length_cons];omega
theorem rC:∀l:List Item,((aY l).map fun x=>szExpr x+1).sum<=iX l
 | []=>by simp [aY]
 |.mk s q e a::r=>by
  have:=rC r
  rw[iX,jv]
  cases s with
  |true=>
   have h:aY (.mk true q e a::r)=aY r:=rfl
   rw[h];omega
  |false=>
   have h:aY (.mk false q e a::r)=e::aY r:=rfl
   rw[h,List.map_cons,List.sum_cons];omega
theorem Di:∀l:List Source,((l.flatMap Source.on).map fun x=>szExpr x+1).sum<=d8 l
 | []=>by simp
 |.mk t a o::r=>by
  have:=Di r
  rw[d8,dt,List.flatMap_cons,List.map_append,List.sum_append,aT]
  have h:(Source.mk t a o).on=o:=rfl
  rw[h,oB];omega
theorem zW:∀l:List SortKey,((l.map SortKey.e).map fun x=>szExpr x+1).sum<=eK l
 | []=>by simp
 |.mk e d::r=>by
  have:=zW r
  rw[eK,gS,List.map_cons,List.map_cons,List.sum_cons]
  have h:(SortKey.mk e d).e=e:=rfl
  rw[h];omega
theorem nt (q:Query):((exprsQ q).map fun x=>szExpr x+1).sum<=szQuery q:=by
 obtain⟨d,it,fr,wh,or,li⟩:=q
 have h1:=rC it
 have h2:=Di fr
 have h3:=zW or
 rw[dC,aT]
 have e:exprsQ (.mk d it fr wh or li)=aY it++fr.flatMap Source.on++wh++or.map SortKey.e:=rfl
 rw[e,List.map_append,List.map_append,List.map_append,List.sum_append,List.sum_append,List.sum_append,oB szExpr wh]
 omega
theorem zX {e:Expr} {g:Expr->Nat} (h:∀x,f6 x e->g x<=szExpr x+1):zU g e<=szExpr e+1:=by
 obtain⟨k,o,n,v,q,m,ks,ss⟩:=e
 have e1:zU g (.mk k o n v q m ks ss)=1+(ks.map g).sum+(ss.map fun q=>((exprsQ q).map g).sum).sum:=rfl
 rw[e1,cL,aT,bT]
 have h1:=pj (l:=ks) (f:=g) (g:=fun x=>szExpr x+1) fun x hx=>h x (.inl hx)
 have h2:=pj (l:=ss) (f:=fun q=>((exprsQ q).map g).sum) (g:=szQuery) fun q hq=>Nat.le_trans (pj fun x hx=>h x (.inr ⟨q,hq,hx⟩)) (nt q)
 rw[oB] at h1
 omega
theorem pO (l:List Expr) (g:Expr->Nat) (h:∀x∈l,Cl Tryz.prog 89 [.ag (ar x.row)] [] fun r _=>r=vi (g x:Nat)) (hl:l.length<=1048576) (hs:(l.map g).sum<=2097152):Cl Tryz.prog 176 [.c (.sl l.length (l.flatMap Expr.row) none)] [] fun r _=>r=vi ((l.map g).sum:Nat):=by
 refine ai ac false Tryz.func176 rfl ae ?_
 simp only[Tryz.f176,tt,seval]
 refine fun _=>?_
 refine dLoop.intro (fun f L p=>∃i:Nat,f 8=vi i/\i<=l.length/\f 3=vi (((l.take i).map g).sum:Nat)/\L=[]/\p=none) (fun f _ _=>(l.length-eH (f 8)).toNat) [] none ⟨ao _,aq _,?_⟩ ?_
 ·simp only[tt,seval]
  exact⟨0,rfl,aa,by simp []⟩
 ·rintro g' L p ⟨i,hix,hi,hac,rfl,rfl⟩
  simp only[tt,seval] at hix hac
  simp only[tt,seval,hix,hac,Int.ofNat_lt]
  refine ab (fun hlt=>?_) (fun hge=>?_)
  ·have hlt:i<l.length:=by omega
   obtain⟨it,bu⟩:∃it,it=l[i]:=⟨_,rfl⟩
   have hmem:it∈l:=by rw[bu];exact aO hlt
   refine⟨aa,aa,_,aH aQ (aD hlt),Expr.ne _ _,?_⟩
   have hstep:((l.take (i+1)).map g).sum=((l.take i).map g).sum+g l[i]:=lS g hlt
   rw[<-bu] at hstep
   obtain⟨k,o,n,v,q,m,ks,ss⟩:=it
   rw[<-bu,al]
   simp only[tt,seval]
   refine cZ (h _ hmem) ?_ ?_<;>simp only[tt,seval,hix,al]
   obtain⟨rst,hrst⟩:=gz g l (i+1)
   rw[eS i aa]
   rw[ax aa aa]
   exact⟨_,none,ao _,aq _,⟨i+1,rfl,aa,iU (by rw[hstep];omega),rfl,rfl⟩,aB⟩
  ·have hie:i=l.length:=by omega
   subst hie
   rw[List.take_length] at hac
   try rw[List.take_length]
   exact⟨_,_,rfl,ap rfl⟩
theorem pQ (q:Query) (g:Expr->Nat) (h:∀x∈exprsQ q,Cl Tryz.prog 89 [.ag (ar x.row)] [] fun r _=>r=vi (g x:Nat)) (hsz:szQuery q<=1048576) (hs:((exprsQ q).map g).sum<=2097152):Cl Tryz.prog 145 [.ag (ar q.row)] [] fun r _=>r=vi (((exprsQ q).map g).sum:Nat):=by
 have hlen:=fk q
 obtain⟨distinct,items,from_,where_,order,limit⟩:=q
 rw[aF]
 refine ai ac false Tryz.func145 rfl ae ?_
 simp only[Tryz.f145,tt,seval]
 refine cZ (rB distinct items from_ where_ order limit hsz) ?_ ?_<;>simp only[tt,seval,aF]
 generalize exprsQ (Query.mk distinct items from_ where_ order limit)=l at *
 refine cZ (pO l g h aa hs) ?_ ?_<;>simp only[tt,seval]
 exact⟨_,_,rfl,ap rfl⟩
theorem wU (kind op:Int) (not:Bool) (val:Val) (qual name:ByteArray) (kids:List Expr) (sub:List Query) (g:Expr->Nat) (hg:∀x,f6 x (Expr.mk kind op not val qual name kids sub)->(Cl Tryz.prog 89 [.ag (ar x.row)] [] fun r _=>r=vi (g x:Nat))/\g x<=szExpr x+1) (hsz:szExpr (Expr.mk kind op not val qual name kids sub)<=1048576):Cl Tryz.prog 89 [.ag (ar (Expr.mk kind op not val qual name kids sub).row)] [] fun r _=>r=vi (zU g (Expr.mk kind op not val qual name kids sub):Nat):=by
 have hdl:=zX (g:=g) (fun x hx=>(hg x hx).2)
 have hks:=hsz
 rw[cL,aT,bT] at hks
 have e:zU g (Expr.mk kind op not val qual name kids sub)=1+(kids.map g).sum+(sub.map fun q=>((exprsQ q).map g).sum).sum:=rfl
 rw[e] at hdl ⊢
 rw[al]
 refine ai ac false Tryz.func89 rfl ae ?_
 simp only[Tryz.f89,tt,seval]
 refine cZ (pO kids g (fun x hx=>(hg x (.inl hx)).1) aa aa) ?_ ?_<;>simp only[tt,seval]
 rw[ax aa aa]
 refine fun _=>?_
 refine dLoop.intro (fun f L p=>∃i:Nat,f 13=vi i/\i<=sub.length/\f 3=vi ((1+(kids.map g).sum+((sub.take i).map fun q=>((exprsQ q).map g).sum).sum):Nat)/\L=[(1,.str [.v (.int .i64 kind),.v (.int .i64 op),.v (.bool not),.v (.int .i64 val.kind),.v (.int .i64 val.num),.v (.string val.text),.v (.string qual),.v (.string name),.sl kids.length (kids.flatMap Expr.row) none,.sl sub.length (sub.flatMap Query.row) none])]/\p=none) (fun f _ _=>(sub.length-eH (f 13)).toNat) [(1,.str [.v (.int .i64 kind),.v (.int .i64 op),.v (.bool not),.v (.int .i64 val.kind),.v (.int .i64 val.num),.v (.string val.text),.v (.string qual),.v (.string name),.sl kids.length (kids.flatMap Expr.row) none,.sl sub.length (sub.flatMap Query.row) none])] none ⟨ak rfl (ao _),aq _,?_⟩ ?_
 ·simp only[tt,seval]
  exact⟨0,rfl,aa,by simp⟩
 ·rintro g' L p ⟨i,hix,hi,hac,rfl,rfl⟩
  simp only[tt,seval] at hix hac
  simp only[tt,seval,hix,hac,Int.ofNat_lt]
  refine ab (fun hlt=>?_) (fun hge=>?_)
  ·have hlt:i<sub.length:=by omega
   obtain⟨it,bu⟩:∃it,it=sub[i]:=⟨_,rfl⟩
   have hmem:it∈sub:=by rw[bu];exact aO hlt
   refine⟨aa,aa,_,aH Query.row_len (aD hlt),Query.ne _ _,?_⟩
   have hstep:((sub.take (i+1)).map fun q=>((exprsQ q).map g).sum).sum=((sub.take i).map fun q=>((exprsQ q).map g).sum).sum+((exprsQ sub[i]).map g).sum:=lS _ hlt
   rw[<-bu] at hstep
   obtain⟨ds,its,frs,whs,ods,lim⟩:=it
   rw[<-bu,aF]
   simp only[tt,seval]
   obtain⟨rst,hrst⟩:=gz (fun q=>((exprsQ q).map g).sum) sub (i+1)
   refine cZ (pQ (Query.mk ds its frs whs ods lim) g (fun x hx=>(hg x (.inr ⟨_,hmem,hx⟩)).1) (Nat.le_trans (lf (e:=(Expr.mk kind op not val qual name kids sub)) hmem) hsz) aa) ?_ ?_<;>simp only[tt,seval,hix,aF]
   rw[eS i aa]
   rw[ax aa aa]
   exact⟨_,none,ak rfl (ao _),aq _,⟨i+1,rfl,aa,iU (by rw[hstep];omega),rfl,rfl⟩,aB⟩
  ·have hie:i=sub.length:=by omega
   subst hie
   rw[List.take_length] at hac
   try rw[List.take_length]
   exact⟨_,_,rfl,ap rfl⟩
theorem rD (e:Expr):(szExpr e<=1048576->Cl Tryz.prog 89 [.ag (ar e.row)] [] fun r _=>r=vi (ndE e:Nat))/\ndE e<=szExpr e+1:=by
 refine hD (P:=fun e d=>(szExpr e<=1048576->Cl Tryz.prog 89 [.ag (ar e.row)] [] fun r _=>r=vi (d:Nat))/\d<=szExpr e+1) (fun e g hg=>⟨fun hsz=>?_,zX fun x hx=>(hg x hx).2⟩) e
 obtain⟨kind,op,not,val,qual,name,kids,sub⟩:=e
 exact wU kind op not val qual name kids sub g (fun x hx=>⟨(hg x hx).1 (Nat.le_trans (gD hx) hsz),(hg x hx).2⟩) hsz
theorem jO:((true==false)=false)/\((false==true)=false)/\((false==false)=true)/\((true==true)=true):=⟨rfl,rfl,rfl,rfl⟩
def zV (v:Val):Bool:=decide (v.kind=0)&&(decide (v.num=0)&&decide (v.text=⟨#[]⟩))
def ee (kind op:Int) (not:Bool) (val:Val) (qual name:ByteArray) (nk ns:Nat):Bool:=
 decide (kind=0)&&(decide (op=0)&&(decide (not=false)&&(zV val&&(decide (qual=⟨#[]⟩)&&(decide (name=⟨#[]⟩)&&(decide (nk=0)&&decide (ns=0)))))))
theorem yo (v:Val) (w:World):(Op.equalIn 10000 49 (.agg [.int .i64 v.kind,.int .i64 v.num,.string v.text].toArray) (.agg [.int .i64 0,.int .i64 0,.string ⟨#[]⟩].toArray)).run Tryz.prog w = .ok (zV v) w:=by
 refine Go.Vc.equalIn_fk (ks:=[(0,.int),(1,.int),(2,.str)]) ae ae ae ?_ w
 simp only[Go.Vc.eqFK,List.getElem?_cons_zero,List.getElem?_cons_succ,zV]
 by_cases h1:v.kind=0<;>by_cases h2:v.num=0<;>by_cases h3:v.text=⟨#[]⟩<;>simp [h1,h2,h3]
def jh (v:Val):Bool:=dE v&&((decide (¬v.kind=1)||decide (0<=v.num))&&decide (v.text.size<=40))
def bK (s:ByteArray):Bool:=decide (1<=s.size/\s.size<=20)
def d9 (s:ByteArray):Bool:=decide (s=⟨#[]⟩)||bK s
theorem FF (v:Val):Cl Tryz.prog 269 [.ag (ar v.row)] [] fun r _=>r=vb (jh v):=by
 obtain⟨zb,hzb⟩:∃zb,zb=jh v:=⟨_,rfl⟩
 rw[<-hzb,Val.row]
 refine ai ac false Tryz.func269 rfl ae ?_
 simp only[Tryz.f269,tt,seval]
 refine cZ (Aw v) ?_ ?_<;>simp only[tt,seval,Val.row]
 cases hv:dE v<;>by_cases h1:v.kind=1<;>by_cases h2:0<=v.num
 all_goals try simp only[tt,seval,h1,h2]
 all_goals try refine fun _=>?_
 all_goals exact⟨_,_,aU (by rw[hzb];simp [jh,hv,h1,h2];try omega),ap rfl⟩
theorem FG (v:Val):Cl Tryz.prog 270 [.ag (ar v.row)] [] fun r _=>r=vb (jh v):=by
 obtain⟨zb,hzb⟩:∃zb,zb=jh v:=⟨_,rfl⟩
 rw[<-hzb,Val.row]
 refine ai ac false Tryz.func270 rfl ae ?_
 simp only[Tryz.f270,tt,seval]
 refine cZ (qF v) ?_ ?_<;>simp only[tt,seval,Val.row]
 cases hv:dE v<;>by_cases h1:v.kind=1<;>by_cases h2:0<=v.num
 all_goals try simp only[tt,seval,h1,h2]
 all_goals try refine fun _=>?_
 all_goals exact⟨_,_,aU (by rw[hzb];simp [jh,hv,h1,h2];try omega),ap rfl⟩
theorem mu (s:ByteArray):Cl Tryz.prog 197 [vs s] [] fun r _=>r=vb (d9 s):=by
 refine ai ac false Tryz.func197 rfl ae ?_
 simp only[Tryz.f197,tt,seval]
 by_cases h:s=⟨#[]⟩
 ·simp only[tt,seval,az h]
  exact⟨_,_,aU (by simp [d9,h]),ap rfl⟩
 ·simp only[tt,seval,au h]
  refine cZ (jt s) ?_ ?_<;>simp only[tt,seval]
  exact⟨_,_,aU (by simp [d9,h,bK]),ap rfl⟩
theorem yp (s:ByteArray):Cl Tryz.prog 242 [vs s] [] fun r _=>r=vb (d9 s):=by
 refine ai ac false Tryz.func242 rfl ae ?_
 simp only[Tryz.f242,tt,seval]
 by_cases h:s=⟨#[]⟩
 ·simp only[tt,seval,az h]
  exact⟨_,_,aU (by simp [d9,h]),ap rfl⟩
 ·simp only[tt,seval,au h]
  refine cZ (g6 s) ?_ ?_<;>simp only[tt,seval]
  exact⟨_,_,aU (by simp [d9,h,bK]),ap rfl⟩
theorem I0 (l:List Expr) (fg:FuncId):Cl Tryz.prog 182 [.c (.sl l.length (l.flatMap Expr.row) none),.c (.sl 0 [] none),.c (.fn fg [] [])] [] fun r _=>r=vb (decide (l.length=0)):=by
 refine ai ac false Tryz.func182 rfl ae ?_
 simp only[Tryz.f182,tt,seval]
 refine fun _=>?_
 by_cases h:l.length=0
 case neg=>
  simp only[tt,seval,au (show ¬(l.length:Int)=0 by omega)]
  exact⟨_,_,aU (au h).symm,ap rfl⟩
 have hs:l=[]:=List.eq_nil_of_length_eq_zero h
 subst hs
 simp only[tt,seval]
 refine dLoop.intro (fun f L p=>f 17=vi 0/\L=[]/\p=none) (fun _ _ _=>0) [] none ⟨ao _,aq _,?_⟩ ?_
 ·simp only[tt,seval]
 ·rintro g L p ⟨h5',rfl,rfl⟩
  simp only[tt,seval] at h5'
  simp only[tt,seval,h5']
  exact⟨_,_,rfl,ap rfl⟩
theorem I1 (l:List Query) (fg:FuncId):Cl Tryz.prog 94 [.c (.sl l.length (l.flatMap Query.row) none),.c (.sl 0 [] none),.c (.fn fg [] [])] [] fun r _=>r=vb (decide (l.length=0)):=by
 refine ai ac false Tryz.func94 rfl ae ?_
 simp only[Tryz.f94,tt,seval]
 refine fun _=>?_
 by_cases h:l.length=0
 case neg=>
  simp only[tt,seval,au (show ¬(l.length:Int)=0 by omega)]
  exact⟨_,_,aU (au h).symm,ap rfl⟩
 have hs:l=[]:=List.eq_nil_of_length_eq_zero h
 subst hs
 simp only[tt,seval]
 refine dLoop.intro (fun f L p=>f 17=vi 0/\L=[]/\p=none) (fun _ _ _=>0) [] none ⟨ao _,aq _,?_⟩ ?_
 ·simp only[tt,seval]
 ·rintro g L p ⟨h5',rfl,rfl⟩
  simp only[tt,seval] at h5'
  simp only[tt,seval,h5']
  exact⟨_,_,rfl,ap rfl⟩
theorem Bb (l:List Expr):Cl Tryz.prog 76 [.c (.sl l.length (l.flatMap Expr.row) none),.c (.sl 0 [] none)] [] fun r _=>r=vb (decide (l.length=0)):=by
 refine ai ac false Tryz.func76 rfl ae ?_
 simp only[Tryz.f76,tt,seval]
 refine fun _=>?_
 by_cases h:l.length=0
 case neg=>
  simp only[tt,seval,au (show ¬(l.length:Int)=0 by omega)]
  exact⟨_,_,aU (au h).symm,ap rfl⟩
 have hs:l=[]:=List.eq_nil_of_length_eq_zero h
 subst hs
 simp only[tt,seval]
 refine dLoop.intro (fun f L p=>f 5=vi 0/\L=[]/\p=none) (fun _ _ _=>0) [] none ⟨ao _,aq _,?_⟩ ?_
 ·simp only[tt,seval]
 ·rintro g L p ⟨h5',rfl,rfl⟩
  simp only[tt,seval] at h5'
  simp only[tt,seval,h5']
  exact⟨_,_,rfl,ap rfl⟩
theorem uI (l:List Expr):Cl Tryz.prog 93 [.c (.sl l.length (l.flatMap Expr.row) none),.c (.sl 0 [] none)] [] fun r _=>r=vb (decide (l.length=0)):=by
 refine ai ac false Tryz.func93 rfl ae ?_
 simp only[Tryz.f93,tt,seval]
 refine cZ (I0 l 33) ?_ ?_<;>simp only[tt,seval]
 exact⟨_,_,rfl,ap rfl⟩
theorem Dj (kind op:Int) (not:Bool) (val:Val) (qual name:ByteArray) (kids:List Expr) (sub:List Query):Cl Tryz.prog 33 [.ag (ar (Expr.mk kind op not val qual name kids sub).row),.ag (ar (Expr.mk 0 0 false ⟨0,0,⟨#[]⟩⟩ ⟨#[]⟩ ⟨#[]⟩ [] []).row)] [] fun r _=>r=vb (ee kind op not val qual name kids.length sub.length):=by
 obtain⟨zb,hzb⟩:∃zb,zb=ee kind op not val qual name kids.length sub.length:=⟨_,rfl⟩
 rw[<-hzb,al,al]
 refine ai ac false Tryz.func33 rfl ae ?_
 simp only[Tryz.f33,tt,seval]
 by_cases h1:kind=0
 case neg=>
  simp only[tt,seval,h1]
  exact⟨_,_,aU (by rw[hzb];simp [ee,h1]),ap rfl⟩
 simp only[tt,seval,h1]
 by_cases h2:op=0
 case neg=>
  simp only[tt,seval,h2]
  exact⟨_,_,aU (by rw[hzb];simp [ee,h1,h2]),ap rfl⟩
 simp only[tt,seval,h2]
 by_cases h3:not=false
 case neg=>
  simp only[tt,seval,(Bool.not_eq_false _▸h3:not=true),jO]
  exact⟨_,_,aU (by rw[hzb];simp [ee,h1,h2,h3]),ap rfl⟩
 simp only[tt,seval,h3]
 rw[CY ae (yo val)]
 simp only[tt,seval]
 by_cases h4:zV val=true
 case neg=>
  simp only[tt,seval,(Bool.not_eq_true _▸h4:zV val=false)]
  exact⟨_,_,aU (by rw[hzb];simp [ee,h1,h2,h3,h4]),ap rfl⟩
 simp only[tt,seval,h4]
 by_cases h5:qual=⟨#[]⟩
 case neg=>
  simp only[tt,seval,h5]
  exact⟨_,_,aU (by rw[hzb];simp [ee,h1,h2,h3,h4,h5]),ap rfl⟩
 simp only[tt,seval,h5]
 by_cases h6:name=⟨#[]⟩
 case neg=>
  simp only[tt,seval,h6]
  exact⟨_,_,aU (by rw[hzb];simp [ee,h1,h2,h3,h4,h5,h6]),ap rfl⟩
 simp only[tt,seval,h6]
 refine cZ (uI kids) ?_ ?_<;>simp only[tt,seval]
 by_cases h7:kids.length=0
 case neg=>
  simp only[tt,seval,h7]
  exact⟨_,_,aU (by rw[hzb];simp [ee,h1,h2,h3,h4,h5,h6,h7]),ap rfl⟩
 simp only[tt,seval,az h7]
 refine cZ (I1 sub 95) ?_ ?_<;>simp only[tt,seval]
 exact⟨_,_,aU (by rw[hzb];simp [ee,h1,h2,h3,h4,h5,h6,h7]),ap rfl⟩
theorem FH (kind op:Int) (not:Bool) (val:Val) (qual name:ByteArray) (kids:List Expr) (sub:List Query):Cl Tryz.prog 29 [.ag (ar (Expr.mk kind op not val qual name kids sub).row),.ag (ar (Expr.mk 0 0 false ⟨0,0,⟨#[]⟩⟩ ⟨#[]⟩ ⟨#[]⟩ [] []).row)] [] fun r _=>r=vb (ee kind op not val qual name kids.length sub.length):=by
 obtain⟨zb,hzb⟩:∃zb,zb=ee kind op not val qual name kids.length sub.length:=⟨_,rfl⟩
 rw[<-hzb,al,al]
 refine ai ac false Tryz.func29 rfl ae ?_
 simp only[Tryz.f29,tt,seval]
 by_cases h1:kind=0
 case neg=>
  simp only[tt,seval,h1]
  exact⟨_,_,aU (by rw[hzb];simp [ee,h1]),ap rfl⟩
 simp only[tt,seval,h1]
 by_cases h2:op=0
 case neg=>
  simp only[tt,seval,h2]
  exact⟨_,_,aU (by rw[hzb];simp [ee,h1,h2]),ap rfl⟩
 simp only[tt,seval,h2]
 by_cases h3:not=false
 case neg=>
  simp only[tt,seval,(Bool.not_eq_false _▸h3:not=true),jO]
  exact⟨_,_,aU (by rw[hzb];simp [ee,h1,h2,h3]),ap rfl⟩
 simp only[tt,seval,h3]
 rw[dw ae (yo val)]
 simp only[tt,seval]
 by_cases h4:zV val=true
 case neg=>
  simp only[tt,seval,(Bool.not_eq_true _▸h4:zV val=false)]
  exact⟨_,_,aU (by rw[hzb];simp [ee,h1,h2,h3,h4]),ap rfl⟩
 simp only[tt,seval,h4]
 by_cases h5:qual=⟨#[]⟩
 case neg=>
  simp only[tt,seval,h5]
  exact⟨_,_,aU (by rw[hzb];simp [ee,h1,h2,h3,h4,h5]),ap rfl⟩
 simp only[tt,seval,h5]
 by_cases h6:name=⟨#[]⟩
 case neg=>
  simp only[tt,seval,h6]
  exact⟨_,_,aU (by rw[hzb];simp [ee,h1,h2,h3,h4,h5,h6]),ap rfl⟩
 simp only[tt,seval,h6]
 refine fun _=>?_
 by_cases h8:sub.length=0
 case neg=>
  simp only[tt,seval,au (show ¬(sub.length:Int)=0 by omega)]
  exact⟨_,_,aU (by rw[hzb];simp [ee,h1,h2,h3,h4,h5,h6,h8]),ap rfl⟩
 simp only[tt,seval,show (sub.length:Int)=0 from by omega]
 refine cZ (Bb kids) ?_ ?_<;>simp only[tt,seval]
 by_cases h7:kids.length=0
 case neg=>
  simp only[tt,seval,h7]
  exact⟨_,_,aU (by rw[hzb];simp [ee,h1,h2,h3,h4,h5,h6,h7]),ap rfl⟩
 simp only[tt,seval,az h7]
 have hs:sub=[]:=List.eq_nil_of_length_eq_zero h8
 subst hs
 refine dLoop.intro (fun f L p=>f 5=vi 0/\L=[(2,.str [.v (.int .i64 0),.v (.int .i64 0),.v (.bool false),.v (.int .i64 val.kind),.v (.int .i64 val.num),.v (.string val.text),.v (.string ⟨#[]⟩),.v (.string ⟨#[]⟩),.sl kids.length (kids.flatMap Expr.row) none,.sl 0 [] none])]/\p=none) (fun _ _ _=>0) [(2,.str [.v (.int .i64 0),.v (.int .i64 0),.v (.bool false),.v (.int .i64 val.kind),.v (.int .i64 val.num),.v (.string val.text),.v (.string ⟨#[]⟩),.v (.string ⟨#[]⟩),.sl kids.length (kids.flatMap Expr.row) none,.sl 0 [] none])] none ⟨ak rfl (ao _),aq _,?_⟩ ?_
 ·simp only[tt,seval]
 ·rintro g L p ⟨h5',rfl,rfl⟩
  simp only[tt,seval] at h5'
  simp only[tt,seval,h5']
  exact⟨_,_,aU (by rw[hzb];simp [ee,h1,h2,h3,h4,h5,h6,h7]),ap rfl⟩
theorem ji (v:Val) (w:World):(Op.equalIn 10000 49 (.agg [.int .i64 v.kind,.int .i64 v.num,.string v.text].toArray) (.agg [.int .i64 0,.int .i64 0,.string ByteArray.empty].toArray)).run Tryz.prog w = .ok (zV v) w:=yo v w
def bV (kind:Int):Bool×Bool×Bool×Bool×Int×Int×Int:=
 if kind=1 then (false,false,true,false,0,0,0) else if kind=2 then (false,false,false,true,0,0,0) else if kind=3 then (true,false,false,false,1,1,0) else if kind=4 then (true,false,false,false,2,2,0)
 else if kind=5 then (false,true,false,false,1,1,0) else if kind=6 then (false,true,false,false,3,3,0) else if kind=7 then (false,true,false,false,2,9,0) else if kind=8 then (false,true,false,false,1,1,1)
 else if kind=9 then (false,false,false,false,0,0,1) else (false,false,false,false,0,0,0)
def cP (kind op:Int) (val:Val) (qual name:ByteArray):Bool:=
 if kind=1 then jh val else if kind=2 then (bK name&&d9 qual) else if kind=3 then (decide (op=15)||decide (op=16)) else if kind=4 then decide (1<=op/\op<=14) else decide (5<=kind/\kind<=9)
def aI (kind op:Int) (not:Bool) (val:Val) (qual name:ByteArray) (nk ns:Int):Bool:=
 cP kind op val qual name&&(((bV kind).1||decide (op=0))&&(((bV kind).2.1 || !not)&&(((bV kind).2.2.1||zV val)&&(((bV kind).2.2.2.1||(decide (qual=⟨#[]⟩)&&decide (name=⟨#[]⟩))) &&
  (decide ((bV kind).2.2.2.2.1<=nk/\nk<=(bV kind).2.2.2.2.2.1)&&decide (ns=(bV kind).2.2.2.2.2.2))))))
set_option maxHeartbeats 4000000 in
theorem Bc (kind op:Int) (not:Bool) (val:Val) (qual name:ByteArray) (kids:List Expr) (sub:List Query) (hkl:kids.length<=1048576) (hsl:sub.length<=1048576):Cl Tryz.prog 174 [.ag (ar (Expr.mk kind op not val qual name kids sub).row)] [] fun r _=>r=vb (aI kind op not val qual name kids.length sub.length):=by
 obtain⟨zb,hzb⟩:∃zb,zb=aI kind op not val qual name kids.length sub.length:=⟨_,rfl⟩
 rw[<-hzb,al]
 refine ai ac false Tryz.func174 rfl ae ?_
 simp only[Tryz.f174,tt,seval]
 refine fun _ _=>?_
 have hk0:0<=(kids.length:Int)/\(kids.length:Int)<=1048576:=by omega
 have hs0:0<=(sub.length:Int)/\(sub.length:Int)<=1048576:=by omega
 generalize (kids.length:Int)=nk at *
 generalize (sub.length:Int)=ns at *
 rcases (show kind=1∨kind=2∨kind=3∨kind=4∨kind=5∨kind=6∨kind=7∨kind=8∨kind=9∨(kind<1∨9<kind) by omega) with rfl|rfl|rfl|rfl|rfl|rfl|rfl|rfl|rfl|hk
 ·try simp only[tt,seval]
  by_cases hq:qual=⟨#[]⟩
  case neg=>
   simp only[tt,seval,hq]
   exact⟨_,_,aU (by rw[hzb];simp [aI,cP,bV,hq];try omega),ap rfl⟩
  simp only[tt,seval,hq]
  by_cases hn:name=⟨#[]⟩
  case neg=>
   simp only[tt,seval,hn]
   exact⟨_,_,aU (by rw[hzb];simp [aI,cP,bV,hq,hn];try omega),ap rfl⟩
  simp only[tt,seval,hn]
  by_cases ho:op=0
  case neg=>
   simp only[tt,seval,ho]
   exact⟨_,_,aU (by rw[hzb];simp [aI,cP,bV,hq,hn,ho];try omega),ap rfl⟩
  simp only[tt,seval,ho]
  cases not
  case true=>
   simp only[tt,seval]
   refine cZ (dA 1 5 8) ?_ ?_<;>simp only[tt,seval]
   exact⟨_,_,aU (by rw[hzb];simp [aI,cP,bV,hq,hn,ho];try omega),ap rfl⟩
  simp only[tt,seval]
  refine cZ (FF val) ?_ ?_<;>simp only[tt,seval,Val.row]
  cases hl:jh val
  case false=>
   simp only[tt,seval]
   exact⟨_,_,aU (by rw[hzb];simp [aI,cP,bV,hq,hn,ho,hl];try omega),ap rfl⟩
  simp only[tt,seval]
  rw[ax aa aa]
  by_cases hz:nk+ns=0
  case neg=>
   simp only[tt,seval,hz]
   exact⟨_,_,aU (by rw[hzb];simp [aI,cP,bV,hq,hn,ho,hl];try omega),ap rfl⟩
  simp only[tt,seval,hz]
  exact⟨_,_,aU (by rw[hzb];simp [aI,cP,bV,hq,hn,ho,hl];try omega),ap rfl⟩
 ·try simp only[tt,seval]
  rw[dw ae (ji val)]
  simp only[tt,seval]
  cases hv:zV val
  case false=>
   simp only[tt,seval]
   exact⟨_,_,aU (by rw[hzb];simp [aI,cP,bV,bK,hv];try omega),ap rfl⟩
  simp only[tt,seval]
  by_cases ho:op=0
  case neg=>
   simp only[tt,seval,ho]
   exact⟨_,_,aU (by rw[hzb];simp [aI,cP,bV,bK,hv,ho];try omega),ap rfl⟩
  simp only[tt,seval,ho]
  cases not
  case true=>
   simp only[tt,seval]
   refine cZ (dA 2 5 8) ?_ ?_<;>simp only[tt,seval]
   exact⟨_,_,aU (by rw[hzb];simp [aI,cP,bV,bK,hv,ho];try omega),ap rfl⟩
  simp only[tt,seval]
  refine cZ (jt name) ?_ ?_<;>simp only[tt,seval]
  cases hnb:decide (1<=name.size/\name.size<=20)
  case false=>
   simp only[tt,seval]
   exact⟨_,_,aU (by rw[hzb];simp [aI,cP,bV,bK,hv,ho,hnb];try omega),ap rfl⟩
  simp only[tt,seval]
  refine cZ (mu qual) ?_ ?_<;>simp only[tt,seval]
  cases hmb:d9 qual
  case false=>
   simp only[tt,seval]
   exact⟨_,_,aU (by rw[hzb];simp [aI,cP,bV,bK,hv,ho,hnb,hmb];try omega),ap rfl⟩
  simp only[tt,seval]
  rw[ax aa aa]
  by_cases hz:nk+ns=0
  case neg=>
   simp only[tt,seval,hz]
   exact⟨_,_,aU (by rw[hzb];simp [aI,cP,bV,bK,hv,ho,hnb,hmb];try omega),ap rfl⟩
  simp only[tt,seval,hz]
  exact⟨_,_,aU (by rw[hzb];simp [aI,cP,bV,bK,hv,ho,hnb,hmb];try omega),ap rfl⟩
 ·try simp only[tt,seval]
  by_cases hq:qual=⟨#[]⟩
  case neg=>
   simp only[tt,seval,hq]
   exact⟨_,_,aU (by rw[hzb];simp [aI,cP,bV,hq];try omega),ap rfl⟩
  simp only[tt,seval,hq]
  by_cases hn:name=⟨#[]⟩
  case neg=>
   simp only[tt,seval,hn]
   exact⟨_,_,aU (by rw[hzb];simp [aI,cP,bV,hq,hn];try omega),ap rfl⟩
  simp only[tt,seval,hn]
  rw[dw ae (ji val)]
  simp only[tt,seval]
  cases hv:zV val
  case false=>
   simp only[tt,seval]
   exact⟨_,_,aU (by rw[hzb];simp [aI,cP,bV,hq,hn,hv];try omega),ap rfl⟩
  simp only[tt,seval]
  cases not
  case true=>
   simp only[tt,seval]
   refine cZ (dA 3 5 8) ?_ ?_<;>simp only[tt,seval]
   exact⟨_,_,aU (by rw[hzb];simp [aI,cP,bV,hq,hn,hv];try omega),ap rfl⟩
  simp only[tt,seval]
  by_cases ho15:op=15
  case' neg=>
   simp only[tt,seval,ho15]
   by_cases ho16:op=16
   case neg=>
    simp only[tt,seval,ho16]
    exact⟨_,_,aU (by rw[hzb];simp [aI,cP,bV,hq,hn,hv,ho15,ho16];try omega),ap rfl⟩
   simp only[tt,seval,ho16]
  case' pos=>try simp only[tt,seval,ho15]
  all_goals
   by_cases hk1:nk=1
   case neg=>
    simp only[tt,seval,hk1]
    exact⟨_,_,aU (by rw[hzb];simp [aI,cP,bV, *];try omega),ap rfl⟩
   simp only[tt,seval,hk1]
   by_cases hs0:ns=0
   case neg=>
    simp only[tt,seval,hs0]
    exact⟨_,_,aU (by rw[hzb];simp [aI,cP,bV, *];try omega),ap rfl⟩
   simp only[tt,seval,hs0]
   exact⟨_,_,aU (by rw[hzb];simp [aI,cP,bV, *];try omega),ap rfl⟩
 ·try simp only[tt,seval]
  by_cases hq:qual=⟨#[]⟩
  case neg=>
   simp only[tt,seval,hq]
   exact⟨_,_,aU (by rw[hzb];simp [aI,cP,bV,hq];try omega),ap rfl⟩
  simp only[tt,seval,hq]
  by_cases hn:name=⟨#[]⟩
  case neg=>
   simp only[tt,seval,hn]
   exact⟨_,_,aU (by rw[hzb];simp [aI,cP,bV,hq,hn];try omega),ap rfl⟩
  simp only[tt,seval,hn]
  rw[dw ae (ji val)]
  simp only[tt,seval]
  cases hv:zV val
  case false=>
   simp only[tt,seval]
   exact⟨_,_,aU (by rw[hzb];simp [aI,cP,bV,hq,hn,hv];try omega),ap rfl⟩
  simp only[tt,seval]
  cases not
  case true=>
   simp only[tt,seval]
   refine cZ (dA 4 5 8) ?_ ?_<;>simp only[tt,seval]
   exact⟨_,_,aU (by rw[hzb];simp [aI,cP,bV,hq,hn,hv];try omega),ap rfl⟩
  simp only[tt,seval]
  refine cZ (dA op 1 14) ?_ ?_<;>simp only[tt,seval]
  cases hop:decide ((1:Int)<=op/\op<=14)
  case false=>
   simp only[tt,seval]
   exact⟨_,_,aU (by rw[hzb];simp [aI,cP,bV,hq,hn,hv,hop];try omega),ap rfl⟩
  simp only[tt,seval]
  by_cases hk2:nk=2
  case neg=>
   simp only[tt,seval,hk2]
   exact⟨_,_,aU (by rw[hzb];simp [aI,cP,bV,hq,hn,hv,hop];try omega),ap rfl⟩
  simp only[tt,seval,hk2]
  by_cases hs0:ns=0
  case neg=>
   simp only[tt,seval,hs0]
   exact⟨_,_,aU (by rw[hzb];simp [aI,cP,bV,hq,hn,hv,hop,hk2,hs0];try omega),ap rfl⟩
  simp only[tt,seval,hs0]
  exact⟨_,_,aU (by rw[hzb];simp [aI,cP,bV,hq,hn,hv,hop,hk2,hs0];try omega),ap rfl⟩
 ·try simp only[tt,seval]
  by_cases hq:qual=⟨#[]⟩
  case neg=>
   simp only[tt,seval,hq]
   exact⟨_,_,aU (by rw[hzb];simp [aI,cP,bV,hq];try omega),ap rfl⟩
  simp only[tt,seval,hq]
  by_cases hn:name=⟨#[]⟩
  case neg=>
   simp only[tt,seval,hn]
   exact⟨_,_,aU (by rw[hzb];simp [aI,cP,bV,hq,hn];try omega),ap rfl⟩
  simp only[tt,seval,hn]
  rw[dw ae (ji val)]
  simp only[tt,seval]
  cases hv:zV val
  case false=>
   simp only[tt,seval]
   exact⟨_,_,aU (by rw[hzb];simp [aI,cP,bV,hq,hn,hv];try omega),ap rfl⟩
  simp only[tt,seval]
  by_cases ho:op=0
  case neg=>
   simp only[tt,seval,ho]
   exact⟨_,_,aU (by rw[hzb];simp [aI,cP,bV,hq,hn,hv,ho];try omega),ap rfl⟩
  simp only[tt,seval,ho]
  cases not
  case' true=>
   simp only[tt,seval]
   refine cZ (dA 5 5 8) ?_ ?_<;>simp only[tt,seval]
  case' false=>try simp only[tt,seval]
  all_goals
   by_cases hk1:nk=1
   case neg=>
    simp only[tt,seval,hk1]
    exact⟨_,_,aU (by rw[hzb];simp [aI,cP,bV,hq,hn,hv,ho];try omega),ap rfl⟩
   simp only[tt,seval,hk1]
   by_cases hs0:ns=0
   case neg=>
    simp only[tt,seval,hs0]
    exact⟨_,_,aU (by rw[hzb];simp [aI,cP,bV,hq,hn,hv,ho,hk1,hs0];try omega),ap rfl⟩
   simp only[tt,seval,hs0]
   exact⟨_,_,aU (by rw[hzb];simp [aI,cP,bV,hq,hn,hv,ho,hk1,hs0];try omega),ap rfl⟩
 ·try simp only[tt,seval]
  by_cases hq:qual=⟨#[]⟩
  case neg=>
   simp only[tt,seval,hq]
   exact⟨_,_,aU (by rw[hzb];simp [aI,cP,bV,hq];try omega),ap rfl⟩
  simp only[tt,seval,hq]
  by_cases hn:name=⟨#[]⟩
  case neg=>
   simp only[tt,seval,hn]
   exact⟨_,_,aU (by rw[hzb];simp [aI,cP,bV,hq,hn];try omega),ap rfl⟩
  simp only[tt,seval,hn]
  rw[dw ae (ji val)]
  simp only[tt,seval]
  cases hv:zV val
  case false=>
   simp only[tt,seval]
   exact⟨_,_,aU (by rw[hzb];simp [aI,cP,bV,hq,hn,hv];try omega),ap rfl⟩
  simp only[tt,seval]
  by_cases ho:op=0
  case neg=>
   simp only[tt,seval,ho]
   exact⟨_,_,aU (by rw[hzb];simp [aI,cP,bV,hq,hn,hv,ho];try omega),ap rfl⟩
  simp only[tt,seval,ho]
  cases not
  case' true=>
   simp only[tt,seval]
   refine cZ (dA 6 5 8) ?_ ?_<;>simp only[tt,seval]
  case' false=>try simp only[tt,seval]
  all_goals
   by_cases hk3:nk=3
   case neg=>
    simp only[tt,seval,hk3]
    exact⟨_,_,aU (by rw[hzb];simp [aI,cP,bV,hq,hn,hv,ho];try omega),ap rfl⟩
   simp only[tt,seval,hk3]
   by_cases hs0:ns=0
   case neg=>
    simp only[tt,seval,hs0]
    exact⟨_,_,aU (by rw[hzb];simp [aI,cP,bV,hq,hn,hv,ho,hk3,hs0];try omega),ap rfl⟩
   simp only[tt,seval,hs0]
   exact⟨_,_,aU (by rw[hzb];simp [aI,cP,bV,hq,hn,hv,ho,hk3,hs0];try omega),ap rfl⟩
 ·try simp only[tt,seval]
  by_cases hq:qual=⟨#[]⟩
  case neg=>
   simp only[tt,seval,hq]
   exact⟨_,_,aU (by rw[hzb];simp [aI,cP,bV,hq];try omega),ap rfl⟩
  simp only[tt,seval,hq]
  by_cases hn:name=⟨#[]⟩
  case neg=>
   simp only[tt,seval,hn]
   exact⟨_,_,aU (by rw[hzb];simp [aI,cP,bV,hq,hn];try omega),ap rfl⟩
  simp only[tt,seval,hn]
  rw[dw ae (ji val)]
  simp only[tt,seval]
  cases hv:zV val
  case false=>
   simp only[tt,seval]
   exact⟨_,_,aU (by rw[hzb];simp [aI,cP,bV,hq,hn,hv];try omega),ap rfl⟩
  simp only[tt,seval]
  by_cases ho:op=0
  case neg=>
   simp only[tt,seval,ho]
   exact⟨_,_,aU (by rw[hzb];simp [aI,cP,bV,hq,hn,hv,ho];try omega),ap rfl⟩
  simp only[tt,seval,ho]
  cases not
  case' true=>
   simp only[tt,seval]
   refine cZ (dA 7 5 8) ?_ ?_<;>simp only[tt,seval]
  case' false=>try simp only[tt,seval]
  all_goals
   refine cZ (dA nk 2 9) ?_ ?_<;>simp only[tt,seval]
   cases hkr:decide ((2:Int)<=nk/\nk<=9)
   case false=>
    simp only[tt,seval]
    exact⟨_,_,aU (by rw[hzb];simp [aI,cP,bV,hq,hn,hv,ho,hkr];try omega),ap rfl⟩
   simp only[tt,seval]
   by_cases hs0:ns=0
   case neg=>
    simp only[tt,seval,hs0]
    exact⟨_,_,aU (by rw[hzb];simp [aI,cP,bV,hq,hn,hv,ho,hkr,hs0];try omega),ap rfl⟩
   simp only[tt,seval,hs0]
   exact⟨_,_,aU (by rw[hzb];simp [aI,cP,bV,hq,hn,hv,ho,hkr,hs0];try omega),ap rfl⟩
 ·try simp only[tt,seval]
  by_cases hq:qual=⟨#[]⟩
  case neg=>
   simp only[tt,seval,hq]
   exact⟨_,_,aU (by rw[hzb];simp [aI,cP,bV,hq];try omega),ap rfl⟩
  simp only[tt,seval,hq]
  by_cases hn:name=⟨#[]⟩
  case neg=>
   simp only[tt,seval,hn]
   exact⟨_,_,aU (by rw[hzb];simp [aI,cP,bV,hq,hn];try omega),ap rfl⟩
  simp only[tt,seval,hn]
  rw[dw ae (ji val)]
  simp only[tt,seval]
  cases hv:zV val
  case false=>
   simp only[tt,seval]
   exact⟨_,_,aU (by rw[hzb];simp [aI,cP,bV,hq,hn,hv];try omega),ap rfl⟩
  simp only[tt,seval]
  by_cases ho:op=0
  case neg=>
   simp only[tt,seval,ho]
   exact⟨_,_,aU (by rw[hzb];simp [aI,cP,bV,hq,hn,hv,ho];try omega),ap rfl⟩
  simp only[tt,seval,ho]
  cases not
  case' true=>
   simp only[tt,seval]
   refine cZ (dA 8 5 8) ?_ ?_<;>simp only[tt,seval]
  case' false=>try simp only[tt,seval]
  all_goals
   by_cases hk1:nk=1
   case neg=>
    simp only[tt,seval,hk1]
    exact⟨_,_,aU (by rw[hzb];simp [aI,cP,bV,hq,hn,hv,ho];try omega),ap rfl⟩
   simp only[tt,seval,hk1]
   by_cases hs1:ns=1
   case neg=>
    simp only[tt,seval,hs1]
    exact⟨_,_,aU (by rw[hzb];simp [aI,cP,bV,hq,hn,hv,ho,hk1,hs1];try omega),ap rfl⟩
   simp only[tt,seval,hs1]
   exact⟨_,_,aU (by rw[hzb];simp [aI,cP,bV,hq,hn,hv,ho,hk1,hs1];try omega),ap rfl⟩
 ·try simp only[tt,seval]
  by_cases hq:qual=⟨#[]⟩
  case neg=>
   simp only[tt,seval,hq]
   exact⟨_,_,aU (by rw[hzb];simp [aI,cP,bV,hq];try omega),ap rfl⟩
  simp only[tt,seval,hq]
  by_cases hn:name=⟨#[]⟩
  case neg=>
   simp only[tt,seval,hn]
   exact⟨_,_,aU (by rw[hzb];simp [aI,cP,bV,hq,hn];try omega),ap rfl⟩
  simp only[tt,seval,hn]
  rw[dw ae (ji val)]
  simp only[tt,seval]
  cases hv:zV val
  case false=>
   simp only[tt,seval]
   exact⟨_,_,aU (by rw[hzb];simp [aI,cP,bV,hq,hn,hv];try omega),ap rfl⟩
  simp only[tt,seval]
  by_cases ho:op=0
  case neg=>
   simp only[tt,seval,ho]
   exact⟨_,_,aU (by rw[hzb];simp [aI,cP,bV,hq,hn,hv,ho];try omega),ap rfl⟩
  simp only[tt,seval,ho]
  cases not
  case true=>
   simp only[tt,seval]
   refine cZ (dA 9 5 8) ?_ ?_<;>simp only[tt,seval]
   exact⟨_,_,aU (by rw[hzb];simp [aI,cP,bV,hq,hn,hv,ho];try omega),ap rfl⟩
  simp only[tt,seval]
  by_cases hk0:nk=0
  case neg=>
   simp only[tt,seval,hk0]
   exact⟨_,_,aU (by rw[hzb];simp [aI,cP,bV,hq,hn,hv,ho];try omega),ap rfl⟩
  simp only[tt,seval,hk0]
  by_cases hs1:ns=1
  case neg=>
   simp only[tt,seval,hs1]
   exact⟨_,_,aU (by rw[hzb];simp [aI,cP,bV,hq,hn,hv,ho,hk0,hs1];try omega),ap rfl⟩
  simp only[tt,seval,hs1]
  exact⟨_,_,aU (by rw[hzb];simp [aI,cP,bV,hq,hn,hv,ho,hk0,hs1];try omega),ap rfl⟩
 ·have n1:¬kind=1:=by omega
  have n2:¬kind=2:=by omega
  have n3:¬kind=3:=by omega
  have n4:¬kind=4:=by omega
  have n5:¬kind=5:=by omega
  have n6:¬kind=6:=by omega
  have n7:¬kind=7:=by omega
  have n8:¬kind=8:=by omega
  have n9:¬kind=9:=by omega
  have hk58:decide ((5:Int)<=kind/\kind<=8)=false:=au aa
  simp only[tt,seval,n2]
  by_cases hq:qual=⟨#[]⟩
  case neg=>
   simp only[tt,seval,hq,n3,n4]
   exact⟨_,_,aU (by rw[hzb];simp [aI,cP,bV,n1,n2,n3,n4,n5,n6,n7,n8,n9,hq];try omega),ap rfl⟩
  simp only[tt,seval,hq]
  by_cases hn:name=⟨#[]⟩
  case neg=>
   simp only[tt,seval,hn,n3,n4]
   exact⟨_,_,aU (by rw[hzb];simp [aI,cP,bV,n1,n2,n3,n4,n5,n6,n7,n8,n9,hq,hn];try omega),ap rfl⟩
  simp only[tt,seval,hn,n1]
  rw[dw ae (ji val)]
  simp only[tt,seval,n3,n4]
  cases hv:zV val
  case false=>
   simp only[tt,seval]
   exact⟨_,_,aU (by rw[hzb];simp [aI,cP,bV,n1,n2,n3,n4,n5,n6,n7,n8,n9,hq,hn,hv];try omega),ap rfl⟩
  simp only[tt,seval]
  by_cases ho:op=0
  case neg=>
   simp only[tt,seval,ho,n1,n2,n3,n4,n5,n6,n7,n8,n9]
   exact⟨_,_,aU (by rw[hzb];simp [aI,cP,bV,n1,n2,n3,n4,n5,n6,n7,n8,n9,hq,hn,hv,ho];try omega),ap rfl⟩
  simp only[tt,seval,ho]
  cases not
  case true=>
   simp only[tt,seval]
   refine cZ (dA kind 5 8) ?_ ?_<;>simp only[tt,seval]
   simp only[tt,seval,hk58]
   exact⟨_,_,aU (by rw[hzb];simp [aI,cP,bV,n1,n2,n3,n4,n5,n6,n7,n8,n9];try omega),ap rfl⟩
  case false=>
   simp only[tt,seval,n1,n2,n3,n4,n5,n6,n7,n8,n9]
   exact⟨_,_,aU (by rw[hzb];simp [aI,cP,bV,n1,n2,n3,n4,n5,n6,n7,n8,n9];try omega),ap rfl⟩
def fZ (kind op:Int) (val:Val) (qual name:ByteArray):S:=.tu [([.v (.bool (bV kind).1),.v (.bool (bV kind).2.1),.v (.bool (bV kind).2.2.1),.v (.bool (bV kind).2.2.2.1),.v (.int .i64 (bV kind).2.2.2.2.1),.v (.int .i64 (bV kind).2.2.2.2.2.1),.v (.int .i64 (bV kind).2.2.2.2.2.2)],false),([.v (.bool (cP kind op val qual name))],true)]
set_option maxHeartbeats 2000000 in
theorem wV (kind op:Int) (not:Bool) (val:Val) (qual name:ByteArray) (kids:List Expr) (sub:List Query):Cl Tryz.prog 177 [.ag (ar (Expr.mk kind op not val qual name kids sub).row)] [] fun r _=>r=fZ kind op val qual name:=by
 obtain⟨zs,hzs⟩:∃zs,zs=fZ kind op val qual name:=⟨_,rfl⟩
 rw[<-hzs,al]
 refine ai ac false Tryz.func177 rfl ae ?_
 simp only[Tryz.f177,tt,seval]
 rcases (show kind=1∨kind=2∨kind=3∨kind=4∨kind=5∨kind=6∨kind=7∨kind=8∨kind=9∨(kind<1∨9<kind) by omega) with rfl|rfl|rfl|rfl|rfl|rfl|rfl|rfl|rfl|hk
 ·try simp only[tt,seval]
  refine cZ (FG val) ?_ ?_<;>simp only[tt,seval,Val.row]
  exact⟨_,_,(by rw[hzs];simp [fZ,cP,bV,]),ap rfl⟩
 ·try simp only[tt,seval]
  refine cZ (g6 name) ?_ ?_<;>simp only[tt,seval]
  cases hnb:decide (1<=name.size/\name.size<=20)
  case false=>
   simp only[tt,seval]
   exact⟨_,_,(by rw[hzs];simp [fZ,cP,bV,bK,d9,hnb]),ap rfl⟩
  simp only[tt,seval]
  by_cases hq:qual=⟨#[]⟩
  case pos=>
   simp only[tt,seval,hq]
   exact⟨_,_,(by rw[hzs];simp [fZ,cP,bV,bK,d9,hnb,hq]),ap rfl⟩
  simp only[tt,seval,hq]
  refine cZ (g6 qual) ?_ ?_<;>simp only[tt,seval]
  exact⟨_,_,(by rw[hzs];simp [fZ,cP,bV,bK,d9,hnb,hq]),ap rfl⟩
 ·try simp only[tt,seval]
  refine dDrawn.intro [] (.take 0 (.take 1 (.take 2 (.take 3 (.take 4 (.take 5 (.br 6 (.take 7 (.take 8 (.br 9 (.take 10 .done) .nobr))) (.br 9 (.take 6 (.take 7 (.take 8 (.take 10 .done)))) .nobr)))))))) ae ?_
  simp only[tt,seval]
  by_cases h15:op=15
  case pos=>
   simp only[tt,seval,az h15]
   refine ab ?_ ?_<;>exact⟨_,_,(by rw[hzs];simp [fZ,cP,bV,h15]),ap rfl⟩
  simp only[tt,seval,au h15]
  refine ab ?_ ?_<;>exact⟨_,_,(by rw[hzs];simp [fZ,cP,bV,h15]),ap rfl⟩
 ·try simp only[tt,seval]
  refine dDrawn.intro [] (.take 0 (.take 1 (.take 2 (.take 3 (.take 4 (.take 5 (.br 6 (.take 7 (.take 8 (.br 9 (.take 10 .done) .nobr))) (.br 9 (.take 6 (.take 7 (.take 8 (.take 10 .done)))) .nobr)))))))) ae ?_
  simp only[tt,seval]
  by_cases h1:1<=op
  case neg=>
   simp only[tt,seval,au h1]
   refine ab ?_ ?_<;>exact⟨_,_,(by rw[hzs];simp [fZ,cP,bV,h1]),ap rfl⟩
  simp only[tt,seval,az h1]
  refine ab ?_ ?_<;>exact⟨_,_,(by rw[hzs];simp [fZ,cP,bV,h1]),ap rfl⟩
 ·try simp only[tt,seval]
  exact⟨_,_,(by rw[hzs];simp [fZ,cP,bV,]),ap rfl⟩
 ·try simp only[tt,seval]
  exact⟨_,_,(by rw[hzs];simp [fZ,cP,bV,]),ap rfl⟩
 ·try simp only[tt,seval]
  exact⟨_,_,(by rw[hzs];simp [fZ,cP,bV,]),ap rfl⟩
 ·try simp only[tt,seval]
  exact⟨_,_,(by rw[hzs];simp [fZ,cP,bV,]),ap rfl⟩
 ·try simp only[tt,seval]
  exact⟨_,_,(by rw[hzs];simp [fZ,cP,bV,]),ap rfl⟩
 ·have n1:¬kind=1:=by omega
  have n2:¬kind=2:=by omega
  have n3:¬kind=3:=by omega
  have n4:¬kind=4:=by omega
  have n5:¬kind=5:=by omega
  have n6:¬kind=6:=by omega
  have n7:¬kind=7:=by omega
  have n8:¬kind=8:=by omega
  have n9:¬kind=9:=by omega
  simp only[tt,seval,n1,n2,n3,n4,n5,n6,n7,n8,n9]
  exact⟨_,_,(by rw[hzs];simp [fZ,cP,bV,n1,n2,n3,n4,n5,n6,n7,n8,n9];omega),ap rfl⟩
theorem cu:ByteArray.empty=⟨#[]⟩:=rfl
theorem hY {α:Type} {g:α->Bool} {l:List α} {x:α} (h:x∈l) (hx:g x=false):l.all g=false:=by
 cases h':l.all g with
 |false=>rfl
 |true=>have:=List.all_eq_true.1 h' x h;rw[hx] at this;cases this
theorem lT {α:Type} {g:α->Bool} {l:List α} (h:∀j (hj:j<l.length),g l[j]=true):l.all g=true:=List.all_eq_true.2 fun x hx=>by
 obtain⟨j,hj,rfl⟩:=List.mem_iff_getElem.1 hx
 exact h j hj
def lU:Expr->Bool | .mk kind op not val qual name kids sub=>ee kind op not val qual name kids.length sub.length
def nu:Item->Bool | .mk star qual e as_=>if star=true then (d9 qual&&(decide (as_=⟨#[]⟩)&&lU e)) else (decide (qual=⟨#[]⟩)&&d9 as_)
def nv (i:Nat):Source->Bool | .mk table as_ on=>bK table&&(d9 as_&&(decide (on.length<=1)&&(decide (¬i=0)||decide (on.length=0))))
def Dk (l:List Source):Bool:=(List.range l.length).all fun i=>match l[i]? with|some s=>nv i s|none=>true
def hdB:Query->Bool | .mk _ items from_ where_ order limit=>decide (1<=items.length/\items.length<=12)&&(decide (1<=from_.length/\from_.length<=3)&&(decide (where_.length<=1)&&(decide (order.length<=12)&&(decide (-1<=limit)&&(items.all nu&&Dk from_)))))
theorem Dl {l:List Source} {i:Nat} (h:i<l.length) (hb:nv i l[i]=false):Dk l=false:=by
 refine hY (x:=i) (List.mem_range.2 h) ?_
 rw[aD h];exact hb
theorem zY {l:List Source} (h:∀j (hj:j<l.length),nv j l[j]=true):Dk l=true:=List.all_eq_true.2 fun j hj=>by
 have hj:=List.mem_range.1 hj
 rw[aD hj];exact h j hj
def hZ (g:Expr->Bool) (q:Query):Bool:=hdB q&&(exprsQ q).all g
def tJ (g:Expr->Bool):Expr->Bool | .mk kind op not val qual name kids sub=>aI kind op not val qual name kids.length sub.length&&(kids.all g&&sub.all (hZ g))
noncomputable def fmE:Expr->Bool:=dT tJ
theorem Dm (l:List Expr) (g:Expr->Bool) (h:∀x∈l,Cl Tryz.prog 272 [.ag (ar x.row)] [] fun r _=>r=vb (!g x)):Cl Tryz.prog 316 [.c (.sl l.length (l.flatMap Expr.row) none),.c (.fn 272 [] [])] [] fun r _=>∃n:Int,r=vi n/\decide (0<=n) = !(l.all g):=by
 refine ai ac false Tryz.func316 rfl ae ?_
 simp only[Tryz.f316,tt,seval]
 refine fun _=>?_
 refine dLoop.intro (fun f L p=>∃i:Nat,f 8=vi i/\i<=l.length/\(∀j (hj:j<l.length),j<i->g l[j]=true)/\L=[]/\p=none) (fun f _ _=>(l.length-eH (f 8)).toNat) [] none ⟨ao _,aq _,?_⟩ ?_
 ·simp only[tt,seval]
  exact⟨0,rfl,aa,fun j _ h=>absurd h (Nat.not_lt_zero _)⟩
 ·rintro g' L p ⟨i,hix,hi,hall,rfl,rfl⟩
  simp only[tt,seval] at hix
  simp only[tt,seval,hix,Int.ofNat_lt]
  refine ab (fun hlt=>?_) (fun hge=>?_)
  ·refine⟨aa,aa,_,aH aQ (aD hlt),Expr.ne _ _,?_⟩
   simp only[seval,Expr.tk,aQ]
   refine cZ (h l[i] (aO hlt)) ?_ ?_<;>simp only[tt,seval,hix]
   refine ab (fun hb=>?_) (fun hb=>?_)
   ·have hb:g l[i]=false:=by simpa only[Bool.not_eq_true'] using hb
    refine⟨vi i,[],⟨i,rfl,?_⟩,ap rfl⟩
    rw[az aa,hY (aO hlt) hb];rfl
   ·have hb:g l[i]=true:=by simpa only[Bool.not_eq_false'] using hb
    try rw[eS i aa]
    exact⟨_,none,ao _,aq _,⟨i+1,rfl,aa,fun j hj hji=>by
     by_cases e:j=i
     ·subst e;exact hb
     ·exact hall j hj aa,rfl,rfl⟩,aB⟩
  ·refine⟨vi (-1),[],⟨-1,rfl,?_⟩,ap rfl⟩
   rw[lT fun j hj=>hall j hj aa];rfl
theorem wW (l:List Expr) (g:Expr->Bool) (h:∀x∈l,Cl Tryz.prog 272 [.ag (ar x.row)] [] fun r _=>r=vb (!g x)):Cl Tryz.prog 271 [.c (.sl l.length (l.flatMap Expr.row) none),.c (.fn 272 [] [])] [] fun r _=>r=vb (!(l.all g)):=by
 refine ai ac false Tryz.func271 rfl ae ?_
 simp only[Tryz.f271,tt,seval]
 refine fV (Dm l g h) ?_ ?_ ?_
 ·decide
 ·simp only[tt,seval]
 rintro r ⟨n,rfl,hn⟩
 simp only[tt,seval]
 exact⟨_,_,aU hn,ap rfl⟩
theorem Dn (l:List Query) (g:Query->Bool) (h:∀x∈l,Cl Tryz.prog 180 [.ag (ar x.row)] [] fun r _=>r=vb (!g x)):Cl Tryz.prog 273 [.c (.sl l.length (l.flatMap Query.row) none),.c (.fn 180 [] [])] [] fun r _=>∃n:Int,r=vi n/\decide (0<=n) = !(l.all g):=by
 refine ai ac false Tryz.func273 rfl ae ?_
 simp only[Tryz.f273,tt,seval]
 refine fun _=>?_
 refine dLoop.intro (fun f L p=>∃i:Nat,f 8=vi i/\i<=l.length/\(∀j (hj:j<l.length),j<i->g l[j]=true)/\L=[]/\p=none) (fun f _ _=>(l.length-eH (f 8)).toNat) [] none ⟨ao _,aq _,?_⟩ ?_
 ·simp only[tt,seval]
  exact⟨0,rfl,aa,fun j _ h=>absurd h (Nat.not_lt_zero _)⟩
 ·rintro g' L p ⟨i,hix,hi,hall,rfl,rfl⟩
  simp only[tt,seval] at hix
  simp only[tt,seval,hix,Int.ofNat_lt]
  refine ab (fun hlt=>?_) (fun hge=>?_)
  ·refine⟨aa,aa,_,aH Query.row_len (aD hlt),Query.ne _ _,?_⟩
   simp only[seval,Query.tk,Query.row_len]
   refine cZ (h l[i] (aO hlt)) ?_ ?_<;>simp only[tt,seval,hix]
   refine ab (fun hb=>?_) (fun hb=>?_)
   ·have hb:g l[i]=false:=by simpa only[Bool.not_eq_true'] using hb
    refine⟨vi i,[],⟨i,rfl,?_⟩,ap rfl⟩
    rw[az aa,hY (aO hlt) hb];rfl
   ·have hb:g l[i]=true:=by simpa only[Bool.not_eq_false'] using hb
    try rw[eS i aa]
    exact⟨_,none,ao _,aq _,⟨i+1,rfl,aa,fun j hj hji=>by
     by_cases e:j=i
     ·subst e;exact hb
     ·exact hall j hj aa,rfl,rfl⟩,aB⟩
  ·refine⟨vi (-1),[],⟨-1,rfl,?_⟩,ap rfl⟩
   rw[lT fun j hj=>hall j hj aa];rfl
theorem wX (l:List Query) (g:Query->Bool) (h:∀x∈l,Cl Tryz.prog 180 [.ag (ar x.row)] [] fun r _=>r=vb (!g x)):Cl Tryz.prog 179 [.c (.sl l.length (l.flatMap Query.row) none),.c (.fn 180 [] [])] [] fun r _=>r=vb (!(l.all g)):=by
 refine ai ac false Tryz.func179 rfl ae ?_
 simp only[Tryz.f179,tt,seval]
 refine fV (Dn l g h) ?_ ?_ ?_
 ·decide
 ·simp only[tt,seval]
 rintro r ⟨n,rfl,hn⟩
 simp only[tt,seval]
 exact⟨_,_,aU hn,ap rfl⟩
theorem J0 (e:Expr) (b:Bool) (h:Cl Tryz.prog 90 [.ag (ar e.row)] [] fun r _=>r=vb b):Cl Tryz.prog 272 [.ag (ar e.row)] [] fun r _=>r=vb (!b):=by
 obtain⟨kind,op,not,val,qual,name,kids,sub⟩:=e
 rw[al] at h ⊢
 refine ai ac false Tryz.func272 rfl ae ?_
 simp only[Tryz.f272,tt,seval]
 refine cZ (h) ?_ ?_<;>simp only[tt,seval]
 exact⟨_,_,rfl,ap rfl⟩
theorem J1 (e:Query) (b:Bool) (h:Cl Tryz.prog 146 [.ag (ar e.row)] [] fun r _=>r=vb b):Cl Tryz.prog 180 [.ag (ar e.row)] [] fun r _=>r=vb (!b):=by
 obtain⟨distinct,items,from_,where_,order,limit⟩:=e
 rw[aF] at h ⊢
 refine ai ac false Tryz.func180 rfl ae ?_
 simp only[Tryz.f180,tt,seval]
 refine cZ (h) ?_ ?_<;>simp only[tt,seval]
 exact⟨_,_,rfl,ap rfl⟩
theorem pR (l:List Expr) (g:Expr->Bool) (h:∀x∈l,Cl Tryz.prog 90 [.ag (ar x.row)] [] fun r _=>r=vb (g x)):Cl Tryz.prog 178 [.c (.sl l.length (l.flatMap Expr.row) none)] [] fun r _=>r=vb (l.all g):=by
 refine ai ac false Tryz.func178 rfl ae ?_
 simp only[Tryz.f178,tt,seval]
 refine cZ (wW l g (fun x hx=>J0 x (g x) (h x hx))) ?_ ?_<;>simp only[tt,seval]
 exact⟨_,_,aU (Bool.not_not _),ap rfl⟩
theorem FJ (e:Expr):Cl Tryz.prog 243 [.ag (ar e.row)] [] fun r _=>r=vb (lU e):=by
 obtain⟨kind,op,not,val,qual,name,kids,sub⟩:=e
 rw[al]
 refine ai ac false Tryz.func243 rfl ae ?_
 simp only[Tryz.f243,tt,seval]
 refine cZ (Dj kind op not val qual name kids sub) ?_ ?_<;>simp only[tt,seval,al,cu]
 exact⟨_,_,rfl,ap rfl⟩
set_option maxHeartbeats 4000000 in
theorem sD (kind op:Int) (not:Bool) (val:Val) (qual name:ByteArray) (kids:List Expr) (sub:List Query) (g:Expr->Bool) (hkids:∀x∈kids,Cl Tryz.prog 90 [.ag (ar x.row)] [] fun r _=>r=vb (g x)) (hsub:∀q∈sub,Cl Tryz.prog 146 [.ag (ar q.row)] [] fun r _=>r=vb (hZ g q)) (hkl:kids.length<=1048576) (hsl:sub.length<=1048576):Cl Tryz.prog 90 [.ag (ar (Expr.mk kind op not val qual name kids sub).row)] [] fun r _=>r=vb (tJ g (Expr.mk kind op not val qual name kids sub)):=by
 obtain⟨zb,hzb⟩:∃zb,zb=tJ g (Expr.mk kind op not val qual name kids sub):=⟨_,rfl⟩
 rw[<-hzb,al]
 refine ai ac false Tryz.func90 rfl ae ?_
 simp only[Tryz.f90,tt,seval]
 obtain⟨nk,hnk⟩:∃nk:Int,nk=kids.length:=⟨_,rfl⟩
 obtain⟨ns,hns⟩:∃ns:Int,ns=sub.length:=⟨_,rfl⟩
 rw[tJ,aI,<-hnk,<-hns] at hzb
 by_cases hk:1<=kind/\kind<=9
 case neg=>
  have hokf:cP kind op val qual name=false:=by simp only[cP];(repeat' split)<;>first|omega|(exact au aa)
  refine cZ (wV kind op not val qual name kids sub) ?_ ?_<;>simp only[tt,seval,al,fZ,hokf]
  exact⟨_,_,aU (by rw[hzb,hokf];rfl),ap rfl⟩
 have fo:=wV kind op not val qual name kids sub
 unfold fZ at fo
 generalize cP kind op val qual name=okv at fo hzb
 rcases (show kind=1∨kind=2∨kind=3∨kind=4∨kind=5∨kind=6∨kind=7∨kind=8∨kind=9 by omega) with rfl|rfl|rfl|rfl|rfl|rfl|rfl|rfl|rfl
 all_goals
  refine cZ (fo) ?_ ?_<;>simp only[tt,seval,al,bV]
  cases hok:okv
  case false=>(try simp only[tt,seval,hok,jO]);exact⟨_,_,aU (by clear hnk hns;rw[hzb];simp [bV, *];try omega),ap rfl⟩
  try simp only[tt,seval,hok,jO]
  first
   |((by_cases ho:op=0;case neg=>(try simp only[tt,seval,ho,jO]);exact⟨_,_,aU (by clear hnk hns;rw[hzb];simp [bV, *];try omega),ap rfl⟩);try simp only[tt,seval,ho,jO])
   |skip
  first
   |(cases hno:not;case true=>(try simp only[tt,seval,hno,jO]);exact⟨_,_,aU (by clear hnk hns;rw[hzb];simp [bV, *];try omega),ap rfl⟩);(try simp only[tt,seval,hno,jO])
   |skip
  first
   |(rw[dw ae (ji val)];(try simp only[tt,seval,jO]);cases hv:zV val;case false=>(try simp only[tt,seval,hv,jO]);exact⟨_,_,aU (by clear hnk hns;rw[hzb];simp [bV, *];try omega),ap rfl⟩);(try simp only[tt,seval,hv,jO])
   |skip
  first
   |((by_cases hq:qual=⟨#[]⟩;case neg=>(try simp only[tt,seval,hq,jO]);exact⟨_,_,aU (by clear hnk hns;rw[hzb];simp [bV, *];try omega),ap rfl⟩);try simp only[tt,seval,hq,jO];(by_cases hn:name=⟨#[]⟩;case neg=>(try simp only[tt,seval,hn,jO]);exact⟨_,_,aU (by clear hnk hns;rw[hzb];simp [bV, *];try omega),ap rfl⟩);try simp only[tt,seval,hn,jO])
   |skip
  refine fun _=>?_
  rw[<-hnk]
  first
   |((by_cases hlo:nk<0;case pos=>(try simp only[tt,seval,hlo,jO]);exact⟨_,_,aU (by clear hnk hns;rw[hzb];simp [bV, *];try omega),ap rfl⟩);try simp only[tt,seval,hlo,jO])
   |((by_cases hlo:nk<1;case pos=>(try simp only[tt,seval,hlo,jO]);exact⟨_,_,aU (by clear hnk hns;rw[hzb];simp [bV, *];try omega),ap rfl⟩);try simp only[tt,seval,hlo,jO])
   |((by_cases hlo:nk<2;case pos=>(try simp only[tt,seval,hlo,jO]);exact⟨_,_,aU (by clear hnk hns;rw[hzb];simp [bV, *];try omega),ap rfl⟩);try simp only[tt,seval,hlo,jO])
   |((by_cases hlo:nk<3;case pos=>(try simp only[tt,seval,hlo,jO]);exact⟨_,_,aU (by clear hnk hns;rw[hzb];simp [bV, *];try omega),ap rfl⟩);try simp only[tt,seval,hlo,jO])
  try refine fun _=>?_
  try rw[<-hnk]
  first
   |((by_cases hhi:0<nk;case pos=>(try simp only[tt,seval,hhi,jO]);exact⟨_,_,aU (by clear hnk hns;rw[hzb];simp [bV, *];try omega),ap rfl⟩);try simp only[tt,seval,hhi,jO])
   |((by_cases hhi:1<nk;case pos=>(try simp only[tt,seval,hhi,jO]);exact⟨_,_,aU (by clear hnk hns;rw[hzb];simp [bV, *];try omega),ap rfl⟩);try simp only[tt,seval,hhi,jO])
   |((by_cases hhi:2<nk;case pos=>(try simp only[tt,seval,hhi,jO]);exact⟨_,_,aU (by clear hnk hns;rw[hzb];simp [bV, *];try omega),ap rfl⟩);try simp only[tt,seval,hhi,jO])
   |((by_cases hhi:3<nk;case pos=>(try simp only[tt,seval,hhi,jO]);exact⟨_,_,aU (by clear hnk hns;rw[hzb];simp [bV, *];try omega),ap rfl⟩);try simp only[tt,seval,hhi,jO])
   |((by_cases hhi:9<nk;case pos=>(try simp only[tt,seval,hhi,jO]);exact⟨_,_,aU (by clear hnk hns;rw[hzb];simp [bV, *];try omega),ap rfl⟩);try simp only[tt,seval,hhi,jO])
  try refine fun _=>?_
  try rw[<-hns]
  first
   |((by_cases hns0:ns=0;case neg=>(try simp only[tt,seval,hns0,jO]);exact⟨_,_,aU (by clear hnk hns;rw[hzb];simp [bV, *];try omega),ap rfl⟩);try simp only[tt,seval,hns0,jO])
   |((by_cases hns0:ns=1;case neg=>(try simp only[tt,seval,hns0,jO]);exact⟨_,_,aU (by clear hnk hns;rw[hzb];simp [bV, *];try omega),ap rfl⟩);try simp only[tt,seval,hns0,jO])
  refine cZ (pR kids g hkids) ?_ ?_<;>simp only[tt,seval,al]
  cases hka:kids.all g
  case false=>(try simp only[tt,seval,hka,jO]);exact⟨_,_,aU (by clear hnk hns;rw[hzb];simp [bV, *];try omega),ap rfl⟩
  try simp only[tt,seval,hka,jO]
  refine cZ (wX sub (hZ g) (fun q hq=>J1 q (hZ g q) (hsub q hq))) ?_ ?_<;>simp only[tt,seval,al]
  cases hsa:sub.all (hZ g)
  case false=>(try simp only[tt,seval,hsa,jO]);exact⟨_,_,aU (by clear hnk hns;rw[hzb];simp [bV, *];try omega),ap rfl⟩
  try simp only[tt,seval,hsa,jO]
  exact⟨_,_,aU (by clear hnk hns;rw[hzb];simp [bV, *];try omega),ap rfl⟩
theorem uJ (distinct:Bool) (items:List Item) (from_:List Source) (where_:List Expr) (order:List SortKey) (limit:Int) (g:Expr->Bool) (h:¬(1<=items.length/\items.length<=12)):hZ g (Query.mk distinct items from_ where_ order limit)=false:=by simp only[hZ,hdB,au h,Bool.false_and]
theorem yq (distinct:Bool) (items:List Item) (from_:List Source) (where_:List Expr) (order:List SortKey) (limit:Int) (g:Expr->Bool) (h:¬(1<=from_.length/\from_.length<=3)):hZ g (Query.mk distinct items from_ where_ order limit)=false:=by simp only[hZ,hdB,au h,Bool.false_and,Bool.and_false]
theorem zZ (distinct:Bool) (items:List Item) (from_:List Source) (where_:List Expr) (order:List SortKey) (limit:Int) (g:Expr->Bool) (h:¬where_.length<=1):hZ g (Query.mk distinct items from_ where_ order limit)=false:=by simp only[hZ,hdB,au h,Bool.false_and,Bool.and_false]
theorem A0 (distinct:Bool) (items:List Item) (from_:List Source) (where_:List Expr) (order:List SortKey) (limit:Int) (g:Expr->Bool) (h:¬order.length<=12):hZ g (Query.mk distinct items from_ where_ order limit)=false:=by simp only[hZ,hdB,au h,Bool.false_and,Bool.and_false]
theorem A1 (distinct:Bool) (items:List Item) (from_:List Source) (where_:List Expr) (order:List SortKey) (limit:Int) (g:Expr->Bool) (h:¬ -1<=limit):hZ g (Query.mk distinct items from_ where_ order limit)=false:=by simp only[hZ,hdB,au h,Bool.false_and,Bool.and_false]
theorem sE (distinct:Bool) (items:List Item) (from_:List Source) (where_:List Expr) (order:List SortKey) (limit:Int) (g:Expr->Bool) {x:Item} (hm:x∈items) (h:nu x=false):hZ g (Query.mk distinct items from_ where_ order limit)=false:=by simp only[hZ,hdB,hY hm h,Bool.false_and,Bool.and_false]
theorem wY (distinct:Bool) (items:List Item) (from_:List Source) (where_:List Expr) (order:List SortKey) (limit:Int) (g:Expr->Bool) {i:Nat} (hm:i<from_.length) (h:nv i from_[i]=false):hZ g (Query.mk distinct items from_ where_ order limit)=false:=by simp only[hZ,hdB,Dl hm h,Bool.false_and,Bool.and_false]
theorem J2 (distinct:Bool) (items:List Item) (from_:List Source) (where_:List Expr) (order:List SortKey) (limit:Int) (g:Expr->Bool) (h1:1<=items.length/\items.length<=12) (h2:1<=from_.length/\from_.length<=3) (h3:where_.length<=1) (h4:order.length<=12) (h5 : -1<=limit) (h6:∀j (hj:j<items.length),nu items[j]=true) (h7:∀j (hj:j<from_.length),nv j from_[j]=true) :
 hZ g (Query.mk distinct items from_ where_ order limit)=(exprsQ (Query.mk distinct items from_ where_ order limit)).all g:=by simp only[hZ,hdB,az h1,az h2,az h3,az h4,az h5,lT h6,zY h7,Bool.true_and]
set_option maxHeartbeats 1000000 in
theorem kJ (q:Query) (g:Expr->Bool) (h:∀x∈exprsQ q,Cl Tryz.prog 90 [.ag (ar x.row)] [] fun r _=>r=vb (g x)) (hsz:szQuery q<=1048576):Cl Tryz.prog 146 [.ag (ar q.row)] [] fun r _=>r=vb (hZ g q):=by
 obtain⟨distinct,items,from_,where_,order,limit⟩:=q
 obtain⟨zb,hzb⟩:∃zb,zb=hZ g (Query.mk distinct items from_ where_ order limit):=⟨_,rfl⟩
 rw[<-hzb,aF]
 refine ai ac false Tryz.func146 rfl ae ?_
 simp only[Tryz.f146,tt,seval]
 refine fun _=>?_
 by_cases c1:(items.length:Int)<1
 case pos=>
  simp only[tt,seval,az c1]
  exact⟨_,_,aU (by rw[hzb];exact (uJ distinct items from_ where_ order limit g aa).symm),ap rfl⟩
 simp only[tt,seval,au c1]
 refine fun _=>?_
 by_cases c2:(12:Int)<items.length
 case pos=>
  simp only[tt,seval,az c2]
  exact⟨_,_,aU (by rw[hzb];exact (uJ distinct items from_ where_ order limit g aa).symm),ap rfl⟩
 simp only[tt,seval,au c2]
 refine fun _=>?_
 by_cases c3:(from_.length:Int)<1
 case pos=>
  simp only[tt,seval,az c3]
  exact⟨_,_,aU (by rw[hzb];exact (yq distinct items from_ where_ order limit g aa).symm),ap rfl⟩
 simp only[tt,seval,au c3]
 refine fun _=>?_
 by_cases c4:(3:Int)<from_.length
 case pos=>
  simp only[tt,seval,az c4]
  exact⟨_,_,aU (by rw[hzb];exact (yq distinct items from_ where_ order limit g aa).symm),ap rfl⟩
 simp only[tt,seval,au c4]
 refine fun _=>?_
 by_cases c5:(1:Int)<where_.length
 case pos=>
  simp only[tt,seval,az c5]
  exact⟨_,_,aU (by rw[hzb];exact (zZ distinct items from_ where_ order limit g aa).symm),ap rfl⟩
 simp only[tt,seval,au c5]
 refine fun _=>?_
 by_cases c6:(12:Int)<order.length
 case pos=>
  simp only[tt,seval,az c6]
  exact⟨_,_,aU (by rw[hzb];exact (A0 distinct items from_ where_ order limit g aa).symm),ap rfl⟩
 simp only[tt,seval,au c6]
 refine ab (fun c7=>?_) (fun c7=>?_)
 ·exact⟨_,_,aU (by rw[hzb];exact (A1 distinct items from_ where_ order limit g aa).symm),ap rfl⟩
 ·try simp only[tt,seval]
  refine fun _=>?_
  refine dLoop.intro (fun f L p=>∃i:Nat,f 49=vi i/\i<=items.length/\(∀j (hj:j<items.length),j<i->nu items[j]=true)/\L=[(1,.str [.v (.bool distinct),.sl items.length (items.flatMap Item.row) none,.sl from_.length (from_.flatMap Source.row) none,.sl where_.length (where_.flatMap Expr.row) none,.sl order.length (order.flatMap SortKey.row) none,.v (.int .i64 limit)])]/\p=none) (fun f _ _=>(items.length-eH (f 49)).toNat) [(1,.str [.v (.bool distinct),.sl items.length (items.flatMap Item.row) none,.sl from_.length (from_.flatMap Source.row) none,.sl where_.length (where_.flatMap Expr.row) none,.sl order.length (order.flatMap SortKey.row) none,.v (.int .i64 limit)])] none ⟨ak rfl (ao _),aq _,?_⟩ ?_
  ·simp only[tt,seval]
   exact⟨0,rfl,aa,fun j _ h=>absurd h (Nat.not_lt_zero _)⟩
  ·rintro g' L p ⟨i,ix,hi,hall,rfl,rfl⟩
   simp only[tt,seval] at ix
   simp only[tt,seval,ix,Int.ofNat_lt]
   refine ab (fun hlt=>?_) (fun hge=>?_)
   ·have hlt:i<items.length:=by omega
    obtain⟨it,bu⟩:∃it,it=items[i]:=⟨_,rfl⟩
    refine⟨aa,aa,_,aH Item.row_len (aD hlt),Item.ne _ _,?_⟩
    obtain⟨star,qual,⟨k,o,n,v,q,m,ks,ss⟩,as_⟩:=it
    rw[<-bu,Item.row_mk,al]
    simp only[tt,seval]
    cases star
    case true=>
     simp only[tt,seval]
     refine cZ (yp qual) ?_ ?_<;>simp only[tt,seval]
     cases hm:d9 qual
     case false=>
      simp only[tt,seval]
      exact⟨_,_,aU (by rw[hzb];exact (sE distinct items from_ where_ order limit g (bu▸aO hlt) (by simp [nu,hm])).symm),ap rfl⟩
     simp only[tt,seval]
     by_cases ha:as_=⟨#[]⟩
     case neg=>
      simp only[tt,seval,au ha]
      exact⟨_,_,aU (by rw[hzb];exact (sE distinct items from_ where_ order limit g (bu▸aO hlt) (by simp [nu,hm,ha])).symm),ap rfl⟩
     simp only[tt,seval,az ha]
     refine cZ (FJ (Expr.mk k o n v q m ks ss)) ?_ ?_<;>simp only[tt,seval,al]
     cases hz:ee k o n v q m ks.length ss.length
     case false=>
      simp only[tt,seval,lU,hz]
      exact⟨_,_,aU (by rw[hzb];exact (sE distinct items from_ where_ order limit g (bu▸aO hlt) (by simp [nu,hm,ha,lU,hz])).symm),ap rfl⟩
     simp only[tt,seval,lU,hz,ix]
     try rw[eS i aa]
     exact⟨_,none,ak rfl (ao _),aq _,⟨i+1,rfl,aa,fun j hj hji=>by
      by_cases e:j=i
      ·subst e;rw[<-bu];simp [nu,hm,ha,lU,hz]
      ·exact hall j hj aa,rfl,rfl⟩,aB⟩
    case false=>
     simp only[tt,seval]
     by_cases hq:qual=⟨#[]⟩
     case neg=>
      simp only[tt,seval,au hq]
      exact⟨_,_,aU (by rw[hzb];exact (sE distinct items from_ where_ order limit g (bu▸aO hlt) (by simp [nu,hq])).symm),ap rfl⟩
     simp only[tt,seval,az hq]
     refine cZ (yp as_) ?_ ?_<;>simp only[tt,seval,ix]
     cases hm:d9 as_
     case false=>
      simp only[tt,seval]
      exact⟨_,_,aU (by rw[hzb];exact (sE distinct items from_ where_ order limit g (bu▸aO hlt) (by simp [nu,hm])).symm),ap rfl⟩
     simp only[tt,seval]
     try rw[eS i aa]
     exact⟨_,none,ak rfl (ao _),aq _,⟨i+1,rfl,aa,fun j hj hji=>by
      by_cases e:j=i
      ·subst e;rw[<-bu];simp [nu,hm,hq]
      ·exact hall j hj aa,rfl,rfl⟩,aB⟩
   ·have hall:=fun j hj=>hall j hj aa
    have hall1:=hall
    clear hall
    refine fun _=>?_
    refine dLoop.intro (fun f L p=>∃i:Nat,f 92=vi i/\i<=from_.length/\(∀j (hj:j<from_.length),j<i->nv j from_[j]=true)/\L=[(1,.str [.v (.bool distinct),.sl items.length (items.flatMap Item.row) none,.sl from_.length (from_.flatMap Source.row) none,.sl where_.length (where_.flatMap Expr.row) none,.sl order.length (order.flatMap SortKey.row) none,.v (.int .i64 limit)])]/\p=none) (fun f _ _=>(from_.length-eH (f 92)).toNat) [(1,.str [.v (.bool distinct),.sl items.length (items.flatMap Item.row) none,.sl from_.length (from_.flatMap Source.row) none,.sl where_.length (where_.flatMap Expr.row) none,.sl order.length (order.flatMap SortKey.row) none,.v (.int .i64 limit)])] none ⟨ak rfl (ao _),aq _,?_⟩ ?_
    ·simp only[tt,seval]
     exact⟨0,rfl,aa,fun j _ h=>absurd h (Nat.not_lt_zero _)⟩
    ·rintro g' L p ⟨i,ix,hi,hall,rfl,rfl⟩
     simp only[tt,seval] at ix
     simp only[tt,seval,ix,Int.ofNat_lt]
     refine ab (fun hlt=>?_) (fun hge=>?_)
     ·have hlt:i<from_.length:=by omega
      obtain⟨it,bu⟩:∃it,it=from_[i]:=⟨_,rfl⟩
      refine⟨aa,aa,_,aH Source.row_len (aD hlt),Source.ne _ _,?_⟩
      obtain⟨table,as_,on⟩:=it
      rw[<-bu,Source.row_mk]
      simp only[tt,seval]
      refine cZ (g6 table) ?_ ?_<;>simp only[tt,seval]
      cases hnb:decide (1<=table.size/\table.size<=20)
      case false=>
       simp only[tt,seval]
       exact⟨_,_,aU (by rw[hzb];exact (wY distinct items from_ where_ order limit g hlt (by rw[<-bu];simp [nv,bK,hnb])).symm),ap rfl⟩
      simp only[tt,seval]
      refine cZ (yp as_) ?_ ?_<;>simp only[tt,seval]
      cases hm:d9 as_
      case false=>
       simp only[tt,seval]
       exact⟨_,_,aU (by rw[hzb];exact (wY distinct items from_ where_ order limit g hlt (by rw[<-bu];simp [nv,bK,hnb,hm])).symm),ap rfl⟩
      simp only[tt,seval]
      refine fun _=>?_
      by_cases c8:(1:Int)<on.length
      case pos=>
       simp only[tt,seval,az c8]
       exact⟨_,_,aU (by rw[hzb];exact (wY distinct items from_ where_ order limit g hlt (by rw[<-bu];simp only[nv,au (show ¬on.length<=1 by omega),Bool.false_and,Bool.and_false])).symm),ap rfl⟩
      simp only[tt,seval,au c8]
      by_cases c9:(i:Int)=0
      case neg=>
       simp only[tt,seval,c9,ix]
       try rw[eS i aa]
       exact⟨_,none,ak rfl (ao _),aq _,⟨i+1,rfl,aa,fun j hj hji=>by
        by_cases e:j=i
        ·subst e;rw[<-bu];simp only[nv,bK,hnb,hm,az (show on.length<=1 by omega),az (show ¬j=0 by omega),Bool.true_and,Bool.true_or]
        ·exact hall j hj aa,rfl,rfl⟩,aB⟩
      simp only[tt,seval,az c9,ix]
      refine fun _=>?_
      refine ab (fun c10=>?_) (fun c10=>?_)
      ·exact⟨_,_,aU (by rw[hzb];exact (wY distinct items from_ where_ order limit g hlt (by rw[<-bu];simp only[nv,au (show ¬ ¬i=0 by omega),au (show ¬on.length=0 by omega),Bool.or_false,Bool.and_false])).symm),ap rfl⟩
      ·have hi0:i=0:=by omega
       try rw[eS i aa]
       exact⟨_,none,ak rfl (ao _),aq _,⟨i+1,rfl,aa,fun j hj hji=>by
        by_cases e:j=i
        ·subst e;rw[<-bu];simp only[nv,bK,hnb,hm,az (show on.length<=1 by omega),az (show on.length=0 by omega),Bool.true_and,Bool.or_true]
        ·exact hall j hj aa,rfl,rfl⟩,aB⟩
     ·have hall:=fun j hj=>hall j hj aa
      refine cZ (rB distinct items from_ where_ order limit hsz) ?_ ?_<;>simp only[tt,seval,aF]
      refine cZ (pR (exprsQ (Query.mk distinct items from_ where_ order limit)) g h) ?_ ?_<;>simp only[tt,seval]
      exact⟨_,_,aU (by rw[hzb,J2 distinct items from_ where_ order limit g ⟨aa,aa⟩ ⟨aa,aa⟩ aa aa aa hall1 hall]),ap rfl⟩
set_option maxHeartbeats 1000000 in
theorem lV (q:Query) (g:Expr->Bool) (h:∀x∈exprsQ q,Cl Tryz.prog 85 [.ag (ar x.row)] [] fun r _=>r=vb (g x)) (hsz:szQuery q<=1048576):Cl Tryz.prog 98 [.ag (ar q.row)] [] fun r _=>r=vb (hZ g q):=by
 obtain⟨distinct,items,from_,where_,order,limit⟩:=q
 obtain⟨zb,hzb⟩:∃zb,zb=hZ g (Query.mk distinct items from_ where_ order limit):=⟨_,rfl⟩
 rw[<-hzb,aF]
 refine ai ac false Tryz.func98 rfl ae ?_
 simp only[Tryz.f98,tt,seval]
 refine fun _=>?_
 refine cZ (dA items.length 1 12) ?_ ?_<;>simp only[tt,seval]
 by_cases c1:(1:Int)<=items.length/\(items.length:Int)<=12
 case neg=>
  simp only[tt,seval,au c1]
  exact⟨_,_,aU (by rw[hzb];exact (uJ distinct items from_ where_ order limit g aa).symm),ap rfl⟩
 simp only[tt,seval,az c1]
 refine fun _=>?_
 refine cZ (dA from_.length 1 3) ?_ ?_<;>simp only[tt,seval]
 by_cases c2:(1:Int)<=from_.length/\(from_.length:Int)<=3
 case neg=>
  simp only[tt,seval,au c2]
  exact⟨_,_,aU (by rw[hzb];exact (yq distinct items from_ where_ order limit g aa).symm),ap rfl⟩
 simp only[tt,seval,az c2]
 refine fun _=>?_
 by_cases c5:(1:Int)<where_.length
 case pos=>
  simp only[tt,seval,az c5]
  exact⟨_,_,aU (by rw[hzb];exact (zZ distinct items from_ where_ order limit g aa).symm),ap rfl⟩
 simp only[tt,seval,au c5]
 refine fun _=>?_
 by_cases c6:(12:Int)<order.length
 case pos=>
  simp only[tt,seval,az c6]
  exact⟨_,_,aU (by rw[hzb];exact (A0 distinct items from_ where_ order limit g aa).symm),ap rfl⟩
 simp only[tt,seval,au c6]
 refine ab (fun c7=>?_) (fun c7=>?_)
 ·exact⟨_,_,aU (by rw[hzb];exact (A1 distinct items from_ where_ order limit g aa).symm),ap rfl⟩
 ·try simp only[tt,seval]
  refine dLoop.intro (fun f L p=>∃i:Nat,f 3=vi i/\i<=items.length/\(∀j (hj:j<items.length),j<i->nu items[j]=true)/\L=[(1,.str [.v (.bool distinct),.sl items.length (items.flatMap Item.row) none,.sl from_.length (from_.flatMap Source.row) none,.sl where_.length (where_.flatMap Expr.row) none,.sl order.length (order.flatMap SortKey.row) none,.v (.int .i64 limit)])]/\p=none) (fun f _ _=>(items.length-eH (f 3)).toNat) [(1,.str [.v (.bool distinct),.sl items.length (items.flatMap Item.row) none,.sl from_.length (from_.flatMap Source.row) none,.sl where_.length (where_.flatMap Expr.row) none,.sl order.length (order.flatMap SortKey.row) none,.v (.int .i64 limit)])] none ⟨ak rfl (ao _),aq _,?_⟩ ?_
  ·simp only[tt,seval]
   exact⟨0,rfl,aa,fun j _ h=>absurd h (Nat.not_lt_zero _)⟩
  ·rintro g' L p ⟨i,ix,hi,hall,rfl,rfl⟩
   simp only[tt,seval] at ix
   simp only[tt,seval,ix,Int.ofNat_lt]
   refine fun _=>?_
   refine ab (fun hlt=>?_) (fun hge=>?_)
   ·have hlt:i<items.length:=by omega
    obtain⟨it,bu⟩:∃it,it=items[i]:=⟨_,rfl⟩
    refine⟨aa,aa,_,aH Item.row_len (aD hlt),Item.ne _ _,?_⟩
    obtain⟨star,qual,⟨k,o,n,v,q,m,ks,ss⟩,as_⟩:=it
    rw[<-bu,Item.row_mk,al]
    simp only[tt,seval]
    cases star
    case true=>
     simp only[tt,seval]
     refine cZ (mu qual) ?_ ?_<;>simp only[tt,seval]
     cases hm:d9 qual
     case false=>
      simp only[tt,seval]
      exact⟨_,_,aU (by rw[hzb];exact (sE distinct items from_ where_ order limit g (bu▸aO hlt) (by simp [nu,hm])).symm),ap rfl⟩
     simp only[tt,seval]
     by_cases ha:as_=⟨#[]⟩
     case neg=>
      simp only[tt,seval,au ha]
      exact⟨_,_,aU (by rw[hzb];exact (sE distinct items from_ where_ order limit g (bu▸aO hlt) (by simp [nu,hm,ha])).symm),ap rfl⟩
     simp only[tt,seval,az ha]
     refine cZ (FH k o n v q m ks ss) ?_ ?_<;>simp only[tt,seval,al,cu]
     cases hz:ee k o n v q m ks.length ss.length
     case false=>
      simp only[tt,seval]
      exact⟨_,_,aU (by rw[hzb];exact (sE distinct items from_ where_ order limit g (bu▸aO hlt) (by simp [nu,hm,ha,lU,hz])).symm),ap rfl⟩
     simp only[tt,seval,ix]
     try rw[eS i aa]
     exact⟨_,none,ak rfl (ao _),aq _,⟨i+1,rfl,aa,fun j hj hji=>by
      by_cases e:j=i
      ·subst e;rw[<-bu];simp [nu,hm,ha,lU,hz]
      ·exact hall j hj aa,rfl,rfl⟩,aB⟩
    case false=>
     simp only[tt,seval]
     by_cases hq:qual=⟨#[]⟩
     case neg=>
      simp only[tt,seval,au hq]
      exact⟨_,_,aU (by rw[hzb];exact (sE distinct items from_ where_ order limit g (bu▸aO hlt) (by simp [nu,hq])).symm),ap rfl⟩
     simp only[tt,seval,az hq]
     refine cZ (mu as_) ?_ ?_<;>simp only[tt,seval,ix]
     cases hm:d9 as_
     case false=>
      simp only[tt,seval]
      exact⟨_,_,aU (by rw[hzb];exact (sE distinct items from_ where_ order limit g (bu▸aO hlt) (by simp [nu,hm])).symm),ap rfl⟩
     simp only[tt,seval]
     try rw[eS i aa]
     exact⟨_,none,ak rfl (ao _),aq _,⟨i+1,rfl,aa,fun j hj hji=>by
      by_cases e:j=i
      ·subst e;rw[<-bu];simp [nu,hm,hq]
      ·exact hall j hj aa,rfl,rfl⟩,aB⟩
   ·have hall:=fun j hj=>hall j hj aa
    have hall1:=hall
    clear hall
    refine dLoop.intro (fun f L p=>∃i:Nat,f 5=vi i/\i<=from_.length/\(∀j (hj:j<from_.length),j<i->nv j from_[j]=true)/\L=[(1,.str [.v (.bool distinct),.sl items.length (items.flatMap Item.row) none,.sl from_.length (from_.flatMap Source.row) none,.sl where_.length (where_.flatMap Expr.row) none,.sl order.length (order.flatMap SortKey.row) none,.v (.int .i64 limit)])]/\p=none) (fun f _ _=>(from_.length-eH (f 5)).toNat) [(1,.str [.v (.bool distinct),.sl items.length (items.flatMap Item.row) none,.sl from_.length (from_.flatMap Source.row) none,.sl where_.length (where_.flatMap Expr.row) none,.sl order.length (order.flatMap SortKey.row) none,.v (.int .i64 limit)])] none ⟨ak rfl (ao _),aq _,?_⟩ ?_
    ·simp only[tt,seval]
     exact⟨0,rfl,aa,fun j _ h=>absurd h (Nat.not_lt_zero _)⟩
    ·rintro g' L p ⟨i,ix,hi,hall,rfl,rfl⟩
     simp only[tt,seval] at ix
     simp only[tt,seval,ix,Int.ofNat_lt]
     refine fun _=>?_
     refine ab (fun hlt=>?_) (fun hge=>?_)
     ·have hlt:i<from_.length:=by omega
      obtain⟨it,bu⟩:∃it,it=from_[i]:=⟨_,rfl⟩
      refine⟨aa,aa,_,aH Source.row_len (aD hlt),Source.ne _ _,?_⟩
      obtain⟨table,as_,on⟩:=it
      rw[<-bu,Source.row_mk]
      simp only[tt,seval]
      refine cZ (jt table) ?_ ?_<;>simp only[tt,seval]
      cases hnb:decide (1<=table.size/\table.size<=20)
      case false=>
       simp only[tt,seval]
       exact⟨_,_,aU (by rw[hzb];exact (wY distinct items from_ where_ order limit g hlt (by rw[<-bu];simp [nv,bK,hnb])).symm),ap rfl⟩
      simp only[tt,seval]
      refine cZ (mu as_) ?_ ?_<;>simp only[tt,seval]
      cases hm:d9 as_
      case false=>
       simp only[tt,seval]
       exact⟨_,_,aU (by rw[hzb];exact (wY distinct items from_ where_ order limit g hlt (by rw[<-bu];simp [nv,bK,hnb,hm])).symm),ap rfl⟩
      simp only[tt,seval]
      refine fun _=>?_
      by_cases c8:(1:Int)<on.length
      case pos=>
       simp only[tt,seval,az c8]
       exact⟨_,_,aU (by rw[hzb];exact (wY distinct items from_ where_ order limit g hlt (by rw[<-bu];simp only[nv,au (show ¬on.length<=1 by omega),Bool.false_and,Bool.and_false])).symm),ap rfl⟩
      simp only[tt,seval,au c8,ix]
      by_cases c9:(i:Int)=0
      case neg=>
       simp only[tt,seval,c9,ix]
       try rw[eS i aa]
       exact⟨_,none,ak rfl (ao _),aq _,⟨i+1,rfl,aa,fun j hj hji=>by
        by_cases e:j=i
        ·subst e;rw[<-bu];simp only[nv,bK,hnb,hm,az (show on.length<=1 by omega),az (show ¬j=0 by omega),Bool.true_and,Bool.true_or]
        ·exact hall j hj aa,rfl,rfl⟩,aB⟩
      simp only[tt,seval,az c9,ix]
      refine fun _=>?_
      refine ab (fun c10=>?_) (fun c10=>?_)
      ·exact⟨_,_,aU (by rw[hzb];exact (wY distinct items from_ where_ order limit g hlt (by rw[<-bu];simp only[nv,au (show ¬ ¬i=0 by omega),au (show ¬on.length=0 by omega),Bool.or_false,Bool.and_false])).symm),ap rfl⟩
      ·have hi0:i=0:=by omega
       try rw[eS i aa]
       exact⟨_,none,ak rfl (ao _),aq _,⟨i+1,rfl,aa,fun j hj hji=>by
        by_cases e:j=i
        ·subst e;rw[<-bu];simp only[nv,bK,hnb,hm,az (show on.length<=1 by omega),az (show on.length=0 by omega),Bool.true_and,Bool.or_true]
        ·exact hall j hj aa,rfl,rfl⟩,aB⟩
     ·have hall:=fun j hj=>hall j hj aa
      have hq:=J2 distinct items from_ where_ order limit g ⟨aa,aa⟩ ⟨aa,aa⟩ aa aa aa hall1 hall
      have hql:=fk (Query.mk distinct items from_ where_ order limit)
      refine cZ (pi distinct items from_ where_ order limit hsz) ?_ ?_<;>simp only[tt,seval,aF]
      rw[hq] at hzb
      generalize exprsQ (Query.mk distinct items from_ where_ order limit)=l at *
      refine dLoop.intro (fun f L p=>∃i:Nat,f 8=vi i/\i<=l.length/\(∀j (hj:j<l.length),j<i->g l[j]=true)/\L=[(1,.str [.v (.bool distinct),.sl items.length (items.flatMap Item.row) none,.sl from_.length (from_.flatMap Source.row) none,.sl where_.length (where_.flatMap Expr.row) none,.sl order.length (order.flatMap SortKey.row) none,.v (.int .i64 limit)])]/\p=none) (fun f _ _=>(l.length-eH (f 8)).toNat) [(1,.str [.v (.bool distinct),.sl items.length (items.flatMap Item.row) none,.sl from_.length (from_.flatMap Source.row) none,.sl where_.length (where_.flatMap Expr.row) none,.sl order.length (order.flatMap SortKey.row) none,.v (.int .i64 limit)])] none ⟨ak rfl (ao _),aq _,?_⟩ ?_
      ·simp only[tt,seval]
       exact⟨0,rfl,aa,fun j _ h=>absurd h (Nat.not_lt_zero _)⟩
      ·rintro g' L p ⟨i,ix,hi,hal,rfl,rfl⟩
       simp only[tt,seval] at ix
       simp only[tt,seval,ix,Int.ofNat_lt]
       refine fun _=>ab (fun hlt=>?_) (fun hge=>?_)
       ·have hlt:i<l.length:=by omega
        refine⟨aa,aa,_,aH aQ (aD hlt),Expr.ne _ _,?_⟩
        simp only[seval,Expr.tk,aQ]
        refine cZ (h l[i] (aO hlt)) ?_ ?_<;>simp only[tt,seval,ix]
        refine ab (fun hb=>?_) (fun hb=>?_)
        ·have hb:g l[i]=false:=by simpa only[Bool.not_eq_true'] using hb
         exact⟨_,_,aU (by rw[hzb];exact (hY (aO hlt) hb).symm),ap rfl⟩
        ·have hb:g l[i]=true:=by simpa only[Bool.not_eq_false'] using hb
         try rw[eS i aa]
         exact⟨_,none,ak rfl (ao _),aq _,⟨i+1,rfl,aa,fun j hj hji=>by
          by_cases e:j=i
          ·subst e;exact hb
          ·exact hal j hj aa,rfl,rfl⟩,aB⟩
       ·exact⟨_,_,aU (by rw[hzb];exact (lT fun j hj=>hal j hj aa).symm),ap rfl⟩
theorem gu {n:Nat} {l:List D} (h:l.length=n):fM n l=some l:=by
 have:=cU (r:=[]) h
 rwa[List.append_nil] at this
theorem Do {kind op:Int} {not:Bool} {val:Val} {qual name:ByteArray} {nk ns:Int} (h:aI kind op not val qual name nk ns=true):ns<=1:=by
 simp only[aI,Bool.and_eq_true,decide_eq_true_eq] at h
 have h:=h.2.2.2.2.2.2
 rw[h];unfold bV;(repeat' split)<;>decide
theorem uK (kind op:Int) (not:Bool) (val:Val) (qual name:ByteArray) (kids:List Expr) (sub:List Query) (g:Expr->Bool) (hg:∀x,f6 x (Expr.mk kind op not val qual name kids sub)->Cl Tryz.prog 85 [.ag (ar x.row)] [] fun r _=>r=vb (g x)) (hsz:szExpr (Expr.mk kind op not val qual name kids sub)<=1048576):Cl Tryz.prog 85 [.ag (ar (Expr.mk kind op not val qual name kids sub).row)] [] fun r _=>r=vb (tJ g (Expr.mk kind op not val qual name kids sub)):=by
 have hks:=hsz
 rw[cL,aT,bT] at hks
 obtain⟨zb,hzb⟩:∃zb,zb=tJ g (Expr.mk kind op not val qual name kids sub):=⟨_,rfl⟩
 rw[<-hzb]
 have e:tJ g (Expr.mk kind op not val qual name kids sub)=(aI kind op not val qual name kids.length sub.length&&(kids.all g&&sub.all (hZ g))):=rfl
 rw[e] at hzb
 rw[al]
 refine ai ac false Tryz.func85 rfl ae ?_
 simp only[Tryz.f85,tt,seval]
 refine cZ (Bc kind op not val qual name kids sub aa aa) ?_ ?_<;>simp only[tt,seval,al]
 cases hb:aI kind op not val qual name kids.length sub.length
 case false=>
  simp only[tt,seval]
  exact⟨_,_,aU (by rw[hzb,hb];rfl),ap rfl⟩
 have hns:=Do hb
 rw[hb,Bool.true_and] at hzb
 simp only[tt,seval]
 refine dLoop.intro (fun f L p=>∃i:Nat,f 3=vi i/\i<=kids.length/\(∀j (hj:j<kids.length),j<i->g kids[j]=true)/\L=[(1,.str [.v (.int .i64 kind),.v (.int .i64 op),.v (.bool not),.v (.int .i64 val.kind),.v (.int .i64 val.num),.v (.string val.text),.v (.string qual),.v (.string name),.sl kids.length (kids.flatMap Expr.row) none,.sl sub.length (sub.flatMap Query.row) none])]/\p=none) (fun f _ _=>(kids.length-eH (f 3)).toNat) [(1,.str [.v (.int .i64 kind),.v (.int .i64 op),.v (.bool not),.v (.int .i64 val.kind),.v (.int .i64 val.num),.v (.string val.text),.v (.string qual),.v (.string name),.sl kids.length (kids.flatMap Expr.row) none,.sl sub.length (sub.flatMap Query.row) none])] none ⟨ak rfl (ao _),aq _,?_⟩ ?_
 ·simp only[tt,seval]
  exact⟨0,rfl,aa,fun j _ h=>absurd h (Nat.not_lt_zero _)⟩
 ·rintro g' L p ⟨i,ix,hi,hal,rfl,rfl⟩
  simp only[tt,seval] at ix
  simp only[tt,seval,ix,Int.ofNat_lt]
  refine fun _=>ab (fun hlt=>?_) (fun hge=>?_)
  ·have hlt:i<kids.length:=by omega
   refine⟨aa,aa,_,aH aQ (aD hlt),Expr.ne _ _,?_⟩
   simp only[seval,Expr.tk,aQ]
   refine cZ (hg kids[i] (.inl (aO hlt))) ?_ ?_<;>simp only[tt,seval,ix]
   refine ab (fun hb=>?_) (fun hb=>?_)
   ·have hb:g kids[i]=false:=by simpa only[Bool.not_eq_true'] using hb
    exact⟨_,_,aU (by rw[hzb,hY (aO hlt) hb];rfl),ap rfl⟩
   ·have hb:g kids[i]=true:=by simpa only[Bool.not_eq_false'] using hb
    try rw[eS i aa]
    exact⟨_,none,ak rfl (ao _),aq _,⟨i+1,rfl,aa,fun j hj hji=>by
     by_cases e:j=i
     ·subst e;exact hb
     ·exact hal j hj aa,rfl,rfl⟩,aB⟩
  ·rw[lT fun j hj=>hal j hj aa,Bool.true_and] at hzb
   refine fun _=>?_
   rcases sub with _|⟨q,_|⟨q2,rest⟩⟩
   ·simp only[tt,seval]
    exact⟨_,_,aU (by rw[hzb];rfl),ap rfl⟩
   ·simp only[tt,seval]
    refine⟨q.row++[],by simp,Query.ne _ _,?_⟩
    simp only[tt,seval,gu (Query.row_len q),Query.row_len]
    refine cZ (lV q g (fun x hx=>hg x (.inr ⟨q,by show q∈[q];simp,hx⟩)) (Nat.le_trans (lf (e:=(Expr.mk kind op not val qual name kids [q])) (by show q∈[q];simp)) hsz)) ?_ ?_<;>simp only[tt,seval]
    exact⟨_,_,aU (by rw[hzb];simp),ap rfl⟩
   ·simp only[List.length_cons] at hns;omega
theorem Bd (e:Expr):szExpr e<=1048576->Cl Tryz.prog 85 [.ag (ar e.row)] [] fun r _=>r=vb (fmE e):=by
 refine hD (P:=fun e b=>szExpr e<=1048576->Cl Tryz.prog 85 [.ag (ar e.row)] [] fun r _=>r=vb b) (fun e g hg hsz=>?_) e
 obtain⟨kind,op,not,val,qual,name,kids,sub⟩:=e
 exact uK kind op not val qual name kids sub g (fun x hx=>hg x hx (Nat.le_trans (gD hx) hsz)) hsz
theorem yr (e:Expr):szExpr e<=1048576->Cl Tryz.prog 90 [.ag (ar e.row)] [] fun r _=>r=vb (fmE e):=by
 refine hD (P:=fun e b=>szExpr e<=1048576->Cl Tryz.prog 90 [.ag (ar e.row)] [] fun r _=>r=vb b) (fun e g hg hsz=>?_) e
 obtain⟨kind,op,not,val,qual,name,kids,sub⟩:=e
 have hks:=hsz
 rw[cL,aT,bT] at hks
 have hg:=fun x hx=>hg x hx (Nat.le_trans (gD hx) hsz)
 exact sD kind op not val qual name kids sub g (fun x hx=>hg x (.inl hx)) (fun q hq=>kJ q g (fun x hx=>hg x (.inr ⟨q,hq,hx⟩)) (Nat.le_trans (lf (e:=(Expr.mk kind op not val qual name kids sub)) hq) hsz)) aa aa
theorem Be (d n:Nat):Cl Tryz.prog 87 [vi d,vi n] [] fun r _=>r=vb (decide (d<=24)&&decide (n<=200)):=by
 refine ai ac false Tryz.func87 rfl ae ?_
 simp only[Tryz.f87,tt,seval]
 by_cases h1:(d:Int)<=24
 ·simp only[tt,seval,az h1]
  exact⟨_,_,aU (by rw[az (show d<=24 by omega),Bool.true_and];exact decide_eq_decide.2 aa),ap rfl⟩
 ·simp only[tt,seval,au h1]
  exact⟨_,_,aU (by rw[au (show ¬d<=24 by omega)];rfl),ap rfl⟩
theorem ll:(∀a b:List Tok,(a++b).length=a.length+b.length)/\(∀(t:Tok) (a:List Tok),(t::a).length=a.length+1)/\([]:List Tok).length=0:=⟨fun _ _=>aC,fun _ _=>List.length_cons,rfl⟩
def kT (k:Nat):Tok:=⟨1,kw k,0⟩
def gT (s:ByteArray):Tok:=⟨5,s,0⟩
def nT (s:ByteArray):Tok:=⟨2,s,0⟩
def iT (n:Int):Tok:=⟨3,d5 n,0⟩
def iN:Tok:=gT ⟨#[40]⟩
def iQ:Tok:=gT ⟨#[41]⟩
def dQ:Tok:=gT ⟨#[44]⟩
def Ix:Tok:=gT ⟨#[46]⟩
def Dp:Tok:=gT ⟨#[42]⟩
def eR (v:Val):Tok:=if v.kind=1 then iT v.num else if v.kind=2 then ⟨4,v.text,0⟩ else if v.kind=3 then (if v.num=1 then kT 21 else kT 22) else kT 20
def cy (op:Int):Tok:=⟨if op=1∨op=2∨op=15 then 1 else 5,iJ op,0⟩
def cF (q:ByteArray):List Tok:=if q=⟨#[]⟩ then [] else [nT q,Ix]
def cQ (a:ByteArray):List Tok:=if a=⟨#[]⟩ then [] else [kT 12,nT a]
def bw (b:Bool):List Tok:=if b=true then [kT 15] else []
def jP (w:Bool) (l:List Tok):List Tok:=if w=true then iN::(l++[iQ]) else l
def zeroX:Expr:=.mk 0 0 false ⟨0,0,⟨#[]⟩⟩ ⟨#[]⟩ ⟨#[]⟩ [] []
def Bf (full:Bool) (kind op:Int) (kids:List Expr) (k:Nat):Bool:=kE kind op kids k||(full&&decide (kP (kids.getD k zeroX)<9))
def aP (full:Bool) (g:Expr->List Tok) (kind op:Int) (kids:List Expr) (k:Nat):List Tok:=jP (Bf full kind op kids k) (g (kids.getD k zeroX))
def bd (f:Nat->List Tok) (n:Nat):List Tok:=(List.range n).flatMap f
theorem da (f:Nat->List Tok) (n:Nat):bd f (n+1)=bd f n++f n:=by
 unfold bd
 rw[List.range_succ,List.flatMap_append];simp
theorem Bg (f:Nat->List Tok) {k m:Nat} (h:k<=m):(bd f k).length<=(bd f m).length:=by
 induction m with
 |zero=>rw[Nat.le_zero.1 h];exact Nat.le_refl _
 |succ m ih=>
  by_cases e:k=m+1
  ·subst e;exact Nat.le_refl _
  ·rw[da,aC];exact Nat.le_trans (ih aa) (Nat.le_add_right _ _)
theorem j4 (f:Nat->List Tok) {k m:Nat} (h:k<m):(bd f k).length+(f k).length<=(bd f m).length:=by
 have:=Bg f (show k+1<=m from h)
 rwa[da,aC] at this
def q8 {α:Type} (l:List α) (h:α->List Tok) (i:Nat):List Tok:=match l[i]? with|some x=>h x|none=>[]
theorem ea {α:Type} {l:List α} {h:α->List Tok} {i:Nat} (hi:i<l.length):q8 l h i=h l[i]:=by rw[q8,aD hi]
def jQ (i:Nat):List Tok:=if 0<i then [dQ] else []
def cK (g:Expr->List Tok):Item->List Tok | .mk star qual e as_=>if star=true then cF qual++[Dp] else g e++cQ as_
def rE (g:Expr->List Tok):List Expr->List Tok | []=>[]|e::_=>kT 5::g e
def fy (g:Expr->List Tok) (i:Nat):Source->List Tok | .mk table as_ on=>(if 0<i then (if 0<on.length then [kT 4] else [dQ]) else [])++(nT table::(cQ as_++rE g on))
def nA (g:Expr->List Tok):List Expr->List Tok | []=>[]|e::_=>kT 6::g e
def iF (g:Expr->List Tok):SortKey->List Tok | .mk e desc=>g e++(if desc=true then [kT 10] else [])
def iR (n:Int):List Tok:=if 0<=n then [kT 11,iT n] else []
def dd (g:Expr->List Tok) (items:List Item) (i:Nat):List Tok:=jQ i++q8 items (cK g) i
def dR (g:Expr->List Tok) (from_:List Source) (i:Nat):List Tok:=q8 from_ (fy g i) i
def eY (g:Expr->List Tok) (order:List SortKey) (i:Nat):List Tok:=(if i=0 then [kT 7,kT 8] else [dQ])++q8 order (iF g) i
def dP (g:Expr->List Tok):Query->List Tok
 |.mk distinct items from_ where_ order limit=>
  kT 1::((if distinct=true then [kT 2] else [])++(bd (dd g items) items.length++(kT 3::(bd (dR g from_) from_.length++(nA g where_++(bd (eY g order) order.length++iR limit))))))
def kK (g:Expr->List Tok):List Query->List Tok | []=>[]|q::_=>dP g q
def oN (full:Bool) (g:Expr->List Tok) (kind op:Int) (kids:List Expr) (j:Nat):List Tok:=jQ j++aP full g kind op kids (j+1)
def iO (full:Bool) (g:Expr->List Tok):Expr->List Tok
 |.mk kind op not val qual name kids sub=>
  if kind=1 then [eR val] else if kind=2 then cF qual++[nT name] else if kind=3 then cy op::aP full g kind op kids 0 else if kind=9 then kT 19::iN::(kK g sub++[iQ]) else
  aP full g kind op kids 0++(if kind=4 then cy op::aP full g kind op kids 1 else if kind=5 then kT 16::(bw not++[kT 20]) else if kind=6 then bw not++(kT 18::(aP full g kind op kids 1++(kT 13::aP full g kind op kids 2))) else
   bw not++(kT 17::iN::((if kind=8 then kK g sub else bd (oN full g kind op kids) (kids.length-1))++[iQ])))
noncomputable def dH (full:Bool):Expr->List Tok:=dT (iO full)
def Expr.not:Expr->Bool | .mk _ _ n _ _ _ _ _=>n
def Query.lim:Query->Int | .mk _ _ _ _ _ l=>l
inductive Rg:Expr->Prop
 |mk {kind op:Int} {not:Bool} {val:Val} {qual name:ByteArray} {kids:List Expr} {sub:List Query}:(-9223372036854775808<=val.num/\val.num<=9223372036854775807)->(∀k,k∈kids->Rg k)->(∀q,q∈sub->q.lim<=9223372036854775807)->(∀q,q∈sub->∀x,x∈exprsQ q->Rg x)->Rg (.mk kind op not val qual name kids sub)
def RgQ (q:Query):Prop:=q.lim<=9223372036854775807/\∀x,x∈exprsQ q->Rg x
theorem Rg.num {kind op:Int} {not:Bool} {val:Val} {qual name:ByteArray} {kids:List Expr} {sub:List Query} (h:Rg (.mk kind op not val qual name kids sub)) : -9223372036854775808<=val.num/\val.num<=9223372036854775807:=by cases h;assumption
theorem qp {x e:Expr} (h:Rg e) (hb:f6 x e):Rg x:=by
 cases h with
 |mk h1 h2 h3 h4=>
  rcases hb with hb|⟨q,hq,hb⟩
  ·exact h2 x hb
  ·exact h4 q hq x hb
theorem uL {q:Query} {e:Expr} (h:Rg e) (hq:q∈e.sub):RgQ q:=by
 cases h with
 |mk h1 h2 h3 h4=>exact⟨h3 q hq,h4 q hq⟩
theorem ku {α β γ:Type} [Inhabited α] [Inhabited β] [Inhabited γ] {F1:(Expr->α)->Expr->α} {F2:(Expr->β)->Expr->β} {F3:(Expr->γ)->Expr->γ} {P:Expr->α->β->γ->Prop}
 (h:∀e g1 g2 g3,(∀x,f6 x e->P x (g1 x) (g2 x) (g3 x))->P e (F1 g1 e) (F2 g2 e) (F3 g3 e)) (e:Expr):P e (dT F1 e) (dT F2 e) (dT F3 e):=by
 suffices H:∀n:Nat,∀e:Expr,SizeOf.sizeOf e<n->P e (dT F1 e) (dT F2 e) (dT F3 e) from H _ e (Nat.lt_succ_self _)
 intro n
 induction n with
 |zero=>exact fun _ h=>absurd h (Nat.not_lt_zero _)
 |succ n ih=>
  intro e he
  rw[dT,dT,dT]
  refine h e _ _ _ fun x hx=>?_
  have:=ld hx
  simp only[dif_pos this]
  exact ih x aa
theorem wZ:∀k:Nat,(kw k).size<=40:=fun k=>by
 by_cases h:k<29
 ·exact (by decide:∀k:Fin 29,(kw k.1).size<=40) ⟨k,h⟩
 ·have:kw k=⟨#[]⟩:=by
   unfold kw
   rw[List.getD_eq_getElem?_getD,List.getElem?_eq_none (by show 29<=k;omega)];rfl
  rw[this];decide
theorem dD (k:Nat):(kT k).text.size<=40:=wZ k
theorem tK (op:Int):(iJ op).size<=40:=by
 unfold iJ
 split
 ·rename_i h
  have e:op.toNat<17:=by omega
  exact (by decide:∀k:Fin 17,(H2.getD k.1 ⟨#[]⟩).size<=40) ⟨op.toNat,e⟩
 ·decide
theorem lW {n:Int} (h0 : -9223372036854775808<=n) (h1:n<=9223372036854775807):(d5 n).size<=40:=by
 have:=qC h0 h1
 show ((Lib.itoa n).toArray).size<=40
 rw[List.size_toArray];omega
def Sm (n:Nat) (l:List Tok):Prop:=l.length<=n/\∀t∈l,t.text.size<=40
theorem Sm.nil:Sm 0 []:=⟨Nat.le_refl _,fun t h=>by cases h⟩
theorem Sm.cons {n:Nat} {t:Tok} {l:List Tok} (h:t.text.size<=40) (hl:Sm n l):Sm (n+1) (t::l):=⟨by simp;exact hl.1,fun x hx=>by
 rcases List.mem_cons.1 hx with rfl|hx
 ·exact h
 ·exact hl.2 x hx⟩
theorem Sm.app {n m:Nat} {a b:List Tok} (h:Sm n a) (k:Sm m b):Sm (n+m) (a++b):=⟨by rw[aC];have:=h.1;have:=k.1;omega,fun x hx=>by
 rcases List.mem_append.1 hx with hx|hx
 ·exact h.2 x hx
 ·exact k.2 x hx⟩
theorem Sm.le {n m:Nat} {l:List Tok} (h:Sm n l) (k:n<=m):Sm m l:=⟨Nat.le_trans h.1 k,h.2⟩
theorem Sm.one {t:Tok} (h:t.text.size<=40):Sm 1 [t]:=Sm.cons h Sm.nil
theorem Sm.ite {c:Prop} [Decidable c] {n:Nat} {a b:List Tok} (h:Sm n a) (k:Sm n b):Sm n (if c then a else b):=by split<;>assumption
theorem Sm.seq {f:Nat->List Tok} {b:Nat->Nat} {n:Nat} (h:∀i,i<n->Sm (b i) (f i)):Sm (((List.range n).map b).sum) (bd f n):=by
 induction n with
 |zero=>exact Sm.nil
 |succ n ih=>
  rw[da,List.range_succ,List.map_append,List.sum_append,List.map_singleton,List.sum_singleton]
  exact (ih fun i hi=>h i aa).app (h n aa)
def rF {α:Type} (d:α->Nat):Option α->Nat
 |some x=>d x
 |none=>0
theorem mv {α:Type} (l:List α) (c:Nat) (d:α->Nat):((List.range l.length).map fun i=>c+rF (fun x=>d x) l[i]?).sum=c*l.length+(l.map d).sum:=by
 have e:∀l:List α,(List.range l.length).map (fun i=>c+rF (fun x=>d x) l[i]?)=l.map fun x=>c+d x:=by
  intro l
  refine List.ext_getElem (by simp) fun i h1 h2=>?_
  simp only[List.length_map,List.length_range] at h1
  simp [h1,rF]
 rw[e]
 induction l with
 |nil=>simp
 |cons x r ih=>simp only[List.map_cons,List.sum_cons,List.length_cons,ih,Nat.mul_add];omega
theorem I2 {v:Val} (h:jh v=true) (hr : -9223372036854775808<=v.num/\v.num<=9223372036854775807):(eR v).text.size<=40:=by
 simp only[jh,Bool.and_eq_true,decide_eq_true_eq] at h
 unfold eR
 split
 ·exact lW hr.1 hr.2
 ·split
  ·exact h.2.2
  ·split
   ·split<;>exact dD _
   ·exact dD _
theorem A2 {q:ByteArray} (h:d9 q=true):Sm 2 (cF q):=by
 unfold cF
 split
 ·exact Sm.nil.le aa
 ·rename_i hq
  simp only[d9,bK,Bool.or_eq_true,decide_eq_true_eq,hq,false_or] at h
  exact Sm.cons (by show q.size<=40;omega) (Sm.one ah)
theorem GL {q:ByteArray} (h:d9 q=true):Sm 2 (cQ q):=by
 unfold cQ
 split
 ·exact Sm.nil.le aa
 ·rename_i hq
  simp only[d9,bK,Bool.or_eq_true,decide_eq_true_eq,hq,false_or] at h
  exact Sm.cons (dD _) (Sm.one (by show q.size<=40;omega))
theorem uM (b:Bool):Sm 1 (bw b):=Sm.ite (Sm.one (dD _)) (Sm.nil.le aa)
theorem I3 {w:Bool} {n:Nat} {l:List Tok} (h:Sm n l):Sm (n+2) (jP w l):=Sm.ite ((Sm.cons ah (h.app (Sm.one ah))).le aa) (h.le aa)
theorem x5 {kind op:Int} {not:Bool} {val:Val} {qual name:ByteArray} {nk ns:Int} (h:aI kind op not val qual name nk ns=true) :
 cP kind op val qual name=true/\((bV kind).2.2.2.2.1<=nk/\nk<=(bV kind).2.2.2.2.2.1)/\ns=(bV kind).2.2.2.2.2.2:=by
 simp only[aI,Bool.and_eq_true,decide_eq_true_eq] at h
 exact⟨h.1,h.2.2.2.2.2.1,h.2.2.2.2.2.2⟩
theorem j5 {kind op:Int} {not:Bool} {val:Val} {qual name:ByteArray} {nk ns:Int} (h:aI kind op not val qual name nk ns=true) :
 (kind=1/\jh val=true/\nk=0/\ns=0)∨(kind=2/\bK name=true/\d9 qual=true/\nk=0/\ns=0)∨(kind=3/\(op=15∨op=16)/\nk=1/\ns=0)∨(kind=4/\(1<=op/\op<=14)/\nk=2/\ns=0)∨(kind=5/\nk=1/\ns=0)∨(kind=6/\nk=3/\ns=0)∨(kind=7/\(2<=nk/\nk<=9)/\ns=0)∨(kind=8/\nk=1/\ns=1)∨(kind=9/\nk=0/\ns=1):=by
 obtain⟨h1,h6,h7⟩:=x5 h
 clear h
 by_cases k1:kind=1
 ·subst k1;exact .inl ⟨rfl,h1,by have:0<=nk/\nk<=0:=h6;omega,h7⟩
 by_cases k2:kind=2
 ·subst k2
  have h1:(bK name&&d9 qual)=true:=h1
  simp only[Bool.and_eq_true] at h1
  exact .inr (.inl ⟨rfl,h1.1,h1.2,by have:0<=nk/\nk<=0:=h6;omega,h7⟩)
 by_cases k3:kind=3
 ·subst k3
  have h1:(decide (op=15)||decide (op=16))=true:=h1
  simp only[Bool.or_eq_true,decide_eq_true_eq] at h1
  exact .inr (.inr (.inl ⟨rfl,h1,by have:1<=nk/\nk<=1:=h6;omega,h7⟩))
 by_cases k4:kind=4
 ·subst k4
  have h1:decide (1<=op/\op<=14)=true:=h1
  simp only[decide_eq_true_eq] at h1
  exact .inr (.inr (.inr (.inl ⟨rfl,h1,by have:2<=nk/\nk<=2:=h6;omega,h7⟩)))
 simp only[cP,if_neg k1,if_neg k2,if_neg k3,if_neg k4,decide_eq_true_eq] at h1
 rcases (show kind=5∨kind=6∨kind=7∨kind=8∨kind=9 by omega) with rfl|rfl|rfl|rfl|rfl
 ·exact .inr (.inr (.inr (.inr (.inl ⟨rfl,by have:1<=nk/\nk<=1:=h6;omega,h7⟩))))
 ·exact .inr (.inr (.inr (.inr (.inr (.inl ⟨rfl,by have:3<=nk/\nk<=3:=h6;omega,h7⟩)))))
 ·exact .inr (.inr (.inr (.inr (.inr (.inr (.inl ⟨rfl,h6,h7⟩))))))
 ·exact .inr (.inr (.inr (.inr (.inr (.inr (.inr (.inl ⟨rfl,by have:1<=nk/\nk<=1:=h6;omega,h7⟩)))))))
 ·exact .inr (.inr (.inr (.inr (.inr (.inr (.inr (.inr ⟨rfl,by have:0<=nk/\nk<=0:=h6;omega,h7⟩)))))))
theorem jR {gf:Expr->Bool} {kind op:Int} {not:Bool} {val:Val} {qual name:ByteArray} {kids:List Expr} {sub:List Query} (h:tJ gf (.mk kind op not val qual name kids sub)=true) :
 aI kind op not val qual name kids.length sub.length=true/\(∀x∈kids,gf x=true)/\∀q∈sub,hZ gf q=true:=by
 simp only[tJ,Bool.and_eq_true,List.all_eq_true] at h
 exact h
theorem ff {gf:Expr->Bool} {distinct:Bool} {items:List Item} {from_:List Source} {where_:List Expr} {order:List SortKey} {limit:Int} (h:hZ gf (.mk distinct items from_ where_ order limit)=true) :
 (1<=items.length/\items.length<=12)/\(1<=from_.length/\from_.length<=3)/\where_.length<=1/\order.length<=12 /\ -1<=limit/\(∀x∈items,nu x=true)/\(∀i (hi:i<from_.length),nv i from_[i]=true)/\∀x∈exprsQ (.mk distinct items from_ where_ order limit),gf x=true:=by
 simp only[hZ,hdB,Bool.and_eq_true,List.all_eq_true,decide_eq_true_eq] at h
 obtain⟨⟨h1,h2,h3,h4,h5,h6,h7⟩,h8⟩:=h
 refine⟨h1,h2,h3,h4,h5,h6,fun i hi=>?_,h8⟩
 have:=List.all_eq_true.1 h7 i (List.mem_range.2 hi)
 rwa[aD hi] at this
theorem j6 {α:Type} {l:List α} (h:(l.length:Int)=1):∃a,l=[a]:=by
 match l,h with
 | [a],_=>exact⟨a,rfl⟩
 | [],h=>simp at h
 |_::_::_,h=>simp at h;omega
theorem mK {α:Type} {l:List α} (h:(l.length:Int)=0):l=[]:=List.eq_nil_of_length_eq_zero aa
theorem GM {α:Type} {l:List α} (h:(l.length:Int)=2):∃a b,l=[a,b]:=by
 match l,h with
 | [a,b],_=>exact⟨a,b,rfl⟩
 | [],h=>simp at h
 | [_],h=>simp at h
 |_::_::_::_,h=>simp at h;omega
theorem GN {α:Type} {l:List α} (h:(l.length:Int)=3):∃a b c,l=[a,b,c]:=by
 match l,h with
 | [a,b,c],_=>exact⟨a,b,c,rfl⟩
 | [],h=>simp at h
 | [_],h=>simp at h
 | [_,_],h=>simp at h
 |_::_::_::_::_,h=>simp at h;omega
section
variable {gn:Expr->Nat} {g:Expr->List Tok}
def dI (gn:Expr->Nat) (x:Item):Nat:=if x.star=true then 0 else 150*gn x.e
theorem FL {x:Item} (hx:nu x=true) (h:x.star=false->Sm (150*gn x.e) (g x.e)):Sm (3+dI gn x) (cK g x):=by
 obtain⟨star,qual,e,as_⟩:=x
 cases star with
 |true=>
  simp only[nu,if_true,Bool.and_eq_true] at hx
  show Sm _ (cF qual++[Dp])
  exact ((A2 hx.1).app (Sm.one ah)).le (Nat.le_add_right _ _)
 |false=>
  simp only[nu,Bool.false_eq_true,if_false,Bool.and_eq_true] at hx
  show Sm (3+150*gn e) (g e++cQ as_)
  exact ((h rfl).app (GL hx.2)).le (by show 150*gn e+2<=_;omega)
theorem Dq:∀l:List Item,(l.map (dI gn)).sum=150*((aY l).map gn).sum
 | []=>rfl
 |.mk s q e a::r=>by
  have ih:=Dq r
  cases s with
  |true=>
   have h:aY (.mk true q e a::r)=aY r:=rfl
   rw[h,<-ih,List.map_cons,List.sum_cons]
   show 0+_=_;omega
  |false=>
   have h:aY (.mk false q e a::r)=e::aY r:=rfl
   rw[h,List.map_cons,List.sum_cons,List.map_cons,List.sum_cons,Nat.mul_add,<-ih]
   rfl
theorem J3 {l:List Expr} (h:∀x∈l,Sm (150*gn x) (g x)):Sm (1+150*(l.map gn).sum) (rE g l):=by
 cases l with
 |nil=>exact Sm.nil.le (Nat.zero_le _)
 |cons e r=>exact (Sm.cons (dD _) (h e (by simp))).le (by rw[List.map_cons,List.sum_cons];omega)
theorem J4 {l:List Expr} (h:∀x∈l,Sm (150*gn x) (g x)):Sm (1+150*(l.map gn).sum) (nA g l):=by
 cases l with
 |nil=>exact Sm.nil.le (Nat.zero_le _)
 |cons e r=>exact (Sm.cons (dD _) (h e (by simp))).le (by rw[List.map_cons,List.sum_cons];omega)
theorem I4 {x:Source} {i:Nat} (hx:nv i x=true) (h:∀y∈x.on,Sm (150*gn y) (g y)):Sm (5+150*(x.on.map gn).sum) (fy g i x):=by
 obtain⟨table,as_,on⟩:=x
 simp only[nv,Bool.and_eq_true,bK,decide_eq_true_eq] at hx
 show Sm (5+150*(on.map gn).sum) ((if 0<i then (if 0<on.length then [kT 4] else [dQ]) else [])++(nT table::(cQ as_++rE g on)))
 exact ((Sm.ite (Sm.ite (Sm.one (dD _)) (Sm.one ah)) (Sm.nil.le aa:Sm 1 [])).app (Sm.cons (by show table.size<=40;omega) ((GL hx.2.1).app (J3 (l:=on) h)))).le aa
theorem FM {x:SortKey} (h:Sm (150*gn x.e) (g x.e)):Sm (1+150*gn x.e) (iF g x):=by
 obtain⟨e,desc⟩:=x
 exact (Sm.app h (Sm.ite (Sm.one (dD _)) (Sm.nil.le aa:Sm 1 []))).le (by show 150*gn e+1<=1+150*gn e;omega)
theorem FN (l:List Source):(l.map fun x=>150*(x.on.map gn).sum).sum=150*((l.flatMap Source.on).map gn).sum:=by
 induction l with
 |nil=>rfl
 |cons x r ih=>rw[List.map_cons,List.sum_cons,ih,List.flatMap_cons,List.map_append,List.sum_append,Nat.mul_add]
theorem A3 {α:Type} (c:Nat) (f:α->Nat) (l:List α):(l.map fun x=>c*f x).sum=c*(l.map f).sum:=by
 induction l with
 |nil=>rfl
 |cons x r ih=>rw[List.map_cons,List.sum_cons,ih,List.map_cons,List.sum_cons,Nat.mul_add]
theorem FO {gf:Expr->Bool} {q:Query} (hq:hZ gf q=true) (hl:q.lim<=9223372036854775807) (h:∀x∈exprsQ q,Sm (150*gn x) (g x)):Sm (105+150*((exprsQ q).map gn).sum) (dP g q):=by
 obtain⟨distinct,items,from_,where_,order,limit⟩:=q
 obtain⟨⟨_,a1⟩,⟨_,a2⟩,a3,a4,a5,a6,a7,_⟩:=ff hq
 have hl:limit<=9223372036854775807:=hl
 have e:exprsQ (.mk distinct items from_ where_ order limit)=aY items++from_.flatMap Source.on++where_++order.map SortKey.e:=rfl
 rw[e] at h ⊢
 have s1:Sm _ (bd (dd g items) items.length):=Sm.seq (b:=fun i=>4+rF (fun x=>dI gn x) items[i]?) fun i hi=>by
  have hm:=aO hi
  have:=FL (gn:=gn) (g:=g) (a6 _ hm) fun hs=>h _ (by
   simp only[List.mem_append,aY,List.mem_map,List.mem_filter]
   exact .inl (.inl (.inl ⟨_,⟨hm,by rw[hs];rfl⟩,rfl⟩)))
  show Sm _ (jQ i++q8 items (cK g) i)
  rw[ea hi]
  simp only[aD hi,rF]
  exact ((Sm.ite (Sm.one ah) (Sm.nil.le aa:Sm 1 [])).app this).le aa
 have s2:Sm _ (bd (dR g from_) from_.length):=Sm.seq (b:=fun i=>5+rF (fun x=>150*(x.on.map gn).sum) from_[i]?) fun i hi=>by
  have hm:=aO hi
  have:=I4 (gn:=gn) (g:=g) (a7 _ hi) fun y hy=>h _ (by
   simp only[List.mem_append,List.mem_flatMap]
   exact .inl (.inl (.inr ⟨_,hm,hy⟩)))
  show Sm _ (q8 from_ (fy g i) i)
  rw[ea hi]
  simp only[aD hi,rF]
  exact this
 have s3:Sm _ (bd (eY g order) order.length):=Sm.seq (b:=fun i=>3+rF (fun x=>150*gn x.e) order[i]?) fun i hi=>by
  have hm:=aO hi
  have:=FM (gn:=gn) (g:=g) (x:=order[i]) (h _ (by
   simp only[List.mem_append,List.mem_map]
   exact .inr ⟨_,hm,rfl⟩))
  show Sm _ ((if i=0 then [kT 7,kT 8] else [dQ])++q8 order (iF g) i)
  rw[ea hi]
  simp only[aD hi,rF]
  exact ((Sm.ite (Sm.cons (dD _) (Sm.one (dD _))) ((Sm.one ah).le aa)).app this).le aa
 rw[mv items 4 (dI gn),Dq] at s1
 rw[mv from_ 5 (fun x=>150*(x.on.map gn).sum),FN] at s2
 rw[mv order 3 (fun x=>150*gn x.e),show (fun x:SortKey=>150*gn x.e)=(fun x=>150*(fun y:SortKey=>gn y.e) x) from rfl,A3] at s3
 have s4:Sm (1+150*(where_.map gn).sum) (nA g where_):=J4 fun x hx=>h x (by simp [hx])
 have s5:Sm 2 (iR limit):=by
  unfold iR
  split
  ·exact Sm.cons (dD _) (Sm.one (lW aa hl))
  ·exact Sm.nil.le aa
 have e2:((order.map SortKey.e).map gn).sum=(order.map fun y:SortKey=>gn y.e).sum:=by rw[List.map_map];rfl
 rw[List.map_append,List.map_append,List.map_append,List.sum_append,List.sum_append,List.sum_append,e2]
 exact (Sm.cons (dD _) ((Sm.ite (Sm.one (dD _)) (Sm.nil.le aa:Sm 1 [])).app (s1.app (Sm.cons (dD _) (s2.app (s4.app (s3.app s5))))))).le aa
theorem FP {full:Bool} {gf:Expr->Bool} {e:Expr} (hf:tJ gf e=true) (hr:Rg e) (h:∀x,f6 x e->gf x=true->Rg x->Sm (150*gn x) (g x)):Sm (150*zU gn e) (iO full g e):=by
 have hb:∀x,f6 x e->Rg x:=fun x hx=>qp hr hx
 have hsub:∀q∈e.sub,q.lim<=9223372036854775807:=fun q hq=>(uL hr hq).1
 obtain⟨kind,op,not,val,qual,name,kids,sub⟩:=e
 have hnum:=hr.num
 obtain⟨hs,hk,hq⟩:=jR hf
 have hkid:∀k (hk':k<kids.length),Sm (150*gn kids[k]+2) (aP full g kind op kids k):=fun k hk'=>by
  have hm:=aO hk'
  rw[aP,List.getD_eq_getElem?_getD,aD hk']
  exact I3 (h _ (.inl hm) (hk _ hm) (hb _ (.inl hm)))
 have hqs:∀q∈sub,Sm (105+150*((exprsQ q).map gn).sum) (dP g q):=fun q hm=>FO (hq q hm) (hsub q hm) fun x hx=>by
  obtain⟨d,it,fr,wh,od,li⟩:=q
  exact h x (.inr ⟨_,hm,hx⟩) ((ff (hq _ hm)).2.2.2.2.2.2.2 x hx) (hb _ (.inr ⟨_,hm,hx⟩))
 have en:zU gn (.mk kind op not val qual name kids sub)=1+(kids.map gn).sum+(sub.map fun q=>((exprsQ q).map gn).sum).sum:=rfl
 rw[en]
 rcases j5 hs with⟨rfl,hl,hk0,hs0⟩|⟨rfl,hn,hm,hk0,hs0⟩|⟨rfl,ho,hk0,hs0⟩|⟨rfl,ho,hk0,hs0⟩|⟨rfl,hk0,hs0⟩|⟨rfl,hk0,hs0⟩|⟨rfl,hk0,hs0⟩|⟨rfl,hk0,hs0⟩|⟨rfl,hk0,hs0⟩
 ·show Sm _ [eR val]
  exact (Sm.one (I2 hl hnum)).le aa
 ·show Sm _ (cF qual++[nT name])
  simp only[bK,decide_eq_true_eq] at hn
  exact ((A2 hm).app (Sm.one (by show name.size<=40;omega))).le aa
 ·obtain⟨a,rfl⟩:=j6 hk0
  show Sm _ (cy op::aP full g 3 op [a] 0)
  have k0:=hkid 0 (by simp)
  exact (Sm.cons (tK _) k0).le (by simp;omega)
 ·obtain⟨a,b,rfl⟩:=GM hk0
  show Sm _ (aP full g 4 op [a,b] 0++(cy op::aP full g 4 op [a,b] 1))
  have k0:=hkid 0 (by simp)
  have k1:=hkid 1 (by simp)
  exact (k0.app (Sm.cons (tK _) k1)).le (by simp;omega)
 ·obtain⟨a,rfl⟩:=j6 hk0
  show Sm _ (aP full g 5 op [a] 0++(kT 16::(bw not++[kT 20])))
  have k0:=hkid 0 (by simp)
  exact (k0.app (Sm.cons (dD _) ((uM _).app (Sm.one (dD _))))).le (by simp;omega)
 ·obtain⟨a,b,c,rfl⟩:=GN hk0
  show Sm _ (aP full g 6 op [a,b,c] 0++(bw not++(kT 18::(aP full g 6 op [a,b,c] 1++(kT 13::aP full g 6 op [a,b,c] 2)))))
  have k0:=hkid 0 (by simp)
  have k1:=hkid 1 (by simp)
  have k2:=hkid 2 (by simp)
  exact (k0.app ((uM _).app (Sm.cons (dD _) (k1.app (Sm.cons (dD _) k2))))).le (by simp;omega)
 ·obtain⟨a,r,rfl⟩:∃a r,kids=a::r:=by
   cases kids with
   |nil=>simp at hk0
   |cons a r=>exact⟨a,r,rfl⟩
  show Sm _ (aP full g 7 op (a::r) 0++(bw not++(kT 17::iN::(bd (oN full g 7 op (a::r)) r.length++[iQ]))))
  have k0:=hkid 0 (by simp)
  have s1:Sm _ (bd (oN full g 7 op (a::r)) r.length):=Sm.seq (b:=fun i=>3+rF (fun x=>150*gn x) r[i]?) fun i hi=>by
   have k1:=hkid (i+1) (by simpa using hi)
   simp only[aD hi,rF]
   exact ((Sm.ite (Sm.one ah) (Sm.nil.le aa:Sm 1 [])).app k1).le (by simp;omega)
  rw[mv r 3 (fun x=>150*gn x),A3] at s1
  have hr8:r.length<=8:=by simp at hk0;omega
  exact (k0.app ((uM _).app (Sm.cons (dD _) (Sm.cons ah (s1.app (Sm.one ah)))))).le (by simp;omega)
 ·obtain⟨a,rfl⟩:=j6 hk0
  obtain⟨q,rfl⟩:=j6 hs0
  show Sm _ (aP full g 8 op [a] 0++(bw not++(kT 17::iN::(dP g q++[iQ]))))
  have k0:=hkid 0 (by simp)
  have s1:=hqs q (by simp)
  exact (k0.app ((uM _).app (Sm.cons (dD _) (Sm.cons ah (s1.app (Sm.one ah)))))).le (by simp;omega)
 ·obtain⟨q,rfl⟩:=j6 hs0
  show Sm _ (kT 19::iN::(dP g q++[iQ]))
  have s1:=hqs q (by simp)
  exact (Sm.cons (dD _) (Sm.cons ah (s1.app (Sm.one ah)))).le (by simp;omega)
end
theorem yt (full:Bool) (e:Expr):fmE e=true->Rg e->Sm (150*ndE e) (dH full e):=
 ku (F1:=tJ) (F2:=zU) (F3:=iO full) (P:=fun e f n t=>f=true->Rg e->Sm (150*n) t) (fun e gf gn g hg hf hr=>FP hf hr hg) e
theorem rG (c:UInt8) (s:ByteArray):(k8 c s).size<=2*s.size+2:=by
 have:=kb c s.data.toList
 rw[aE] at this
 show ((c::(be c s.data.toList++[c])).toArray).size<=_
 rw[List.size_toArray,List.length_cons,aC,List.length_singleton];omega
theorem A4 {t:Tok} (h:t.text.size<=40):(bU t).size<=300:=by
 have h2:=rG 34 t.text
 have h3:=rG 39 t.text
 unfold bU gA
 (repeat' split)<;>first|omega|exact Nat.zero_le _
theorem I5 {l:List Tok} {n:Nat} (h:Sm n l) (i:Nat):(jn l i).length<=400:=by
 unfold jn
 split
 ·rename_i hi
  have:=A4 (h.2 _ (aO hi))
  rw[aC,aE]
  split<;>simp<;>omega
 ·simp
theorem Dr {l:List Tok} {n:Nat} (h:Sm n l) (hn:n<=100000):(eE l l.length).length<=50000000:=by
 suffices H:∀k,(eE l k).length<=400*k from Nat.le_trans (H _) (by have:=h.1;omega)
 intro k
 induction k with
 |zero=>exact Nat.zero_le _
 |succ k ih=>rw[cV,aC];have:=I5 h k;omega
theorem iS {A B C E:Prop} (k:E) (a:A:=by kernel_rfl) (b:B:=by simp only[maxLen];(try simp only[ll] at *);omega) (c:C:=by (try simp only[ll] at *);omega):A/\(B/\C)/\E:=⟨a,⟨b,c⟩,k⟩
theorem av {p:Prop} (h:p:=by (try simp only[ll] at *);omega):p:=h
end Go.Proofs.YtbodcedhmccenaaGreatDoor
