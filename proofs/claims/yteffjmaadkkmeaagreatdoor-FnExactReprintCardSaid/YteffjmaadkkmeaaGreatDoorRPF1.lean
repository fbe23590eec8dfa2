/-
  Trees in order, first half.
  Conditions: none.
-/
import Derived.Test.YteffjmaadkkmeaaGreatDoorRPB
set_option linter.unusedVariables false
set_option linter.unusedSimpArgs false
set_option linter.unusedSectionVars false
set_option maxRecDepth 8000
namespace Go.Proofs.YteffjmaadkkmeaaGreatDoor
open Go Go.Dv
open Go.Vc (D cY d3 cN bk)
theorem lr (distinct:Bool) (items:List Item) (from_:List Source) (where_:List Expr) (order:List SortKey) (limit:Int) (hsz:aP (Query.mk distinct items from_ where_ order limit)<=1048576):Cl Tryz.prog 182 [.ag (av (Query.mk distinct items from_ where_ order limit).row)] [] fun r _=>r = .c (.sl (exprsQ (Query.mk distinct items from_ where_ order limit)).length ((exprsQ (Query.mk distinct items from_ where_ order limit)).flatMap Expr.row) none):=by
 have hlen:=cA (Query.mk distinct items from_ where_ order limit)
 have q0:exprsQ (Query.mk distinct items from_ where_ order limit)=aN items++from_.flatMap Source.on++where_++order.map SortKey.e:=rfl
 rw[q0] at hlen ⊢
 simp only[aA,List.length_map] at hlen
 have htot:=Nat.le_trans hlen hsz
 have hil:=bY items
 rw[dc,db,cc,az,bK] at hsz
 rw[ar]
 refine ae ab false Tryz.func182 rfl (by kernel_rfl) ?_
 simp only[Tryz.f182,tt,seval]
 refine dLoop.gh [.ren 7 30] ⟨by decide,by decide,?_⟩
 refine dLoop0.intro (fun f L p=>∃(i:Nat) (es:List Expr),f 4=vi i/\f 3 = .c (.s 30 es.length)/\i<=items.length/\es=aN (items.take i)/\L=[(1,.str [.v (.bool distinct),.sl items.length (items.flatMap Item.row) none,.sl from_.length (from_.flatMap Source.row) none,.sl where_.length (where_.flatMap Expr.row) none,.sl order.length (order.flatMap SortKey.row) none,.v (.int .i64 limit)]),(30,.arr 29 es.length (es.flatMap Expr.row) none)]/\p=none) (fun f _ _=>(items.length-aU (f 4)).toNat) [(1,.str [.v (.bool distinct),.sl items.length (items.flatMap Item.row) none,.sl from_.length (from_.flatMap Source.row) none,.sl where_.length (where_.flatMap Expr.row) none,.sl order.length (order.flatMap SortKey.row) none,.v (.int .i64 limit)]),(30,.arr 29 0 [] none)] none ⟨ac rfl (ac rfl (ak _)),al _,?_⟩ ?_
 ·simp only[tt,seval]
  exact⟨0,[],rfl,rfl,by omega,rfl,rfl⟩
 ·rintro g L p ⟨i,es,hi4,h3,hi,hes,rfl,rfl⟩
  simp only[tt,seval] at hi4 h3
  simp only[tt,seval,hi4,Int.ofNat_lt]
  refine fun _=>?_
  refine aa (fun hlt=>?_) (fun hge=>?_)
  ·have hlt:i<items.length:=by omega
   have hst:=im hlt
   have hel:es.length<=items.length:=by rw[hes];exact Nat.le_trans (bY _) (by rw[List.length_take];omega)
   have hei:es.length<=i:=by rw[hes];exact Nat.le_trans (bY _) (by rw[List.length_take];omega)
   obtain⟨it,b5⟩:∃it,it=items[i]:=⟨_,rfl⟩
   rw[<-b5] at hst
   refine⟨by omega,by omega,_,aF Item.row_len (ay hlt),Item.ne _ _,?_⟩
   obtain⟨star,qual,⟨k,o,n,v,q,m,ks,ss⟩,as_⟩:=it
   rw[<-b5,Item.row_mk,ah]
   simp only[tt,seval,hi4,h3,Int.ofNat_lt]
   refine aa (fun hs=>?_) (fun hs=>?_)
   ·have hs:star=false:=by simpa only[Bool.not_eq_true'] using hs
    refine⟨by omega,by omega,_,aF Item.row_len (ay hlt),Item.ne _ _,?_⟩
    rw[<-b5,Item.row_mk,ah]
    simp only[tt,seval,hi4]
    refine⟨by kernel_rfl,⟨by simp only[maxLen];omega,by omega⟩,?_⟩
    have e:es.flatMap Expr.row++[int k,int o,bool n,int v.kind,int v.num,str v.text,str q,str m,.sl ks.length (ks.flatMap Expr.row),.sl ss.length (ss.flatMap Query.row)]=(es++[Expr.mk k o n v q m ks ss]).flatMap Expr.row:=by rw[List.flatMap_append];simp [ah]
    have e2:es.length+1=(es++[Expr.mk k o n v q m ks ss]).length:=by simp
    rw[e,e2]
    try rw[dk i (by omega)]
    exact⟨_,none,ac rfl (ac rfl (ak _)),al _,⟨i+1,_,rfl,rfl,by omega,by rw[hst,hes];subst hs;rfl,rfl,rfl⟩,by simp only[aU];omega⟩
   ·have hs:star=true:=by simpa only[Bool.not_eq_false'] using hs
    try rw[dk i (by omega)]
    exact⟨_,none,ac rfl (ac rfl (ak _)),al _,⟨i+1,es,rfl,rfl,by omega,by rw[hst,hes];subst hs;simp [Item.star],rfl,rfl⟩,by simp only[aU];omega⟩
  ·have hie:i=items.length:=by omega
   subst hie
   rw[List.take_length] at hes
   subst hes
   refine dLoop.gh [.ren 30 45] ⟨by decide,by decide,?_⟩
   refine dLoop0.intro (fun f L p=>∃(i:Nat) (es:List Expr),f 5=vi i/\f 3 = .c (.s 45 es.length)/\i<=from_.length/\es=aN items++(from_.take i).flatMap Source.on/\L=[(1,.str [.v (.bool distinct),.sl items.length (items.flatMap Item.row) none,.sl from_.length (from_.flatMap Source.row) none,.sl where_.length (where_.flatMap Expr.row) none,.sl order.length (order.flatMap SortKey.row) none,.v (.int .i64 limit)]),(45,.arr 29 es.length (es.flatMap Expr.row) none)]/\p=none) (fun f _ _=>(from_.length-aU (f 5)).toNat) [(1,.str [.v (.bool distinct),.sl items.length (items.flatMap Item.row) none,.sl from_.length (from_.flatMap Source.row) none,.sl where_.length (where_.flatMap Expr.row) none,.sl order.length (order.flatMap SortKey.row) none,.v (.int .i64 limit)]),(45,.arr 29 (aN items).length ((aN items).flatMap Expr.row) none)] none ⟨ac rfl (ac rfl (ak _)),al _,?_⟩ ?_
   ·simp only[tt,seval,h3]
    exact⟨0,aN items,rfl,rfl,by omega,by simp,rfl⟩
   ·rintro g L p ⟨i,es,hi5,h3,hi,hes,rfl,rfl⟩
    simp only[tt,seval] at hi5 h3
    simp only[tt,seval,hi5,h3,Int.ofNat_lt]
    refine fun _=>?_
    refine aa (fun hlt=>?_) (fun hge=>?_)
    ·have hlt:i<from_.length:=by omega
     have hst:=ph hlt
     have hel:es.length<=(aN items).length+(from_.flatMap Source.on).length:=by have:=io from_ i;rw[hes,aA];omega
     obtain⟨it,b5⟩:∃it,it=from_[i]:=⟨_,rfl⟩
     rw[<-b5] at hst
     have hon:it.on.length<=1048576:=by
      have h1:=bZ bW (aI hlt)
      rw[<-b5] at h1
      obtain⟨table,as_,on⟩:=it
      rw[cI,az] at h1
      show on.length<=_
      omega
     refine⟨by omega,by omega,_,aF Source.row_len (ay hlt),Source.ne _ _,?_⟩
     obtain⟨table,as_,on⟩:=it
     have hon:on.length<=1048576:=hon
     rw[<-b5,Source.row_mk]
     simp only[tt,seval]
     refine⟨by kernel_rfl,by rw[bn aC],⟨by simp only[maxLen];omega,by omega⟩,?_⟩
     have e2:es.length+on.length=(es++on).length:=by simp
     rw[<-List.flatMap_append,e2]
     try rw[dk i (by omega)]
     exact⟨_,none,ac rfl (ac rfl (ak _)),al _,⟨i+1,_,rfl,rfl,by omega,by rw[hst,hes,aJ];rfl,rfl,rfl⟩,by simp only[aU];omega⟩
    ·have hie:i=from_.length:=by omega
     subst hie
     rw[List.take_length] at hes
     have hel:es.length=(aN items).length+(from_.flatMap Source.on).length:=by rw[hes,aA]
     refine⟨by kernel_rfl,by rw[bn aC],⟨by simp only[maxLen];omega,by omega⟩,?_⟩
     have e2:es.length+where_.length=(es++where_).length:=by simp
     rw[<-List.flatMap_append,e2]
     obtain⟨fs,hfs⟩:∃fs,fs=es++where_:=⟨_,rfl⟩
     have hfl:fs.length=(aN items).length+(from_.flatMap Source.on).length+where_.length:=by rw[hfs,aA,hel]
     have hfs':fs=aN items++from_.flatMap Source.on++where_:=by rw[hfs,hes]
     rw[<-hfs]
     refine dLoop.gh [.ren 49 65] ⟨by decide,by decide,?_⟩
     refine dLoop0.intro (fun f L p=>∃(i:Nat) (es:List Expr),f 6=vi i/\f 3 = .c (.s 65 es.length)/\i<=order.length/\es=fs++(order.take i).map SortKey.e/\L=[(1,.str [.v (.bool distinct),.sl items.length (items.flatMap Item.row) none,.sl from_.length (from_.flatMap Source.row) none,.sl where_.length (where_.flatMap Expr.row) none,.sl order.length (order.flatMap SortKey.row) none,.v (.int .i64 limit)]),(65,.arr 29 es.length (es.flatMap Expr.row) none)]/\p=none) (fun f _ _=>(order.length-aU (f 6)).toNat) [(1,.str [.v (.bool distinct),.sl items.length (items.flatMap Item.row) none,.sl from_.length (from_.flatMap Source.row) none,.sl where_.length (where_.flatMap Expr.row) none,.sl order.length (order.flatMap SortKey.row) none,.v (.int .i64 limit)]),(65,.arr 29 fs.length (fs.flatMap Expr.row) none)] none ⟨ac rfl (ac rfl (ak _)),al _,?_⟩ ?_
     ·simp only[tt,seval]
      exact⟨0,fs,rfl,rfl,by omega,by simp,rfl⟩
     ·rintro g L p ⟨i,es,hi6,h3,hi,hes,rfl,rfl⟩
      simp only[tt,seval] at hi6 h3
      simp only[tt,seval,hi6,h3,Int.ofNat_lt]
      refine fun _=>?_
      refine aa (fun hlt=>?_) (fun hge=>?_)
      ·have hlt:i<order.length:=by omega
       have hst:=mS hlt
       have hel:es.length=fs.length+i:=by rw[hes,aA,List.length_map,List.length_take];omega
       obtain⟨it,b5⟩:∃it,it=order[i]:=⟨_,rfl⟩
       rw[<-b5] at hst
       refine⟨by omega,by omega,_,aF SortKey.row_len (ay hlt),SortKey.ne _ _,?_⟩
       obtain⟨⟨k,o,n,v,q,m,ks,ss⟩,desc⟩:=it
       rw[<-b5,SortKey.row_mk,ah]
       simp only[tt,seval,hi6]
       refine⟨by kernel_rfl,⟨by simp only[maxLen];omega,by omega⟩,?_⟩
       have e:es.flatMap Expr.row++[int k,int o,bool n,int v.kind,int v.num,str v.text,str q,str m,.sl ks.length (ks.flatMap Expr.row),.sl ss.length (ss.flatMap Query.row)]=(es++[Expr.mk k o n v q m ks ss]).flatMap Expr.row:=by rw[List.flatMap_append];simp [ah]
       have e2:es.length+1=(es++[Expr.mk k o n v q m ks ss]).length:=by simp
       rw[e,e2]
       try rw[dk i (by omega)]
       exact⟨_,none,ac rfl (ac rfl (ak _)),al _,⟨i+1,_,rfl,rfl,by omega,by rw[hst,hes,aJ];rfl,rfl,rfl⟩,by simp only[aU];omega⟩
      ·have hie:i=order.length:=by omega
       subst hie
       rw[List.take_length] at hes
       refine⟨_,[],rfl,am ?_⟩
       simp only[tt,seval]
       rw[hes,hfs']
       exact⟨rfl,rfl⟩
theorem qr (distinct:Bool) (items:List Item) (from_:List Source) (where_:List Expr) (order:List SortKey) (limit:Int) (hsz:aP (Query.mk distinct items from_ where_ order limit)<=1048576):Cl Tryz.prog 197 [.ag (av (Query.mk distinct items from_ where_ order limit).row)] [] fun r _=>r = .c (.sl (exprsQ (Query.mk distinct items from_ where_ order limit)).length ((exprsQ (Query.mk distinct items from_ where_ order limit)).flatMap Expr.row) none):=by
 have hlen:=cA (Query.mk distinct items from_ where_ order limit)
 have q0:exprsQ (Query.mk distinct items from_ where_ order limit)=aN items++from_.flatMap Source.on++where_++order.map SortKey.e:=rfl
 rw[q0] at hlen ⊢
 simp only[aA,List.length_map] at hlen
 have htot:=Nat.le_trans hlen hsz
 have hil:=bY items
 rw[dc,db,cc,az,bK] at hsz
 rw[ar]
 refine ae ab false Tryz.func197 rfl (by kernel_rfl) ?_
 simp only[Tryz.f197,tt,seval]
 refine fun _=>?_
 refine dLoop.gh [.ren 10 25] ⟨by decide,by decide,?_⟩
 refine dLoop0.intro (fun f L p=>∃(i:Nat) (es:List Expr),f 14=vi i/\f 3 = .c (.s 25 es.length)/\i<=items.length/\es=aN (items.take i)/\L=[(1,.str [.v (.bool distinct),.sl items.length (items.flatMap Item.row) none,.sl from_.length (from_.flatMap Source.row) none,.sl where_.length (where_.flatMap Expr.row) none,.sl order.length (order.flatMap SortKey.row) none,.v (.int .i64 limit)]),(25,.arr 29 es.length (es.flatMap Expr.row) none)]/\p=none) (fun f _ _=>(items.length-aU (f 14)).toNat) [(1,.str [.v (.bool distinct),.sl items.length (items.flatMap Item.row) none,.sl from_.length (from_.flatMap Source.row) none,.sl where_.length (where_.flatMap Expr.row) none,.sl order.length (order.flatMap SortKey.row) none,.v (.int .i64 limit)]),(25,.arr 29 0 [] none)] none ⟨ac rfl (ac rfl (ak _)),al _,?_⟩ ?_
 ·simp only[tt,seval]
  exact⟨0,[],rfl,rfl,by omega,rfl,rfl⟩
 ·rintro g L p ⟨i,es,hi4,h3,hi,hes,rfl,rfl⟩
  simp only[tt,seval] at hi4 h3
  simp only[tt,seval,hi4,Int.ofNat_lt]
  refine aa (fun hlt=>?_) (fun hge=>?_)
  ·have hlt:i<items.length:=by omega
   have hst:=im hlt
   have hel:es.length<=items.length:=by rw[hes];exact Nat.le_trans (bY _) (by rw[List.length_take];omega)
   have hei:es.length<=i:=by rw[hes];exact Nat.le_trans (bY _) (by rw[List.length_take];omega)
   obtain⟨it,b5⟩:∃it,it=items[i]:=⟨_,rfl⟩
   rw[<-b5] at hst
   refine⟨by omega,by omega,_,aF Item.row_len (ay hlt),Item.ne _ _,?_⟩
   obtain⟨star,qual,⟨k,o,n,v,q,m,ks,ss⟩,as_⟩:=it
   rw[<-b5,Item.row_mk,ah]
   simp only[tt,seval,hi4,h3]
   refine aa (fun hs=>?_) (fun hs=>?_)
   ·have hs:star=false:=by simpa only[Bool.not_eq_true'] using hs
    refine⟨by kernel_rfl,⟨by simp only[maxLen];omega,by omega⟩,?_⟩
    have e:es.flatMap Expr.row++[int k,int o,bool n,int v.kind,int v.num,str v.text,str q,str m,.sl ks.length (ks.flatMap Expr.row),.sl ss.length (ss.flatMap Query.row)]=(es++[Expr.mk k o n v q m ks ss]).flatMap Expr.row:=by rw[List.flatMap_append];simp [ah]
    have e2:es.length+1=(es++[Expr.mk k o n v q m ks ss]).length:=by simp
    rw[e,e2]
    try rw[dk i (by omega)]
    exact⟨_,none,ac rfl (ac rfl (ak _)),al _,⟨i+1,_,rfl,rfl,by omega,by rw[hst,hes];subst hs;rfl,rfl,rfl⟩,by simp only[aU];omega⟩
   ·have hs:star=true:=by simpa only[Bool.not_eq_false'] using hs
    try rw[dk i (by omega)]
    exact⟨_,none,ac rfl (ac rfl (ak _)),al _,⟨i+1,es,rfl,rfl,by omega,by rw[hst,hes];subst hs;simp [Item.star],rfl,rfl⟩,by simp only[aU];omega⟩
  ·have hie:i=items.length:=by omega
   subst hie
   rw[List.take_length] at hes
   subst hes
   refine fun _=>?_
   refine dLoop.gh [.ren 25 37] ⟨by decide,by decide,?_⟩
   refine dLoop0.intro (fun f L p=>∃(i:Nat) (es:List Expr),f 30=vi i/\f 3 = .c (.s 37 es.length)/\i<=from_.length/\es=aN items++(from_.take i).flatMap Source.on/\L=[(1,.str [.v (.bool distinct),.sl items.length (items.flatMap Item.row) none,.sl from_.length (from_.flatMap Source.row) none,.sl where_.length (where_.flatMap Expr.row) none,.sl order.length (order.flatMap SortKey.row) none,.v (.int .i64 limit)]),(37,.arr 29 es.length (es.flatMap Expr.row) none)]/\p=none) (fun f _ _=>(from_.length-aU (f 30)).toNat) [(1,.str [.v (.bool distinct),.sl items.length (items.flatMap Item.row) none,.sl from_.length (from_.flatMap Source.row) none,.sl where_.length (where_.flatMap Expr.row) none,.sl order.length (order.flatMap SortKey.row) none,.v (.int .i64 limit)]),(37,.arr 29 (aN items).length ((aN items).flatMap Expr.row) none)] none ⟨ac rfl (ac rfl (ak _)),al _,?_⟩ ?_
   ·simp only[tt,seval,h3]
    exact⟨0,aN items,rfl,rfl,by omega,by simp,rfl⟩
   ·rintro g L p ⟨i,es,hi5,h3,hi,hes,rfl,rfl⟩
    simp only[tt,seval] at hi5 h3
    simp only[tt,seval,hi5,h3,Int.ofNat_lt]
    refine aa (fun hlt=>?_) (fun hge=>?_)
    ·have hlt:i<from_.length:=by omega
     have hst:=ph hlt
     have hel:es.length<=(aN items).length+(from_.flatMap Source.on).length:=by have:=io from_ i;rw[hes,aA];omega
     obtain⟨it,b5⟩:∃it,it=from_[i]:=⟨_,rfl⟩
     rw[<-b5] at hst
     have hon:it.on.length<=1048576:=by
      have h1:=bZ bW (aI hlt)
      rw[<-b5] at h1
      obtain⟨table,as_,on⟩:=it
      rw[cI,az] at h1
      show on.length<=_
      omega
     refine⟨by omega,by omega,_,aF Source.row_len (ay hlt),Source.ne _ _,?_⟩
     obtain⟨table,as_,on⟩:=it
     have hon:on.length<=1048576:=hon
     rw[<-b5,Source.row_mk]
     simp only[tt,seval]
     refine⟨by kernel_rfl,by rw[bn aC],⟨by simp only[maxLen];omega,by omega⟩,?_⟩
     have e2:es.length+on.length=(es++on).length:=by simp
     rw[<-List.flatMap_append,e2]
     try rw[dk i (by omega)]
     exact⟨_,none,ac rfl (ac rfl (ak _)),al _,⟨i+1,_,rfl,rfl,by omega,by rw[hst,hes,aJ];rfl,rfl,rfl⟩,by simp only[aU];omega⟩
    ·have hie:i=from_.length:=by omega
     subst hie
     rw[List.take_length] at hes
     have hel:es.length=(aN items).length+(from_.flatMap Source.on).length:=by rw[hes,aA]
     refine⟨by kernel_rfl,by rw[bn aC],⟨by simp only[maxLen];omega,by omega⟩,?_⟩
     have e2:es.length+where_.length=(es++where_).length:=by simp
     rw[<-List.flatMap_append,e2]
     obtain⟨fs,hfs⟩:∃fs,fs=es++where_:=⟨_,rfl⟩
     have hfl:fs.length=(aN items).length+(from_.flatMap Source.on).length+where_.length:=by rw[hfs,aA,hel]
     have hfs':fs=aN items++from_.flatMap Source.on++where_:=by rw[hfs,hes]
     rw[<-hfs]
     refine fun _=>?_
     refine dLoop.gh [.ren 42 54] ⟨by decide,by decide,?_⟩
     refine dLoop0.intro (fun f L p=>∃(i:Nat) (es:List Expr),f 46=vi i/\f 3 = .c (.s 54 es.length)/\i<=order.length/\es=fs++(order.take i).map SortKey.e/\L=[(1,.str [.v (.bool distinct),.sl items.length (items.flatMap Item.row) none,.sl from_.length (from_.flatMap Source.row) none,.sl where_.length (where_.flatMap Expr.row) none,.sl order.length (order.flatMap SortKey.row) none,.v (.int .i64 limit)]),(54,.arr 29 es.length (es.flatMap Expr.row) none)]/\p=none) (fun f _ _=>(order.length-aU (f 46)).toNat) [(1,.str [.v (.bool distinct),.sl items.length (items.flatMap Item.row) none,.sl from_.length (from_.flatMap Source.row) none,.sl where_.length (where_.flatMap Expr.row) none,.sl order.length (order.flatMap SortKey.row) none,.v (.int .i64 limit)]),(54,.arr 29 fs.length (fs.flatMap Expr.row) none)] none ⟨ac rfl (ac rfl (ak _)),al _,?_⟩ ?_
     ·simp only[tt,seval]
      exact⟨0,fs,rfl,rfl,by omega,by simp,rfl⟩
     ·rintro g L p ⟨i,es,hi6,h3,hi,hes,rfl,rfl⟩
      simp only[tt,seval] at hi6 h3
      simp only[tt,seval,hi6,h3,Int.ofNat_lt]
      refine aa (fun hlt=>?_) (fun hge=>?_)
      ·have hlt:i<order.length:=by omega
       have hst:=mS hlt
       have hel:es.length=fs.length+i:=by rw[hes,aA,List.length_map,List.length_take];omega
       obtain⟨it,b5⟩:∃it,it=order[i]:=⟨_,rfl⟩
       rw[<-b5] at hst
       refine⟨by omega,by omega,_,aF SortKey.row_len (ay hlt),SortKey.ne _ _,?_⟩
       obtain⟨⟨k,o,n,v,q,m,ks,ss⟩,desc⟩:=it
       rw[<-b5,SortKey.row_mk,ah]
       simp only[tt,seval,hi6]
       refine⟨by kernel_rfl,⟨by simp only[maxLen];omega,by omega⟩,?_⟩
       have e:es.flatMap Expr.row++[int k,int o,bool n,int v.kind,int v.num,str v.text,str q,str m,.sl ks.length (ks.flatMap Expr.row),.sl ss.length (ss.flatMap Query.row)]=(es++[Expr.mk k o n v q m ks ss]).flatMap Expr.row:=by rw[List.flatMap_append];simp [ah]
       have e2:es.length+1=(es++[Expr.mk k o n v q m ks ss]).length:=by simp
       rw[e,e2]
       try rw[dk i (by omega)]
       exact⟨_,none,ac rfl (ac rfl (ak _)),al _,⟨i+1,_,rfl,rfl,by omega,by rw[hst,hes,aJ];rfl,rfl,rfl⟩,by simp only[aU];omega⟩
      ·have hie:i=order.length:=by omega
       subst hie
       rw[List.take_length] at hes
       refine⟨_,[],rfl,am ?_⟩
       simp only[tt,seval]
       rw[hes,hfs']
       exact⟨rfl,rfl⟩
def bz (l:List Nat):Nat:=l.foldl max 0
theorem fQ (l:List Nat) (x:Nat):bz (l++[x])=max (bz l) x:=by simp [bz]
theorem xP {l:List Nat} {b:Nat} (h:∀x∈l,x<=b):bz l<=b:=by
 unfold bz
 suffices H:∀(l:List Nat) (a:Nat),a<=b->(∀x∈l,x<=b)->l.foldl max a<=b from H l 0 (Nat.zero_le _) h
 intro l
 induction l with
 |nil=>exact fun a h _=>h
 |cons y r ih=>exact fun a h hx=>ih _ (Nat.max_le.2 ⟨h,hx y (by simp)⟩) fun x hm=>hx x (by simp [hm])
theorem dh {α:Type} (g:α->Nat) {l:List α} {i:Nat} (h:i<l.length):(l.take (i+1)).map g=(l.take i).map g++[g l[i]]:=by
 rw[List.take_succ_eq_append_getElem h,List.map_append];rfl
theorem DX (a b:Nat):(if (b:Int)>(a:Int) then (b:Int) else (a:Int))=((max a b:Nat):Int):=by split<;>omega
theorem CH {x e:Expr} (h:x∈e.kids):aw x+1<=aw e:=by
 obtain⟨k,o,n,v,q,m,ks,ss⟩:=e
 have h:x∈ks:=h
 rw[dq,az]
 have:=bZ aw h
 have:=List.length_pos_of_mem h
 omega
theorem CI {q:Query} {e:Expr} (h:q∈e.sub):aP q+1<=aw e:=by
 obtain⟨k,o,n,v,q',m,ks,ss⟩:=e
 have h:q∈ss:=h
 rw[dq,cg]
 have:=bZ aP h
 have:=List.length_pos_of_mem h
 omega
theorem rL {x e:Expr} (h:eW x e):aw x+1<=aw e:=by
 rcases h with h|⟨q,hq,h⟩
 ·exact CH h
 ·have:=CI hq;have:=iW h;omega
def DY (g:Expr->Nat) (e:Expr):Nat:=1+bz (e.kids.map g++e.sub.map fun q=>bz ((exprsQ q).map g))
noncomputable def nK:Expr->Nat:=gg DY
theorem xQ {e:Expr} {g:Expr->Nat} (h:∀x,eW x e->g x<=aw x+1):DY g e<=aw e+1:=by
 unfold DY
 have:bz (e.kids.map g++e.sub.map fun q=>bz ((exprsQ q).map g))<=aw e:=xP fun y hy=>by
  rcases List.mem_append.1 hy with hy|hy
  ·obtain⟨x,hx,rfl⟩:=List.mem_map.1 hy
   have:=h x (.inl hx);have:=rL (.inl hx:eW x e);omega
  ·obtain⟨q,hq,rfl⟩:=List.mem_map.1 hy
   refine xP fun z hz=>?_
   obtain⟨x,hx,rfl⟩:=List.mem_map.1 hz
   have:=h x (.inr ⟨q,hq,hx⟩);have:=rL (.inr ⟨q,hq,hx⟩:eW x e);omega
 omega
theorem pn (a b:Nat):Cl Tryz.prog 184 [vi a,vi b] [] fun r _=>r=vi (max a b:Nat):=by
 refine ae ab false Tryz.func184 rfl (by kernel_rfl) ?_
 simp only[Tryz.f184,tt,seval]
 refine aa (fun h=>?_) (fun h=>?_)
 ·exact⟨_,_,gB (by omega),ai rfl⟩
 ·exact⟨_,_,gB (by omega),ai rfl⟩
theorem oO (l:List Expr) (g:Expr->Nat) (h:∀x∈l,Cl Tryz.prog 125 [.ag (av x.row)] [] fun r _=>r=vi (g x:Nat)) (hl:l.length<=1048576):Cl Tryz.prog 196 [.c (.sl l.length (l.flatMap Expr.row) none)] [] fun r _=>r=vi (bz (l.map g):Nat):=by
 refine ae ab false Tryz.func196 rfl (by kernel_rfl) ?_
 simp only[Tryz.f196,tt,seval]
 refine fun _=>?_
 refine dLoop.intro (fun f L p=>∃i:Nat,f 8=vi i/\i<=l.length/\f 3=vi (bz ((l.take i).map g):Nat)/\L=[]/\p=none) (fun f _ _=>(l.length-aU (f 8)).toNat) [] none ⟨ak _,al _,?_⟩ ?_
 ·simp only[tt,seval]
  exact⟨0,rfl,by omega,by simp [bz]⟩
 ·rintro g' L p ⟨i,hix,hi,hac,rfl,rfl⟩
  simp only[tt,seval] at hix hac
  simp only[tt,seval,hix,hac,Int.ofNat_lt]
  refine aa (fun hlt=>?_) (fun hge=>?_)
  ·have hlt:i<l.length:=by omega
   obtain⟨it,b5⟩:∃it,it=l[i]:=⟨_,rfl⟩
   have hmem:it∈l:=by rw[b5];exact aI hlt
   refine⟨by omega,by omega,_,aF aC (ay hlt),Expr.ne _ _,?_⟩
   have hstep:bz ((l.take (i+1)).map g)=max (bz ((l.take i).map g)) (g l[i]):=by rw[dh g hlt,fQ]
   rw[<-b5] at hstep
   obtain⟨k,o,n,v,q,m,ks,ss⟩:=it
   rw[<-b5,ah]
   simp only[tt,seval]
   refine cZ (h _ hmem) ?_ ?_<;>simp only[tt,seval,hix,ah]
   rw[DX,ax (n:=(i:Int)+1) (by omega) (by omega)]
   exact⟨_,none,ak _,al _,⟨i+1,rfl,by omega,gB (by rw[hstep]),rfl,rfl⟩,by simp only[aU];omega⟩
  ·have hie:i=l.length:=by omega
   subst hie
   rw[List.take_length] at hac
   try rw[List.take_length]
   exact⟨_,_,rfl,ai rfl⟩
theorem yM (q:Query) (g:Expr->Nat) (h:∀x∈exprsQ q,Cl Tryz.prog 125 [.ag (av x.row)] [] fun r _=>r=vi (g x:Nat)) (hsz:aP q<=1048576):Cl Tryz.prog 131 [.ag (av q.row)] [] fun r _=>r=vi (bz ((exprsQ q).map g):Nat):=by
 have hlen:=cA q
 obtain⟨distinct,items,from_,where_,order,limit⟩:=q
 rw[ar]
 refine ae ab false Tryz.func131 rfl (by kernel_rfl) ?_
 simp only[Tryz.f131,tt,seval]
 refine cZ (qr distinct items from_ where_ order limit hsz) ?_ ?_<;>simp only[tt,seval,ar]
 generalize exprsQ (Query.mk distinct items from_ where_ order limit)=l at *
 refine cZ (oO l g h (by omega)) ?_ ?_<;>simp only[tt,seval]
 exact⟨_,_,rfl,ai rfl⟩
theorem qY (kind op:Int) (not:Bool) (val:Val) (qual name:ByteArray) (kids:List Expr) (sub:List Query) (g:Expr->Nat) (hg:∀x,eW x (Expr.mk kind op not val qual name kids sub)->(Cl Tryz.prog 125 [.ag (av x.row)] [] fun r _=>r=vi (g x:Nat))/\g x<=aw x+1) (hsz:aw (Expr.mk kind op not val qual name kids sub)<=1048576):Cl Tryz.prog 125 [.ag (av (Expr.mk kind op not val qual name kids sub).row)] [] fun r _=>r=vi (DY g (Expr.mk kind op not val qual name kids sub):Nat):=by
 have hdl:=xQ (g:=g) (fun x hx=>(hg x hx).2)
 have e:DY g (Expr.mk kind op not val qual name kids sub)=1+bz (kids.map g++sub.map fun q=>bz ((exprsQ q).map g)):=rfl
 rw[e] at hdl ⊢
 rw[ah]
 refine ae ab false Tryz.func125 rfl (by kernel_rfl) ?_
 simp only[Tryz.f125,tt,seval]
 refine fun _=>?_
 refine dLoop.intro (fun f L p=>∃i:Nat,f 11=vi i/\i<=kids.length/\f 3=vi (bz ((kids.take i).map g):Nat)/\L=[(1,.str [.v (.int .i64 kind),.v (.int .i64 op),.v (.bool not),.v (.int .i64 val.kind),.v (.int .i64 val.num),.v (.string val.text),.v (.string qual),.v (.string name),.sl kids.length (kids.flatMap Expr.row) none,.sl sub.length (sub.flatMap Query.row) none])]/\p=none) (fun f _ _=>(kids.length-aU (f 11)).toNat) [(1,.str [.v (.int .i64 kind),.v (.int .i64 op),.v (.bool not),.v (.int .i64 val.kind),.v (.int .i64 val.num),.v (.string val.text),.v (.string qual),.v (.string name),.sl kids.length (kids.flatMap Expr.row) none,.sl sub.length (sub.flatMap Query.row) none])] none ⟨ac rfl (ak _),al _,?_⟩ ?_
 ·simp only[tt,seval]
  exact⟨0,rfl,by omega,by simp [bz]⟩
 ·rintro g' L p ⟨i,hix,hi,hac,rfl,rfl⟩
  simp only[tt,seval] at hix hac
  simp only[tt,seval,hix,hac,Int.ofNat_lt]
  refine aa (fun hlt=>?_) (fun hge=>?_)
  ·have hlt:i<kids.length:=by omega
   obtain⟨it,b5⟩:∃it,it=kids[i]:=⟨_,rfl⟩
   have hmem:it∈kids:=by rw[b5];exact aI hlt
   refine⟨by omega,by omega,_,aF aC (ay hlt),Expr.ne _ _,?_⟩
   have hstep:bz ((kids.take (i+1)).map g)=max (bz ((kids.take i).map g)) (g kids[i]):=by rw[dh g hlt,fQ]
   rw[<-b5] at hstep
   obtain⟨k,o,n,v,q,m,ks,ss⟩:=it
   rw[<-b5,ah]
   simp only[tt,seval]
   refine cZ ((hg _ (.inl hmem)).1) ?_ ?_<;>simp only[tt,seval,hix,ah]
   rw[DX,ax (n:=(i:Int)+1) (by omega) (by omega)]
   exact⟨_,none,ac rfl (ak _),al _,⟨i+1,rfl,by omega,gB (by rw[hstep]),rfl,rfl⟩,by simp only[aU];omega⟩
  ·have hie:i=kids.length:=by omega
   subst hie
   rw[List.take_length] at hac
   refine fun _=>?_
   refine dLoop.intro (fun f L p=>∃i:Nat,f 23=vi i/\i<=sub.length/\f 3=vi (bz (kids.map g++(sub.take i).map fun q=>bz ((exprsQ q).map g)):Nat)/\L=[(1,.str [.v (.int .i64 kind),.v (.int .i64 op),.v (.bool not),.v (.int .i64 val.kind),.v (.int .i64 val.num),.v (.string val.text),.v (.string qual),.v (.string name),.sl kids.length (kids.flatMap Expr.row) none,.sl sub.length (sub.flatMap Query.row) none])]/\p=none) (fun f _ _=>(sub.length-aU (f 23)).toNat) [(1,.str [.v (.int .i64 kind),.v (.int .i64 op),.v (.bool not),.v (.int .i64 val.kind),.v (.int .i64 val.num),.v (.string val.text),.v (.string qual),.v (.string name),.sl kids.length (kids.flatMap Expr.row) none,.sl sub.length (sub.flatMap Query.row) none])] none ⟨ac rfl (ak _),al _,?_⟩ ?_
   ·simp only[tt,seval,hac]
    exact⟨0,rfl,by omega,by simp [bz]⟩
   ·rintro g' L p ⟨i,hix,hi,hac,rfl,rfl⟩
    simp only[tt,seval] at hix hac
    simp only[tt,seval,hix,hac,Int.ofNat_lt]
    refine aa (fun hlt=>?_) (fun hge=>?_)
    ·have hlt:i<sub.length:=by omega
     obtain⟨it,b5⟩:∃it,it=sub[i]:=⟨_,rfl⟩
     have hmem:it∈sub:=by rw[b5];exact aI hlt
     refine⟨by omega,by omega,_,aF Query.row_len (ay hlt),Query.ne _ _,?_⟩
     have hstep:bz (kids.map g++(sub.take (i+1)).map fun q=>bz ((exprsQ q).map g))=max (bz (kids.map g++(sub.take i).map fun q=>bz ((exprsQ q).map g))) (bz ((exprsQ sub[i]).map g)):=by rw[dh _ hlt,<-aJ,fQ]
     rw[<-b5] at hstep
     obtain⟨ds,its,frs,whs,ods,lim⟩:=it
     rw[<-b5,ar]
     simp only[tt,seval]
     refine cZ (yM (Query.mk ds its frs whs ods lim) g (fun x hx=>(hg x (.inr ⟨_,hmem,hx⟩)).1) (Nat.le_trans (jx (e:=(Expr.mk kind op not val qual name kids sub)) hmem) hsz)) ?_ ?_<;>simp only[tt,seval,hix,ar]
     rw[DX,ax (n:=(i:Int)+1) (by omega) (by omega)]
     exact⟨_,none,ac rfl (ak _),al _,⟨i+1,rfl,by omega,gB (by rw[hstep]),rfl,rfl⟩,by simp only[aU];omega⟩
    ·have hie:i=sub.length:=by omega
     subst hie
     rw[List.take_length] at hac
     try rw[List.take_length]
     rw[ax (by omega) (by omega)]
     exact⟨_,_,gB (by omega),ai rfl⟩
theorem wo (e:Expr):(aw e<=1048576->Cl Tryz.prog 125 [.ag (av e.row)] [] fun r _=>r=vi (nK e:Nat))/\nK e<=aw e+1:=by
 refine fM (P:=fun e d=>(aw e<=1048576->Cl Tryz.prog 125 [.ag (av e.row)] [] fun r _=>r=vi (d:Nat))/\d<=aw e+1) (fun e g hg=>⟨fun hsz=>?_,xQ fun x hx=>(hg x hx).2⟩) e
 obtain⟨kind,op,not,val,qual,name,kids,sub⟩:=e
 exact qY kind op not val qual name kids sub g (fun x hx=>⟨(hg x hx).1 (Nat.le_trans (fj hx) hsz),(hg x hx).2⟩) hsz
theorem v8 (q:Query) (g:Expr->Nat) (h:∀x∈exprsQ q,Cl Tryz.prog 122 [.ag (av x.row)] [] fun r _=>r=vi (g x:Nat)) (hsz:aP q<=1048576):Cl Tryz.prog 129 [.ag (av q.row)] [] fun r _=>r=vi (bz ((exprsQ q).map g):Nat):=by
 have hlen:=cA q
 obtain⟨distinct,items,from_,where_,order,limit⟩:=q
 rw[ar]
 refine ae ab false Tryz.func129 rfl (by kernel_rfl) ?_
 simp only[Tryz.f129,tt,seval]
 refine cZ (lr distinct items from_ where_ order limit hsz) ?_ ?_<;>simp only[tt,seval,ar]
 generalize exprsQ (Query.mk distinct items from_ where_ order limit)=l at *
 refine dLoop.intro (fun f L p=>∃i:Nat,f 5=vi i/\i<=l.length/\f 3=vi (bz ((l.take i).map g):Nat)/\L=[(1,.str [.v (.bool distinct),.sl items.length (items.flatMap Item.row) none,.sl from_.length (from_.flatMap Source.row) none,.sl where_.length (where_.flatMap Expr.row) none,.sl order.length (order.flatMap SortKey.row) none,.v (.int .i64 limit)])]/\p=none) (fun f _ _=>(l.length-aU (f 5)).toNat) [(1,.str [.v (.bool distinct),.sl items.length (items.flatMap Item.row) none,.sl from_.length (from_.flatMap Source.row) none,.sl where_.length (where_.flatMap Expr.row) none,.sl order.length (order.flatMap SortKey.row) none,.v (.int .i64 limit)])] none ⟨ac rfl (ak _),al _,?_⟩ ?_
 ·simp only[tt,seval]
  exact⟨0,rfl,by omega,by simp [bz]⟩
 ·rintro g' L p ⟨i,hix,hi,hac,rfl,rfl⟩
  simp only[tt,seval] at hix hac
  simp only[tt,seval,hix,hac,Int.ofNat_lt]
  refine fun _=>?_
  refine aa (fun hlt=>?_) (fun hge=>?_)
  ·have hlt:i<l.length:=by omega
   have hmem:l[i]∈l:=aI hlt
   refine⟨by omega,by omega,_,aF aC (ay hlt),Expr.ne _ _,?_⟩
   simp only[seval,Expr.tk,aC]
   refine cZ (h _ hmem) ?_ ?_<;>simp only[tt,seval]
   refine cZ (pn (bz ((l.take i).map g)) (g l[i])) ?_ ?_<;>simp only[tt,seval,hix]
   rw[dk i (by omega)]
   have hstep:bz ((l.take (i+1)).map g)=max (bz ((l.take i).map g)) (g l[i]):=by rw[dh g hlt,fQ]
   exact⟨_,none,ac rfl (ak _),al _,⟨i+1,rfl,by omega,gB (by rw[hstep]),rfl,rfl⟩,by simp only[aU];omega⟩
  ·have hie:i=l.length:=by omega
   subst hie
   rw[List.take_length] at hac
   try rw[List.take_length]
   exact⟨_,_,rfl,ai rfl⟩
theorem tc (kind op:Int) (not:Bool) (val:Val) (qual name:ByteArray) (kids:List Expr) (sub:List Query) (g:Expr->Nat) (hg:∀x,eW x (Expr.mk kind op not val qual name kids sub)->(Cl Tryz.prog 122 [.ag (av x.row)] [] fun r _=>r=vi (g x:Nat))/\g x<=aw x+1) (hsz:aw (Expr.mk kind op not val qual name kids sub)<=1048576):Cl Tryz.prog 122 [.ag (av (Expr.mk kind op not val qual name kids sub).row)] [] fun r _=>r=vi (DY g (Expr.mk kind op not val qual name kids sub):Nat):=by
 have hdl:=xQ (g:=g) (fun x hx=>(hg x hx).2)
 have e:DY g (Expr.mk kind op not val qual name kids sub)=1+bz (kids.map g++sub.map fun q=>bz ((exprsQ q).map g)):=rfl
 rw[e] at hdl ⊢
 rw[ah]
 refine ae ab false Tryz.func122 rfl (by kernel_rfl) ?_
 simp only[Tryz.f122,tt,seval]
 refine dLoop.intro (fun f L p=>∃i:Nat,f 4=vi i/\i<=kids.length/\f 3=vi (bz ((kids.take i).map g):Nat)/\L=[(1,.str [.v (.int .i64 kind),.v (.int .i64 op),.v (.bool not),.v (.int .i64 val.kind),.v (.int .i64 val.num),.v (.string val.text),.v (.string qual),.v (.string name),.sl kids.length (kids.flatMap Expr.row) none,.sl sub.length (sub.flatMap Query.row) none])]/\p=none) (fun f _ _=>(kids.length-aU (f 4)).toNat) [(1,.str [.v (.int .i64 kind),.v (.int .i64 op),.v (.bool not),.v (.int .i64 val.kind),.v (.int .i64 val.num),.v (.string val.text),.v (.string qual),.v (.string name),.sl kids.length (kids.flatMap Expr.row) none,.sl sub.length (sub.flatMap Query.row) none])] none ⟨ac rfl (ak _),al _,?_⟩ ?_
 ·simp only[tt,seval]
  exact⟨0,rfl,by omega,by simp [bz]⟩
 ·rintro g' L p ⟨i,hix,hi,hac,rfl,rfl⟩
  simp only[tt,seval] at hix hac
  simp only[tt,seval,hix,hac,Int.ofNat_lt]
  refine fun _=>?_
  refine aa (fun hlt=>?_) (fun hge=>?_)
  ·have hlt:i<kids.length:=by omega
   have hmem:kids[i]∈kids:=aI hlt
   refine⟨by omega,by omega,_,aF aC (ay hlt),Expr.ne _ _,?_⟩
   simp only[seval,Expr.tk,aC]
   refine cZ ((hg _ (.inl hmem)).1) ?_ ?_<;>simp only[tt,seval]
   refine cZ (pn (bz ((kids.take i).map g)) (g kids[i])) ?_ ?_<;>simp only[tt,seval,hix]
   rw[dk i (by omega)]
   have hstep:bz ((kids.take (i+1)).map g)=max (bz ((kids.take i).map g)) (g kids[i]):=by rw[dh g hlt,fQ]
   exact⟨_,none,ac rfl (ak _),al _,⟨i+1,rfl,by omega,gB (by rw[hstep]),rfl,rfl⟩,by simp only[aU];omega⟩
  ·have hie:i=kids.length:=by omega
   subst hie
   rw[List.take_length] at hac
   refine dLoop.intro (fun f L p=>∃i:Nat,f 5=vi i/\i<=sub.length/\f 3=vi (bz (kids.map g++(sub.take i).map fun q=>bz ((exprsQ q).map g)):Nat)/\L=[(1,.str [.v (.int .i64 kind),.v (.int .i64 op),.v (.bool not),.v (.int .i64 val.kind),.v (.int .i64 val.num),.v (.string val.text),.v (.string qual),.v (.string name),.sl kids.length (kids.flatMap Expr.row) none,.sl sub.length (sub.flatMap Query.row) none])]/\p=none) (fun f _ _=>(sub.length-aU (f 5)).toNat) [(1,.str [.v (.int .i64 kind),.v (.int .i64 op),.v (.bool not),.v (.int .i64 val.kind),.v (.int .i64 val.num),.v (.string val.text),.v (.string qual),.v (.string name),.sl kids.length (kids.flatMap Expr.row) none,.sl sub.length (sub.flatMap Query.row) none])] none ⟨ac rfl (ak _),al _,?_⟩ ?_
   ·simp only[tt,seval,hac]
    exact⟨0,rfl,by omega,by simp [bz]⟩
   ·rintro g' L p ⟨i,hix,hi,hac,rfl,rfl⟩
    simp only[tt,seval] at hix hac
    simp only[tt,seval,hix,hac,Int.ofNat_lt]
    refine fun _=>?_
    refine aa (fun hlt=>?_) (fun hge=>?_)
    ·have hlt:i<sub.length:=by omega
     have hmem:sub[i]∈sub:=aI hlt
     refine⟨by omega,by omega,_,aF Query.row_len (ay hlt),Query.ne _ _,?_⟩
     simp only[seval,Query.tk,Query.row_len]
     refine cZ (v8 (sub[i]) g (fun x hx=>(hg x (.inr ⟨_,hmem,hx⟩)).1) (Nat.le_trans (jx (e:=(Expr.mk kind op not val qual name kids sub)) hmem) hsz)) ?_ ?_<;>simp only[tt,seval]
     refine cZ (pn (bz (kids.map g++(sub.take i).map fun q=>bz ((exprsQ q).map g))) (bz ((exprsQ sub[i]).map g))) ?_ ?_<;>simp only[tt,seval,hix]
     rw[dk i (by omega)]
     have hstep:bz (kids.map g++(sub.take (i+1)).map fun q=>bz ((exprsQ q).map g))=max (bz (kids.map g++(sub.take i).map fun q=>bz ((exprsQ q).map g))) (bz ((exprsQ sub[i]).map g)):=by rw[dh _ hlt,<-aJ,fQ]
     exact⟨_,none,ac rfl (ak _),al _,⟨i+1,rfl,by omega,gB (by rw[hstep]),rfl,rfl⟩,by simp only[aU];omega⟩
    ·have hie:i=sub.length:=by omega
     subst hie
     rw[List.take_length] at hac
     try rw[List.take_length]
     rw[ax (by omega) (by omega)]
     exact⟨_,_,gB (by omega),ai rfl⟩
theorem ot (e:Expr):(aw e<=1048576->Cl Tryz.prog 122 [.ag (av e.row)] [] fun r _=>r=vi (nK e:Nat))/\nK e<=aw e+1:=by
 refine fM (P:=fun e d=>(aw e<=1048576->Cl Tryz.prog 122 [.ag (av e.row)] [] fun r _=>r=vi (d:Nat))/\d<=aw e+1) (fun e g hg=>⟨fun hsz=>?_,xQ fun x hx=>(hg x hx).2⟩) e
 obtain⟨kind,op,not,val,qual,name,kids,sub⟩:=e
 exact tc kind op not val qual name kids sub g (fun x hx=>⟨(hg x hx).1 (Nat.le_trans (fj hx) hsz),(hg x hx).2⟩) hsz
def xR (g:Expr->Nat) (e:Expr):Nat:=1+(e.kids.map g).sum+(e.sub.map fun q=>((exprsQ q).map g).sum).sum
noncomputable def iw:Expr->Nat:=gg xR
theorem ft {α:Type} (g:α->Nat) {l:List α} {i:Nat} (h:i<l.length):((l.take (i+1)).map g).sum=((l.take i).map g).sum+g l[i]:=qM g h
theorem jG {α:Type} {f g:α->Nat}:∀ {l:List α},(∀x∈l,f x<=g x)->(l.map f).sum<=(l.map g).sum
 | [],_=>Nat.le_refl _
 |x::r,h=>by
  have h1:=h x (by simp)
  have h2:=jG (l:=r) fun y hy=>h y (by simp [hy])
  simp only[List.map_cons,List.sum_cons];omega
theorem gp {α:Type} (f:α->Nat):∀l:List α,(l.map fun x=>f x+1).sum=l.length+(l.map f).sum
 | []=>rfl
 |x::r=>by simp only[List.map_cons,List.sum_cons,gp f r,List.length_cons];omega
theorem qt:∀l:List Item,((aN l).map fun x=>aw x+1).sum<=ij l
 | []=>by simp [aN]
 |.mk s q e a::r=>by
  have:=qt r
  rw[ij,nP]
  cases s with
  |true=>
   have h:aN (.mk true q e a::r)=aN r:=rfl
   rw[h];omega
  |false=>
   have h:aN (.mk false q e a::r)=e::aN r:=rfl
   rw[h,List.map_cons,List.sum_cons];omega
theorem B6:∀l:List Source,((l.flatMap Source.on).map fun x=>aw x+1).sum<=cK l
 | []=>by simp
 |.mk t a o::r=>by
  have:=B6 r
  rw[cK,cI,List.flatMap_cons,List.map_append,List.sum_append,az]
  have h:(Source.mk t a o).on=o:=rfl
  rw[h,gp];omega
theorem xS:∀l:List SortKey,((l.map SortKey.e).map fun x=>aw x+1).sum<=ec l
 | []=>by simp
 |.mk e d::r=>by
  have:=xS r
  rw[ec,jp,List.map_cons,List.map_cons,List.sum_cons]
  have h:(SortKey.mk e d).e=e:=rfl
  rw[h];omega
theorem mv (q:Query):((exprsQ q).map fun x=>aw x+1).sum<=aP q:=by
 obtain⟨d,it,fr,wh,or,li⟩:=q
 have h1:=qt it
 have h2:=B6 fr
 have h3:=xS or
 rw[dc,az]
 have e:exprsQ (.mk d it fr wh or li)=aN it++fr.flatMap Source.on++wh++or.map SortKey.e:=rfl
 rw[e,List.map_append,List.map_append,List.map_append,List.sum_append,List.sum_append,List.sum_append,gp aw wh]
 omega
theorem xT {e:Expr} {g:Expr->Nat} (h:∀x,eW x e->g x<=aw x+1):xR g e<=aw e+1:=by
 obtain⟨k,o,n,v,q,m,ks,ss⟩:=e
 have e1:xR g (.mk k o n v q m ks ss)=1+(ks.map g).sum+(ss.map fun q=>((exprsQ q).map g).sum).sum:=rfl
 rw[e1,dq,az,cg]
 have h1:=jG (l:=ks) (f:=g) (g:=fun x=>aw x+1) fun x hx=>h x (.inl hx)
 have h2:=jG (l:=ss) (f:=fun q=>((exprsQ q).map g).sum) (g:=aP) fun q hq=>Nat.le_trans (jG fun x hx=>h x (.inr ⟨q,hq,hx⟩)) (mv q)
 rw[gp] at h1
 omega
theorem kK (l:List Expr) (g:Expr->Nat) (h:∀x∈l,Cl Tryz.prog 126 [.ag (av x.row)] [] fun r _=>r=vi (g x:Nat)) (hl:l.length<=1048576) (hs:(l.map g).sum<=2097152):Cl Tryz.prog 187 [.c (.sl l.length (l.flatMap Expr.row) none)] [] fun r _=>r=vi ((l.map g).sum:Nat):=by
 refine ae ab false Tryz.func187 rfl (by kernel_rfl) ?_
 simp only[Tryz.f187,tt,seval]
 refine fun _=>?_
 refine dLoop.intro (fun f L p=>∃i:Nat,f 8=vi i/\i<=l.length/\f 3=vi (((l.take i).map g).sum:Nat)/\L=[]/\p=none) (fun f _ _=>(l.length-aU (f 8)).toNat) [] none ⟨ak _,al _,?_⟩ ?_
 ·simp only[tt,seval]
  exact⟨0,rfl,by omega,by simp []⟩
 ·rintro g' L p ⟨i,hix,hi,hac,rfl,rfl⟩
  simp only[tt,seval] at hix hac
  simp only[tt,seval,hix,hac,Int.ofNat_lt]
  refine aa (fun hlt=>?_) (fun hge=>?_)
  ·have hlt:i<l.length:=by omega
   obtain⟨it,b5⟩:∃it,it=l[i]:=⟨_,rfl⟩
   have hmem:it∈l:=by rw[b5];exact aI hlt
   refine⟨by omega,by omega,_,aF aC (ay hlt),Expr.ne _ _,?_⟩
   have hstep:((l.take (i+1)).map g).sum=((l.take i).map g).sum+g l[i]:=ft g hlt
   rw[<-b5] at hstep
   obtain⟨k,o,n,v,q,m,ks,ss⟩:=it
   rw[<-b5,ah]
   simp only[tt,seval]
   refine cZ (h _ hmem) ?_ ?_<;>simp only[tt,seval,hix,ah]
   obtain⟨rst,hrst⟩:=d4 g l (i+1)
   rw[dk i (by omega)]
   rw[ax (by omega) (by omega)]
   exact⟨_,none,ak _,al _,⟨i+1,rfl,by omega,gB (by rw[hstep];omega),rfl,rfl⟩,by simp only[aU];omega⟩
  ·have hie:i=l.length:=by omega
   subst hie
   rw[List.take_length] at hac
   try rw[List.take_length]
   exact⟨_,_,rfl,ai rfl⟩
theorem vc (q:Query) (g:Expr->Nat) (h:∀x∈exprsQ q,Cl Tryz.prog 126 [.ag (av x.row)] [] fun r _=>r=vi (g x:Nat)) (hsz:aP q<=1048576) (hs:((exprsQ q).map g).sum<=2097152):Cl Tryz.prog 132 [.ag (av q.row)] [] fun r _=>r=vi (((exprsQ q).map g).sum:Nat):=by
 have hlen:=cA q
 obtain⟨distinct,items,from_,where_,order,limit⟩:=q
 rw[ar]
 refine ae ab false Tryz.func132 rfl (by kernel_rfl) ?_
 simp only[Tryz.f132,tt,seval]
 refine cZ (qr distinct items from_ where_ order limit hsz) ?_ ?_<;>simp only[tt,seval,ar]
 generalize exprsQ (Query.mk distinct items from_ where_ order limit)=l at *
 refine cZ (kK l g h (by omega) hs) ?_ ?_<;>simp only[tt,seval]
 exact⟨_,_,rfl,ai rfl⟩
theorem vd (kind op:Int) (not:Bool) (val:Val) (qual name:ByteArray) (kids:List Expr) (sub:List Query) (g:Expr->Nat) (hg:∀x,eW x (Expr.mk kind op not val qual name kids sub)->(Cl Tryz.prog 126 [.ag (av x.row)] [] fun r _=>r=vi (g x:Nat))/\g x<=aw x+1) (hsz:aw (Expr.mk kind op not val qual name kids sub)<=1048576):Cl Tryz.prog 126 [.ag (av (Expr.mk kind op not val qual name kids sub).row)] [] fun r _=>r=vi (xR g (Expr.mk kind op not val qual name kids sub):Nat):=by
 have hdl:=xT (g:=g) (fun x hx=>(hg x hx).2)
 have hks:=hsz
 rw[dq,az,cg] at hks
 have e:xR g (Expr.mk kind op not val qual name kids sub)=1+(kids.map g).sum+(sub.map fun q=>((exprsQ q).map g).sum).sum:=rfl
 rw[e] at hdl ⊢
 rw[ah]
 refine ae ab false Tryz.func126 rfl (by kernel_rfl) ?_
 simp only[Tryz.f126,tt,seval]
 refine cZ (kK kids g (fun x hx=>(hg x (.inl hx)).1) (by omega) (by omega)) ?_ ?_<;>simp only[tt,seval]
 rw[ax (by omega) (by omega)]
 refine fun _=>?_
 refine dLoop.intro (fun f L p=>∃i:Nat,f 13=vi i/\i<=sub.length/\f 3=vi ((1+(kids.map g).sum+((sub.take i).map fun q=>((exprsQ q).map g).sum).sum):Nat)/\L=[(1,.str [.v (.int .i64 kind),.v (.int .i64 op),.v (.bool not),.v (.int .i64 val.kind),.v (.int .i64 val.num),.v (.string val.text),.v (.string qual),.v (.string name),.sl kids.length (kids.flatMap Expr.row) none,.sl sub.length (sub.flatMap Query.row) none])]/\p=none) (fun f _ _=>(sub.length-aU (f 13)).toNat) [(1,.str [.v (.int .i64 kind),.v (.int .i64 op),.v (.bool not),.v (.int .i64 val.kind),.v (.int .i64 val.num),.v (.string val.text),.v (.string qual),.v (.string name),.sl kids.length (kids.flatMap Expr.row) none,.sl sub.length (sub.flatMap Query.row) none])] none ⟨ac rfl (ak _),al _,?_⟩ ?_
 ·simp only[tt,seval]
  exact⟨0,rfl,by omega,by simp⟩
 ·rintro g' L p ⟨i,hix,hi,hac,rfl,rfl⟩
  simp only[tt,seval] at hix hac
  simp only[tt,seval,hix,hac,Int.ofNat_lt]
  refine aa (fun hlt=>?_) (fun hge=>?_)
  ·have hlt:i<sub.length:=by omega
   obtain⟨it,b5⟩:∃it,it=sub[i]:=⟨_,rfl⟩
   have hmem:it∈sub:=by rw[b5];exact aI hlt
   refine⟨by omega,by omega,_,aF Query.row_len (ay hlt),Query.ne _ _,?_⟩
   have hstep:((sub.take (i+1)).map fun q=>((exprsQ q).map g).sum).sum=((sub.take i).map fun q=>((exprsQ q).map g).sum).sum+((exprsQ sub[i]).map g).sum:=ft _ hlt
   rw[<-b5] at hstep
   obtain⟨ds,its,frs,whs,ods,lim⟩:=it
   rw[<-b5,ar]
   simp only[tt,seval]
   obtain⟨rst,hrst⟩:=d4 (fun q=>((exprsQ q).map g).sum) sub (i+1)
   refine cZ (vc (Query.mk ds its frs whs ods lim) g (fun x hx=>(hg x (.inr ⟨_,hmem,hx⟩)).1) (Nat.le_trans (jx (e:=(Expr.mk kind op not val qual name kids sub)) hmem) hsz) (by omega)) ?_ ?_<;>simp only[tt,seval,hix,ar]
   rw[dk i (by omega)]
   rw[ax (by omega) (by omega)]
   exact⟨_,none,ac rfl (ak _),al _,⟨i+1,rfl,by omega,gB (by rw[hstep];omega),rfl,rfl⟩,by simp only[aU];omega⟩
  ·have hie:i=sub.length:=by omega
   subst hie
   rw[List.take_length] at hac
   try rw[List.take_length]
   exact⟨_,_,rfl,ai rfl⟩
theorem jc (e:Expr):(aw e<=1048576->Cl Tryz.prog 126 [.ag (av e.row)] [] fun r _=>r=vi (iw e:Nat))/\iw e<=aw e+1:=by
 refine fM (P:=fun e d=>(aw e<=1048576->Cl Tryz.prog 126 [.ag (av e.row)] [] fun r _=>r=vi (d:Nat))/\d<=aw e+1) (fun e g hg=>⟨fun hsz=>?_,xT fun x hx=>(hg x hx).2⟩) e
 obtain⟨kind,op,not,val,qual,name,kids,sub⟩:=e
 exact vd kind op not val qual name kids sub g (fun x hx=>⟨(hg x hx).1 (Nat.le_trans (fj hx) hsz),(hg x hx).2⟩) hsz
theorem yN (q:Query) (hsz:aP q<=1048576):Cl Tryz.prog 182 [.ag (av q.row)] [] fun r _=>r = .c (.sl (exprsQ q).length ((exprsQ q).flatMap Expr.row) none):=by
 obtain⟨distinct,items,from_,where_,order,limit⟩:=q
 exact lr distinct items from_ where_ order limit hsz
theorem B7 {l:Int} (h:0<=l):cv l 1=l-1:=by unfold cv;split<;>omega
theorem ve (kind op:Int) (not:Bool) (val:Val) (qual name:ByteArray) (kids:List Expr) (sub:List Query) (g:Expr->Nat) (hg:∀x,eW x (Expr.mk kind op not val qual name kids sub)->∀l:Int,0<=l->l<=200->Cl Tryz.prog 120 [.ag (av x.row),vi l] [] fun r _=>r=vi (cv l (g x))) (hsz:aw (Expr.mk kind op not val qual name kids sub)<=1048576) (l0:Int) (hl0:0<=l0) (hl1:l0<=200):Cl Tryz.prog 120 [.ag (av (Expr.mk kind op not val qual name kids sub).row),vi l0] [] fun r _=>r=vi (cv l0 (xR g (Expr.mk kind op not val qual name kids sub))):=by
 have hks:=hsz
 rw[dq,az,cg] at hks
 have e:xR g (Expr.mk kind op not val qual name kids sub)=1+(kids.map g).sum+(sub.map fun q=>((exprsQ q).map g).sum).sum:=rfl
 rw[e]
 rw[ah]
 refine ae ab false Tryz.func120 rfl (by kernel_rfl) ?_
 simp only[Tryz.f120,tt,seval]
 rw[ax (by omega) (by omega)]
 refine dLoop.intro (fun f L p=>∃i:Nat,f 5=vi i/\i<=kids.length/\f 1=vi (cv l0 (1+((kids.take i).map g).sum))/\L=[(2,.str [.v (.int .i64 kind),.v (.int .i64 op),.v (.bool not),.v (.int .i64 val.kind),.v (.int .i64 val.num),.v (.string val.text),.v (.string qual),.v (.string name),.sl kids.length (kids.flatMap Expr.row) none,.sl sub.length (sub.flatMap Query.row) none])]/\p=none) (fun f _ _=>(kids.length-aU (f 5)).toNat) [(2,.str [.v (.int .i64 kind),.v (.int .i64 op),.v (.bool not),.v (.int .i64 val.kind),.v (.int .i64 val.num),.v (.string val.text),.v (.string qual),.v (.string name),.sl kids.length (kids.flatMap Expr.row) none,.sl sub.length (sub.flatMap Query.row) none])] none ⟨ac rfl (ak _),al _,?_⟩ ?_
 ·simp only[tt,seval]
  exact⟨0,rfl,by omega,by simp [B7 hl0]⟩
 ·rintro g' L p ⟨i,hix,hi,hac,rfl,rfl⟩
  simp only[tt,seval] at hix hac
  simp only[tt,seval,hix]
  refine fun _=>?_
  have hc:(i<kids.length/\0<=cv l0 (1+((kids.take i).map g).sum))∨(cv l0 (1+((kids.take i).map g).sum)=cv l0 (1+(kids.map g).sum)/\i<kids.length /\ ¬ 0<=cv l0 (1+((kids.take i).map g).sum))∨(cv l0 (1+((kids.take i).map g).sum)=cv l0 (1+(kids.map g).sum) /\ ¬i<kids.length):=by
   by_cases h1:i<kids.length
   ·by_cases h2:0<=cv l0 (1+((kids.take i).map g).sum)
    ·exact .inl ⟨h1,h2⟩
    ·obtain⟨rst,hrst⟩:=d4 (g) kids i
     have hb:=ga (s:=(1+((kids.take i).map g).sum)) hl0
     have h3:=px (b:=rst) (by omega:cv l0 (1+((kids.take i).map g).sum)<0) hl0
     refine .inr (.inl ⟨?_,h1,h2⟩)
     rw[show (1+(kids.map g).sum)=(1+((kids.take i).map g).sum)+rst by omega,h3];omega
   ·refine .inr (.inr ⟨?_,h1⟩)
    have:i=kids.length:=by omega
    subst this
    rw[List.take_length]
  rcases hc with⟨hlt,hp⟩|⟨he,hlt,hn⟩|⟨he,hge⟩
  ·simp only[tt,seval,ap (show (i:Int)<kids.length by omega),hix,hac]
   refine aa (fun _=>?_) (fun hn=>absurd hp hn)
   refine⟨by omega,by omega,_,aF aC (ay hlt),Expr.ne _ _,?_⟩
   have hmem:kids[i]∈kids:=aI hlt
   simp only[seval,Expr.tk,aC]
   have hb:=ga (s:=(1+((kids.take i).map g).sum)) hl0
   refine cZ (hg kids[i] (.inl hmem) (cv l0 (1+((kids.take i).map g).sum)) hp (by omega)) ?_ ?_<;>simp only[tt,seval,hix]
   rw[ax (n:=(i:Int)+1) (by omega) (by omega),<-tN hp]
   exact⟨_,none,ac rfl (ak _),al _,⟨i+1,rfl,by omega,gB (by rw[ft g hlt,Nat.add_assoc]),rfl,rfl⟩,by simp only[aU];omega⟩
  case' inr.inl=>
   simp only[tt,seval,ap (show (i:Int)<kids.length by omega),hix,hac]
   refine aa (fun hp=>absurd hp hn) (fun _=>?_)
  case' inr.inr=>
   simp only[tt,seval,ao (show ¬(i:Int)<kids.length by omega),hix,hac]
  all_goals
   rw[he] at hac
   try rw[he]
   refine dLoop.intro (fun f L p=>∃i:Nat,f 6=vi i/\i<=sub.length/\f 1=vi (cv l0 (1+(kids.map g).sum+((sub.take i).map fun q=>((exprsQ q).map g).sum).sum))/\L=[(2,.str [.v (.int .i64 kind),.v (.int .i64 op),.v (.bool not),.v (.int .i64 val.kind),.v (.int .i64 val.num),.v (.string val.text),.v (.string qual),.v (.string name),.sl kids.length (kids.flatMap Expr.row) none,.sl sub.length (sub.flatMap Query.row) none])]/\p=none) (fun f _ _=>(sub.length-aU (f 6)).toNat) [(2,.str [.v (.int .i64 kind),.v (.int .i64 op),.v (.bool not),.v (.int .i64 val.kind),.v (.int .i64 val.num),.v (.string val.text),.v (.string qual),.v (.string name),.sl kids.length (kids.flatMap Expr.row) none,.sl sub.length (sub.flatMap Query.row) none])] none ⟨ac rfl (ak _),al _,?_⟩ ?_
   ·simp only[tt,seval,hac]
    exact⟨0,rfl,by omega,by simp⟩
   ·rintro g' L p ⟨i,hix,hi,hac,rfl,rfl⟩
    simp only[tt,seval] at hix hac
    simp only[tt,seval,hix]
    refine fun _=>?_
    have hc:(i<sub.length/\0<=cv l0 (1+(kids.map g).sum+((sub.take i).map fun q=>((exprsQ q).map g).sum).sum))∨(cv l0 (1+(kids.map g).sum+((sub.take i).map fun q=>((exprsQ q).map g).sum).sum)=cv l0 (1+(kids.map g).sum+(sub.map fun q=>((exprsQ q).map g).sum).sum)/\i<sub.length /\ ¬ 0<=cv l0 (1+(kids.map g).sum+((sub.take i).map fun q=>((exprsQ q).map g).sum).sum))∨(cv l0 (1+(kids.map g).sum+((sub.take i).map fun q=>((exprsQ q).map g).sum).sum)=cv l0 (1+(kids.map g).sum+(sub.map fun q=>((exprsQ q).map g).sum).sum) /\ ¬i<sub.length):=by
     by_cases h1:i<sub.length
     ·by_cases h2:0<=cv l0 (1+(kids.map g).sum+((sub.take i).map fun q=>((exprsQ q).map g).sum).sum)
      ·exact .inl ⟨h1,h2⟩
      ·obtain⟨rst,hrst⟩:=d4 (fun q=>((exprsQ q).map g).sum) sub i
       have hb:=ga (s:=(1+(kids.map g).sum+((sub.take i).map fun q=>((exprsQ q).map g).sum).sum)) hl0
       have h3:=px (b:=rst) (by omega:cv l0 (1+(kids.map g).sum+((sub.take i).map fun q=>((exprsQ q).map g).sum).sum)<0) hl0
       refine .inr (.inl ⟨?_,h1,h2⟩)
       rw[show (1+(kids.map g).sum+(sub.map fun q=>((exprsQ q).map g).sum).sum)=(1+(kids.map g).sum+((sub.take i).map fun q=>((exprsQ q).map g).sum).sum)+rst by omega,h3];omega
     ·refine .inr (.inr ⟨?_,h1⟩)
      have:i=sub.length:=by omega
      subst this
      rw[List.take_length]
    rcases hc with⟨hlt,hp⟩|⟨he,hlt,hn⟩|⟨he,hge⟩
    ·simp only[tt,seval,ap (show (i:Int)<sub.length by omega),hix,hac]
     refine aa (fun _=>?_) (fun hn=>absurd hp hn)
     refine⟨by omega,by omega,_,aF Query.row_len (ay hlt),Query.ne _ _,?_⟩
     have hmem:sub[i]∈sub:=aI hlt
     have hqs:=jx (e:=(Expr.mk kind op not val qual name kids sub)) hmem
     have hql:=cA sub[i]
     simp only[seval,Query.tk,Query.row_len]
     refine cZ (yN sub[i] (by omega)) ?_ ?_<;>simp only[tt,seval]
     have hl:∀x∈exprsQ sub[i],∀l:Int,0<=l->l<=200->Cl Tryz.prog 120 [.ag (av x.row),vi l] [] fun r _=>r=vi (cv l (g x)):=fun x hx=>hg x (.inr ⟨_,hmem,hx⟩)
     have hstep2:((sub.take (i+1)).map fun q=>((exprsQ q).map g).sum).sum=((sub.take i).map fun q=>((exprsQ q).map g).sum).sum+((exprsQ sub[i]).map g).sum:=ft _ hlt
     generalize exprsQ sub[i]=l at *
     have hac2:=hac
     obtain⟨S,hS⟩:∃S,S=(1+(kids.map g).sum+((sub.take i).map fun q=>((exprsQ q).map g).sum).sum):=⟨_,rfl⟩
     rw[<-hS] at hac2
     try rw[<-hS]
     refine dLoop.intro (fun f L p=>∃k:Nat,f 8=vi k/\k<=l.length/\f 1=vi (cv l0 (S+((l.take k).map g).sum))/\L=[(2,.str [.v (.int .i64 kind),.v (.int .i64 op),.v (.bool not),.v (.int .i64 val.kind),.v (.int .i64 val.num),.v (.string val.text),.v (.string qual),.v (.string name),.sl kids.length (kids.flatMap Expr.row) none,.sl sub.length (sub.flatMap Query.row) none])]/\p=none) (fun f _ _=>(l.length-aU (f 8)).toNat) [(2,.str [.v (.int .i64 kind),.v (.int .i64 op),.v (.bool not),.v (.int .i64 val.kind),.v (.int .i64 val.num),.v (.string val.text),.v (.string qual),.v (.string name),.sl kids.length (kids.flatMap Expr.row) none,.sl sub.length (sub.flatMap Query.row) none])] none ⟨ac rfl (ak _),al _,?_⟩ ?_
     ·simp only[tt,seval,hac2]
      exact⟨0,rfl,by omega,by simp⟩
     ·rintro g' L p ⟨k,hkx,hk0,hac3,rfl,rfl⟩
      simp only[tt,seval] at hkx hac3
      simp only[tt,seval,hkx]
      refine fun _=>?_
      have hc3:(k<l.length/\0<=cv l0 (S+((l.take k).map g).sum))∨(cv l0 (S+((l.take k).map g).sum)=cv l0 (S+(l.map g).sum)/\k<l.length /\ ¬ 0<=cv l0 (S+((l.take k).map g).sum))∨(cv l0 (S+((l.take k).map g).sum)=cv l0 (S+(l.map g).sum) /\ ¬k<l.length):=by
       by_cases h1:k<l.length
       ·by_cases h2:0<=cv l0 (S+((l.take k).map g).sum)
        ·exact .inl ⟨h1,h2⟩
        ·obtain⟨rst3,hrst3⟩:=d4 (g) l k
         have hb3:=ga (s:=(S+((l.take k).map g).sum)) hl0
         have h3:=px (b:=rst3) (by omega:cv l0 (S+((l.take k).map g).sum)<0) hl0
         refine .inr (.inl ⟨?_,h1,h2⟩)
         rw[show (S+(l.map g).sum)=(S+((l.take k).map g).sum)+rst3 by omega,h3];omega
       ·refine .inr (.inr ⟨?_,h1⟩)
        have:k=l.length:=by omega
        subst this
        rw[List.take_length]
      rcases hc3 with⟨hlt3,hp3⟩|⟨he3,hlt3,hn3⟩|⟨he3,hge3⟩
      ·simp only[tt,seval,ap (show (k:Int)<l.length by omega),hkx,hac3]
       refine aa (fun _=>?_) (fun hn3=>absurd hp3 hn3)
       refine⟨by omega,by omega,_,aF aC (ay hlt3),Expr.ne _ _,?_⟩
       simp only[seval,Expr.tk,aC]
       have hb3:=ga (s:=(S+((l.take k).map g).sum)) hl0
       refine cZ (hl l[k] (aI hlt3) (cv l0 (S+((l.take k).map g).sum)) hp3 (by omega)) ?_ ?_<;>simp only[tt,seval,hkx]
       rw[ax (n:=(k:Int)+1) (by omega) (by omega),<-tN hp3]
       exact⟨_,none,ac rfl (ak _),al _,⟨k+1,rfl,by omega,gB (by rw[ft g hlt3,Nat.add_assoc]),rfl,rfl⟩,by simp only[aU];omega⟩
      case' inr.inl=>
       simp only[tt,seval,ap (show (k:Int)<l.length by omega),hkx,hac3]
       refine aa (fun hp3=>absurd hp3 hn3) (fun _=>?_)
      case' inr.inr=>
       simp only[tt,seval,ao (show ¬(k:Int)<l.length by omega),hkx,hac3]
      all_goals
       rw[he3] at hac3
       try rw[he3]
       simp only[tt,seval,hix,hac3]
       try rw[dk i (by omega)]
       exact⟨_,none,ac rfl (ak _),al _,⟨i+1,rfl,by omega,gB (by rw[hstep2,hS];congr 1;omega),rfl,rfl⟩,by simp only[aU];omega⟩
    case' inr.inl=>
     simp only[tt,seval,ap (show (i:Int)<sub.length by omega),hix,hac]
     refine aa (fun hp=>absurd hp hn) (fun _=>?_)
    case' inr.inr=>
     simp only[tt,seval,ao (show ¬(i:Int)<sub.length by omega),hix,hac]
    all_goals
     rw[he] at hac
     try rw[he]
     exact⟨_,_,rfl,ai rfl⟩
theorem B8 (e:Expr):aw e<=1048576->∀l:Int,0<=l->l<=200->Cl Tryz.prog 120 [.ag (av e.row),vi l] [] fun r _=>r=vi (cv l (iw e)):=by
 refine fM (P:=fun e d=>aw e<=1048576->∀l:Int,0<=l->l<=200->Cl Tryz.prog 120 [.ag (av e.row),vi l] [] fun r _=>r=vi (cv l d)) (fun e g hg hsz l h0 h1=>?_) e
 obtain⟨kind,op,not,val,qual,name,kids,sub⟩:=e
 exact ve kind op not val qual name kids sub g (fun x hx=>hg x hx (Nat.le_trans (fj hx) hsz)) hsz l h0 h1
theorem EY:((true==false)=false)/\((false==true)=false)/\((false==false)=true)/\((true==true)=true):=⟨rfl,rfl,rfl,rfl⟩
def zV (v:Val):Bool:=decide (v.kind=0)&&(decide (v.num=0)&&decide (v.text=⟨#[]⟩))
def dX (kind op:Int) (not:Bool) (val:Val) (qual name:ByteArray) (nk ns:Nat):Bool:=
 decide (kind=0)&&(decide (op=0)&&(decide (not=false)&&(zV val&&(decide (qual=⟨#[]⟩)&&(decide (name=⟨#[]⟩)&&(decide (nk=0)&&decide (ns=0)))))))
theorem wq (v:Val) (w:World):(Op.equalIn 10000 25 (.agg [.int .i64 v.kind,.int .i64 v.num,.string v.text].toArray) (.agg [.int .i64 0,.int .i64 0,.string ⟨#[]⟩].toArray)).run Tryz.prog w = .ok (zV v) w:=by
 refine Go.Vc.equalIn_fk (ks:=[(0,.int),(1,.int),(2,.str)]) (by kernel_rfl) (by kernel_rfl) (by kernel_rfl) ?_ w
 simp only[Go.Vc.eqFK,List.getElem?_cons_zero,List.getElem?_cons_succ,zV]
 by_cases h1:v.kind=0<;>by_cases h2:v.num=0<;>by_cases h3:v.text=⟨#[]⟩<;>simp [h1,h2,h3]
def ou (v:Val):Bool:=dN v&&((decide (¬v.kind=1)||decide (0<=v.num))&&decide (v.text.size<=40))
def b9 (s:ByteArray):Bool:=decide (1<=s.size/\s.size<=20)
def gq (s:ByteArray):Bool:=decide (s=⟨#[]⟩)||b9 s
theorem CJ (v:Val):Cl Tryz.prog 228 [.ag (av v.row)] [] fun r _=>r=vb (ou v):=by
 obtain⟨zb,hzb⟩:∃zb,zb=ou v:=⟨_,rfl⟩
 rw[<-hzb,Val.row]
 refine ae ab false Tryz.func228 rfl (by kernel_rfl) ?_
 simp only[Tryz.f228,tt,seval]
 refine cZ (yb v) ?_ ?_<;>simp only[tt,seval,Val.row]
 cases hv:dN v<;>by_cases h1:v.kind=1<;>by_cases h2:0<=v.num
 all_goals try simp only[tt,seval,h1,h2]
 all_goals try refine fun _=>?_
 all_goals exact⟨_,_,aE (by rw[hzb];simp [ou,hv,h1,h2];try omega),ai rfl⟩
theorem CK (v:Val):Cl Tryz.prog 238 [.ag (av v.row)] [] fun r _=>r=vb (ou v):=by
 obtain⟨zb,hzb⟩:∃zb,zb=ou v:=⟨_,rfl⟩
 rw[<-hzb,Val.row]
 refine ae ab false Tryz.func238 rfl (by kernel_rfl) ?_
 simp only[Tryz.f238,tt,seval]
 refine cZ (pF v) ?_ ?_<;>simp only[tt,seval,Val.row]
 cases hv:dN v<;>by_cases h1:v.kind=1<;>by_cases h2:0<=v.num
 all_goals try simp only[tt,seval,h1,h2]
 all_goals try refine fun _=>?_
 all_goals exact⟨_,_,aE (by rw[hzb];simp [ou,hv,h1,h2];try omega),ai rfl⟩
theorem ls (s:ByteArray):Cl Tryz.prog 192 [vs s] [] fun r _=>r=vb (gq s):=by
 refine ae ab false Tryz.func192 rfl (by kernel_rfl) ?_
 simp only[Tryz.f192,tt,seval]
 by_cases h:s=⟨#[]⟩
 ·simp only[tt,seval,ap h]
  exact⟨_,_,aE (by simp [gq,h]),ai rfl⟩
 ·simp only[tt,seval,ao h]
  refine cZ (gb s) ?_ ?_<;>simp only[tt,seval]
  exact⟨_,_,aE (by simp [gq,h,b9]),ai rfl⟩
theorem wr (s:ByteArray):Cl Tryz.prog 198 [vs s] [] fun r _=>r=vb (gq s):=by
 refine ae ab false Tryz.func198 rfl (by kernel_rfl) ?_
 simp only[Tryz.f198,tt,seval]
 by_cases h:s=⟨#[]⟩
 ·simp only[tt,seval,ap h]
  exact⟨_,_,aE (by simp [gq,h]),ai rfl⟩
 ·simp only[tt,seval,ao h]
  refine cZ (er s) ?_ ?_<;>simp only[tt,seval]
  exact⟨_,_,aE (by simp [gq,h,b9]),ai rfl⟩
theorem DZ (l:List Expr) (fg:FuncId):Cl Tryz.prog 242 [.c (.sl l.length (l.flatMap Expr.row) none),.c (.sl 0 [] none),.c (.fn fg [] [])] [] fun r _=>r=vb (decide (l.length=0)):=by
 refine ae ab false Tryz.func242 rfl (by kernel_rfl) ?_
 simp only[Tryz.f242,tt,seval]
 refine fun _=>?_
 by_cases h:l.length=0
 case neg=>
  simp only[tt,seval,ao (show ¬(l.length:Int)=0 by omega)]
  exact⟨_,_,aE (ao h).symm,ai rfl⟩
 have hs:l=[]:=List.eq_nil_of_length_eq_zero h
 subst hs
 simp only[tt,seval]
 refine dLoop.intro (fun f L p=>f 17=vi 0/\L=[]/\p=none) (fun _ _ _=>0) [] none ⟨ak _,al _,?_⟩ ?_
 ·simp only[tt,seval]
 ·rintro g L p ⟨h5',rfl,rfl⟩
  simp only[tt,seval] at h5'
  simp only[tt,seval,h5']
  exact⟨_,_,rfl,ai rfl⟩
theorem E0 (l:List Query) (fg:FuncId):Cl Tryz.prog 241 [.c (.sl l.length (l.flatMap Query.row) none),.c (.sl 0 [] none),.c (.fn fg [] [])] [] fun r _=>r=vb (decide (l.length=0)):=by
 refine ae ab false Tryz.func241 rfl (by kernel_rfl) ?_
 simp only[Tryz.f241,tt,seval]
 refine fun _=>?_
 by_cases h:l.length=0
 case neg=>
  simp only[tt,seval,ao (show ¬(l.length:Int)=0 by omega)]
  exact⟨_,_,aE (ao h).symm,ai rfl⟩
 have hs:l=[]:=List.eq_nil_of_length_eq_zero h
 subst hs
 simp only[tt,seval]
 refine dLoop.intro (fun f L p=>f 17=vi 0/\L=[]/\p=none) (fun _ _ _=>0) [] none ⟨ak _,al _,?_⟩ ?_
 ·simp only[tt,seval]
 ·rintro g L p ⟨h5',rfl,rfl⟩
  simp only[tt,seval] at h5'
  simp only[tt,seval,h5']
  exact⟨_,_,rfl,ai rfl⟩
theorem rM (l:List Expr):Cl Tryz.prog 240 [.c (.sl l.length (l.flatMap Expr.row) none),.c (.sl 0 [] none)] [] fun r _=>r=vb (decide (l.length=0)):=by
 refine ae ab false Tryz.func240 rfl (by kernel_rfl) ?_
 simp only[Tryz.f240,tt,seval]
 refine fun _=>?_
 by_cases h:l.length=0
 case neg=>
  simp only[tt,seval,ao (show ¬(l.length:Int)=0 by omega)]
  exact⟨_,_,aE (ao h).symm,ai rfl⟩
 have hs:l=[]:=List.eq_nil_of_length_eq_zero h
 subst hs
 simp only[tt,seval]
 refine dLoop.intro (fun f L p=>f 5=vi 0/\L=[]/\p=none) (fun _ _ _=>0) [] none ⟨ak _,al _,?_⟩ ?_
 ·simp only[tt,seval]
 ·rintro g L p ⟨h5',rfl,rfl⟩
  simp only[tt,seval] at h5'
  simp only[tt,seval,h5']
  exact⟨_,_,rfl,ai rfl⟩
theorem nx (l:List Expr):Cl Tryz.prog 206 [.c (.sl l.length (l.flatMap Expr.row) none),.c (.sl 0 [] none)] [] fun r _=>r=vb (decide (l.length=0)):=by
 refine ae ab false Tryz.func206 rfl (by kernel_rfl) ?_
 simp only[Tryz.f206,tt,seval]
 refine cZ (DZ l 204) ?_ ?_<;>simp only[tt,seval]
 exact⟨_,_,rfl,ai rfl⟩
theorem B9 (kind op:Int) (not:Bool) (val:Val) (qual name:ByteArray) (kids:List Expr) (sub:List Query):Cl Tryz.prog 204 [.ag (av (Expr.mk kind op not val qual name kids sub).row),.ag (av (Expr.mk 0 0 false ⟨0,0,⟨#[]⟩⟩ ⟨#[]⟩ ⟨#[]⟩ [] []).row)] [] fun r _=>r=vb (dX kind op not val qual name kids.length sub.length):=by
 obtain⟨zb,hzb⟩:∃zb,zb=dX kind op not val qual name kids.length sub.length:=⟨_,rfl⟩
 rw[<-hzb,ah,ah]
 refine ae ab false Tryz.func204 rfl (by kernel_rfl) ?_
 simp only[Tryz.f204,tt,seval]
 by_cases h1:kind=0
 case neg=>
  simp only[tt,seval,h1]
  exact⟨_,_,aE (by rw[hzb];simp [dX,h1]),ai rfl⟩
 simp only[tt,seval,h1]
 by_cases h2:op=0
 case neg=>
  simp only[tt,seval,h2]
  exact⟨_,_,aE (by rw[hzb];simp [dX,h1,h2]),ai rfl⟩
 simp only[tt,seval,h2]
 by_cases h3:not=false
 case neg=>
  simp only[tt,seval,(Bool.not_eq_false _▸h3:not=true),EY]
  exact⟨_,_,aE (by rw[hzb];simp [dX,h1,h2,h3]),ai rfl⟩
 simp only[tt,seval,h3]
 rw[AL (by kernel_rfl) (wq val)]
 simp only[tt,seval]
 by_cases h4:zV val=true
 case neg=>
  simp only[tt,seval,(Bool.not_eq_true _▸h4:zV val=false)]
  exact⟨_,_,aE (by rw[hzb];simp [dX,h1,h2,h3,h4]),ai rfl⟩
 simp only[tt,seval,h4]
 by_cases h5:qual=⟨#[]⟩
 case neg=>
  simp only[tt,seval,h5]
  exact⟨_,_,aE (by rw[hzb];simp [dX,h1,h2,h3,h4,h5]),ai rfl⟩
 simp only[tt,seval,h5]
 by_cases h6:name=⟨#[]⟩
 case neg=>
  simp only[tt,seval,h6]
  exact⟨_,_,aE (by rw[hzb];simp [dX,h1,h2,h3,h4,h5,h6]),ai rfl⟩
 simp only[tt,seval,h6]
 refine cZ (nx kids) ?_ ?_<;>simp only[tt,seval]
 by_cases h7:kids.length=0
 case neg=>
  simp only[tt,seval,h7]
  exact⟨_,_,aE (by rw[hzb];simp [dX,h1,h2,h3,h4,h5,h6,h7]),ai rfl⟩
 simp only[tt,seval,ap h7]
 refine cZ (E0 sub 139) ?_ ?_<;>simp only[tt,seval]
 exact⟨_,_,aE (by rw[hzb];simp [dX,h1,h2,h3,h4,h5,h6,h7]),ai rfl⟩
theorem CL (kind op:Int) (not:Bool) (val:Val) (qual name:ByteArray) (kids:List Expr) (sub:List Query):Cl Tryz.prog 193 [.ag (av (Expr.mk kind op not val qual name kids sub).row),.ag (av (Expr.mk 0 0 false ⟨0,0,⟨#[]⟩⟩ ⟨#[]⟩ ⟨#[]⟩ [] []).row)] [] fun r _=>r=vb (dX kind op not val qual name kids.length sub.length):=by
 obtain⟨zb,hzb⟩:∃zb,zb=dX kind op not val qual name kids.length sub.length:=⟨_,rfl⟩
 rw[<-hzb,ah,ah]
 refine ae ab false Tryz.func193 rfl (by kernel_rfl) ?_
 simp only[Tryz.f193,tt,seval]
 by_cases h1:kind=0
 case neg=>
  simp only[tt,seval,h1]
  exact⟨_,_,aE (by rw[hzb];simp [dX,h1]),ai rfl⟩
 simp only[tt,seval,h1]
 by_cases h2:op=0
 case neg=>
  simp only[tt,seval,h2]
  exact⟨_,_,aE (by rw[hzb];simp [dX,h1,h2]),ai rfl⟩
 simp only[tt,seval,h2]
 by_cases h3:not=false
 case neg=>
  simp only[tt,seval,(Bool.not_eq_false _▸h3:not=true),EY]
  exact⟨_,_,aE (by rw[hzb];simp [dX,h1,h2,h3]),ai rfl⟩
 simp only[tt,seval,h3]
 rw[bX (by kernel_rfl) (wq val)]
 simp only[tt,seval]
 by_cases h4:zV val=true
 case neg=>
  simp only[tt,seval,(Bool.not_eq_true _▸h4:zV val=false)]
  exact⟨_,_,aE (by rw[hzb];simp [dX,h1,h2,h3,h4]),ai rfl⟩
 simp only[tt,seval,h4]
 by_cases h5:qual=⟨#[]⟩
 case neg=>
  simp only[tt,seval,h5]
  exact⟨_,_,aE (by rw[hzb];simp [dX,h1,h2,h3,h4,h5]),ai rfl⟩
 simp only[tt,seval,h5]
 by_cases h6:name=⟨#[]⟩
 case neg=>
  simp only[tt,seval,h6]
  exact⟨_,_,aE (by rw[hzb];simp [dX,h1,h2,h3,h4,h5,h6]),ai rfl⟩
 simp only[tt,seval,h6]
 refine fun _=>?_
 by_cases h8:sub.length=0
 case neg=>
  simp only[tt,seval,ao (show ¬(sub.length:Int)=0 by omega)]
  exact⟨_,_,aE (by rw[hzb];simp [dX,h1,h2,h3,h4,h5,h6,h8]),ai rfl⟩
 simp only[tt,seval,show (sub.length:Int)=0 from by omega]
 refine cZ (rM kids) ?_ ?_<;>simp only[tt,seval]
 by_cases h7:kids.length=0
 case neg=>
  simp only[tt,seval,h7]
  exact⟨_,_,aE (by rw[hzb];simp [dX,h1,h2,h3,h4,h5,h6,h7]),ai rfl⟩
 simp only[tt,seval,ap h7]
 have hs:sub=[]:=List.eq_nil_of_length_eq_zero h8
 subst hs
 refine dLoop.intro (fun f L p=>f 5=vi 0/\L=[(2,.str [.v (.int .i64 0),.v (.int .i64 0),.v (.bool false),.v (.int .i64 val.kind),.v (.int .i64 val.num),.v (.string val.text),.v (.string ⟨#[]⟩),.v (.string ⟨#[]⟩),.sl kids.length (kids.flatMap Expr.row) none,.sl 0 [] none])]/\p=none) (fun _ _ _=>0) [(2,.str [.v (.int .i64 0),.v (.int .i64 0),.v (.bool false),.v (.int .i64 val.kind),.v (.int .i64 val.num),.v (.string val.text),.v (.string ⟨#[]⟩),.v (.string ⟨#[]⟩),.sl kids.length (kids.flatMap Expr.row) none,.sl 0 [] none])] none ⟨ac rfl (ak _),al _,?_⟩ ?_
 ·simp only[tt,seval]
 ·rintro g L p ⟨h5',rfl,rfl⟩
  simp only[tt,seval] at h5'
  simp only[tt,seval,h5']
  exact⟨_,_,aE (by rw[hzb];simp [dX,h1,h2,h3,h4,h5,h6,h7]),ai rfl⟩
theorem ei (v:Val) (w:World):(Op.equalIn 10000 25 (.agg [.int .i64 v.kind,.int .i64 v.num,.string v.text].toArray) (.agg [.int .i64 0,.int .i64 0,.string ByteArray.empty].toArray)).run Tryz.prog w = .ok (zV v) w:=wq v w
def aX (kind:Int):Bool×Bool×Bool×Bool×Int×Int×Int:=
 if kind=1 then (false,false,true,false,0,0,0) else if kind=2 then (false,false,false,true,0,0,0) else if kind=3 then (true,false,false,false,1,1,0) else if kind=4 then (true,false,false,false,2,2,0)
 else if kind=5 then (false,true,false,false,1,1,0) else if kind=6 then (false,true,false,false,3,3,0) else if kind=7 then (false,true,false,false,2,9,0) else if kind=8 then (false,true,false,false,1,1,1)
 else if kind=9 then (false,false,false,false,0,0,1) else (false,false,false,false,0,0,0)
def cD (kind op:Int) (val:Val) (qual name:ByteArray):Bool:=
 if kind=1 then ou val else if kind=2 then (b9 name&&gq qual) else if kind=3 then (decide (op=15)||decide (op=16)) else if kind=4 then decide (1<=op/\op<=14) else decide (5<=kind/\kind<=9)
def aH (kind op:Int) (not:Bool) (val:Val) (qual name:ByteArray) (nk ns:Int):Bool:=
 cD kind op val qual name&&(((aX kind).1||decide (op=0))&&(((aX kind).2.1 || !not)&&(((aX kind).2.2.1||zV val)&&(((aX kind).2.2.2.1||(decide (qual=⟨#[]⟩)&&decide (name=⟨#[]⟩))) &&
  (decide ((aX kind).2.2.2.2.1<=nk/\nk<=(aX kind).2.2.2.2.2.1)&&decide (ns=(aX kind).2.2.2.2.2.2))))))
set_option maxHeartbeats 4000000 in
theorem yO (kind op:Int) (not:Bool) (val:Val) (qual name:ByteArray) (kids:List Expr) (sub:List Query) (hkl:kids.length<=1048576) (hsl:sub.length<=1048576):Cl Tryz.prog 183 [.ag (av (Expr.mk kind op not val qual name kids sub).row)] [] fun r _=>r=vb (aH kind op not val qual name kids.length sub.length):=by
 obtain⟨zb,hzb⟩:∃zb,zb=aH kind op not val qual name kids.length sub.length:=⟨_,rfl⟩
 rw[<-hzb,ah]
 refine ae ab false Tryz.func183 rfl (by kernel_rfl) ?_
 simp only[Tryz.f183,tt,seval]
 refine fun _ _=>?_
 have hk0:0<=(kids.length:Int)/\(kids.length:Int)<=1048576:=by omega
 have hs0:0<=(sub.length:Int)/\(sub.length:Int)<=1048576:=by omega
 generalize (kids.length:Int)=nk at *
 generalize (sub.length:Int)=ns at *
 rcases (show kind=1∨kind=2∨kind=3∨kind=4∨kind=5∨kind=6∨kind=7∨kind=8∨kind=9∨(kind<1∨9<kind) by omega) with rfl|rfl|rfl|rfl|rfl|rfl|rfl|rfl|rfl|hk
 ·try simp only[tt,seval]
  by_cases hq:qual=⟨#[]⟩
  case neg=>
   simp only[tt,seval,hq]
   exact⟨_,_,aE (by rw[hzb];simp [aH,cD,aX,hq];try omega),ai rfl⟩
  simp only[tt,seval,hq]
  by_cases hn:name=⟨#[]⟩
  case neg=>
   simp only[tt,seval,hn]
   exact⟨_,_,aE (by rw[hzb];simp [aH,cD,aX,hq,hn];try omega),ai rfl⟩
  simp only[tt,seval,hn]
  by_cases ho:op=0
  case neg=>
   simp only[tt,seval,ho]
   exact⟨_,_,aE (by rw[hzb];simp [aH,cD,aX,hq,hn,ho];try omega),ai rfl⟩
  simp only[tt,seval,ho]
  cases not
  case true=>
   simp only[tt,seval]
   refine cZ (cF 1 5 8) ?_ ?_<;>simp only[tt,seval]
   exact⟨_,_,aE (by rw[hzb];simp [aH,cD,aX,hq,hn,ho];try omega),ai rfl⟩
  simp only[tt,seval]
  refine cZ (CJ val) ?_ ?_<;>simp only[tt,seval,Val.row]
  cases hl:ou val
  case false=>
   simp only[tt,seval]
   exact⟨_,_,aE (by rw[hzb];simp [aH,cD,aX,hq,hn,ho,hl];try omega),ai rfl⟩
  simp only[tt,seval]
  rw[ax (by omega) (by omega)]
  by_cases hz:nk+ns=0
  case neg=>
   simp only[tt,seval,hz]
   exact⟨_,_,aE (by rw[hzb];simp [aH,cD,aX,hq,hn,ho,hl];try omega),ai rfl⟩
  simp only[tt,seval,hz]
  exact⟨_,_,aE (by rw[hzb];simp [aH,cD,aX,hq,hn,ho,hl];try omega),ai rfl⟩
 ·try simp only[tt,seval]
  rw[bX (by kernel_rfl) (ei val)]
  simp only[tt,seval]
  cases hv:zV val
  case false=>
   simp only[tt,seval]
   exact⟨_,_,aE (by rw[hzb];simp [aH,cD,aX,b9,hv];try omega),ai rfl⟩
  simp only[tt,seval]
  by_cases ho:op=0
  case neg=>
   simp only[tt,seval,ho]
   exact⟨_,_,aE (by rw[hzb];simp [aH,cD,aX,b9,hv,ho];try omega),ai rfl⟩
  simp only[tt,seval,ho]
  cases not
  case true=>
   simp only[tt,seval]
   refine cZ (cF 2 5 8) ?_ ?_<;>simp only[tt,seval]
   exact⟨_,_,aE (by rw[hzb];simp [aH,cD,aX,b9,hv,ho];try omega),ai rfl⟩
  simp only[tt,seval]
  refine cZ (gb name) ?_ ?_<;>simp only[tt,seval]
  cases hnb:decide (1<=name.size/\name.size<=20)
  case false=>
   simp only[tt,seval]
   exact⟨_,_,aE (by rw[hzb];simp [aH,cD,aX,b9,hv,ho,hnb];try omega),ai rfl⟩
  simp only[tt,seval]
  refine cZ (ls qual) ?_ ?_<;>simp only[tt,seval]
  cases hmb:gq qual
  case false=>
   simp only[tt,seval]
   exact⟨_,_,aE (by rw[hzb];simp [aH,cD,aX,b9,hv,ho,hnb,hmb];try omega),ai rfl⟩
  simp only[tt,seval]
  rw[ax (by omega) (by omega)]
  by_cases hz:nk+ns=0
  case neg=>
   simp only[tt,seval,hz]
   exact⟨_,_,aE (by rw[hzb];simp [aH,cD,aX,b9,hv,ho,hnb,hmb];try omega),ai rfl⟩
  simp only[tt,seval,hz]
  exact⟨_,_,aE (by rw[hzb];simp [aH,cD,aX,b9,hv,ho,hnb,hmb];try omega),ai rfl⟩
 ·try simp only[tt,seval]
  by_cases hq:qual=⟨#[]⟩
  case neg=>
   simp only[tt,seval,hq]
   exact⟨_,_,aE (by rw[hzb];simp [aH,cD,aX,hq];try omega),ai rfl⟩
  simp only[tt,seval,hq]
  by_cases hn:name=⟨#[]⟩
  case neg=>
   simp only[tt,seval,hn]
   exact⟨_,_,aE (by rw[hzb];simp [aH,cD,aX,hq,hn];try omega),ai rfl⟩
  simp only[tt,seval,hn]
  rw[bX (by kernel_rfl) (ei val)]
  simp only[tt,seval]
  cases hv:zV val
  case false=>
   simp only[tt,seval]
   exact⟨_,_,aE (by rw[hzb];simp [aH,cD,aX,hq,hn,hv];try omega),ai rfl⟩
  simp only[tt,seval]
  cases not
  case true=>
   simp only[tt,seval]
   refine cZ (cF 3 5 8) ?_ ?_<;>simp only[tt,seval]
   exact⟨_,_,aE (by rw[hzb];simp [aH,cD,aX,hq,hn,hv];try omega),ai rfl⟩
  simp only[tt,seval]
  by_cases ho15:op=15
  case' neg=>
   simp only[tt,seval,ho15]
   by_cases ho16:op=16
   case neg=>
    simp only[tt,seval,ho16]
    exact⟨_,_,aE (by rw[hzb];simp [aH,cD,aX,hq,hn,hv,ho15,ho16];try omega),ai rfl⟩
   simp only[tt,seval,ho16]
  case' pos=>try simp only[tt,seval,ho15]
  all_goals
   by_cases hk1:nk=1
   case neg=>
    simp only[tt,seval,hk1]
    exact⟨_,_,aE (by rw[hzb];simp [aH,cD,aX, *];try omega),ai rfl⟩
   simp only[tt,seval,hk1]
   by_cases hs0:ns=0
   case neg=>
    simp only[tt,seval,hs0]
    exact⟨_,_,aE (by rw[hzb];simp [aH,cD,aX, *];try omega),ai rfl⟩
   simp only[tt,seval,hs0]
   exact⟨_,_,aE (by rw[hzb];simp [aH,cD,aX, *];try omega),ai rfl⟩
 ·try simp only[tt,seval]
  by_cases hq:qual=⟨#[]⟩
  case neg=>
   simp only[tt,seval,hq]
   exact⟨_,_,aE (by rw[hzb];simp [aH,cD,aX,hq];try omega),ai rfl⟩
  simp only[tt,seval,hq]
  by_cases hn:name=⟨#[]⟩
  case neg=>
   simp only[tt,seval,hn]
   exact⟨_,_,aE (by rw[hzb];simp [aH,cD,aX,hq,hn];try omega),ai rfl⟩
  simp only[tt,seval,hn]
  rw[bX (by kernel_rfl) (ei val)]
  simp only[tt,seval]
  cases hv:zV val
  case false=>
   simp only[tt,seval]
   exact⟨_,_,aE (by rw[hzb];simp [aH,cD,aX,hq,hn,hv];try omega),ai rfl⟩
  simp only[tt,seval]
  cases not
  case true=>
   simp only[tt,seval]
   refine cZ (cF 4 5 8) ?_ ?_<;>simp only[tt,seval]
   exact⟨_,_,aE (by rw[hzb];simp [aH,cD,aX,hq,hn,hv];try omega),ai rfl⟩
  simp only[tt,seval]
  refine cZ (cF op 1 14) ?_ ?_<;>simp only[tt,seval]
  cases hop:decide ((1:Int)<=op/\op<=14)
  case false=>
   simp only[tt,seval]
   exact⟨_,_,aE (by rw[hzb];simp [aH,cD,aX,hq,hn,hv,hop];try omega),ai rfl⟩
  simp only[tt,seval]
  by_cases hk2:nk=2
  case neg=>
   simp only[tt,seval,hk2]
   exact⟨_,_,aE (by rw[hzb];simp [aH,cD,aX,hq,hn,hv,hop];try omega),ai rfl⟩
  simp only[tt,seval,hk2]
  by_cases hs0:ns=0
  case neg=>
   simp only[tt,seval,hs0]
   exact⟨_,_,aE (by rw[hzb];simp [aH,cD,aX,hq,hn,hv,hop,hk2,hs0];try omega),ai rfl⟩
  simp only[tt,seval,hs0]
  exact⟨_,_,aE (by rw[hzb];simp [aH,cD,aX,hq,hn,hv,hop,hk2,hs0];try omega),ai rfl⟩
 ·try simp only[tt,seval]
  by_cases hq:qual=⟨#[]⟩
  case neg=>
   simp only[tt,seval,hq]
   exact⟨_,_,aE (by rw[hzb];simp [aH,cD,aX,hq];try omega),ai rfl⟩
  simp only[tt,seval,hq]
  by_cases hn:name=⟨#[]⟩
  case neg=>
   simp only[tt,seval,hn]
   exact⟨_,_,aE (by rw[hzb];simp [aH,cD,aX,hq,hn];try omega),ai rfl⟩
  simp only[tt,seval,hn]
  rw[bX (by kernel_rfl) (ei val)]
  simp only[tt,seval]
  cases hv:zV val
  case false=>
   simp only[tt,seval]
   exact⟨_,_,aE (by rw[hzb];simp [aH,cD,aX,hq,hn,hv];try omega),ai rfl⟩
  simp only[tt,seval]
  by_cases ho:op=0
  case neg=>
   simp only[tt,seval,ho]
   exact⟨_,_,aE (by rw[hzb];simp [aH,cD,aX,hq,hn,hv,ho];try omega),ai rfl⟩
  simp only[tt,seval,ho]
  cases not
  case' true=>
   simp only[tt,seval]
   refine cZ (cF 5 5 8) ?_ ?_<;>simp only[tt,seval]
  case' false=>try simp only[tt,seval]
  all_goals
   by_cases hk1:nk=1
   case neg=>
    simp only[tt,seval,hk1]
    exact⟨_,_,aE (by rw[hzb];simp [aH,cD,aX,hq,hn,hv,ho];try omega),ai rfl⟩
   simp only[tt,seval,hk1]
   by_cases hs0:ns=0
   case neg=>
    simp only[tt,seval,hs0]
    exact⟨_,_,aE (by rw[hzb];simp [aH,cD,aX,hq,hn,hv,ho,hk1,hs0];try omega),ai rfl⟩
   simp only[tt,seval,hs0]
   exact⟨_,_,aE (by rw[hzb];simp [aH,cD,aX,hq,hn,hv,ho,hk1,hs0];try omega),ai rfl⟩
 ·try simp only[tt,seval]
  by_cases hq:qual=⟨#[]⟩
  case neg=>
   simp only[tt,seval,hq]
   exact⟨_,_,aE (by rw[hzb];simp [aH,cD,aX,hq];try omega),ai rfl⟩
  simp only[tt,seval,hq]
  by_cases hn:name=⟨#[]⟩
  case neg=>
   simp only[tt,seval,hn]
   exact⟨_,_,aE (by rw[hzb];simp [aH,cD,aX,hq,hn];try omega),ai rfl⟩
  simp only[tt,seval,hn]
  rw[bX (by kernel_rfl) (ei val)]
  simp only[tt,seval]
  cases hv:zV val
  case false=>
   simp only[tt,seval]
   exact⟨_,_,aE (by rw[hzb];simp [aH,cD,aX,hq,hn,hv];try omega),ai rfl⟩
  simp only[tt,seval]
  by_cases ho:op=0
  case neg=>
   simp only[tt,seval,ho]
   exact⟨_,_,aE (by rw[hzb];simp [aH,cD,aX,hq,hn,hv,ho];try omega),ai rfl⟩
  simp only[tt,seval,ho]
  cases not
  case' true=>
   simp only[tt,seval]
   refine cZ (cF 6 5 8) ?_ ?_<;>simp only[tt,seval]
  case' false=>try simp only[tt,seval]
  all_goals
   by_cases hk3:nk=3
   case neg=>
    simp only[tt,seval,hk3]
    exact⟨_,_,aE (by rw[hzb];simp [aH,cD,aX,hq,hn,hv,ho];try omega),ai rfl⟩
   simp only[tt,seval,hk3]
   by_cases hs0:ns=0
   case neg=>
    simp only[tt,seval,hs0]
    exact⟨_,_,aE (by rw[hzb];simp [aH,cD,aX,hq,hn,hv,ho,hk3,hs0];try omega),ai rfl⟩
   simp only[tt,seval,hs0]
   exact⟨_,_,aE (by rw[hzb];simp [aH,cD,aX,hq,hn,hv,ho,hk3,hs0];try omega),ai rfl⟩
 ·try simp only[tt,seval]
  by_cases hq:qual=⟨#[]⟩
  case neg=>
   simp only[tt,seval,hq]
   exact⟨_,_,aE (by rw[hzb];simp [aH,cD,aX,hq];try omega),ai rfl⟩
  simp only[tt,seval,hq]
  by_cases hn:name=⟨#[]⟩
  case neg=>
   simp only[tt,seval,hn]
   exact⟨_,_,aE (by rw[hzb];simp [aH,cD,aX,hq,hn];try omega),ai rfl⟩
  simp only[tt,seval,hn]
  rw[bX (by kernel_rfl) (ei val)]
  simp only[tt,seval]
  cases hv:zV val
  case false=>
   simp only[tt,seval]
   exact⟨_,_,aE (by rw[hzb];simp [aH,cD,aX,hq,hn,hv];try omega),ai rfl⟩
  simp only[tt,seval]
  by_cases ho:op=0
  case neg=>
   simp only[tt,seval,ho]
   exact⟨_,_,aE (by rw[hzb];simp [aH,cD,aX,hq,hn,hv,ho];try omega),ai rfl⟩
  simp only[tt,seval,ho]
  cases not
  case' true=>
   simp only[tt,seval]
   refine cZ (cF 7 5 8) ?_ ?_<;>simp only[tt,seval]
  case' false=>try simp only[tt,seval]
  all_goals
   refine cZ (cF nk 2 9) ?_ ?_<;>simp only[tt,seval]
   cases hkr:decide ((2:Int)<=nk/\nk<=9)
   case false=>
    simp only[tt,seval]
    exact⟨_,_,aE (by rw[hzb];simp [aH,cD,aX,hq,hn,hv,ho,hkr];try omega),ai rfl⟩
   simp only[tt,seval]
   by_cases hs0:ns=0
   case neg=>
    simp only[tt,seval,hs0]
    exact⟨_,_,aE (by rw[hzb];simp [aH,cD,aX,hq,hn,hv,ho,hkr,hs0];try omega),ai rfl⟩
   simp only[tt,seval,hs0]
   exact⟨_,_,aE (by rw[hzb];simp [aH,cD,aX,hq,hn,hv,ho,hkr,hs0];try omega),ai rfl⟩
 ·try simp only[tt,seval]
  by_cases hq:qual=⟨#[]⟩
  case neg=>
   simp only[tt,seval,hq]
   exact⟨_,_,aE (by rw[hzb];simp [aH,cD,aX,hq];try omega),ai rfl⟩
  simp only[tt,seval,hq]
  by_cases hn:name=⟨#[]⟩
  case neg=>
   simp only[tt,seval,hn]
   exact⟨_,_,aE (by rw[hzb];simp [aH,cD,aX,hq,hn];try omega),ai rfl⟩
  simp only[tt,seval,hn]
  rw[bX (by kernel_rfl) (ei val)]
  simp only[tt,seval]
  cases hv:zV val
  case false=>
   simp only[tt,seval]
   exact⟨_,_,aE (by rw[hzb];simp [aH,cD,aX,hq,hn,hv];try omega),ai rfl⟩
  simp only[tt,seval]
  by_cases ho:op=0
  case neg=>
   simp only[tt,seval,ho]
   exact⟨_,_,aE (by rw[hzb];simp [aH,cD,aX,hq,hn,hv,ho];try omega),ai rfl⟩
  simp only[tt,seval,ho]
  cases not
  case' true=>
   simp only[tt,seval]
   refine cZ (cF 8 5 8) ?_ ?_<;>simp only[tt,seval]
  case' false=>try simp only[tt,seval]
  all_goals
   by_cases hk1:nk=1
   case neg=>
    simp only[tt,seval,hk1]
    exact⟨_,_,aE (by rw[hzb];simp [aH,cD,aX,hq,hn,hv,ho];try omega),ai rfl⟩
   simp only[tt,seval,hk1]
   by_cases hs1:ns=1
   case neg=>
    simp only[tt,seval,hs1]
    exact⟨_,_,aE (by rw[hzb];simp [aH,cD,aX,hq,hn,hv,ho,hk1,hs1];try omega),ai rfl⟩
   simp only[tt,seval,hs1]
   exact⟨_,_,aE (by rw[hzb];simp [aH,cD,aX,hq,hn,hv,ho,hk1,hs1];try omega),ai rfl⟩
 ·try simp only[tt,seval]
  by_cases hq:qual=⟨#[]⟩
  case neg=>
   simp only[tt,seval,hq]
   exact⟨_,_,aE (by rw[hzb];simp [aH,cD,aX,hq];try omega),ai rfl⟩
  simp only[tt,seval,hq]
  by_cases hn:name=⟨#[]⟩
  case neg=>
   simp only[tt,seval,hn]
   exact⟨_,_,aE (by rw[hzb];simp [aH,cD,aX,hq,hn];try omega),ai rfl⟩
  simp only[tt,seval,hn]
  rw[bX (by kernel_rfl) (ei val)]
  simp only[tt,seval]
  cases hv:zV val
  case false=>
   simp only[tt,seval]
   exact⟨_,_,aE (by rw[hzb];simp [aH,cD,aX,hq,hn,hv];try omega),ai rfl⟩
  simp only[tt,seval]
  by_cases ho:op=0
  case neg=>
   simp only[tt,seval,ho]
   exact⟨_,_,aE (by rw[hzb];simp [aH,cD,aX,hq,hn,hv,ho];try omega),ai rfl⟩
  simp only[tt,seval,ho]
  cases not
  case true=>
   simp only[tt,seval]
   refine cZ (cF 9 5 8) ?_ ?_<;>simp only[tt,seval]
   exact⟨_,_,aE (by rw[hzb];simp [aH,cD,aX,hq,hn,hv,ho];try omega),ai rfl⟩
  simp only[tt,seval]
  by_cases hk0:nk=0
  case neg=>
   simp only[tt,seval,hk0]
   exact⟨_,_,aE (by rw[hzb];simp [aH,cD,aX,hq,hn,hv,ho];try omega),ai rfl⟩
  simp only[tt,seval,hk0]
  by_cases hs1:ns=1
  case neg=>
   simp only[tt,seval,hs1]
   exact⟨_,_,aE (by rw[hzb];simp [aH,cD,aX,hq,hn,hv,ho,hk0,hs1];try omega),ai rfl⟩
  simp only[tt,seval,hs1]
  exact⟨_,_,aE (by rw[hzb];simp [aH,cD,aX,hq,hn,hv,ho,hk0,hs1];try omega),ai rfl⟩
 ·have n1:¬kind=1:=by omega
  have n2:¬kind=2:=by omega
  have n3:¬kind=3:=by omega
  have n4:¬kind=4:=by omega
  have n5:¬kind=5:=by omega
  have n6:¬kind=6:=by omega
  have n7:¬kind=7:=by omega
  have n8:¬kind=8:=by omega
  have n9:¬kind=9:=by omega
  have hk58:decide ((5:Int)<=kind/\kind<=8)=false:=ao (by omega)
  simp only[tt,seval,n2]
  by_cases hq:qual=⟨#[]⟩
  case neg=>
   simp only[tt,seval,hq,n3,n4]
   exact⟨_,_,aE (by rw[hzb];simp [aH,cD,aX,n1,n2,n3,n4,n5,n6,n7,n8,n9,hq];try omega),ai rfl⟩
  simp only[tt,seval,hq]
  by_cases hn:name=⟨#[]⟩
  case neg=>
   simp only[tt,seval,hn,n3,n4]
   exact⟨_,_,aE (by rw[hzb];simp [aH,cD,aX,n1,n2,n3,n4,n5,n6,n7,n8,n9,hq,hn];try omega),ai rfl⟩
  simp only[tt,seval,hn,n1]
  rw[bX (by kernel_rfl) (ei val)]
  simp only[tt,seval,n3,n4]
  cases hv:zV val
  case false=>
   simp only[tt,seval]
   exact⟨_,_,aE (by rw[hzb];simp [aH,cD,aX,n1,n2,n3,n4,n5,n6,n7,n8,n9,hq,hn,hv];try omega),ai rfl⟩
  simp only[tt,seval]
  by_cases ho:op=0
  case neg=>
   simp only[tt,seval,ho,n1,n2,n3,n4,n5,n6,n7,n8,n9]
   exact⟨_,_,aE (by rw[hzb];simp [aH,cD,aX,n1,n2,n3,n4,n5,n6,n7,n8,n9,hq,hn,hv,ho];try omega),ai rfl⟩
  simp only[tt,seval,ho]
  cases not
  case true=>
   simp only[tt,seval]
   refine cZ (cF kind 5 8) ?_ ?_<;>simp only[tt,seval]
   simp only[tt,seval,hk58]
   exact⟨_,_,aE (by rw[hzb];simp [aH,cD,aX,n1,n2,n3,n4,n5,n6,n7,n8,n9];try omega),ai rfl⟩
  case false=>
   simp only[tt,seval,n1,n2,n3,n4,n5,n6,n7,n8,n9]
   exact⟨_,_,aE (by rw[hzb];simp [aH,cD,aX,n1,n2,n3,n4,n5,n6,n7,n8,n9];try omega),ai rfl⟩
def dC (kind op:Int) (val:Val) (qual name:ByteArray):S:=.tu [([.v (.bool (aX kind).1),.v (.bool (aX kind).2.1),.v (.bool (aX kind).2.2.1),.v (.bool (aX kind).2.2.2.1),.v (.int .i64 (aX kind).2.2.2.2.1),.v (.int .i64 (aX kind).2.2.2.2.2.1),.v (.int .i64 (aX kind).2.2.2.2.2.2)],false),([.v (.bool (cD kind op val qual name))],true)]
set_option maxHeartbeats 2000000 in
theorem eM (kind op:Int) (not:Bool) (val:Val) (qual name:ByteArray) (kids:List Expr) (sub:List Query):Cl Tryz.prog 188 [.ag (av (Expr.mk kind op not val qual name kids sub).row)] [] fun r _=>r=dC kind op val qual name:=by
 obtain⟨zs,hzs⟩:∃zs,zs=dC kind op val qual name:=⟨_,rfl⟩
 rw[<-hzs,ah]
 refine ae ab false Tryz.func188 rfl (by kernel_rfl) ?_
 simp only[Tryz.f188,tt,seval]
 rcases (show kind=1∨kind=2∨kind=3∨kind=4∨kind=5∨kind=6∨kind=7∨kind=8∨kind=9∨(kind<1∨9<kind) by omega) with rfl|rfl|rfl|rfl|rfl|rfl|rfl|rfl|rfl|hk
 ·try simp only[tt,seval]
  refine cZ (CK val) ?_ ?_<;>simp only[tt,seval,Val.row]
  exact⟨_,_,(by rw[hzs];simp [dC,cD,aX,]),ai rfl⟩
 ·try simp only[tt,seval]
  refine cZ (er name) ?_ ?_<;>simp only[tt,seval]
  cases hnb:decide (1<=name.size/\name.size<=20)
  case false=>
   simp only[tt,seval]
   exact⟨_,_,(by rw[hzs];simp [dC,cD,aX,b9,gq,hnb]),ai rfl⟩
  simp only[tt,seval]
  by_cases hq:qual=⟨#[]⟩
  case pos=>
   simp only[tt,seval,hq]
   exact⟨_,_,(by rw[hzs];simp [dC,cD,aX,b9,gq,hnb,hq]),ai rfl⟩
  simp only[tt,seval,hq]
  refine cZ (er qual) ?_ ?_<;>simp only[tt,seval]
  exact⟨_,_,(by rw[hzs];simp [dC,cD,aX,b9,gq,hnb,hq]),ai rfl⟩
 ·try simp only[tt,seval]
  refine dDrawn.intro [] (.take 0 (.take 1 (.take 2 (.take 3 (.take 4 (.take 5 (.br 6 (.take 7 (.take 8 (.br 9 (.take 10 .done) .nobr))) (.br 9 (.take 6 (.take 7 (.take 8 (.take 10 .done)))) .nobr)))))))) (by kernel_rfl) ?_
  simp only[tt,seval]
  by_cases h15:op=15
  case pos=>
   simp only[tt,seval,ap h15]
   refine aa ?_ ?_<;>exact⟨_,_,(by rw[hzs];simp [dC,cD,aX,h15]),ai rfl⟩
  simp only[tt,seval,ao h15]
  refine aa ?_ ?_<;>exact⟨_,_,(by rw[hzs];simp [dC,cD,aX,h15]),ai rfl⟩
 ·try simp only[tt,seval]
  refine dDrawn.intro [] (.take 0 (.take 1 (.take 2 (.take 3 (.take 4 (.take 5 (.br 6 (.take 7 (.take 8 (.br 9 (.take 10 .done) .nobr))) (.br 9 (.take 6 (.take 7 (.take 8 (.take 10 .done)))) .nobr)))))))) (by kernel_rfl) ?_
  simp only[tt,seval]
  by_cases h1:1<=op
  case neg=>
   simp only[tt,seval,ao h1]
   refine aa ?_ ?_<;>exact⟨_,_,(by rw[hzs];simp [dC,cD,aX,h1]),ai rfl⟩
  simp only[tt,seval,ap h1]
  refine aa ?_ ?_<;>exact⟨_,_,(by rw[hzs];simp [dC,cD,aX,h1]),ai rfl⟩
 ·try simp only[tt,seval]
  exact⟨_,_,(by rw[hzs];simp [dC,cD,aX,]),ai rfl⟩
 ·try simp only[tt,seval]
  exact⟨_,_,(by rw[hzs];simp [dC,cD,aX,]),ai rfl⟩
 ·try simp only[tt,seval]
  exact⟨_,_,(by rw[hzs];simp [dC,cD,aX,]),ai rfl⟩
 ·try simp only[tt,seval]
  exact⟨_,_,(by rw[hzs];simp [dC,cD,aX,]),ai rfl⟩
 ·try simp only[tt,seval]
  exact⟨_,_,(by rw[hzs];simp [dC,cD,aX,]),ai rfl⟩
 ·have n1:¬kind=1:=by omega
  have n2:¬kind=2:=by omega
  have n3:¬kind=3:=by omega
  have n4:¬kind=4:=by omega
  have n5:¬kind=5:=by omega
  have n6:¬kind=6:=by omega
  have n7:¬kind=7:=by omega
  have n8:¬kind=8:=by omega
  have n9:¬kind=9:=by omega
  simp only[tt,seval,n1,n2,n3,n4,n5,n6,n7,n8,n9]
  exact⟨_,_,(by rw[hzs];simp [dC,cD,aX,n1,n2,n3,n4,n5,n6,n7,n8,n9];omega),ai rfl⟩
theorem Gq:ByteArray.empty=⟨#[]⟩:=rfl
theorem dv {α:Type} {g:α->Bool} {l:List α} {x:α} (h:x∈l) (hx:g x=false):l.all g=false:=by
 cases h':l.all g with
 |false=>rfl
 |true=>have:=List.all_eq_true.1 h' x h;rw[hx] at this;cases this
theorem eN {α:Type} {g:α->Bool} {l:List α} (h:∀j (hj:j<l.length),g l[j]=true):l.all g=true:=List.all_eq_true.2 fun x hx=>by
 obtain⟨j,hj,rfl⟩:=List.mem_iff_getElem.1 hx
 exact h j hj
def oP:Expr->Bool | .mk kind op not val qual name kids sub=>dX kind op not val qual name kids.length sub.length
def qu:Item->Bool | .mk star qual e as_=>if star=true then (gq qual&&(decide (as_=⟨#[]⟩)&&oP e)) else (decide (qual=⟨#[]⟩)&&gq as_)
def qK (i:Nat):Source->Bool | .mk table as_ on=>b9 table&&(gq as_&&(decide (on.length<=1)&&(decide (¬i=0)||decide (on.length=0))))
def Ba (l:List Source):Bool:=(List.range l.length).all fun i=>match l[i]? with|some s=>qK i s|none=>true
def C1:Query->Bool | .mk _ items from_ where_ order limit=>decide (1<=items.length/\items.length<=12)&&(decide (1<=from_.length/\from_.length<=3)&&(decide (where_.length<=1)&&(decide (order.length<=12)&&(decide (-1<=limit)&&(items.all qu&&Ba from_)))))
theorem Bb {l:List Source} {i:Nat} (h:i<l.length) (hb:qK i l[i]=false):Ba l=false:=by
 refine dv (x:=i) (List.mem_range.2 h) ?_
 rw[ay h];exact hb
theorem CM {l:List Source} (h:∀j (hj:j<l.length),qK j l[j]=true):Ba l=true:=List.all_eq_true.2 fun j hj=>by
 have hj:=List.mem_range.1 hj
 rw[ay hj];exact h j hj
def eZ (g:Expr->Bool) (q:Query):Bool:=C1 q&&(exprsQ q).all g
def wt (g:Expr->Bool):Expr->Bool | .mk kind op not val qual name kids sub=>aH kind op not val qual name kids.length sub.length&&(kids.all g&&sub.all (eZ g))
noncomputable def fmE:Expr->Bool:=gg wt
theorem Bc (l:List Expr) (g:Expr->Bool) (h:∀x∈l,Cl Tryz.prog 212 [.ag (av x.row)] [] fun r _=>r=vb (!g x)):Cl Tryz.prog 243 [.c (.sl l.length (l.flatMap Expr.row) none),.c (.fn 212 [] [])] [] fun r _=>∃n:Int,r=vi n/\decide (0<=n) = !(l.all g):=by
 refine ae ab false Tryz.func243 rfl (by kernel_rfl) ?_
 simp only[Tryz.f243,tt,seval]
 refine fun _=>?_
 refine dLoop.intro (fun f L p=>∃i:Nat,f 8=vi i/\i<=l.length/\(∀j (hj:j<l.length),j<i->g l[j]=true)/\L=[]/\p=none) (fun f _ _=>(l.length-aU (f 8)).toNat) [] none ⟨ak _,al _,?_⟩ ?_
 ·simp only[tt,seval]
  exact⟨0,rfl,by omega,fun j _ h=>absurd h (Nat.not_lt_zero _)⟩
 ·rintro g' L p ⟨i,hix,hi,hall,rfl,rfl⟩
  simp only[tt,seval] at hix
  simp only[tt,seval,hix,Int.ofNat_lt]
  refine aa (fun hlt=>?_) (fun hge=>?_)
  ·refine⟨by omega,by omega,_,aF aC (ay hlt),Expr.ne _ _,?_⟩
   simp only[seval,Expr.tk,aC]
   refine cZ (h l[i] (aI hlt)) ?_ ?_<;>simp only[tt,seval,hix]
   refine aa (fun hb=>?_) (fun hb=>?_)
   ·have hb:g l[i]=false:=by simpa only[Bool.not_eq_true'] using hb
    refine⟨vi i,[],⟨i,rfl,?_⟩,ai rfl⟩
    rw[ap (by omega),dv (aI hlt) hb];rfl
   ·have hb:g l[i]=true:=by simpa only[Bool.not_eq_false'] using hb
    try rw[dk i (by omega)]
    exact⟨_,none,ak _,al _,⟨i+1,rfl,by omega,fun j hj hji=>by
     by_cases e:j=i
     ·subst e;exact hb
     ·exact hall j hj (by omega),rfl,rfl⟩,by simp only[aU];omega⟩
  ·refine⟨vi (-1),[],⟨-1,rfl,?_⟩,ai rfl⟩
   rw[eN fun j hj=>hall j hj (by omega)];rfl
theorem vf (l:List Expr) (g:Expr->Bool) (h:∀x∈l,Cl Tryz.prog 212 [.ag (av x.row)] [] fun r _=>r=vb (!g x)):Cl Tryz.prog 211 [.c (.sl l.length (l.flatMap Expr.row) none),.c (.fn 212 [] [])] [] fun r _=>r=vb (!(l.all g)):=by
 refine ae ab false Tryz.func211 rfl (by kernel_rfl) ?_
 simp only[Tryz.f211,tt,seval]
 refine hJ (Bc l g h) ?_ ?_ ?_
 ·decide
 ·simp only[tt,seval]
 rintro r ⟨n,rfl,hn⟩
 simp only[tt,seval]
 exact⟨_,_,aE hn,ai rfl⟩
theorem Bd (l:List Query) (g:Query->Bool) (h:∀x∈l,Cl Tryz.prog 190 [.ag (av x.row)] [] fun r _=>r=vb (!g x)):Cl Tryz.prog 239 [.c (.sl l.length (l.flatMap Query.row) none),.c (.fn 190 [] [])] [] fun r _=>∃n:Int,r=vi n/\decide (0<=n) = !(l.all g):=by
 refine ae ab false Tryz.func239 rfl (by kernel_rfl) ?_
 simp only[Tryz.f239,tt,seval]
 refine fun _=>?_
 refine dLoop.intro (fun f L p=>∃i:Nat,f 8=vi i/\i<=l.length/\(∀j (hj:j<l.length),j<i->g l[j]=true)/\L=[]/\p=none) (fun f _ _=>(l.length-aU (f 8)).toNat) [] none ⟨ak _,al _,?_⟩ ?_
 ·simp only[tt,seval]
  exact⟨0,rfl,by omega,fun j _ h=>absurd h (Nat.not_lt_zero _)⟩
 ·rintro g' L p ⟨i,hix,hi,hall,rfl,rfl⟩
  simp only[tt,seval] at hix
  simp only[tt,seval,hix,Int.ofNat_lt]
  refine aa (fun hlt=>?_) (fun hge=>?_)
  ·refine⟨by omega,by omega,_,aF Query.row_len (ay hlt),Query.ne _ _,?_⟩
   simp only[seval,Query.tk,Query.row_len]
   refine cZ (h l[i] (aI hlt)) ?_ ?_<;>simp only[tt,seval,hix]
   refine aa (fun hb=>?_) (fun hb=>?_)
   ·have hb:g l[i]=false:=by simpa only[Bool.not_eq_true'] using hb
    refine⟨vi i,[],⟨i,rfl,?_⟩,ai rfl⟩
    rw[ap (by omega),dv (aI hlt) hb];rfl
   ·have hb:g l[i]=true:=by simpa only[Bool.not_eq_false'] using hb
    try rw[dk i (by omega)]
    exact⟨_,none,ak _,al _,⟨i+1,rfl,by omega,fun j hj hji=>by
     by_cases e:j=i
     ·subst e;exact hb
     ·exact hall j hj (by omega),rfl,rfl⟩,by simp only[aU];omega⟩
  ·refine⟨vi (-1),[],⟨-1,rfl,?_⟩,ai rfl⟩
   rw[eN fun j hj=>hall j hj (by omega)];rfl
theorem d8 (l:List Query) (g:Query->Bool) (h:∀x∈l,Cl Tryz.prog 190 [.ag (av x.row)] [] fun r _=>r=vb (!g x)):Cl Tryz.prog 189 [.c (.sl l.length (l.flatMap Query.row) none),.c (.fn 190 [] [])] [] fun r _=>r=vb (!(l.all g)):=by
 refine ae ab false Tryz.func189 rfl (by kernel_rfl) ?_
 simp only[Tryz.f189,tt,seval]
 refine hJ (Bd l g h) ?_ ?_ ?_
 ·decide
 ·simp only[tt,seval]
 rintro r ⟨n,rfl,hn⟩
 simp only[tt,seval]
 exact⟨_,_,aE hn,ai rfl⟩
theorem ED (e:Expr) (b:Bool) (h:Cl Tryz.prog 127 [.ag (av e.row)] [] fun r _=>r=vb b):Cl Tryz.prog 212 [.ag (av e.row)] [] fun r _=>r=vb (!b):=by
 obtain⟨kind,op,not,val,qual,name,kids,sub⟩:=e
 rw[ah] at h ⊢
 refine ae ab false Tryz.func212 rfl (by kernel_rfl) ?_
 simp only[Tryz.f212,tt,seval]
 refine cZ (h) ?_ ?_<;>simp only[tt,seval]
 exact⟨_,_,rfl,ai rfl⟩
theorem ny (e:Query) (b:Bool) (h:Cl Tryz.prog 133 [.ag (av e.row)] [] fun r _=>r=vb b):Cl Tryz.prog 190 [.ag (av e.row)] [] fun r _=>r=vb (!b):=by
 obtain⟨distinct,items,from_,where_,order,limit⟩:=e
 rw[ar] at h ⊢
 refine ae ab false Tryz.func190 rfl (by kernel_rfl) ?_
 simp only[Tryz.f190,tt,seval]
 refine cZ (h) ?_ ?_<;>simp only[tt,seval]
 exact⟨_,_,rfl,ai rfl⟩
theorem cu (l:List Expr) (g:Expr->Bool) (h:∀x∈l,Cl Tryz.prog 127 [.ag (av x.row)] [] fun r _=>r=vb (g x)):Cl Tryz.prog 141 [.c (.sl l.length (l.flatMap Expr.row) none)] [] fun r _=>r=vb (l.all g):=by
 refine ae ab false Tryz.func141 rfl (by kernel_rfl) ?_
 simp only[Tryz.f141,tt,seval]
 refine cZ (vf l g (fun x hx=>ED x (g x) (h x hx))) ?_ ?_<;>simp only[tt,seval]
 exact⟨_,_,aE (Bool.not_not _),ai rfl⟩
theorem CN (e:Expr):Cl Tryz.prog 199 [.ag (av e.row)] [] fun r _=>r=vb (oP e):=by
 obtain⟨kind,op,not,val,qual,name,kids,sub⟩:=e
 rw[ah]
 refine ae ab false Tryz.func199 rfl (by kernel_rfl) ?_
 simp only[Tryz.f199,tt,seval]
 refine cZ (B9 kind op not val qual name kids sub) ?_ ?_<;>simp only[tt,seval,ah,Gq]
 exact⟨_,_,rfl,ai rfl⟩
end Go.Proofs.YteffjmaadkkmeaaGreatDoor
