/-
  Trees in order.
  Conditions: none.
-/
import Derived.Test.YteffjmaadkkmeaaGreatDoorQSB
set_option linter.unusedVariables false
set_option linter.unusedSimpArgs false
set_option linter.unusedSectionVars false
set_option maxRecDepth 8000
namespace Go.Proofs.YteffjmaadkkmeaaGreatDoor
open Go Go.Dv
open Go.Vc (D eb ec dK bN)
theorem me (distinct:Bool) (items:List Item) (from_:List Source) (where_:List Expr) (order:List SortKey) (limit:Int) (hsz:aW (Query.mk distinct items from_ where_ order limit)≤1048576):Cl Tryz.prog 182 [.ag (an (Query.mk distinct items from_ where_ order limit).row)] [] fun r _=>r = .c (.sl (aw (Query.mk distinct items from_ where_ order limit)).length ((aw (Query.mk distinct items from_ where_ order limit)).flatMap Expr.row) none):=by
 have hlen:=dh (Query.mk distinct items from_ where_ order limit)
 have q0:aw (Query.mk distinct items from_ where_ order limit)=bb items++from_.flatMap Source.on++where_++order.map SortKey.e:=rfl
 rw[q0] at hlen ⊢
 simp only[List.length_append,List.length_map] at hlen
 have htot:=Nat.le_trans hlen hsz
 have hil:=d4 items
 rw[f5,f4,eJ,aC,dx] at hsz
 rw[Query.row_mk]
 refine ab aa false Tryz.func182 rfl (by kernel_rfl) ?_
 simp only[Tryz.f182,tt,seval]
 refine dLoop.gh [.ren 7 30] ⟨by decide,by decide,?_⟩
 refine dLoop0.intro (fun f L p=>∃(i:Nat) (es:List Expr),f 4=vi i∧f 3 = .c (.s 30 es.length)∧i≤items.length∧es=bb (items.take i)∧L=[(1,.str [.v (.bool distinct),.sl items.length (items.flatMap Item.row) none,.sl from_.length (from_.flatMap Source.row) none,.sl where_.length (where_.flatMap Expr.row) none,.sl order.length (order.flatMap SortKey.row) none,.v (.int .i64 limit)]),(30,.arr 29 es.length (es.flatMap Expr.row) none)]∧p=none) (fun f _ _=>(items.length-bn (f 4)).toNat) [(1,.str [.v (.bool distinct),.sl items.length (items.flatMap Item.row) none,.sl from_.length (from_.flatMap Source.row) none,.sl where_.length (where_.flatMap Expr.row) none,.sl order.length (order.flatMap SortKey.row) none,.v (.int .i64 limit)]),(30,.arr 29 0 [] none)] none ⟨SubO.cons rfl (SubO.cons rfl (SubO.nil _)),PoSub.none _,?_⟩ ?_
 ·simp only[tt,seval]
  exact⟨0,[],rfl,rfl,by omega,rfl,rfl⟩
 ·rintro g L p ⟨i,es,hi4,h3,hi,hes,rfl,rfl⟩
  simp only[tt,seval] at hi4 h3
  simp only[tt,seval,hi4,h3,Int.ofNat_lt]
  refine fun _=>?_
  refine And.intro (fun hlt=>?_) (fun hge=>?_)
  ·have hlt:i<items.length:=by omega
   have hst:=jj hlt
   have hel:es.length≤items.length:=by rw[hes];exact Nat.le_trans (d4 _) (by rw[List.length_take];omega)
   have hei:es.length≤i:=by rw[hes];exact Nat.le_trans (d4 _) (by rw[List.length_take];omega)
   obtain⟨it,bO⟩:∃it,it=items[i]:=⟨_,rfl⟩
   rw[←bO] at hst
   refine⟨by omega,by omega,_,ax Item.row_len (List.getElem?_eq_getElem hlt),Item.ne _ _,?_⟩
   obtain⟨star,qual,⟨k,o,n,v,q,m,ks,ss⟩,as_⟩:=it
   rw[←bO,Item.row_mk,Expr.row_mk]
   simp only[tt,seval,hi4,h3,Int.ofNat_lt]
   refine And.intro (fun hs=>?_) (fun hs=>?_)
   ·have hs:star=false:=by simpa only[Bool.not_eq_true'] using hs
    refine⟨by omega,by omega,_,ax Item.row_len (List.getElem?_eq_getElem hlt),Item.ne _ _,?_⟩
    rw[←bO,Item.row_mk,Expr.row_mk]
    simp only[tt,seval,hi4,h3,Int.ofNat_lt]
    refine⟨by kernel_rfl,⟨by simp only[maxLen];omega,by omega⟩,?_⟩
    have e:es.flatMap Expr.row++[int k,int o,bool n,int v.kind,int v.num,str v.text,str q,str m,.sl ks.length (ks.flatMap Expr.row),.sl ss.length (ss.flatMap Query.row)]=(es++[Expr.mk k o n v q m ks ss]).flatMap Expr.row:=by rw[List.flatMap_append];simp [Expr.row_mk]
    have e2:es.length+1=(es++[Expr.mk k o n v q m ks ss]).length:=by simp
    rw[e,e2]
    try rw[eE i (by omega)]
    exact⟨_,none,SubO.cons rfl (SubO.cons rfl (SubO.nil _)),PoSub.none _,⟨i+1,_,rfl,rfl,by omega,by rw[hst,hes];subst hs;rfl,rfl,rfl⟩,by simp only[bn];omega⟩
   ·have hs:star=true:=by simpa only[Bool.not_eq_false'] using hs
    try rw[eE i (by omega)]
    exact⟨_,none,SubO.cons rfl (SubO.cons rfl (SubO.nil _)),PoSub.none _,⟨i+1,es,rfl,rfl,by omega,by rw[hst,hes];subst hs;simp [Item.star],rfl,rfl⟩,by simp only[bn];omega⟩
  ·have hie:i=items.length:=by omega
   subst hie
   rw[List.take_length] at hes
   subst hes
   try simp only[tt,seval,hi4,h3]
   refine dLoop.gh [.ren 30 45] ⟨by decide,by decide,?_⟩
   refine dLoop0.intro (fun f L p=>∃(i:Nat) (es:List Expr),f 5=vi i∧f 3 = .c (.s 45 es.length)∧i≤from_.length∧es=bb items++(from_.take i).flatMap Source.on∧L=[(1,.str [.v (.bool distinct),.sl items.length (items.flatMap Item.row) none,.sl from_.length (from_.flatMap Source.row) none,.sl where_.length (where_.flatMap Expr.row) none,.sl order.length (order.flatMap SortKey.row) none,.v (.int .i64 limit)]),(45,.arr 29 es.length (es.flatMap Expr.row) none)]∧p=none) (fun f _ _=>(from_.length-bn (f 5)).toNat) [(1,.str [.v (.bool distinct),.sl items.length (items.flatMap Item.row) none,.sl from_.length (from_.flatMap Source.row) none,.sl where_.length (where_.flatMap Expr.row) none,.sl order.length (order.flatMap SortKey.row) none,.v (.int .i64 limit)]),(45,.arr 29 (bb items).length ((bb items).flatMap Expr.row) none)] none ⟨SubO.cons rfl (SubO.cons rfl (SubO.nil _)),PoSub.none _,?_⟩ ?_
   ·simp only[tt,seval,h3]
    exact⟨0,bb items,rfl,rfl,by omega,by simp,rfl⟩
   ·rintro g L p ⟨i,es,hi5,h3,hi,hes,rfl,rfl⟩
    simp only[tt,seval] at hi5 h3
    simp only[tt,seval,hi5,h3,Int.ofNat_lt]
    refine fun _=>?_
    refine And.intro (fun hlt=>?_) (fun hge=>?_)
    ·have hlt:i<from_.length:=by omega
     have hst:=pL hlt
     have hel:es.length≤(bb items).length+(from_.flatMap Source.on).length:=by have:=jk from_ i;rw[hes,List.length_append];omega
     obtain⟨it,bO⟩:∃it,it=from_[i]:=⟨_,rfl⟩
     rw[←bO] at hst
     have hon:it.on.length≤1048576:=by
      have h1:=dD dm (List.getElem_mem hlt)
      rw[←bO] at h1
      obtain⟨table,as_,on⟩:=it
      rw[eG,aC] at h1
      show on.length≤_
      omega
     refine⟨by omega,by omega,_,ax Source.row_len (List.getElem?_eq_getElem hlt),Source.ne _ _,?_⟩
     obtain⟨table,as_,on⟩:=it
     have hon:on.length≤1048576:=hon
     rw[←bO,Source.row_mk]
     simp only[tt,seval,hi5,h3,Int.ofNat_lt]
     refine⟨by kernel_rfl,by rw[aT Expr.row_len],⟨by simp only[maxLen];omega,by omega⟩,?_⟩
     have e2:es.length+on.length=(es++on).length:=by simp
     rw[←List.flatMap_append,e2]
     try rw[eE i (by omega)]
     exact⟨_,none,SubO.cons rfl (SubO.cons rfl (SubO.nil _)),PoSub.none _,⟨i+1,_,rfl,rfl,by omega,by rw[hst,hes,List.append_assoc];rfl,rfl,rfl⟩,by simp only[bn];omega⟩
    ·have hie:i=from_.length:=by omega
     subst hie
     rw[List.take_length] at hes
     try simp only[tt,seval,hi5,h3]
     have hel:es.length=(bb items).length+(from_.flatMap Source.on).length:=by rw[hes,List.length_append]
     refine⟨by kernel_rfl,by rw[aT Expr.row_len],⟨by simp only[maxLen];omega,by omega⟩,?_⟩
     have e2:es.length+where_.length=(es++where_).length:=by simp
     rw[←List.flatMap_append,e2]
     obtain⟨fs,hfs⟩:∃fs,fs=es++where_:=⟨_,rfl⟩
     have hfl:fs.length=(bb items).length+(from_.flatMap Source.on).length+where_.length:=by rw[hfs,List.length_append,hel]
     have hfs':fs=bb items++from_.flatMap Source.on++where_:=by rw[hfs,hes]
     rw[←hfs]
     try simp only[tt,seval]
     refine dLoop.gh [.ren 49 65] ⟨by decide,by decide,?_⟩
     refine dLoop0.intro (fun f L p=>∃(i:Nat) (es:List Expr),f 6=vi i∧f 3 = .c (.s 65 es.length)∧i≤order.length∧es=fs++(order.take i).map SortKey.e∧L=[(1,.str [.v (.bool distinct),.sl items.length (items.flatMap Item.row) none,.sl from_.length (from_.flatMap Source.row) none,.sl where_.length (where_.flatMap Expr.row) none,.sl order.length (order.flatMap SortKey.row) none,.v (.int .i64 limit)]),(65,.arr 29 es.length (es.flatMap Expr.row) none)]∧p=none) (fun f _ _=>(order.length-bn (f 6)).toNat) [(1,.str [.v (.bool distinct),.sl items.length (items.flatMap Item.row) none,.sl from_.length (from_.flatMap Source.row) none,.sl where_.length (where_.flatMap Expr.row) none,.sl order.length (order.flatMap SortKey.row) none,.v (.int .i64 limit)]),(65,.arr 29 fs.length (fs.flatMap Expr.row) none)] none ⟨SubO.cons rfl (SubO.cons rfl (SubO.nil _)),PoSub.none _,?_⟩ ?_
     ·simp only[tt,seval,h3]
      exact⟨0,fs,rfl,rfl,by omega,by simp,rfl⟩
     ·rintro g L p ⟨i,es,hi6,h3,hi,hes,rfl,rfl⟩
      simp only[tt,seval] at hi6 h3
      simp only[tt,seval,hi6,h3,Int.ofNat_lt]
      refine fun _=>?_
      refine And.intro (fun hlt=>?_) (fun hge=>?_)
      ·have hlt:i<order.length:=by omega
       have hst:=nD hlt
       have hel:es.length=fs.length+i:=by rw[hes,List.length_append,List.length_map,List.length_take];omega
       obtain⟨it,bO⟩:∃it,it=order[i]:=⟨_,rfl⟩
       rw[←bO] at hst
       refine⟨by omega,by omega,_,ax SortKey.row_len (List.getElem?_eq_getElem hlt),SortKey.ne _ _,?_⟩
       obtain⟨⟨k,o,n,v,q,m,ks,ss⟩,desc⟩:=it
       rw[←bO,SortKey.row_mk,Expr.row_mk]
       simp only[tt,seval,hi6,h3,Int.ofNat_lt]
       refine⟨by kernel_rfl,⟨by simp only[maxLen];omega,by omega⟩,?_⟩
       have e:es.flatMap Expr.row++[int k,int o,bool n,int v.kind,int v.num,str v.text,str q,str m,.sl ks.length (ks.flatMap Expr.row),.sl ss.length (ss.flatMap Query.row)]=(es++[Expr.mk k o n v q m ks ss]).flatMap Expr.row:=by rw[List.flatMap_append];simp [Expr.row_mk]
       have e2:es.length+1=(es++[Expr.mk k o n v q m ks ss]).length:=by simp
       rw[e,e2]
       try rw[eE i (by omega)]
       exact⟨_,none,SubO.cons rfl (SubO.cons rfl (SubO.nil _)),PoSub.none _,⟨i+1,_,rfl,rfl,by omega,by rw[hst,hes,List.append_assoc];rfl,rfl,rfl⟩,by simp only[bn];omega⟩
      ·have hie:i=order.length:=by omega
       subst hie
       rw[List.take_length] at hes
       try simp only[tt,seval,hi6,h3]
       refine⟨_,[],rfl,aj ?_⟩
       simp only[tt,seval]
       rw[hes,hfs']
       exact⟨rfl,rfl⟩
theorem qR (distinct:Bool) (items:List Item) (from_:List Source) (where_:List Expr) (order:List SortKey) (limit:Int) (hsz:aW (Query.mk distinct items from_ where_ order limit)≤1048576):Cl Tryz.prog 197 [.ag (an (Query.mk distinct items from_ where_ order limit).row)] [] fun r _=>r = .c (.sl (aw (Query.mk distinct items from_ where_ order limit)).length ((aw (Query.mk distinct items from_ where_ order limit)).flatMap Expr.row) none):=by
 have hlen:=dh (Query.mk distinct items from_ where_ order limit)
 have q0:aw (Query.mk distinct items from_ where_ order limit)=bb items++from_.flatMap Source.on++where_++order.map SortKey.e:=rfl
 rw[q0] at hlen ⊢
 simp only[List.length_append,List.length_map] at hlen
 have htot:=Nat.le_trans hlen hsz
 have hil:=d4 items
 rw[f5,f4,eJ,aC,dx] at hsz
 rw[Query.row_mk]
 refine ab aa false Tryz.func197 rfl (by kernel_rfl) ?_
 simp only[Tryz.f197,tt,seval]
 refine fun _=>?_
 refine dLoop.gh [.ren 10 25] ⟨by decide,by decide,?_⟩
 refine dLoop0.intro (fun f L p=>∃(i:Nat) (es:List Expr),f 14=vi i∧f 3 = .c (.s 25 es.length)∧i≤items.length∧es=bb (items.take i)∧L=[(1,.str [.v (.bool distinct),.sl items.length (items.flatMap Item.row) none,.sl from_.length (from_.flatMap Source.row) none,.sl where_.length (where_.flatMap Expr.row) none,.sl order.length (order.flatMap SortKey.row) none,.v (.int .i64 limit)]),(25,.arr 29 es.length (es.flatMap Expr.row) none)]∧p=none) (fun f _ _=>(items.length-bn (f 14)).toNat) [(1,.str [.v (.bool distinct),.sl items.length (items.flatMap Item.row) none,.sl from_.length (from_.flatMap Source.row) none,.sl where_.length (where_.flatMap Expr.row) none,.sl order.length (order.flatMap SortKey.row) none,.v (.int .i64 limit)]),(25,.arr 29 0 [] none)] none ⟨SubO.cons rfl (SubO.cons rfl (SubO.nil _)),PoSub.none _,?_⟩ ?_
 ·simp only[tt,seval]
  exact⟨0,[],rfl,rfl,by omega,rfl,rfl⟩
 ·rintro g L p ⟨i,es,hi4,h3,hi,hes,rfl,rfl⟩
  simp only[tt,seval] at hi4 h3
  simp only[tt,seval,hi4,h3,Int.ofNat_lt]
  refine And.intro (fun hlt=>?_) (fun hge=>?_)
  ·have hlt:i<items.length:=by omega
   have hst:=jj hlt
   have hel:es.length≤items.length:=by rw[hes];exact Nat.le_trans (d4 _) (by rw[List.length_take];omega)
   have hei:es.length≤i:=by rw[hes];exact Nat.le_trans (d4 _) (by rw[List.length_take];omega)
   obtain⟨it,bO⟩:∃it,it=items[i]:=⟨_,rfl⟩
   rw[←bO] at hst
   refine⟨by omega,by omega,_,ax Item.row_len (List.getElem?_eq_getElem hlt),Item.ne _ _,?_⟩
   obtain⟨star,qual,⟨k,o,n,v,q,m,ks,ss⟩,as_⟩:=it
   rw[←bO,Item.row_mk,Expr.row_mk]
   simp only[tt,seval,hi4,h3,Int.ofNat_lt]
   refine And.intro (fun hs=>?_) (fun hs=>?_)
   ·have hs:star=false:=by simpa only[Bool.not_eq_true'] using hs
    refine⟨by kernel_rfl,⟨by simp only[maxLen];omega,by omega⟩,?_⟩
    have e:es.flatMap Expr.row++[int k,int o,bool n,int v.kind,int v.num,str v.text,str q,str m,.sl ks.length (ks.flatMap Expr.row),.sl ss.length (ss.flatMap Query.row)]=(es++[Expr.mk k o n v q m ks ss]).flatMap Expr.row:=by rw[List.flatMap_append];simp [Expr.row_mk]
    have e2:es.length+1=(es++[Expr.mk k o n v q m ks ss]).length:=by simp
    rw[e,e2]
    try rw[eE i (by omega)]
    exact⟨_,none,SubO.cons rfl (SubO.cons rfl (SubO.nil _)),PoSub.none _,⟨i+1,_,rfl,rfl,by omega,by rw[hst,hes];subst hs;rfl,rfl,rfl⟩,by simp only[bn];omega⟩
   ·have hs:star=true:=by simpa only[Bool.not_eq_false'] using hs
    try rw[eE i (by omega)]
    exact⟨_,none,SubO.cons rfl (SubO.cons rfl (SubO.nil _)),PoSub.none _,⟨i+1,es,rfl,rfl,by omega,by rw[hst,hes];subst hs;simp [Item.star],rfl,rfl⟩,by simp only[bn];omega⟩
  ·have hie:i=items.length:=by omega
   subst hie
   rw[List.take_length] at hes
   subst hes
   try simp only[tt,seval,hi4,h3]
   refine fun _=>?_
   refine dLoop.gh [.ren 25 37] ⟨by decide,by decide,?_⟩
   refine dLoop0.intro (fun f L p=>∃(i:Nat) (es:List Expr),f 30=vi i∧f 3 = .c (.s 37 es.length)∧i≤from_.length∧es=bb items++(from_.take i).flatMap Source.on∧L=[(1,.str [.v (.bool distinct),.sl items.length (items.flatMap Item.row) none,.sl from_.length (from_.flatMap Source.row) none,.sl where_.length (where_.flatMap Expr.row) none,.sl order.length (order.flatMap SortKey.row) none,.v (.int .i64 limit)]),(37,.arr 29 es.length (es.flatMap Expr.row) none)]∧p=none) (fun f _ _=>(from_.length-bn (f 30)).toNat) [(1,.str [.v (.bool distinct),.sl items.length (items.flatMap Item.row) none,.sl from_.length (from_.flatMap Source.row) none,.sl where_.length (where_.flatMap Expr.row) none,.sl order.length (order.flatMap SortKey.row) none,.v (.int .i64 limit)]),(37,.arr 29 (bb items).length ((bb items).flatMap Expr.row) none)] none ⟨SubO.cons rfl (SubO.cons rfl (SubO.nil _)),PoSub.none _,?_⟩ ?_
   ·simp only[tt,seval,h3]
    exact⟨0,bb items,rfl,rfl,by omega,by simp,rfl⟩
   ·rintro g L p ⟨i,es,hi5,h3,hi,hes,rfl,rfl⟩
    simp only[tt,seval] at hi5 h3
    simp only[tt,seval,hi5,h3,Int.ofNat_lt]
    refine And.intro (fun hlt=>?_) (fun hge=>?_)
    ·have hlt:i<from_.length:=by omega
     have hst:=pL hlt
     have hel:es.length≤(bb items).length+(from_.flatMap Source.on).length:=by have:=jk from_ i;rw[hes,List.length_append];omega
     obtain⟨it,bO⟩:∃it,it=from_[i]:=⟨_,rfl⟩
     rw[←bO] at hst
     have hon:it.on.length≤1048576:=by
      have h1:=dD dm (List.getElem_mem hlt)
      rw[←bO] at h1
      obtain⟨table,as_,on⟩:=it
      rw[eG,aC] at h1
      show on.length≤_
      omega
     refine⟨by omega,by omega,_,ax Source.row_len (List.getElem?_eq_getElem hlt),Source.ne _ _,?_⟩
     obtain⟨table,as_,on⟩:=it
     have hon:on.length≤1048576:=hon
     rw[←bO,Source.row_mk]
     simp only[tt,seval,hi5,h3,Int.ofNat_lt]
     refine⟨by kernel_rfl,by rw[aT Expr.row_len],⟨by simp only[maxLen];omega,by omega⟩,?_⟩
     have e2:es.length+on.length=(es++on).length:=by simp
     rw[←List.flatMap_append,e2]
     try rw[eE i (by omega)]
     exact⟨_,none,SubO.cons rfl (SubO.cons rfl (SubO.nil _)),PoSub.none _,⟨i+1,_,rfl,rfl,by omega,by rw[hst,hes,List.append_assoc];rfl,rfl,rfl⟩,by simp only[bn];omega⟩
    ·have hie:i=from_.length:=by omega
     subst hie
     rw[List.take_length] at hes
     try simp only[tt,seval,hi5,h3]
     have hel:es.length=(bb items).length+(from_.flatMap Source.on).length:=by rw[hes,List.length_append]
     refine⟨by kernel_rfl,by rw[aT Expr.row_len],⟨by simp only[maxLen];omega,by omega⟩,?_⟩
     have e2:es.length+where_.length=(es++where_).length:=by simp
     rw[←List.flatMap_append,e2]
     obtain⟨fs,hfs⟩:∃fs,fs=es++where_:=⟨_,rfl⟩
     have hfl:fs.length=(bb items).length+(from_.flatMap Source.on).length+where_.length:=by rw[hfs,List.length_append,hel]
     have hfs':fs=bb items++from_.flatMap Source.on++where_:=by rw[hfs,hes]
     rw[←hfs]
     try simp only[tt,seval]
     refine fun _=>?_
     refine dLoop.gh [.ren 42 54] ⟨by decide,by decide,?_⟩
     refine dLoop0.intro (fun f L p=>∃(i:Nat) (es:List Expr),f 46=vi i∧f 3 = .c (.s 54 es.length)∧i≤order.length∧es=fs++(order.take i).map SortKey.e∧L=[(1,.str [.v (.bool distinct),.sl items.length (items.flatMap Item.row) none,.sl from_.length (from_.flatMap Source.row) none,.sl where_.length (where_.flatMap Expr.row) none,.sl order.length (order.flatMap SortKey.row) none,.v (.int .i64 limit)]),(54,.arr 29 es.length (es.flatMap Expr.row) none)]∧p=none) (fun f _ _=>(order.length-bn (f 46)).toNat) [(1,.str [.v (.bool distinct),.sl items.length (items.flatMap Item.row) none,.sl from_.length (from_.flatMap Source.row) none,.sl where_.length (where_.flatMap Expr.row) none,.sl order.length (order.flatMap SortKey.row) none,.v (.int .i64 limit)]),(54,.arr 29 fs.length (fs.flatMap Expr.row) none)] none ⟨SubO.cons rfl (SubO.cons rfl (SubO.nil _)),PoSub.none _,?_⟩ ?_
     ·simp only[tt,seval,h3]
      exact⟨0,fs,rfl,rfl,by omega,by simp,rfl⟩
     ·rintro g L p ⟨i,es,hi6,h3,hi,hes,rfl,rfl⟩
      simp only[tt,seval] at hi6 h3
      simp only[tt,seval,hi6,h3,Int.ofNat_lt]
      refine And.intro (fun hlt=>?_) (fun hge=>?_)
      ·have hlt:i<order.length:=by omega
       have hst:=nD hlt
       have hel:es.length=fs.length+i:=by rw[hes,List.length_append,List.length_map,List.length_take];omega
       obtain⟨it,bO⟩:∃it,it=order[i]:=⟨_,rfl⟩
       rw[←bO] at hst
       refine⟨by omega,by omega,_,ax SortKey.row_len (List.getElem?_eq_getElem hlt),SortKey.ne _ _,?_⟩
       obtain⟨⟨k,o,n,v,q,m,ks,ss⟩,desc⟩:=it
       rw[←bO,SortKey.row_mk,Expr.row_mk]
       simp only[tt,seval,hi6,h3,Int.ofNat_lt]
       refine⟨by kernel_rfl,⟨by simp only[maxLen];omega,by omega⟩,?_⟩
       have e:es.flatMap Expr.row++[int k,int o,bool n,int v.kind,int v.num,str v.text,str q,str m,.sl ks.length (ks.flatMap Expr.row),.sl ss.length (ss.flatMap Query.row)]=(es++[Expr.mk k o n v q m ks ss]).flatMap Expr.row:=by rw[List.flatMap_append];simp [Expr.row_mk]
       have e2:es.length+1=(es++[Expr.mk k o n v q m ks ss]).length:=by simp
       rw[e,e2]
       try rw[eE i (by omega)]
       exact⟨_,none,SubO.cons rfl (SubO.cons rfl (SubO.nil _)),PoSub.none _,⟨i+1,_,rfl,rfl,by omega,by rw[hst,hes,List.append_assoc];rfl,rfl,rfl⟩,by simp only[bn];omega⟩
      ·have hie:i=order.length:=by omega
       subst hie
       rw[List.take_length] at hes
       try simp only[tt,seval,hi6,h3]
       refine⟨_,[],rfl,aj ?_⟩
       simp only[tt,seval]
       rw[hes,hfs']
       exact⟨rfl,rfl⟩
def bX (l:List Nat):Nat:=l.foldl max 0
theorem gH (l:List Nat) (x:Nat):bX (l++[x])=max (bX l) x:=by simp [bX]
theorem yD {l:List Nat} {b:Nat} (h:∀x∈l,x≤b):bX l≤b:=by
 unfold bX
 suffices H:∀(l:List Nat) (a:Nat),a≤b→(∀x∈l,x≤b)→l.foldl max a≤b from H l 0 (Nat.zero_le _) h
 intro l
 induction l with
 |nil=>exact fun a h _=>h
 |cons y r ih=>exact fun a h hx=>ih _ (Nat.max_le.2 ⟨h,hx y (by simp)⟩) fun x hm=>hx x (by simp [hm])
theorem eh {α:Type} (g:α→Nat) {l:List α} {i:Nat} (h:i<l.length):(l.take (i+1)).map g=(l.take i).map g++[g l[i]]:=by
 rw[List.take_succ_eq_append_getElem h,List.map_append];rfl
theorem E1 (a b:Nat):(if (b:Int)>(a:Int) then (b:Int) else (a:Int))=((max a b:Nat):Int):=by split<;>omega
theorem CZ {x e:Expr} (h:x∈e.kids):av x+1≤av e:=by
 obtain⟨k,o,n,v,q,m,ks,ss⟩:=e
 have h:x∈ks:=h
 rw[et,aC]
 have:=dD av h
 have:=List.length_pos_of_mem h
 omega
theorem D0 {q:Query} {e:Expr} (h:q∈e.sub):aW q+1≤av e:=by
 obtain⟨k,o,n,v,q',m,ks,ss⟩:=e
 have h:q∈ss:=h
 rw[et,d8]
 have:=dD aW h
 have:=List.length_pos_of_mem h
 omega
theorem sG {x e:Expr} (h:jl x e):av x+1≤av e:=by
 rcases h with h|⟨q,hq,h⟩
 ·exact CZ h
 ·have:=D0 hq;have:=iD h;omega
def E2 (g:Expr→Nat) (e:Expr):Nat:=1+bX (e.kids.map g++e.sub.map fun q=>bX ((aw q).map g))
noncomputable def nh:Expr→Nat:=qk E2
theorem yE {e:Expr} {g:Expr→Nat} (h:∀x,jl x e→g x≤av x+1):E2 g e≤av e+1:=by
 unfold E2
 have:bX (e.kids.map g++e.sub.map fun q=>bX ((aw q).map g))≤av e:=yD fun y hy=>by
  rcases List.mem_append.1 hy with hy|hy
  ·obtain⟨x,hx,rfl⟩:=List.mem_map.1 hy
   have:=h x (.inl hx);have:=sG (.inl hx:jl x e);omega
  ·obtain⟨q,hq,rfl⟩:=List.mem_map.1 hy
   refine yD fun z hz=>?_
   obtain⟨x,hx,rfl⟩:=List.mem_map.1 hz
   have:=h x (.inr ⟨q,hq,hx⟩);have:=sG (.inr ⟨q,hq,hx⟩:jl x e);omega
 omega
theorem pQ (a b:Nat):Cl Tryz.prog 184 [vi a,vi b] [] fun r _=>r=vi (max a b:Nat):=by
 refine ab aa false Tryz.func184 rfl (by kernel_rfl) ?_
 simp only[Tryz.f184,tt,seval]
 refine And.intro (fun h=>?_) (fun h=>?_)
 ·exact⟨_,_,eX (by omega),ac rfl⟩
 ·exact⟨_,_,eX (by omega),ac rfl⟩
theorem pn (l:List Expr) (g:Expr→Nat) (h:∀x∈l,Cl Tryz.prog 125 [.ag (an x.row)] [] fun r _=>r=vi (g x:Nat)) (hl:l.length≤1048576):Cl Tryz.prog 196 [.c (.sl l.length (l.flatMap Expr.row) none)] [] fun r _=>r=vi (bX (l.map g):Nat):=by
 refine ab aa false Tryz.func196 rfl (by kernel_rfl) ?_
 simp only[Tryz.f196,tt,seval]
 refine fun _=>?_
 refine dLoop.intro (fun f L p=>∃i:Nat,f 8=vi i∧i≤l.length∧f 3=vi (bX ((l.take i).map g):Nat)∧L=[]∧p=none) (fun f _ _=>(l.length-bn (f 8)).toNat) [] none ⟨SubO.nil _,PoSub.none _,?_⟩ ?_
 ·simp only[tt,seval]
  exact⟨0,rfl,by omega,by simp [bX]⟩
 ·rintro g' L p ⟨i,hix,hi,hac,rfl,rfl⟩
  simp only[tt,seval] at hix hac
  simp only[tt,seval,hix,hac,Int.ofNat_lt]
  refine And.intro (fun hlt=>?_) (fun hge=>?_)
  ·have hlt:i<l.length:=by omega
   obtain⟨it,bO⟩:∃it,it=l[i]:=⟨_,rfl⟩
   have hmem:it∈l:=by rw[bO];exact List.getElem_mem hlt
   refine⟨by omega,by omega,_,ax Expr.row_len (List.getElem?_eq_getElem hlt),Expr.ne _ _,?_⟩
   have hstep:bX ((l.take (i+1)).map g)=max (bX ((l.take i).map g)) (g l[i]):=by rw[eh g hlt,gH]
   rw[←bO] at hstep
   obtain⟨k,o,n,v,q,m,ks,ss⟩:=it
   rw[←bO,Expr.row_mk]
   simp only[tt,seval,hix,hac]
   refine cZ (h _ hmem) (by decide) ?_ ?_<;>simp only[tt,seval,hix,hac,Expr.row_mk]
   rw[E1,ak (n:=(i:Int)+1) (by omega) (by omega)]
   exact⟨_,none,SubO.nil _,PoSub.none _,⟨i+1,rfl,by omega,eX (by rw[hstep]),rfl,rfl⟩,by simp only[bn];omega⟩
  ·have hie:i=l.length:=by omega
   subst hie
   rw[List.take_length] at hac
   try simp only[tt,seval,hix,hac]
   try rw[List.take_length]
   exact⟨_,_,rfl,ac rfl⟩
theorem sH (q:Query) (g:Expr→Nat) (h:∀x∈aw q,Cl Tryz.prog 125 [.ag (an x.row)] [] fun r _=>r=vi (g x:Nat)) (hsz:aW q≤1048576):Cl Tryz.prog 131 [.ag (an q.row)] [] fun r _=>r=vi (bX ((aw q).map g):Nat):=by
 have hlen:=dh q
 obtain⟨distinct,items,from_,where_,order,limit⟩:=q
 rw[Query.row_mk]
 refine ab aa false Tryz.func131 rfl (by kernel_rfl) ?_
 simp only[Tryz.f131,tt,seval]
 refine cZ (qR distinct items from_ where_ order limit hsz) (by decide) ?_ ?_<;>simp only[tt,seval,Query.row_mk]
 generalize aw (Query.mk distinct items from_ where_ order limit)=l at *
 refine cZ (pn l g h (by omega)) (by decide) ?_ ?_<;>simp only[tt,seval]
 exact⟨_,_,rfl,ac rfl⟩
theorem rA (kind op:Int) (not:Bool) (val:Val) (qual name:ByteArray) (kids:List Expr) (sub:List Query) (g:Expr→Nat) (hg:∀x,jl x (Expr.mk kind op not val qual name kids sub)→(Cl Tryz.prog 125 [.ag (an x.row)] [] fun r _=>r=vi (g x:Nat))∧g x≤av x+1) (hsz:av (Expr.mk kind op not val qual name kids sub)≤1048576):Cl Tryz.prog 125 [.ag (an (Expr.mk kind op not val qual name kids sub).row)] [] fun r _=>r=vi (E2 g (Expr.mk kind op not val qual name kids sub):Nat):=by
 have hdl:=yE (g:=g) (fun x hx=>(hg x hx).2)
 have e:E2 g (Expr.mk kind op not val qual name kids sub)=1+bX (kids.map g++sub.map fun q=>bX ((aw q).map g)):=rfl
 rw[e] at hdl ⊢
 rw[Expr.row_mk]
 refine ab aa false Tryz.func125 rfl (by kernel_rfl) ?_
 simp only[Tryz.f125,tt,seval]
 refine fun _=>?_
 refine dLoop.intro (fun f L p=>∃i:Nat,f 11=vi i∧i≤kids.length∧f 3=vi (bX ((kids.take i).map g):Nat)∧L=[(1,.str [.v (.int .i64 kind),.v (.int .i64 op),.v (.bool not),.v (.int .i64 val.kind),.v (.int .i64 val.num),.v (.string val.text),.v (.string qual),.v (.string name),.sl kids.length (kids.flatMap Expr.row) none,.sl sub.length (sub.flatMap Query.row) none])]∧p=none) (fun f _ _=>(kids.length-bn (f 11)).toNat) [(1,.str [.v (.int .i64 kind),.v (.int .i64 op),.v (.bool not),.v (.int .i64 val.kind),.v (.int .i64 val.num),.v (.string val.text),.v (.string qual),.v (.string name),.sl kids.length (kids.flatMap Expr.row) none,.sl sub.length (sub.flatMap Query.row) none])] none ⟨SubO.cons rfl (SubO.nil _),PoSub.none _,?_⟩ ?_
 ·simp only[tt,seval]
  exact⟨0,rfl,by omega,by simp [bX]⟩
 ·rintro g' L p ⟨i,hix,hi,hac,rfl,rfl⟩
  simp only[tt,seval] at hix hac
  simp only[tt,seval,hix,hac,Int.ofNat_lt]
  refine And.intro (fun hlt=>?_) (fun hge=>?_)
  ·have hlt:i<kids.length:=by omega
   obtain⟨it,bO⟩:∃it,it=kids[i]:=⟨_,rfl⟩
   have hmem:it∈kids:=by rw[bO];exact List.getElem_mem hlt
   refine⟨by omega,by omega,_,ax Expr.row_len (List.getElem?_eq_getElem hlt),Expr.ne _ _,?_⟩
   have hstep:bX ((kids.take (i+1)).map g)=max (bX ((kids.take i).map g)) (g kids[i]):=by rw[eh g hlt,gH]
   rw[←bO] at hstep
   obtain⟨k,o,n,v,q,m,ks,ss⟩:=it
   rw[←bO,Expr.row_mk]
   simp only[tt,seval,hix,hac]
   refine cZ ((hg _ (.inl hmem)).1) (by decide) ?_ ?_<;>simp only[tt,seval,hix,hac,Expr.row_mk]
   rw[E1,ak (n:=(i:Int)+1) (by omega) (by omega)]
   exact⟨_,none,SubO.cons rfl (SubO.nil _),PoSub.none _,⟨i+1,rfl,by omega,eX (by rw[hstep]),rfl,rfl⟩,by simp only[bn];omega⟩
  ·have hie:i=kids.length:=by omega
   subst hie
   rw[List.take_length] at hac
   try simp only[tt,seval,hix,hac]
   try rw[List.take_length]
   refine fun _=>?_
   refine dLoop.intro (fun f L p=>∃i:Nat,f 23=vi i∧i≤sub.length∧f 3=vi (bX (kids.map g++(sub.take i).map fun q=>bX ((aw q).map g)):Nat)∧L=[(1,.str [.v (.int .i64 kind),.v (.int .i64 op),.v (.bool not),.v (.int .i64 val.kind),.v (.int .i64 val.num),.v (.string val.text),.v (.string qual),.v (.string name),.sl kids.length (kids.flatMap Expr.row) none,.sl sub.length (sub.flatMap Query.row) none])]∧p=none) (fun f _ _=>(sub.length-bn (f 23)).toNat) [(1,.str [.v (.int .i64 kind),.v (.int .i64 op),.v (.bool not),.v (.int .i64 val.kind),.v (.int .i64 val.num),.v (.string val.text),.v (.string qual),.v (.string name),.sl kids.length (kids.flatMap Expr.row) none,.sl sub.length (sub.flatMap Query.row) none])] none ⟨SubO.cons rfl (SubO.nil _),PoSub.none _,?_⟩ ?_
   ·simp only[tt,seval,hac]
    exact⟨0,rfl,by omega,by simp [bX]⟩
   ·rintro g' L p ⟨i,hix,hi,hac,rfl,rfl⟩
    simp only[tt,seval] at hix hac
    simp only[tt,seval,hix,hac,Int.ofNat_lt]
    refine And.intro (fun hlt=>?_) (fun hge=>?_)
    ·have hlt:i<sub.length:=by omega
     obtain⟨it,bO⟩:∃it,it=sub[i]:=⟨_,rfl⟩
     have hmem:it∈sub:=by rw[bO];exact List.getElem_mem hlt
     refine⟨by omega,by omega,_,ax Query.row_len (List.getElem?_eq_getElem hlt),Query.ne _ _,?_⟩
     have hstep:bX (kids.map g++(sub.take (i+1)).map fun q=>bX ((aw q).map g))=max (bX (kids.map g++(sub.take i).map fun q=>bX ((aw q).map g))) (bX ((aw sub[i]).map g)):=by rw[eh _ hlt,←List.append_assoc,gH]
     rw[←bO] at hstep
     obtain⟨ds,its,frs,whs,ods,lim⟩:=it
     rw[←bO,Query.row_mk]
     simp only[tt,seval,hix,hac]
     refine cZ (sH (Query.mk ds its frs whs ods lim) g (fun x hx=>(hg x (.inr ⟨_,hmem,hx⟩)).1) (Nat.le_trans (mS (e:=(Expr.mk kind op not val qual name kids sub)) hmem) hsz)) (by decide) ?_ ?_<;>simp only[tt,seval,hix,hac,Query.row_mk]
     rw[E1,ak (n:=(i:Int)+1) (by omega) (by omega)]
     exact⟨_,none,SubO.cons rfl (SubO.nil _),PoSub.none _,⟨i+1,rfl,by omega,eX (by rw[hstep]),rfl,rfl⟩,by simp only[bn];omega⟩
    ·have hie:i=sub.length:=by omega
     subst hie
     rw[List.take_length] at hac
     try simp only[tt,seval,hix,hac]
     try rw[List.take_length]
     rw[ak (by omega) (by omega)]
     exact⟨_,_,eX (by omega),ac rfl⟩
theorem ni (e:Expr):(av e≤1048576→Cl Tryz.prog 125 [.ag (an e.row)] [] fun r _=>r=vi (nh e:Nat))∧nh e≤av e+1:=by
 refine gC (P:=fun e d=>(av e≤1048576→Cl Tryz.prog 125 [.ag (an e.row)] [] fun r _=>r=vi (d:Nat))∧d≤av e+1) (fun e g hg=>⟨fun hsz=>?_,yE fun x hx=>(hg x hx).2⟩) e
 obtain⟨kind,op,not,val,qual,name,kids,sub⟩:=e
 exact rA kind op not val qual name kids sub g (fun x hx=>⟨(hg x hx).1 (Nat.le_trans (iR hx) hsz),(hg x hx).2⟩) hsz
theorem vN (q:Query) (g:Expr→Nat) (h:∀x∈aw q,Cl Tryz.prog 122 [.ag (an x.row)] [] fun r _=>r=vi (g x:Nat)) (hsz:aW q≤1048576):Cl Tryz.prog 129 [.ag (an q.row)] [] fun r _=>r=vi (bX ((aw q).map g):Nat):=by
 have hlen:=dh q
 obtain⟨distinct,items,from_,where_,order,limit⟩:=q
 rw[Query.row_mk]
 refine ab aa false Tryz.func129 rfl (by kernel_rfl) ?_
 simp only[Tryz.f129,tt,seval]
 refine cZ (me distinct items from_ where_ order limit hsz) (by decide) ?_ ?_<;>simp only[tt,seval,Query.row_mk]
 generalize aw (Query.mk distinct items from_ where_ order limit)=l at *
 refine dLoop.intro (fun f L p=>∃i:Nat,f 5=vi i∧i≤l.length∧f 3=vi (bX ((l.take i).map g):Nat)∧L=[(1,.str [.v (.bool distinct),.sl items.length (items.flatMap Item.row) none,.sl from_.length (from_.flatMap Source.row) none,.sl where_.length (where_.flatMap Expr.row) none,.sl order.length (order.flatMap SortKey.row) none,.v (.int .i64 limit)])]∧p=none) (fun f _ _=>(l.length-bn (f 5)).toNat) [(1,.str [.v (.bool distinct),.sl items.length (items.flatMap Item.row) none,.sl from_.length (from_.flatMap Source.row) none,.sl where_.length (where_.flatMap Expr.row) none,.sl order.length (order.flatMap SortKey.row) none,.v (.int .i64 limit)])] none ⟨SubO.cons rfl (SubO.nil _),PoSub.none _,?_⟩ ?_
 ·simp only[tt,seval]
  exact⟨0,rfl,by omega,by simp [bX]⟩
 ·rintro g' L p ⟨i,hix,hi,hac,rfl,rfl⟩
  simp only[tt,seval] at hix hac
  simp only[tt,seval,hix,hac,Int.ofNat_lt]
  refine fun _=>?_
  refine And.intro (fun hlt=>?_) (fun hge=>?_)
  ·have hlt:i<l.length:=by omega
   have hmem:l[i]∈l:=List.getElem_mem hlt
   refine⟨by omega,by omega,_,ax Expr.row_len (List.getElem?_eq_getElem hlt),Expr.ne _ _,?_⟩
   simp only[tt,seval,hix,hac,Expr.tk,Expr.row_len]
   refine cZ (h _ hmem) (by decide) ?_ ?_<;>simp only[tt,seval,hix,hac]
   refine cZ (pQ (bX ((l.take i).map g)) (g l[i])) (by decide) ?_ ?_<;>simp only[tt,seval,hix,hac]
   rw[eE i (by omega)]
   have hstep:bX ((l.take (i+1)).map g)=max (bX ((l.take i).map g)) (g l[i]):=by rw[eh g hlt,gH]
   exact⟨_,none,SubO.cons rfl (SubO.nil _),PoSub.none _,⟨i+1,rfl,by omega,eX (by rw[hstep]),rfl,rfl⟩,by simp only[bn];omega⟩
  ·have hie:i=l.length:=by omega
   subst hie
   rw[List.take_length] at hac
   try simp only[tt,seval,hix,hac]
   try rw[List.take_length]
   exact⟨_,_,rfl,ac rfl⟩
theorem tX (kind op:Int) (not:Bool) (val:Val) (qual name:ByteArray) (kids:List Expr) (sub:List Query) (g:Expr→Nat) (hg:∀x,jl x (Expr.mk kind op not val qual name kids sub)→(Cl Tryz.prog 122 [.ag (an x.row)] [] fun r _=>r=vi (g x:Nat))∧g x≤av x+1) (hsz:av (Expr.mk kind op not val qual name kids sub)≤1048576):Cl Tryz.prog 122 [.ag (an (Expr.mk kind op not val qual name kids sub).row)] [] fun r _=>r=vi (E2 g (Expr.mk kind op not val qual name kids sub):Nat):=by
 have hdl:=yE (g:=g) (fun x hx=>(hg x hx).2)
 have e:E2 g (Expr.mk kind op not val qual name kids sub)=1+bX (kids.map g++sub.map fun q=>bX ((aw q).map g)):=rfl
 rw[e] at hdl ⊢
 rw[Expr.row_mk]
 refine ab aa false Tryz.func122 rfl (by kernel_rfl) ?_
 simp only[Tryz.f122,tt,seval]
 refine dLoop.intro (fun f L p=>∃i:Nat,f 4=vi i∧i≤kids.length∧f 3=vi (bX ((kids.take i).map g):Nat)∧L=[(1,.str [.v (.int .i64 kind),.v (.int .i64 op),.v (.bool not),.v (.int .i64 val.kind),.v (.int .i64 val.num),.v (.string val.text),.v (.string qual),.v (.string name),.sl kids.length (kids.flatMap Expr.row) none,.sl sub.length (sub.flatMap Query.row) none])]∧p=none) (fun f _ _=>(kids.length-bn (f 4)).toNat) [(1,.str [.v (.int .i64 kind),.v (.int .i64 op),.v (.bool not),.v (.int .i64 val.kind),.v (.int .i64 val.num),.v (.string val.text),.v (.string qual),.v (.string name),.sl kids.length (kids.flatMap Expr.row) none,.sl sub.length (sub.flatMap Query.row) none])] none ⟨SubO.cons rfl (SubO.nil _),PoSub.none _,?_⟩ ?_
 ·simp only[tt,seval]
  exact⟨0,rfl,by omega,by simp [bX]⟩
 ·rintro g' L p ⟨i,hix,hi,hac,rfl,rfl⟩
  simp only[tt,seval] at hix hac
  simp only[tt,seval,hix,hac,Int.ofNat_lt]
  refine fun _=>?_
  refine And.intro (fun hlt=>?_) (fun hge=>?_)
  ·have hlt:i<kids.length:=by omega
   have hmem:kids[i]∈kids:=List.getElem_mem hlt
   refine⟨by omega,by omega,_,ax Expr.row_len (List.getElem?_eq_getElem hlt),Expr.ne _ _,?_⟩
   simp only[tt,seval,hix,hac,Expr.tk,Expr.row_len]
   refine cZ ((hg _ (.inl hmem)).1) (by decide) ?_ ?_<;>simp only[tt,seval,hix,hac,Expr.row_mk]
   refine cZ (pQ (bX ((kids.take i).map g)) (g kids[i])) (by decide) ?_ ?_<;>simp only[tt,seval,hix,hac]
   rw[eE i (by omega)]
   have hstep:bX ((kids.take (i+1)).map g)=max (bX ((kids.take i).map g)) (g kids[i]):=by rw[eh g hlt,gH]
   exact⟨_,none,SubO.cons rfl (SubO.nil _),PoSub.none _,⟨i+1,rfl,by omega,eX (by rw[hstep]),rfl,rfl⟩,by simp only[bn];omega⟩
  ·have hie:i=kids.length:=by omega
   subst hie
   rw[List.take_length] at hac
   try simp only[tt,seval,hix,hac]
   try rw[List.take_length]
   refine dLoop.intro (fun f L p=>∃i:Nat,f 5=vi i∧i≤sub.length∧f 3=vi (bX (kids.map g++(sub.take i).map fun q=>bX ((aw q).map g)):Nat)∧L=[(1,.str [.v (.int .i64 kind),.v (.int .i64 op),.v (.bool not),.v (.int .i64 val.kind),.v (.int .i64 val.num),.v (.string val.text),.v (.string qual),.v (.string name),.sl kids.length (kids.flatMap Expr.row) none,.sl sub.length (sub.flatMap Query.row) none])]∧p=none) (fun f _ _=>(sub.length-bn (f 5)).toNat) [(1,.str [.v (.int .i64 kind),.v (.int .i64 op),.v (.bool not),.v (.int .i64 val.kind),.v (.int .i64 val.num),.v (.string val.text),.v (.string qual),.v (.string name),.sl kids.length (kids.flatMap Expr.row) none,.sl sub.length (sub.flatMap Query.row) none])] none ⟨SubO.cons rfl (SubO.nil _),PoSub.none _,?_⟩ ?_
   ·simp only[tt,seval,hac]
    exact⟨0,rfl,by omega,by simp [bX]⟩
   ·rintro g' L p ⟨i,hix,hi,hac,rfl,rfl⟩
    simp only[tt,seval] at hix hac
    simp only[tt,seval,hix,hac,Int.ofNat_lt]
    refine fun _=>?_
    refine And.intro (fun hlt=>?_) (fun hge=>?_)
    ·have hlt:i<sub.length:=by omega
     have hmem:sub[i]∈sub:=List.getElem_mem hlt
     refine⟨by omega,by omega,_,ax Query.row_len (List.getElem?_eq_getElem hlt),Query.ne _ _,?_⟩
     simp only[tt,seval,hix,hac,Query.tk,Query.row_len]
     refine cZ (vN (sub[i]) g (fun x hx=>(hg x (.inr ⟨_,hmem,hx⟩)).1) (Nat.le_trans (mS (e:=(Expr.mk kind op not val qual name kids sub)) hmem) hsz)) (by decide) ?_ ?_<;>simp only[tt,seval,hix,hac,Query.row_mk]
     refine cZ (pQ (bX (kids.map g++(sub.take i).map fun q=>bX ((aw q).map g))) (bX ((aw sub[i]).map g))) (by decide) ?_ ?_<;>simp only[tt,seval,hix,hac]
     rw[eE i (by omega)]
     have hstep:bX (kids.map g++(sub.take (i+1)).map fun q=>bX ((aw q).map g))=max (bX (kids.map g++(sub.take i).map fun q=>bX ((aw q).map g))) (bX ((aw sub[i]).map g)):=by rw[eh _ hlt,←List.append_assoc,gH]
     exact⟨_,none,SubO.cons rfl (SubO.nil _),PoSub.none _,⟨i+1,rfl,by omega,eX (by rw[hstep]),rfl,rfl⟩,by simp only[bn];omega⟩
    ·have hie:i=sub.length:=by omega
     subst hie
     rw[List.take_length] at hac
     try simp only[tt,seval,hix,hac]
     try rw[List.take_length]
     rw[ak (by omega) (by omega)]
     exact⟨_,_,eX (by omega),ac rfl⟩
theorem oZ (e:Expr):(av e≤1048576→Cl Tryz.prog 122 [.ag (an e.row)] [] fun r _=>r=vi (nh e:Nat))∧nh e≤av e+1:=by
 refine gC (P:=fun e d=>(av e≤1048576→Cl Tryz.prog 122 [.ag (an e.row)] [] fun r _=>r=vi (d:Nat))∧d≤av e+1) (fun e g hg=>⟨fun hsz=>?_,yE fun x hx=>(hg x hx).2⟩) e
 obtain⟨kind,op,not,val,qual,name,kids,sub⟩:=e
 exact tX kind op not val qual name kids sub g (fun x hx=>⟨(hg x hx).1 (Nat.le_trans (iR hx) hsz),(hg x hx).2⟩) hsz
def D1 (g:Expr→Nat) (e:Expr):Nat:=1+(e.kids.map g).sum+(e.sub.map fun q=>((aw q).map g).sum).sum
noncomputable def jI:Expr→Nat:=qk D1
theorem gn {α:Type} (g:α→Nat) {l:List α} {i:Nat} (h:i<l.length):((l.take (i+1)).map g).sum=((l.take i).map g).sum+g l[i]:=jx g h
theorem jJ {α:Type} {f g:α→Nat}:∀ {l:List α},(∀x∈l,f x≤g x)→(l.map f).sum≤(l.map g).sum
 | [],_=>Nat.le_refl _
 |x::r,h=>by
  have h1:=h x (by simp)
  have h2:=jJ (l:=r) fun y hy=>h y (by simp [hy])
  simp only[List.map_cons,List.sum_cons];omega
theorem gX {α:Type} (f:α→Nat):∀l:List α,(l.map fun x=>f x+1).sum=l.length+(l.map f).sum
 | []=>rfl
 |x::r=>by simp only[List.map_cons,List.sum_cons,gX f r,List.length_cons];omega
theorem qS:∀l:List Item,((bb l).map fun x=>av x+1).sum≤jg l
 | []=>by simp [bb]
 |.mk s q e a::r=>by
  have:=qS r
  rw[jg,oI]
  cases s with
  |true=>
   have h:bb (.mk true q e a::r)=bb r:=rfl
   rw[h];omega
  |false=>
   have h:bb (.mk false q e a::r)=e::bb r:=rfl
   rw[h,List.map_cons,List.sum_cons];omega
theorem BB:∀l:List Source,((l.flatMap Source.on).map fun x=>av x+1).sum≤er l
 | []=>by simp
 |.mk t a o::r=>by
  have:=BB r
  rw[er,eG,List.flatMap_cons,List.map_append,List.sum_append,aC]
  have h:(Source.mk t a o).on=o:=rfl
  rw[h,gX];omega
theorem yF:∀l:List SortKey,((l.map SortKey.e).map fun x=>av x+1).sum≤eZ l
 | []=>by simp
 |.mk e d::r=>by
  have:=yF r
  rw[eZ,aH,List.map_cons,List.map_cons,List.sum_cons]
  have h:(SortKey.mk e d).e=e:=rfl
  rw[h];omega
theorem kJ (q:Query):((aw q).map fun x=>av x+1).sum≤aW q:=by
 obtain⟨d,it,fr,wh,or,li⟩:=q
 have h1:=qS it
 have h2:=BB fr
 have h3:=yF or
 rw[f5,aC]
 have e:aw (.mk d it fr wh or li)=bb it++fr.flatMap Source.on++wh++or.map SortKey.e:=rfl
 rw[e,List.map_append,List.map_append,List.map_append,List.sum_append,List.sum_append,List.sum_append,gX av wh]
 omega
theorem yG {e:Expr} {g:Expr→Nat} (h:∀x,jl x e→g x≤av x+1):D1 g e≤av e+1:=by
 obtain⟨k,o,n,v,q,m,ks,ss⟩:=e
 have e1:D1 g (.mk k o n v q m ks ss)=1+(ks.map g).sum+(ss.map fun q=>((aw q).map g).sum).sum:=rfl
 rw[e1,et,aC,d8]
 have h1:=jJ (l:=ks) (f:=g) (g:=fun x=>av x+1) fun x hx=>h x (.inl hx)
 have h2:=jJ (l:=ss) (f:=fun q=>((aw q).map g).sum) (g:=aW) fun q hq=>Nat.le_trans (jJ fun x hx=>h x (.inr ⟨q,hq,hx⟩)) (kJ q)
 rw[gX] at h1
 omega
theorem lL (l:List Expr) (g:Expr→Nat) (h:∀x∈l,Cl Tryz.prog 126 [.ag (an x.row)] [] fun r _=>r=vi (g x:Nat)) (hl:l.length≤1048576) (hs:(l.map g).sum≤2097152):Cl Tryz.prog 187 [.c (.sl l.length (l.flatMap Expr.row) none)] [] fun r _=>r=vi ((l.map g).sum:Nat):=by
 refine ab aa false Tryz.func187 rfl (by kernel_rfl) ?_
 simp only[Tryz.f187,tt,seval]
 refine fun _=>?_
 refine dLoop.intro (fun f L p=>∃i:Nat,f 8=vi i∧i≤l.length∧f 3=vi (((l.take i).map g).sum:Nat)∧L=[]∧p=none) (fun f _ _=>(l.length-bn (f 8)).toNat) [] none ⟨SubO.nil _,PoSub.none _,?_⟩ ?_
 ·simp only[tt,seval]
  exact⟨0,rfl,by omega,by simp [bX]⟩
 ·rintro g' L p ⟨i,hix,hi,hac,rfl,rfl⟩
  simp only[tt,seval] at hix hac
  simp only[tt,seval,hix,hac,Int.ofNat_lt]
  refine And.intro (fun hlt=>?_) (fun hge=>?_)
  ·have hlt:i<l.length:=by omega
   obtain⟨it,bO⟩:∃it,it=l[i]:=⟨_,rfl⟩
   have hmem:it∈l:=by rw[bO];exact List.getElem_mem hlt
   refine⟨by omega,by omega,_,ax Expr.row_len (List.getElem?_eq_getElem hlt),Expr.ne _ _,?_⟩
   have hstep:((l.take (i+1)).map g).sum=((l.take i).map g).sum+g l[i]:=gn g hlt
   rw[←bO] at hstep
   obtain⟨k,o,n,v,q,m,ks,ss⟩:=it
   rw[←bO,Expr.row_mk]
   simp only[tt,seval,hix,hac]
   refine cZ (h _ hmem) (by decide) ?_ ?_<;>simp only[tt,seval,hix,hac,Expr.row_mk]
   obtain⟨rst,hrst⟩:=cU g l (i+1)
   rw[eE i (by omega)]
   rw[ak (by omega) (by omega)]
   exact⟨_,none,SubO.nil _,PoSub.none _,⟨i+1,rfl,by omega,eX (by rw[hstep];omega),rfl,rfl⟩,by simp only[bn];omega⟩
  ·have hie:i=l.length:=by omega
   subst hie
   rw[List.take_length] at hac
   try simp only[tt,seval,hix,hac]
   try rw[List.take_length]
   exact⟨_,_,rfl,ac rfl⟩
theorem po (q:Query) (g:Expr→Nat) (h:∀x∈aw q,Cl Tryz.prog 126 [.ag (an x.row)] [] fun r _=>r=vi (g x:Nat)) (hsz:aW q≤1048576) (hs:((aw q).map g).sum≤2097152):Cl Tryz.prog 132 [.ag (an q.row)] [] fun r _=>r=vi (((aw q).map g).sum:Nat):=by
 have hlen:=dh q
 obtain⟨distinct,items,from_,where_,order,limit⟩:=q
 rw[Query.row_mk]
 refine ab aa false Tryz.func132 rfl (by kernel_rfl) ?_
 simp only[Tryz.f132,tt,seval]
 refine cZ (qR distinct items from_ where_ order limit hsz) (by decide) ?_ ?_<;>simp only[tt,seval,Query.row_mk]
 generalize aw (Query.mk distinct items from_ where_ order limit)=l at *
 refine cZ (lL l g h (by omega) hs) (by decide) ?_ ?_<;>simp only[tt,seval]
 exact⟨_,_,rfl,ac rfl⟩
theorem vO (kind op:Int) (not:Bool) (val:Val) (qual name:ByteArray) (kids:List Expr) (sub:List Query) (g:Expr→Nat) (hg:∀x,jl x (Expr.mk kind op not val qual name kids sub)→(Cl Tryz.prog 126 [.ag (an x.row)] [] fun r _=>r=vi (g x:Nat))∧g x≤av x+1) (hsz:av (Expr.mk kind op not val qual name kids sub)≤1048576):Cl Tryz.prog 126 [.ag (an (Expr.mk kind op not val qual name kids sub).row)] [] fun r _=>r=vi (D1 g (Expr.mk kind op not val qual name kids sub):Nat):=by
 have hdl:=yG (g:=g) (fun x hx=>(hg x hx).2)
 have hks:=hsz
 rw[et,aC,d8] at hks
 have e:D1 g (Expr.mk kind op not val qual name kids sub)=1+(kids.map g).sum+(sub.map fun q=>((aw q).map g).sum).sum:=rfl
 rw[e] at hdl ⊢
 rw[Expr.row_mk]
 refine ab aa false Tryz.func126 rfl (by kernel_rfl) ?_
 simp only[Tryz.f126,tt,seval]
 refine cZ (lL kids g (fun x hx=>(hg x (.inl hx)).1) (by omega) (by omega)) (by decide) ?_ ?_<;>simp only[tt,seval,Expr.row_mk]
 rw[ak (by omega) (by omega)]
 refine fun _=>?_
 refine dLoop.intro (fun f L p=>∃i:Nat,f 13=vi i∧i≤sub.length∧f 3=vi ((1+(kids.map g).sum+((sub.take i).map fun q=>((aw q).map g).sum).sum):Nat)∧L=[(1,.str [.v (.int .i64 kind),.v (.int .i64 op),.v (.bool not),.v (.int .i64 val.kind),.v (.int .i64 val.num),.v (.string val.text),.v (.string qual),.v (.string name),.sl kids.length (kids.flatMap Expr.row) none,.sl sub.length (sub.flatMap Query.row) none])]∧p=none) (fun f _ _=>(sub.length-bn (f 13)).toNat) [(1,.str [.v (.int .i64 kind),.v (.int .i64 op),.v (.bool not),.v (.int .i64 val.kind),.v (.int .i64 val.num),.v (.string val.text),.v (.string qual),.v (.string name),.sl kids.length (kids.flatMap Expr.row) none,.sl sub.length (sub.flatMap Query.row) none])] none ⟨SubO.cons rfl (SubO.nil _),PoSub.none _,?_⟩ ?_
 ·simp only[tt,seval]
  exact⟨0,rfl,by omega,by simp⟩
 ·rintro g' L p ⟨i,hix,hi,hac,rfl,rfl⟩
  simp only[tt,seval] at hix hac
  simp only[tt,seval,hix,hac,Int.ofNat_lt]
  refine And.intro (fun hlt=>?_) (fun hge=>?_)
  ·have hlt:i<sub.length:=by omega
   obtain⟨it,bO⟩:∃it,it=sub[i]:=⟨_,rfl⟩
   have hmem:it∈sub:=by rw[bO];exact List.getElem_mem hlt
   refine⟨by omega,by omega,_,ax Query.row_len (List.getElem?_eq_getElem hlt),Query.ne _ _,?_⟩
   have hstep:((sub.take (i+1)).map fun q=>((aw q).map g).sum).sum=((sub.take i).map fun q=>((aw q).map g).sum).sum+((aw sub[i]).map g).sum:=gn _ hlt
   rw[←bO] at hstep
   obtain⟨ds,its,frs,whs,ods,lim⟩:=it
   rw[←bO,Query.row_mk]
   simp only[tt,seval,hix,hac]
   obtain⟨rst,hrst⟩:=cU (fun q=>((aw q).map g).sum) sub (i+1)
   refine cZ (po (Query.mk ds its frs whs ods lim) g (fun x hx=>(hg x (.inr ⟨_,hmem,hx⟩)).1) (Nat.le_trans (mS (e:=(Expr.mk kind op not val qual name kids sub)) hmem) hsz) (by omega)) (by decide) ?_ ?_<;>simp only[tt,seval,hix,hac,Query.row_mk]
   rw[eE i (by omega)]
   rw[ak (by omega) (by omega)]
   exact⟨_,none,SubO.cons rfl (SubO.nil _),PoSub.none _,⟨i+1,rfl,by omega,eX (by rw[hstep];omega),rfl,rfl⟩,by simp only[bn];omega⟩
  ·have hie:i=sub.length:=by omega
   subst hie
   rw[List.take_length] at hac
   try simp only[tt,seval,hix,hac]
   try rw[List.take_length]
   exact⟨_,_,rfl,ac rfl⟩
theorem gp (e:Expr):(av e≤1048576→Cl Tryz.prog 126 [.ag (an e.row)] [] fun r _=>r=vi (jI e:Nat))∧jI e≤av e+1:=by
 refine gC (P:=fun e d=>(av e≤1048576→Cl Tryz.prog 126 [.ag (an e.row)] [] fun r _=>r=vi (d:Nat))∧d≤av e+1) (fun e g hg=>⟨fun hsz=>?_,yG fun x hx=>(hg x hx).2⟩) e
 obtain⟨kind,op,not,val,qual,name,kids,sub⟩:=e
 exact vO kind op not val qual name kids sub g (fun x hx=>⟨(hg x hx).1 (Nat.le_trans (iR hx) hsz),(hg x hx).2⟩) hsz
theorem zO (q:Query) (hsz:aW q≤1048576):Cl Tryz.prog 182 [.ag (an q.row)] [] fun r _=>r = .c (.sl (aw q).length ((aw q).flatMap Expr.row) none):=by
 obtain⟨distinct,items,from_,where_,order,limit⟩:=q
 exact me distinct items from_ where_ order limit hsz
theorem BC {l:Int} (h:0≤l):cL l 1=l-1:=by unfold cL;split<;>omega
theorem vP (kind op:Int) (not:Bool) (val:Val) (qual name:ByteArray) (kids:List Expr) (sub:List Query) (g:Expr→Nat) (hg:∀x,jl x (Expr.mk kind op not val qual name kids sub)→∀l:Int,0≤l→l≤200→Cl Tryz.prog 120 [.ag (an x.row),vi l] [] fun r _=>r=vi (cL l (g x))) (hsz:av (Expr.mk kind op not val qual name kids sub)≤1048576) (l0:Int) (hl0:0≤l0) (hl1:l0≤200):Cl Tryz.prog 120 [.ag (an (Expr.mk kind op not val qual name kids sub).row),vi l0] [] fun r _=>r=vi (cL l0 (D1 g (Expr.mk kind op not val qual name kids sub))):=by
 have hks:=hsz
 rw[et,aC,d8] at hks
 have e:D1 g (Expr.mk kind op not val qual name kids sub)=1+(kids.map g).sum+(sub.map fun q=>((aw q).map g).sum).sum:=rfl
 rw[e]
 rw[Expr.row_mk]
 refine ab aa false Tryz.func120 rfl (by kernel_rfl) ?_
 simp only[Tryz.f120,tt,seval]
 rw[ak (by omega) (by omega)]
 refine dLoop.intro (fun f L p=>∃i:Nat,f 5=vi i∧i≤kids.length∧f 1=vi (cL l0 (1+((kids.take i).map g).sum))∧L=[(2,.str [.v (.int .i64 kind),.v (.int .i64 op),.v (.bool not),.v (.int .i64 val.kind),.v (.int .i64 val.num),.v (.string val.text),.v (.string qual),.v (.string name),.sl kids.length (kids.flatMap Expr.row) none,.sl sub.length (sub.flatMap Query.row) none])]∧p=none) (fun f _ _=>(kids.length-bn (f 5)).toNat) [(2,.str [.v (.int .i64 kind),.v (.int .i64 op),.v (.bool not),.v (.int .i64 val.kind),.v (.int .i64 val.num),.v (.string val.text),.v (.string qual),.v (.string name),.sl kids.length (kids.flatMap Expr.row) none,.sl sub.length (sub.flatMap Query.row) none])] none ⟨SubO.cons rfl (SubO.nil _),PoSub.none _,?_⟩ ?_
 ·simp only[tt,seval]
  exact⟨0,rfl,by omega,by simp [BC hl0]⟩
 ·rintro g' L p ⟨i,hix,hi,hac,rfl,rfl⟩
  simp only[tt,seval] at hix hac
  simp only[tt,seval,hix,hac]
  refine fun _=>?_
  have hc:(i<kids.length∧0≤cL l0 (1+((kids.take i).map g).sum))∨(cL l0 (1+((kids.take i).map g).sum)=cL l0 (1+(kids.map g).sum)∧i<kids.length ∧ ¬ 0≤cL l0 (1+((kids.take i).map g).sum))∨(cL l0 (1+((kids.take i).map g).sum)=cL l0 (1+(kids.map g).sum) ∧ ¬i<kids.length):=by
   by_cases h1:i<kids.length
   ·by_cases h2:0≤cL l0 (1+((kids.take i).map g).sum)
    ·exact .inl ⟨h1,h2⟩
    ·obtain⟨rst,hrst⟩:=cU (g) kids i
     have hb:=gQ (s:=(1+((kids.take i).map g).sum)) hl0
     have h3:=pT (b:=rst) (by omega:cL l0 (1+((kids.take i).map g).sum)<0) hl0
     refine .inr (.inl ⟨?_,h1,h2⟩)
     rw[show (1+(kids.map g).sum)=(1+((kids.take i).map g).sum)+rst by omega,h3];omega
   ·refine .inr (.inr ⟨?_,h1⟩)
    have:i=kids.length:=by omega
    subst this
    rw[List.take_length]
  rcases hc with⟨hlt,hp⟩|⟨he,hlt,hn⟩|⟨he,hge⟩
  ·simp only[tt,seval,decide_eq_true (show (i:Int)<kids.length by omega),hix,hac]
   refine And.intro (fun _=>?_) (fun hn=>absurd hp hn)
   try simp only[tt,seval,hix,hac]
   refine⟨by omega,by omega,_,ax Expr.row_len (List.getElem?_eq_getElem hlt),Expr.ne _ _,?_⟩
   have hmem:kids[i]∈kids:=List.getElem_mem hlt
   simp only[tt,seval,hix,hac,Expr.tk,Expr.row_len]
   have hb:=gQ (s:=(1+((kids.take i).map g).sum)) hl0
   refine cZ (hg kids[i] (.inl hmem) (cL l0 (1+((kids.take i).map g).sum)) hp (by omega)) (by decide) ?_ ?_<;>simp only[tt,seval,hix,hac]
   rw[ak (n:=(i:Int)+1) (by omega) (by omega),←ux hp]
   exact⟨_,none,SubO.cons rfl (SubO.nil _),PoSub.none _,⟨i+1,rfl,by omega,eX (by rw[gn g hlt,Nat.add_assoc]),rfl,rfl⟩,by simp only[bn];omega⟩
  case' inr.inl=>
   simp only[tt,seval,decide_eq_true (show (i:Int)<kids.length by omega),hix,hac]
   refine And.intro (fun hp=>absurd hp hn) (fun _=>?_)
   try simp only[tt,seval,hix,hac]
  case' inr.inr=>
   simp only[tt,seval,decide_eq_false (show ¬(i:Int)<kids.length by omega),hix,hac]
   try simp only[tt,seval,hix,hac]
  all_goals
   rw[he] at hac
   try rw[he]
   try simp only[tt,seval,hix,hac]
   refine dLoop.intro (fun f L p=>∃i:Nat,f 6=vi i∧i≤sub.length∧f 1=vi (cL l0 (1+(kids.map g).sum+((sub.take i).map fun q=>((aw q).map g).sum).sum))∧L=[(2,.str [.v (.int .i64 kind),.v (.int .i64 op),.v (.bool not),.v (.int .i64 val.kind),.v (.int .i64 val.num),.v (.string val.text),.v (.string qual),.v (.string name),.sl kids.length (kids.flatMap Expr.row) none,.sl sub.length (sub.flatMap Query.row) none])]∧p=none) (fun f _ _=>(sub.length-bn (f 6)).toNat) [(2,.str [.v (.int .i64 kind),.v (.int .i64 op),.v (.bool not),.v (.int .i64 val.kind),.v (.int .i64 val.num),.v (.string val.text),.v (.string qual),.v (.string name),.sl kids.length (kids.flatMap Expr.row) none,.sl sub.length (sub.flatMap Query.row) none])] none ⟨SubO.cons rfl (SubO.nil _),PoSub.none _,?_⟩ ?_
   ·simp only[tt,seval,hac]
    exact⟨0,rfl,by omega,by simp⟩
   ·rintro g' L p ⟨i,hix,hi,hac,rfl,rfl⟩
    simp only[tt,seval] at hix hac
    simp only[tt,seval,hix,hac]
    refine fun _=>?_
    have hc:(i<sub.length∧0≤cL l0 (1+(kids.map g).sum+((sub.take i).map fun q=>((aw q).map g).sum).sum))∨(cL l0 (1+(kids.map g).sum+((sub.take i).map fun q=>((aw q).map g).sum).sum)=cL l0 (1+(kids.map g).sum+(sub.map fun q=>((aw q).map g).sum).sum)∧i<sub.length ∧ ¬ 0≤cL l0 (1+(kids.map g).sum+((sub.take i).map fun q=>((aw q).map g).sum).sum))∨(cL l0 (1+(kids.map g).sum+((sub.take i).map fun q=>((aw q).map g).sum).sum)=cL l0 (1+(kids.map g).sum+(sub.map fun q=>((aw q).map g).sum).sum) ∧ ¬i<sub.length):=by
     by_cases h1:i<sub.length
     ·by_cases h2:0≤cL l0 (1+(kids.map g).sum+((sub.take i).map fun q=>((aw q).map g).sum).sum)
      ·exact .inl ⟨h1,h2⟩
      ·obtain⟨rst,hrst⟩:=cU (fun q=>((aw q).map g).sum) sub i
       have hb:=gQ (s:=(1+(kids.map g).sum+((sub.take i).map fun q=>((aw q).map g).sum).sum)) hl0
       have h3:=pT (b:=rst) (by omega:cL l0 (1+(kids.map g).sum+((sub.take i).map fun q=>((aw q).map g).sum).sum)<0) hl0
       refine .inr (.inl ⟨?_,h1,h2⟩)
       rw[show (1+(kids.map g).sum+(sub.map fun q=>((aw q).map g).sum).sum)=(1+(kids.map g).sum+((sub.take i).map fun q=>((aw q).map g).sum).sum)+rst by omega,h3];omega
     ·refine .inr (.inr ⟨?_,h1⟩)
      have:i=sub.length:=by omega
      subst this
      rw[List.take_length]
    rcases hc with⟨hlt,hp⟩|⟨he,hlt,hn⟩|⟨he,hge⟩
    ·simp only[tt,seval,decide_eq_true (show (i:Int)<sub.length by omega),hix,hac]
     refine And.intro (fun _=>?_) (fun hn=>absurd hp hn)
     try simp only[tt,seval,hix,hac]
     refine⟨by omega,by omega,_,ax Query.row_len (List.getElem?_eq_getElem hlt),Query.ne _ _,?_⟩
     have hmem:sub[i]∈sub:=List.getElem_mem hlt
     have hqs:=mS (e:=(Expr.mk kind op not val qual name kids sub)) hmem
     have hql:=dh sub[i]
     simp only[tt,seval,hix,hac,Query.tk,Query.row_len]
     refine cZ (zO sub[i] (by omega)) (by decide) ?_ ?_<;>simp only[tt,seval,hix,hac]
     have hl:∀x∈aw sub[i],∀l:Int,0≤l→l≤200→Cl Tryz.prog 120 [.ag (an x.row),vi l] [] fun r _=>r=vi (cL l (g x)):=fun x hx=>hg x (.inr ⟨_,hmem,hx⟩)
     have hstep2:((sub.take (i+1)).map fun q=>((aw q).map g).sum).sum=((sub.take i).map fun q=>((aw q).map g).sum).sum+((aw sub[i]).map g).sum:=gn _ hlt
     generalize aw sub[i]=l at *
     have hac2:=hac
     obtain⟨S,hS⟩:∃S,S=(1+(kids.map g).sum+((sub.take i).map fun q=>((aw q).map g).sum).sum):=⟨_,rfl⟩
     rw[←hS] at hac2
     try rw[←hS]
     try simp only[tt,seval,hix,hac2]
     refine dLoop.intro (fun f L p=>∃k:Nat,f 8=vi k∧k≤l.length∧f 1=vi (cL l0 (S+((l.take k).map g).sum))∧L=[(2,.str [.v (.int .i64 kind),.v (.int .i64 op),.v (.bool not),.v (.int .i64 val.kind),.v (.int .i64 val.num),.v (.string val.text),.v (.string qual),.v (.string name),.sl kids.length (kids.flatMap Expr.row) none,.sl sub.length (sub.flatMap Query.row) none])]∧p=none) (fun f _ _=>(l.length-bn (f 8)).toNat) [(2,.str [.v (.int .i64 kind),.v (.int .i64 op),.v (.bool not),.v (.int .i64 val.kind),.v (.int .i64 val.num),.v (.string val.text),.v (.string qual),.v (.string name),.sl kids.length (kids.flatMap Expr.row) none,.sl sub.length (sub.flatMap Query.row) none])] none ⟨SubO.cons rfl (SubO.nil _),PoSub.none _,?_⟩ ?_
     ·simp only[tt,seval,hac2]
      exact⟨0,rfl,by omega,by simp⟩
     ·rintro g' L p ⟨k,hkx,hk0,hac3,rfl,rfl⟩
      simp only[tt,seval] at hkx hac3
      simp only[tt,seval,hkx,hac3]
      refine fun _=>?_
      have hc3:(k<l.length∧0≤cL l0 (S+((l.take k).map g).sum))∨(cL l0 (S+((l.take k).map g).sum)=cL l0 (S+(l.map g).sum)∧k<l.length ∧ ¬ 0≤cL l0 (S+((l.take k).map g).sum))∨(cL l0 (S+((l.take k).map g).sum)=cL l0 (S+(l.map g).sum) ∧ ¬k<l.length):=by
       by_cases h1:k<l.length
       ·by_cases h2:0≤cL l0 (S+((l.take k).map g).sum)
        ·exact .inl ⟨h1,h2⟩
        ·obtain⟨rst3,hrst3⟩:=cU (g) l k
         have hb3:=gQ (s:=(S+((l.take k).map g).sum)) hl0
         have h3:=pT (b:=rst3) (by omega:cL l0 (S+((l.take k).map g).sum)<0) hl0
         refine .inr (.inl ⟨?_,h1,h2⟩)
         rw[show (S+(l.map g).sum)=(S+((l.take k).map g).sum)+rst3 by omega,h3];omega
       ·refine .inr (.inr ⟨?_,h1⟩)
        have:k=l.length:=by omega
        subst this
        rw[List.take_length]
      rcases hc3 with⟨hlt3,hp3⟩|⟨he3,hlt3,hn3⟩|⟨he3,hge3⟩
      ·simp only[tt,seval,decide_eq_true (show (k:Int)<l.length by omega),hkx,hac3]
       refine And.intro (fun _=>?_) (fun hn3=>absurd hp3 hn3)
       try simp only[tt,seval,hkx,hac3]
       refine⟨by omega,by omega,_,ax Expr.row_len (List.getElem?_eq_getElem hlt3),Expr.ne _ _,?_⟩
       simp only[tt,seval,hkx,hac3,Expr.tk,Expr.row_len]
       have hb3:=gQ (s:=(S+((l.take k).map g).sum)) hl0
       refine cZ (hl l[k] (List.getElem_mem hlt3) (cL l0 (S+((l.take k).map g).sum)) hp3 (by omega)) (by decide) ?_ ?_<;>simp only[tt,seval,hkx,hac3]
       rw[ak (n:=(k:Int)+1) (by omega) (by omega),←ux hp3]
       exact⟨_,none,SubO.cons rfl (SubO.nil _),PoSub.none _,⟨k+1,rfl,by omega,eX (by rw[gn g hlt3,Nat.add_assoc]),rfl,rfl⟩,by simp only[bn];omega⟩
      case' inr.inl=>
       simp only[tt,seval,decide_eq_true (show (k:Int)<l.length by omega),hkx,hac3]
       refine And.intro (fun hp3=>absurd hp3 hn3) (fun _=>?_)
       try simp only[tt,seval,hkx,hac3]
      case' inr.inr=>
       simp only[tt,seval,decide_eq_false (show ¬(k:Int)<l.length by omega),hkx,hac3]
       try simp only[tt,seval,hkx,hac3]
      all_goals
       rw[he3] at hac3
       try rw[he3]
       try simp only[tt,seval,hkx,hac3]
       simp only[tt,seval,hix,hac3]
       try rw[eE i (by omega)]
       exact⟨_,none,SubO.cons rfl (SubO.nil _),PoSub.none _,⟨i+1,rfl,by omega,eX (by rw[hstep2,hS];congr 1;omega),rfl,rfl⟩,by simp only[bn];omega⟩
    case' inr.inl=>
     simp only[tt,seval,decide_eq_true (show (i:Int)<sub.length by omega),hix,hac]
     refine And.intro (fun hp=>absurd hp hn) (fun _=>?_)
     try simp only[tt,seval,hix,hac]
    case' inr.inr=>
     simp only[tt,seval,decide_eq_false (show ¬(i:Int)<sub.length by omega),hix,hac]
     try simp only[tt,seval,hix,hac]
    all_goals
     rw[he] at hac
     try rw[he]
     try simp only[tt,seval,hix,hac]
     exact⟨_,_,rfl,ac rfl⟩
theorem BD (e:Expr):av e≤1048576→∀l:Int,0≤l→l≤200→Cl Tryz.prog 120 [.ag (an e.row),vi l] [] fun r _=>r=vi (cL l (jI e)):=by
 refine gC (P:=fun e d=>av e≤1048576→∀l:Int,0≤l→l≤200→Cl Tryz.prog 120 [.ag (an e.row),vi l] [] fun r _=>r=vi (cL l d)) (fun e g hg hsz l h0 h1=>?_) e
 obtain⟨kind,op,not,val,qual,name,kids,sub⟩:=e
 exact vP kind op not val qual name kids sub g (fun x hx=>hg x hx (Nat.le_trans (iR hx) hsz)) hsz l h0 h1
theorem aL:((true==false)=false)∧((false==true)=false)∧((false==false)=true)∧((true==true)=true):=⟨rfl,rfl,rfl,rfl⟩
def zV (v:Val):Bool:=decide (v.kind=0)&&(decide (v.num=0)&&decide (v.text=⟨#[]⟩))
def eW (kind op:Int) (not:Bool) (val:Val) (qual name:ByteArray) (nk ns:Nat):Bool:=
 decide (kind=0)&&(decide (op=0)&&(decide (not=false)&&(zV val&&(decide (qual=⟨#[]⟩)&&(decide (name=⟨#[]⟩)&&(decide (nk=0)&&decide (ns=0)))))))
theorem xj (v:Val) (w:World):(Op.equalIn 10000 25 (.agg [.int .i64 v.kind,.int .i64 v.num,.string v.text].toArray) (.agg [.int .i64 0,.int .i64 0,.string ⟨#[]⟩].toArray)).run Tryz.prog w = .ok (zV v) w:=by
 refine Go.Vc.equalIn_fk (ks:=[(0,.int),(1,.int),(2,.str)]) (by kernel_rfl) (by kernel_rfl) (by kernel_rfl) ?_ w
 simp only[Go.Vc.eqFK,List.getElem?_cons_zero,List.getElem?_cons_succ,zV]
 by_cases h1:v.kind=0<;>by_cases h2:v.num=0<;>by_cases h3:v.text=⟨#[]⟩<;>simp [h1,h2,h3]
def vQ (v:Val):Bool:=fF v&&((decide (¬v.kind=1)||decide (0≤v.num))&&decide (v.text.size≤40))
def aD (s:ByteArray):Bool:=decide (1≤s.size∧s.size≤20)
def fX (s:ByteArray):Bool:=decide (s=⟨#[]⟩)||aD s
theorem D2 (v:Val):Cl Tryz.prog 228 [.ag (an v.row)] [] fun r _=>r=vb (vQ v):=by
 obtain⟨zb,hzb⟩:∃zb,zb=vQ v:=⟨_,rfl⟩
 rw[←hzb,Val.row]
 refine ab aa false Tryz.func228 rfl (by kernel_rfl) ?_
 simp only[Tryz.f228,tt,seval]
 refine cZ (yX v) (by decide) ?_ ?_<;>simp only[tt,seval,Val.row]
 cases hv:fF v<;>by_cases h1:v.kind=1<;>by_cases h2:0≤v.num
 all_goals try simp only[tt,seval,hv,h1,h2]
 all_goals try refine fun _=>?_
 all_goals exact⟨_,_,aE (by rw[hzb];simp [vQ,hv,h1,h2];try omega),ac rfl⟩
theorem D3 (v:Val):Cl Tryz.prog 238 [.ag (an v.row)] [] fun r _=>r=vb (vQ v):=by
 obtain⟨zb,hzb⟩:∃zb,zb=vQ v:=⟨_,rfl⟩
 rw[←hzb,Val.row]
 refine ab aa false Tryz.func238 rfl (by kernel_rfl) ?_
 simp only[Tryz.f238,tt,seval]
 refine cZ (wQ v) (by decide) ?_ ?_<;>simp only[tt,seval,Val.row]
 cases hv:fF v<;>by_cases h1:v.kind=1<;>by_cases h2:0≤v.num
 all_goals try simp only[tt,seval,hv,h1,h2]
 all_goals try refine fun _=>?_
 all_goals exact⟨_,_,aE (by rw[hzb];simp [vQ,hv,h1,h2];try omega),ac rfl⟩
theorem mf (s:ByteArray):Cl Tryz.prog 192 [vs s] [] fun r _=>r=vb (fX s):=by
 refine ab aa false Tryz.func192 rfl (by kernel_rfl) ?_
 simp only[Tryz.f192,tt,seval]
 by_cases h:s=⟨#[]⟩
 ·simp only[tt,seval,decide_eq_true h]
  exact⟨_,_,aE (by simp [fX,h]),ac rfl⟩
 ·simp only[tt,seval,decide_eq_false h]
  refine cZ (jN s) (by decide) ?_ ?_<;>simp only[tt,seval]
  exact⟨_,_,aE (by simp [fX,h,aD]),ac rfl⟩
theorem xk (s:ByteArray):Cl Tryz.prog 198 [vs s] [] fun r _=>r=vb (fX s):=by
 refine ab aa false Tryz.func198 rfl (by kernel_rfl) ?_
 simp only[Tryz.f198,tt,seval]
 by_cases h:s=⟨#[]⟩
 ·simp only[tt,seval,decide_eq_true h]
  exact⟨_,_,aE (by simp [fX,h]),ac rfl⟩
 ·simp only[tt,seval,decide_eq_false h]
  refine cZ (gy s) (by decide) ?_ ?_<;>simp only[tt,seval]
  exact⟨_,_,aE (by simp [fX,h,aD]),ac rfl⟩
theorem E3 (l:List Expr) (fg:FuncId):Cl Tryz.prog 242 [.c (.sl l.length (l.flatMap Expr.row) none),.c (.sl 0 [] none),.c (.fn fg [] [])] [] fun r _=>r=vb (decide (l.length=0)):=by
 refine ab aa false Tryz.func242 rfl (by kernel_rfl) ?_
 simp only[Tryz.f242,tt,seval]
 refine fun _=>?_
 by_cases h:l.length=0
 case neg=>
  simp only[tt,seval,decide_eq_false (show ¬(l.length:Int)=0 by omega)]
  exact⟨_,_,aE (decide_eq_false h).symm,ac rfl⟩
 have hs:l=[]:=List.eq_nil_of_length_eq_zero h
 subst hs
 simp only[tt,seval,List.length_nil]
 refine dLoop.intro (fun f L p=>f 17=vi 0∧L=[]∧p=none) (fun _ _ _=>0) [] none ⟨SubO.nil _,PoSub.none _,?_⟩ ?_
 ·simp only[tt,seval]
 ·rintro g L p ⟨h5',rfl,rfl⟩
  simp only[tt,seval] at h5'
  simp only[tt,seval,h5',List.length_nil]
  try refine fun _=>?_
  exact⟨_,_,rfl,ac rfl⟩
theorem E4 (l:List Query) (fg:FuncId):Cl Tryz.prog 241 [.c (.sl l.length (l.flatMap Query.row) none),.c (.sl 0 [] none),.c (.fn fg [] [])] [] fun r _=>r=vb (decide (l.length=0)):=by
 refine ab aa false Tryz.func241 rfl (by kernel_rfl) ?_
 simp only[Tryz.f241,tt,seval]
 refine fun _=>?_
 by_cases h:l.length=0
 case neg=>
  simp only[tt,seval,decide_eq_false (show ¬(l.length:Int)=0 by omega)]
  exact⟨_,_,aE (decide_eq_false h).symm,ac rfl⟩
 have hs:l=[]:=List.eq_nil_of_length_eq_zero h
 subst hs
 simp only[tt,seval,List.length_nil]
 refine dLoop.intro (fun f L p=>f 17=vi 0∧L=[]∧p=none) (fun _ _ _=>0) [] none ⟨SubO.nil _,PoSub.none _,?_⟩ ?_
 ·simp only[tt,seval]
 ·rintro g L p ⟨h5',rfl,rfl⟩
  simp only[tt,seval] at h5'
  simp only[tt,seval,h5',List.length_nil]
  try refine fun _=>?_
  exact⟨_,_,rfl,ac rfl⟩
theorem sI (l:List Expr):Cl Tryz.prog 240 [.c (.sl l.length (l.flatMap Expr.row) none),.c (.sl 0 [] none)] [] fun r _=>r=vb (decide (l.length=0)):=by
 refine ab aa false Tryz.func240 rfl (by kernel_rfl) ?_
 simp only[Tryz.f240,tt,seval]
 refine fun _=>?_
 by_cases h:l.length=0
 case neg=>
  simp only[tt,seval,decide_eq_false (show ¬(l.length:Int)=0 by omega)]
  exact⟨_,_,aE (decide_eq_false h).symm,ac rfl⟩
 have hs:l=[]:=List.eq_nil_of_length_eq_zero h
 subst hs
 simp only[tt,seval,List.length_nil]
 refine dLoop.intro (fun f L p=>f 5=vi 0∧L=[]∧p=none) (fun _ _ _=>0) [] none ⟨SubO.nil _,PoSub.none _,?_⟩ ?_
 ·simp only[tt,seval]
 ·rintro g L p ⟨h5',rfl,rfl⟩
  simp only[tt,seval] at h5'
  simp only[tt,seval,h5',List.length_nil]
  try refine fun _=>?_
  exact⟨_,_,rfl,ac rfl⟩
theorem ol (l:List Expr):Cl Tryz.prog 206 [.c (.sl l.length (l.flatMap Expr.row) none),.c (.sl 0 [] none)] [] fun r _=>r=vb (decide (l.length=0)):=by
 refine ab aa false Tryz.func206 rfl (by kernel_rfl) ?_
 simp only[Tryz.f206,tt,seval]
 refine cZ (E3 l 204) (by decide) ?_ ?_<;>simp only[tt,seval]
 exact⟨_,_,rfl,ac rfl⟩
theorem BE (kind op:Int) (not:Bool) (val:Val) (qual name:ByteArray) (kids:List Expr) (sub:List Query):Cl Tryz.prog 204 [.ag (an (Expr.mk kind op not val qual name kids sub).row),.ag (an (Expr.mk 0 0 false ⟨0,0,⟨#[]⟩⟩ ⟨#[]⟩ ⟨#[]⟩ [] []).row)] [] fun r _=>r=vb (eW kind op not val qual name kids.length sub.length):=by
 obtain⟨zb,hzb⟩:∃zb,zb=eW kind op not val qual name kids.length sub.length:=⟨_,rfl⟩
 rw[←hzb,Expr.row_mk,Expr.row_mk]
 refine ab aa false Tryz.func204 rfl (by kernel_rfl) ?_
 simp only[Tryz.f204,tt,seval]
 by_cases h1:kind=0
 case neg=>
  try simp only[tt,seval,h1]
  exact⟨_,_,aE (by rw[hzb];simp [eW,h1]),ac rfl⟩
 try simp only[tt,seval,h1]
 by_cases h2:op=0
 case neg=>
  try simp only[tt,seval,h2]
  exact⟨_,_,aE (by rw[hzb];simp [eW,h1,h2]),ac rfl⟩
 try simp only[tt,seval,h2]
 by_cases h3:not=false
 case neg=>
  try simp only[tt,seval,(Bool.not_eq_false _▸h3:not=true),aL]
  exact⟨_,_,aE (by rw[hzb];simp [eW,h1,h2,h3]),ac rfl⟩
 try simp only[tt,seval,h3]
 rw[Bf (by kernel_rfl) (xj val)]
 try simp only[tt,seval]
 by_cases h4:zV val=true
 case neg=>
  try simp only[tt,seval,(Bool.not_eq_true _▸h4:zV val=false)]
  exact⟨_,_,aE (by rw[hzb];simp [eW,h1,h2,h3,h4]),ac rfl⟩
 try simp only[tt,seval,h4]
 by_cases h5:qual=⟨#[]⟩
 case neg=>
  try simp only[tt,seval,h5]
  exact⟨_,_,aE (by rw[hzb];simp [eW,h1,h2,h3,h4,h5]),ac rfl⟩
 try simp only[tt,seval,h5]
 by_cases h6:name=⟨#[]⟩
 case neg=>
  try simp only[tt,seval,h6]
  exact⟨_,_,aE (by rw[hzb];simp [eW,h1,h2,h3,h4,h5,h6]),ac rfl⟩
 try simp only[tt,seval,h6]
 refine cZ (ol kids) (by decide) ?_ ?_<;>simp only[tt,seval,Expr.row_mk]
 by_cases h7:kids.length=0
 case neg=>
  try simp only[tt,seval,h7,decide_eq_false h7]
  exact⟨_,_,aE (by rw[hzb];simp [eW,h1,h2,h3,h4,h5,h6,h7]),ac rfl⟩
 try simp only[tt,seval,decide_eq_true h7]
 refine cZ (E4 sub 139) (by decide) ?_ ?_<;>simp only[tt,seval,Expr.row_mk]
 exact⟨_,_,aE (by rw[hzb];simp [eW,h1,h2,h3,h4,h5,h6,h7]),ac rfl⟩
theorem D4 (kind op:Int) (not:Bool) (val:Val) (qual name:ByteArray) (kids:List Expr) (sub:List Query):Cl Tryz.prog 193 [.ag (an (Expr.mk kind op not val qual name kids sub).row),.ag (an (Expr.mk 0 0 false ⟨0,0,⟨#[]⟩⟩ ⟨#[]⟩ ⟨#[]⟩ [] []).row)] [] fun r _=>r=vb (eW kind op not val qual name kids.length sub.length):=by
 obtain⟨zb,hzb⟩:∃zb,zb=eW kind op not val qual name kids.length sub.length:=⟨_,rfl⟩
 rw[←hzb,Expr.row_mk,Expr.row_mk]
 refine ab aa false Tryz.func193 rfl (by kernel_rfl) ?_
 simp only[Tryz.f193,tt,seval]
 by_cases h1:kind=0
 case neg=>
  try simp only[tt,seval,h1]
  exact⟨_,_,aE (by rw[hzb];simp [eW,h1]),ac rfl⟩
 try simp only[tt,seval,h1]
 by_cases h2:op=0
 case neg=>
  try simp only[tt,seval,h2]
  exact⟨_,_,aE (by rw[hzb];simp [eW,h1,h2]),ac rfl⟩
 try simp only[tt,seval,h2]
 by_cases h3:not=false
 case neg=>
  try simp only[tt,seval,(Bool.not_eq_false _▸h3:not=true),aL]
  exact⟨_,_,aE (by rw[hzb];simp [eW,h1,h2,h3]),ac rfl⟩
 try simp only[tt,seval,h3]
 rw[cX (by kernel_rfl) (xj val)]
 try simp only[tt,seval]
 by_cases h4:zV val=true
 case neg=>
  try simp only[tt,seval,(Bool.not_eq_true _▸h4:zV val=false)]
  exact⟨_,_,aE (by rw[hzb];simp [eW,h1,h2,h3,h4]),ac rfl⟩
 try simp only[tt,seval,h4]
 by_cases h5:qual=⟨#[]⟩
 case neg=>
  try simp only[tt,seval,h5]
  exact⟨_,_,aE (by rw[hzb];simp [eW,h1,h2,h3,h4,h5]),ac rfl⟩
 try simp only[tt,seval,h5]
 by_cases h6:name=⟨#[]⟩
 case neg=>
  try simp only[tt,seval,h6]
  exact⟨_,_,aE (by rw[hzb];simp [eW,h1,h2,h3,h4,h5,h6]),ac rfl⟩
 try simp only[tt,seval,h6]
 refine fun _=>?_
 by_cases h8:sub.length=0
 case neg=>
  try simp only[tt,seval,decide_eq_false (show ¬(sub.length:Int)=0 by omega)]
  exact⟨_,_,aE (by rw[hzb];simp [eW,h1,h2,h3,h4,h5,h6,h8]),ac rfl⟩
 try simp only[tt,seval,show (sub.length:Int)=0 from by omega]
 refine cZ (sI kids) (by decide) ?_ ?_<;>simp only[tt,seval,Expr.row_mk]
 by_cases h7:kids.length=0
 case neg=>
  try simp only[tt,seval,h7,decide_eq_false h7]
  exact⟨_,_,aE (by rw[hzb];simp [eW,h1,h2,h3,h4,h5,h6,h7]),ac rfl⟩
 try simp only[tt,seval,decide_eq_true h7]
 have hs:sub=[]:=List.eq_nil_of_length_eq_zero h8
 subst hs
 refine dLoop.intro (fun f L p=>f 5=vi 0∧L=[(2,.str [.v (.int .i64 0),.v (.int .i64 0),.v (.bool false),.v (.int .i64 val.kind),.v (.int .i64 val.num),.v (.string val.text),.v (.string ⟨#[]⟩),.v (.string ⟨#[]⟩),.sl kids.length (kids.flatMap Expr.row) none,.sl 0 [] none])]∧p=none) (fun _ _ _=>0) [(2,.str [.v (.int .i64 0),.v (.int .i64 0),.v (.bool false),.v (.int .i64 val.kind),.v (.int .i64 val.num),.v (.string val.text),.v (.string ⟨#[]⟩),.v (.string ⟨#[]⟩),.sl kids.length (kids.flatMap Expr.row) none,.sl 0 [] none])] none ⟨SubO.cons rfl (SubO.nil _),PoSub.none _,?_⟩ ?_
 ·simp only[tt,seval]
 ·rintro g L p ⟨h5',rfl,rfl⟩
  simp only[tt,seval] at h5'
  simp only[tt,seval,h5',List.length_nil]
  exact⟨_,_,aE (by rw[hzb];simp [eW,h1,h2,h3,h4,h5,h6,h7]),ac rfl⟩
theorem fe (v:Val) (w:World):(Op.equalIn 10000 25 (.agg [.int .i64 v.kind,.int .i64 v.num,.string v.text].toArray) (.agg [.int .i64 0,.int .i64 0,.string ByteArray.empty].toArray)).run Tryz.prog w = .ok (zV v) w:=xj v w
def bh (kind:Int):Bool×Bool×Bool×Bool×Int×Int×Int:=
 if kind=1 then (false,false,true,false,0,0,0) else if kind=2 then (false,false,false,true,0,0,0) else if kind=3 then (true,false,false,false,1,1,0) else if kind=4 then (true,false,false,false,2,2,0)
 else if kind=5 then (false,true,false,false,1,1,0) else if kind=6 then (false,true,false,false,3,3,0) else if kind=7 then (false,true,false,false,2,9,0) else if kind=8 then (false,true,false,false,1,1,1)
 else if kind=9 then (false,false,false,false,0,0,1) else (false,false,false,false,0,0,0)
def dw (kind op:Int) (val:Val) (qual name:ByteArray):Bool:=
 if kind=1 then vQ val else if kind=2 then (aD name&&fX qual) else if kind=3 then (decide (op=15)||decide (op=16)) else if kind=4 then decide (1≤op∧op≤14) else decide (5≤kind∧kind≤9)
def aO (kind op:Int) (not:Bool) (val:Val) (qual name:ByteArray) (nk ns:Int):Bool:=
 dw kind op val qual name&&(((bh kind).1||decide (op=0))&&(((bh kind).2.1 || !not)&&(((bh kind).2.2.1||zV val)&&(((bh kind).2.2.2.1||(decide (qual=⟨#[]⟩)&&decide (name=⟨#[]⟩))) &&
  (decide ((bh kind).2.2.2.2.1≤nk∧nk≤(bh kind).2.2.2.2.2.1)&&decide (ns=(bh kind).2.2.2.2.2.2))))))
set_option maxHeartbeats 4000000 in
theorem zP (kind op:Int) (not:Bool) (val:Val) (qual name:ByteArray) (kids:List Expr) (sub:List Query) (hkl:kids.length≤1048576) (hsl:sub.length≤1048576):Cl Tryz.prog 183 [.ag (an (Expr.mk kind op not val qual name kids sub).row)] [] fun r _=>r=vb (aO kind op not val qual name kids.length sub.length):=by
 obtain⟨zb,hzb⟩:∃zb,zb=aO kind op not val qual name kids.length sub.length:=⟨_,rfl⟩
 rw[←hzb,Expr.row_mk]
 refine ab aa false Tryz.func183 rfl (by kernel_rfl) ?_
 simp only[Tryz.f183,tt,seval]
 refine fun _ _=>?_
 have hk0:0≤(kids.length:Int)∧(kids.length:Int)≤1048576:=by omega
 have hs0:0≤(sub.length:Int)∧(sub.length:Int)≤1048576:=by omega
 generalize (kids.length:Int)=nk at *
 generalize (sub.length:Int)=ns at *
 rcases (show kind=1∨kind=2∨kind=3∨kind=4∨kind=5∨kind=6∨kind=7∨kind=8∨kind=9∨(kind<1∨9<kind) by omega) with rfl|rfl|rfl|rfl|rfl|rfl|rfl|rfl|rfl|hk
 ·try simp only[tt,seval]
  by_cases hq:qual=⟨#[]⟩
  case neg=>
   try simp only[tt,seval,hq,aL]
   exact⟨_,_,aE (by rw[hzb];simp [aO,dw,bh,aD,hq];try omega),ac rfl⟩
  try simp only[tt,seval,hq,aL]
  by_cases hn:name=⟨#[]⟩
  case neg=>
   try simp only[tt,seval,hn,aL]
   exact⟨_,_,aE (by rw[hzb];simp [aO,dw,bh,aD,hq,hn];try omega),ac rfl⟩
  try simp only[tt,seval,hn,aL]
  by_cases ho:op=0
  case neg=>
   try simp only[tt,seval,ho,aL]
   exact⟨_,_,aE (by rw[hzb];simp [aO,dw,bh,aD,hq,hn,ho];try omega),ac rfl⟩
  try simp only[tt,seval,ho,aL]
  cases not
  case true=>
   try simp only[tt,seval,aL]
   refine cZ (dO 1 5 8) (by decide) ?_ ?_<;>simp only[tt,seval,Expr.row_mk]
   exact⟨_,_,aE (by rw[hzb];simp [aO,dw,bh,aD,hq,hn,ho];try omega),ac rfl⟩
  try simp only[tt,seval,aL]
  refine cZ (D2 val) (by decide) ?_ ?_<;>simp only[tt,seval,Expr.row_mk,Val.row]
  cases hl:vQ val
  case false=>
   try simp only[tt,seval,hl,aL]
   exact⟨_,_,aE (by rw[hzb];simp [aO,dw,bh,aD,hq,hn,ho,hl];try omega),ac rfl⟩
  try simp only[tt,seval,hl,aL]
  rw[ak (by omega) (by omega)]
  by_cases hz:nk+ns=0
  case neg=>
   try simp only[tt,seval,hz,aL]
   exact⟨_,_,aE (by rw[hzb];simp [aO,dw,bh,aD,hq,hn,ho,hl,hz];try omega),ac rfl⟩
  try simp only[tt,seval,hz,aL]
  exact⟨_,_,aE (by rw[hzb];simp [aO,dw,bh,aD,hq,hn,ho,hl,hz];try omega),ac rfl⟩
 ·try simp only[tt,seval]
  rw[cX (by kernel_rfl) (fe val)]
  try simp only[tt,seval,aL]
  cases hv:zV val
  case false=>
   try simp only[tt,seval,hv,aL]
   exact⟨_,_,aE (by rw[hzb];simp [aO,dw,bh,aD,hv];try omega),ac rfl⟩
  try simp only[tt,seval,hv,aL]
  by_cases ho:op=0
  case neg=>
   try simp only[tt,seval,ho,aL]
   exact⟨_,_,aE (by rw[hzb];simp [aO,dw,bh,aD,hv,ho];try omega),ac rfl⟩
  try simp only[tt,seval,ho,aL]
  cases not
  case true=>
   try simp only[tt,seval,aL]
   refine cZ (dO 2 5 8) (by decide) ?_ ?_<;>simp only[tt,seval,Expr.row_mk]
   exact⟨_,_,aE (by rw[hzb];simp [aO,dw,bh,aD,hv,ho];try omega),ac rfl⟩
  try simp only[tt,seval,aL]
  refine cZ (jN name) (by decide) ?_ ?_<;>simp only[tt,seval,Expr.row_mk]
  cases hnb:decide (1≤name.size∧name.size≤20)
  case false=>
   try simp only[tt,seval,hnb,aL]
   exact⟨_,_,aE (by rw[hzb];simp [aO,dw,bh,aD,hv,ho,hnb];try omega),ac rfl⟩
  try simp only[tt,seval,hnb,aL]
  refine cZ (mf qual) (by decide) ?_ ?_<;>simp only[tt,seval,Expr.row_mk]
  cases hmb:fX qual
  case false=>
   try simp only[tt,seval,hmb,aL]
   exact⟨_,_,aE (by rw[hzb];simp [aO,dw,bh,aD,hv,ho,hnb,hmb];try omega),ac rfl⟩
  try simp only[tt,seval,hmb,aL]
  rw[ak (by omega) (by omega)]
  by_cases hz:nk+ns=0
  case neg=>
   try simp only[tt,seval,hz,aL]
   exact⟨_,_,aE (by rw[hzb];simp [aO,dw,bh,aD,hv,ho,hnb,hmb,hz];try omega),ac rfl⟩
  try simp only[tt,seval,hz,aL]
  exact⟨_,_,aE (by rw[hzb];simp [aO,dw,bh,aD,hv,ho,hnb,hmb,hz];try omega),ac rfl⟩
 ·try simp only[tt,seval]
  by_cases hq:qual=⟨#[]⟩
  case neg=>
   try simp only[tt,seval,hq,aL]
   exact⟨_,_,aE (by rw[hzb];simp [aO,dw,bh,aD,hq];try omega),ac rfl⟩
  try simp only[tt,seval,hq,aL]
  by_cases hn:name=⟨#[]⟩
  case neg=>
   try simp only[tt,seval,hn,aL]
   exact⟨_,_,aE (by rw[hzb];simp [aO,dw,bh,aD,hq,hn];try omega),ac rfl⟩
  try simp only[tt,seval,hn,aL]
  rw[cX (by kernel_rfl) (fe val)]
  try simp only[tt,seval,aL]
  cases hv:zV val
  case false=>
   try simp only[tt,seval,hv,aL]
   exact⟨_,_,aE (by rw[hzb];simp [aO,dw,bh,aD,hq,hn,hv];try omega),ac rfl⟩
  try simp only[tt,seval,hv,aL]
  cases not
  case true=>
   try simp only[tt,seval,aL]
   refine cZ (dO 3 5 8) (by decide) ?_ ?_<;>simp only[tt,seval,Expr.row_mk]
   exact⟨_,_,aE (by rw[hzb];simp [aO,dw,bh,aD,hq,hn,hv];try omega),ac rfl⟩
  try simp only[tt,seval,aL]
  by_cases ho15:op=15
  case' neg=>
   try simp only[tt,seval,ho15]
   by_cases ho16:op=16
   case neg=>
    try simp only[tt,seval,ho16]
    exact⟨_,_,aE (by rw[hzb];simp [aO,dw,bh,aD,hq,hn,hv,ho15,ho16];try omega),ac rfl⟩
   try simp only[tt,seval,ho16]
  case' pos=>try simp only[tt,seval,ho15]
  all_goals
   by_cases hk1:nk=1
   case neg=>
    try simp only[tt,seval,hk1,aL]
    exact⟨_,_,aE (by rw[hzb];simp [aO,dw,bh,aD,hq,hn,hv, *,hk1];try omega),ac rfl⟩
   try simp only[tt,seval,hk1,aL]
   by_cases hs0:ns=0
   case neg=>
    try simp only[tt,seval,hs0,aL]
    exact⟨_,_,aE (by rw[hzb];simp [aO,dw,bh,aD,hq,hn,hv, *,hk1,hs0];try omega),ac rfl⟩
   try simp only[tt,seval,hs0,aL]
   exact⟨_,_,aE (by rw[hzb];simp [aO,dw,bh,aD,hq,hn,hv, *,hk1,hs0];try omega),ac rfl⟩
 ·try simp only[tt,seval]
  by_cases hq:qual=⟨#[]⟩
  case neg=>
   try simp only[tt,seval,hq,aL]
   exact⟨_,_,aE (by rw[hzb];simp [aO,dw,bh,aD,hq];try omega),ac rfl⟩
  try simp only[tt,seval,hq,aL]
  by_cases hn:name=⟨#[]⟩
  case neg=>
   try simp only[tt,seval,hn,aL]
   exact⟨_,_,aE (by rw[hzb];simp [aO,dw,bh,aD,hq,hn];try omega),ac rfl⟩
  try simp only[tt,seval,hn,aL]
  rw[cX (by kernel_rfl) (fe val)]
  try simp only[tt,seval,aL]
  cases hv:zV val
  case false=>
   try simp only[tt,seval,hv,aL]
   exact⟨_,_,aE (by rw[hzb];simp [aO,dw,bh,aD,hq,hn,hv];try omega),ac rfl⟩
  try simp only[tt,seval,hv,aL]
  cases not
  case true=>
   try simp only[tt,seval,aL]
   refine cZ (dO 4 5 8) (by decide) ?_ ?_<;>simp only[tt,seval,Expr.row_mk]
   exact⟨_,_,aE (by rw[hzb];simp [aO,dw,bh,aD,hq,hn,hv];try omega),ac rfl⟩
  try simp only[tt,seval,aL]
  refine cZ (dO op 1 14) (by decide) ?_ ?_<;>simp only[tt,seval,Expr.row_mk]
  cases hop:decide ((1:Int)≤op∧op≤14)
  case false=>
   try simp only[tt,seval,hop,aL]
   exact⟨_,_,aE (by rw[hzb];simp [aO,dw,bh,aD,hq,hn,hv,hop];try omega),ac rfl⟩
  try simp only[tt,seval,hop,aL]
  by_cases hk2:nk=2
  case neg=>
   try simp only[tt,seval,hk2,aL]
   exact⟨_,_,aE (by rw[hzb];simp [aO,dw,bh,aD,hq,hn,hv,hop,hk2];try omega),ac rfl⟩
  try simp only[tt,seval,hk2,aL]
  by_cases hs0:ns=0
  case neg=>
   try simp only[tt,seval,hs0,aL]
   exact⟨_,_,aE (by rw[hzb];simp [aO,dw,bh,aD,hq,hn,hv,hop,hk2,hs0];try omega),ac rfl⟩
  try simp only[tt,seval,hs0,aL]
  exact⟨_,_,aE (by rw[hzb];simp [aO,dw,bh,aD,hq,hn,hv,hop,hk2,hs0];try omega),ac rfl⟩
 ·try simp only[tt,seval]
  by_cases hq:qual=⟨#[]⟩
  case neg=>
   try simp only[tt,seval,hq,aL]
   exact⟨_,_,aE (by rw[hzb];simp [aO,dw,bh,aD,hq];try omega),ac rfl⟩
  try simp only[tt,seval,hq,aL]
  by_cases hn:name=⟨#[]⟩
  case neg=>
   try simp only[tt,seval,hn,aL]
   exact⟨_,_,aE (by rw[hzb];simp [aO,dw,bh,aD,hq,hn];try omega),ac rfl⟩
  try simp only[tt,seval,hn,aL]
  rw[cX (by kernel_rfl) (fe val)]
  try simp only[tt,seval,aL]
  cases hv:zV val
  case false=>
   try simp only[tt,seval,hv,aL]
   exact⟨_,_,aE (by rw[hzb];simp [aO,dw,bh,aD,hq,hn,hv];try omega),ac rfl⟩
  try simp only[tt,seval,hv,aL]
  by_cases ho:op=0
  case neg=>
   try simp only[tt,seval,ho,aL]
   exact⟨_,_,aE (by rw[hzb];simp [aO,dw,bh,aD,hq,hn,hv,ho];try omega),ac rfl⟩
  try simp only[tt,seval,ho,aL]
  cases not
  case' true=>
   try simp only[tt,seval,aL]
   refine cZ (dO 5 5 8) (by decide) ?_ ?_<;>simp only[tt,seval,Expr.row_mk]
   try simp only[tt,seval]
  case' false=>try simp only[tt,seval,aL]
  all_goals
   by_cases hk1:nk=1
   case neg=>
    try simp only[tt,seval,hk1,aL]
    exact⟨_,_,aE (by rw[hzb];simp [aO,dw,bh,aD,hq,hn,hv,ho,hk1];try omega),ac rfl⟩
   try simp only[tt,seval,hk1,aL]
   by_cases hs0:ns=0
   case neg=>
    try simp only[tt,seval,hs0,aL]
    exact⟨_,_,aE (by rw[hzb];simp [aO,dw,bh,aD,hq,hn,hv,ho,hk1,hs0];try omega),ac rfl⟩
   try simp only[tt,seval,hs0,aL]
   exact⟨_,_,aE (by rw[hzb];simp [aO,dw,bh,aD,hq,hn,hv,ho,hk1,hs0];try omega),ac rfl⟩
 ·try simp only[tt,seval]
  by_cases hq:qual=⟨#[]⟩
  case neg=>
   try simp only[tt,seval,hq,aL]
   exact⟨_,_,aE (by rw[hzb];simp [aO,dw,bh,aD,hq];try omega),ac rfl⟩
  try simp only[tt,seval,hq,aL]
  by_cases hn:name=⟨#[]⟩
  case neg=>
   try simp only[tt,seval,hn,aL]
   exact⟨_,_,aE (by rw[hzb];simp [aO,dw,bh,aD,hq,hn];try omega),ac rfl⟩
  try simp only[tt,seval,hn,aL]
  rw[cX (by kernel_rfl) (fe val)]
  try simp only[tt,seval,aL]
  cases hv:zV val
  case false=>
   try simp only[tt,seval,hv,aL]
   exact⟨_,_,aE (by rw[hzb];simp [aO,dw,bh,aD,hq,hn,hv];try omega),ac rfl⟩
  try simp only[tt,seval,hv,aL]
  by_cases ho:op=0
  case neg=>
   try simp only[tt,seval,ho,aL]
   exact⟨_,_,aE (by rw[hzb];simp [aO,dw,bh,aD,hq,hn,hv,ho];try omega),ac rfl⟩
  try simp only[tt,seval,ho,aL]
  cases not
  case' true=>
   try simp only[tt,seval,aL]
   refine cZ (dO 6 5 8) (by decide) ?_ ?_<;>simp only[tt,seval,Expr.row_mk]
   try simp only[tt,seval]
  case' false=>try simp only[tt,seval,aL]
  all_goals
   by_cases hk3:nk=3
   case neg=>
    try simp only[tt,seval,hk3,aL]
    exact⟨_,_,aE (by rw[hzb];simp [aO,dw,bh,aD,hq,hn,hv,ho,hk3];try omega),ac rfl⟩
   try simp only[tt,seval,hk3,aL]
   by_cases hs0:ns=0
   case neg=>
    try simp only[tt,seval,hs0,aL]
    exact⟨_,_,aE (by rw[hzb];simp [aO,dw,bh,aD,hq,hn,hv,ho,hk3,hs0];try omega),ac rfl⟩
   try simp only[tt,seval,hs0,aL]
   exact⟨_,_,aE (by rw[hzb];simp [aO,dw,bh,aD,hq,hn,hv,ho,hk3,hs0];try omega),ac rfl⟩
 ·try simp only[tt,seval]
  by_cases hq:qual=⟨#[]⟩
  case neg=>
   try simp only[tt,seval,hq,aL]
   exact⟨_,_,aE (by rw[hzb];simp [aO,dw,bh,aD,hq];try omega),ac rfl⟩
  try simp only[tt,seval,hq,aL]
  by_cases hn:name=⟨#[]⟩
  case neg=>
   try simp only[tt,seval,hn,aL]
   exact⟨_,_,aE (by rw[hzb];simp [aO,dw,bh,aD,hq,hn];try omega),ac rfl⟩
  try simp only[tt,seval,hn,aL]
  rw[cX (by kernel_rfl) (fe val)]
  try simp only[tt,seval,aL]
  cases hv:zV val
  case false=>
   try simp only[tt,seval,hv,aL]
   exact⟨_,_,aE (by rw[hzb];simp [aO,dw,bh,aD,hq,hn,hv];try omega),ac rfl⟩
  try simp only[tt,seval,hv,aL]
  by_cases ho:op=0
  case neg=>
   try simp only[tt,seval,ho,aL]
   exact⟨_,_,aE (by rw[hzb];simp [aO,dw,bh,aD,hq,hn,hv,ho];try omega),ac rfl⟩
  try simp only[tt,seval,ho,aL]
  cases not
  case' true=>
   try simp only[tt,seval,aL]
   refine cZ (dO 7 5 8) (by decide) ?_ ?_<;>simp only[tt,seval,Expr.row_mk]
   try simp only[tt,seval]
  case' false=>try simp only[tt,seval,aL]
  all_goals
   refine cZ (dO nk 2 9) (by decide) ?_ ?_<;>simp only[tt,seval,Expr.row_mk]
   cases hkr:decide ((2:Int)≤nk∧nk≤9)
   case false=>
    try simp only[tt,seval,hkr,aL]
    exact⟨_,_,aE (by rw[hzb];simp [aO,dw,bh,aD,hq,hn,hv,ho,hkr];try omega),ac rfl⟩
   try simp only[tt,seval,hkr,aL]
   by_cases hs0:ns=0
   case neg=>
    try simp only[tt,seval,hs0,aL]
    exact⟨_,_,aE (by rw[hzb];simp [aO,dw,bh,aD,hq,hn,hv,ho,hkr,hs0];try omega),ac rfl⟩
   try simp only[tt,seval,hs0,aL]
   exact⟨_,_,aE (by rw[hzb];simp [aO,dw,bh,aD,hq,hn,hv,ho,hkr,hs0];try omega),ac rfl⟩
 ·try simp only[tt,seval]
  by_cases hq:qual=⟨#[]⟩
  case neg=>
   try simp only[tt,seval,hq,aL]
   exact⟨_,_,aE (by rw[hzb];simp [aO,dw,bh,aD,hq];try omega),ac rfl⟩
  try simp only[tt,seval,hq,aL]
  by_cases hn:name=⟨#[]⟩
  case neg=>
   try simp only[tt,seval,hn,aL]
   exact⟨_,_,aE (by rw[hzb];simp [aO,dw,bh,aD,hq,hn];try omega),ac rfl⟩
  try simp only[tt,seval,hn,aL]
  rw[cX (by kernel_rfl) (fe val)]
  try simp only[tt,seval,aL]
  cases hv:zV val
  case false=>
   try simp only[tt,seval,hv,aL]
   exact⟨_,_,aE (by rw[hzb];simp [aO,dw,bh,aD,hq,hn,hv];try omega),ac rfl⟩
  try simp only[tt,seval,hv,aL]
  by_cases ho:op=0
  case neg=>
   try simp only[tt,seval,ho,aL]
   exact⟨_,_,aE (by rw[hzb];simp [aO,dw,bh,aD,hq,hn,hv,ho];try omega),ac rfl⟩
  try simp only[tt,seval,ho,aL]
  cases not
  case' true=>
   try simp only[tt,seval,aL]
   refine cZ (dO 8 5 8) (by decide) ?_ ?_<;>simp only[tt,seval,Expr.row_mk]
   try simp only[tt,seval]
  case' false=>try simp only[tt,seval,aL]
  all_goals
   by_cases hk1:nk=1
   case neg=>
    try simp only[tt,seval,hk1,aL]
    exact⟨_,_,aE (by rw[hzb];simp [aO,dw,bh,aD,hq,hn,hv,ho,hk1];try omega),ac rfl⟩
   try simp only[tt,seval,hk1,aL]
   by_cases hs1:ns=1
   case neg=>
    try simp only[tt,seval,hs1,aL]
    exact⟨_,_,aE (by rw[hzb];simp [aO,dw,bh,aD,hq,hn,hv,ho,hk1,hs1];try omega),ac rfl⟩
   try simp only[tt,seval,hs1,aL]
   exact⟨_,_,aE (by rw[hzb];simp [aO,dw,bh,aD,hq,hn,hv,ho,hk1,hs1];try omega),ac rfl⟩
 ·try simp only[tt,seval]
  by_cases hq:qual=⟨#[]⟩
  case neg=>
   try simp only[tt,seval,hq,aL]
   exact⟨_,_,aE (by rw[hzb];simp [aO,dw,bh,aD,hq];try omega),ac rfl⟩
  try simp only[tt,seval,hq,aL]
  by_cases hn:name=⟨#[]⟩
  case neg=>
   try simp only[tt,seval,hn,aL]
   exact⟨_,_,aE (by rw[hzb];simp [aO,dw,bh,aD,hq,hn];try omega),ac rfl⟩
  try simp only[tt,seval,hn,aL]
  rw[cX (by kernel_rfl) (fe val)]
  try simp only[tt,seval,aL]
  cases hv:zV val
  case false=>
   try simp only[tt,seval,hv,aL]
   exact⟨_,_,aE (by rw[hzb];simp [aO,dw,bh,aD,hq,hn,hv];try omega),ac rfl⟩
  try simp only[tt,seval,hv,aL]
  by_cases ho:op=0
  case neg=>
   try simp only[tt,seval,ho,aL]
   exact⟨_,_,aE (by rw[hzb];simp [aO,dw,bh,aD,hq,hn,hv,ho];try omega),ac rfl⟩
  try simp only[tt,seval,ho,aL]
  cases not
  case true=>
   try simp only[tt,seval,aL]
   refine cZ (dO 9 5 8) (by decide) ?_ ?_<;>simp only[tt,seval,Expr.row_mk]
   exact⟨_,_,aE (by rw[hzb];simp [aO,dw,bh,aD,hq,hn,hv,ho];try omega),ac rfl⟩
  try simp only[tt,seval,aL]
  by_cases hk0:nk=0
  case neg=>
   try simp only[tt,seval,hk0,aL]
   exact⟨_,_,aE (by rw[hzb];simp [aO,dw,bh,aD,hq,hn,hv,ho,hk0];try omega),ac rfl⟩
  try simp only[tt,seval,hk0,aL]
  by_cases hs1:ns=1
  case neg=>
   try simp only[tt,seval,hs1,aL]
   exact⟨_,_,aE (by rw[hzb];simp [aO,dw,bh,aD,hq,hn,hv,ho,hk0,hs1];try omega),ac rfl⟩
  try simp only[tt,seval,hs1,aL]
  exact⟨_,_,aE (by rw[hzb];simp [aO,dw,bh,aD,hq,hn,hv,ho,hk0,hs1];try omega),ac rfl⟩
 ·have n1:¬kind=1:=by omega
  have n2:¬kind=2:=by omega
  have n3:¬kind=3:=by omega
  have n4:¬kind=4:=by omega
  have n5:¬kind=5:=by omega
  have n6:¬kind=6:=by omega
  have n7:¬kind=7:=by omega
  have n8:¬kind=8:=by omega
  have n9:¬kind=9:=by omega
  have hk58:decide ((5:Int)≤kind∧kind≤8)=false:=decide_eq_false (by omega)
  try simp only[tt,seval,n1,n2,n3,n4,n5,n6,n7,n8,n9]
  by_cases hq:qual=⟨#[]⟩
  case neg=>
   try simp only[tt,seval,hq,aL,n1,n2,n3,n4,n5,n6,n7,n8,n9]
   exact⟨_,_,aE (by rw[hzb];simp [aO,dw,bh,aD,n1,n2,n3,n4,n5,n6,n7,n8,n9,hq];try omega),ac rfl⟩
  try simp only[tt,seval,hq,aL,n1,n2,n3,n4,n5,n6,n7,n8,n9]
  by_cases hn:name=⟨#[]⟩
  case neg=>
   try simp only[tt,seval,hn,aL,n1,n2,n3,n4,n5,n6,n7,n8,n9]
   exact⟨_,_,aE (by rw[hzb];simp [aO,dw,bh,aD,n1,n2,n3,n4,n5,n6,n7,n8,n9,hq,hn];try omega),ac rfl⟩
  try simp only[tt,seval,hn,aL,n1,n2,n3,n4,n5,n6,n7,n8,n9]
  rw[cX (by kernel_rfl) (fe val)]
  try simp only[tt,seval,aL,n1,n2,n3,n4,n5,n6,n7,n8,n9]
  cases hv:zV val
  case false=>
   try simp only[tt,seval,hv,aL,n1,n2,n3,n4,n5,n6,n7,n8,n9]
   exact⟨_,_,aE (by rw[hzb];simp [aO,dw,bh,aD,n1,n2,n3,n4,n5,n6,n7,n8,n9,hq,hn,hv];try omega),ac rfl⟩
  try simp only[tt,seval,hv,aL,n1,n2,n3,n4,n5,n6,n7,n8,n9]
  by_cases ho:op=0
  case neg=>
   try simp only[tt,seval,ho,aL,n1,n2,n3,n4,n5,n6,n7,n8,n9]
   exact⟨_,_,aE (by rw[hzb];simp [aO,dw,bh,aD,n1,n2,n3,n4,n5,n6,n7,n8,n9,hq,hn,hv,ho];try omega),ac rfl⟩
  try simp only[tt,seval,ho,aL,n1,n2,n3,n4,n5,n6,n7,n8,n9]
  cases not
  case true=>
   try simp only[tt,seval,aL]
   refine cZ (dO kind 5 8) (by decide) ?_ ?_<;>simp only[tt,seval,Expr.row_mk]
   try simp only[tt,seval,hk58]
   exact⟨_,_,aE (by rw[hzb];simp [aO,dw,bh,aD,n1,n2,n3,n4,n5,n6,n7,n8,n9];try omega),ac rfl⟩
  case false=>
   try simp only[tt,seval,aL,n1,n2,n3,n4,n5,n6,n7,n8,n9]
   exact⟨_,_,aE (by rw[hzb];simp [aO,dw,bh,aD,n1,n2,n3,n4,n5,n6,n7,n8,n9];try omega),ac rfl⟩
def eI (kind op:Int) (val:Val) (qual name:ByteArray):S:=.tu [([.v (.bool (bh kind).1),.v (.bool (bh kind).2.1),.v (.bool (bh kind).2.2.1),.v (.bool (bh kind).2.2.2.1),.v (.int .i64 (bh kind).2.2.2.2.1),.v (.int .i64 (bh kind).2.2.2.2.2.1),.v (.int .i64 (bh kind).2.2.2.2.2.2)],false),([.v (.bool (dw kind op val qual name))],true)]
set_option maxHeartbeats 2000000 in
theorem fG (kind op:Int) (not:Bool) (val:Val) (qual name:ByteArray) (kids:List Expr) (sub:List Query):Cl Tryz.prog 188 [.ag (an (Expr.mk kind op not val qual name kids sub).row)] [] fun r _=>r=eI kind op val qual name:=by
 obtain⟨zs,hzs⟩:∃zs,zs=eI kind op val qual name:=⟨_,rfl⟩
 rw[←hzs,Expr.row_mk]
 refine ab aa false Tryz.func188 rfl (by kernel_rfl) ?_
 simp only[Tryz.f188,tt,seval]
 rcases (show kind=1∨kind=2∨kind=3∨kind=4∨kind=5∨kind=6∨kind=7∨kind=8∨kind=9∨(kind<1∨9<kind) by omega) with rfl|rfl|rfl|rfl|rfl|rfl|rfl|rfl|rfl|hk
 ·try simp only[tt,seval]
  refine cZ (D3 val) (by decide) ?_ ?_<;>simp only[tt,seval,Expr.row_mk,Val.row]
  exact⟨_,_,(by rw[hzs];simp [eI,dw,bh,aD,fX,]),ac rfl⟩
 ·try simp only[tt,seval]
  refine cZ (gy name) (by decide) ?_ ?_<;>simp only[tt,seval,Expr.row_mk]
  cases hnb:decide (1≤name.size∧name.size≤20)
  case false=>
   simp only[tt,seval,hnb]
   exact⟨_,_,(by rw[hzs];simp [eI,dw,bh,aD,fX,hnb]),ac rfl⟩
  simp only[tt,seval,hnb]
  by_cases hq:qual=⟨#[]⟩
  case pos=>
   simp only[tt,seval,hq]
   exact⟨_,_,(by rw[hzs];simp [eI,dw,bh,aD,fX,hnb,hq]),ac rfl⟩
  simp only[tt,seval,hq]
  refine cZ (gy qual) (by decide) ?_ ?_<;>simp only[tt,seval,Expr.row_mk]
  exact⟨_,_,(by rw[hzs];simp [eI,dw,bh,aD,fX,hnb,hq]),ac rfl⟩
 ·try simp only[tt,seval]
  refine dDrawn.intro [] (.take 0 (.take 1 (.take 2 (.take 3 (.take 4 (.take 5 (.br 6 (.take 7 (.take 8 (.br 9 (.take 10 .done) .nobr))) (.br 9 (.take 6 (.take 7 (.take 8 (.take 10 .done)))) .nobr)))))))) (by kernel_rfl) ?_
  simp only[tt,seval]
  by_cases h15:op=15
  case pos=>
   simp only[tt,seval,decide_eq_true h15]
   refine And.intro ?_ ?_<;>exact⟨_,_,(by rw[hzs];simp [eI,dw,bh,aD,fX,h15]),ac rfl⟩
  simp only[tt,seval,decide_eq_false h15]
  refine And.intro ?_ ?_<;>exact⟨_,_,(by rw[hzs];simp [eI,dw,bh,aD,fX,h15]),ac rfl⟩
 ·try simp only[tt,seval]
  refine dDrawn.intro [] (.take 0 (.take 1 (.take 2 (.take 3 (.take 4 (.take 5 (.br 6 (.take 7 (.take 8 (.br 9 (.take 10 .done) .nobr))) (.br 9 (.take 6 (.take 7 (.take 8 (.take 10 .done)))) .nobr)))))))) (by kernel_rfl) ?_
  simp only[tt,seval]
  by_cases h1:1≤op
  case neg=>
   simp only[tt,seval,decide_eq_false h1]
   refine And.intro ?_ ?_<;>exact⟨_,_,(by rw[hzs];simp [eI,dw,bh,aD,fX,h1]),ac rfl⟩
  simp only[tt,seval,decide_eq_true h1]
  refine And.intro ?_ ?_<;>exact⟨_,_,(by rw[hzs];simp [eI,dw,bh,aD,fX,h1]),ac rfl⟩
 ·try simp only[tt,seval]
  exact⟨_,_,(by rw[hzs];simp [eI,dw,bh,aD,fX,]),ac rfl⟩
 ·try simp only[tt,seval]
  exact⟨_,_,(by rw[hzs];simp [eI,dw,bh,aD,fX,]),ac rfl⟩
 ·try simp only[tt,seval]
  exact⟨_,_,(by rw[hzs];simp [eI,dw,bh,aD,fX,]),ac rfl⟩
 ·try simp only[tt,seval]
  exact⟨_,_,(by rw[hzs];simp [eI,dw,bh,aD,fX,]),ac rfl⟩
 ·try simp only[tt,seval]
  exact⟨_,_,(by rw[hzs];simp [eI,dw,bh,aD,fX,]),ac rfl⟩
 ·have n1:¬kind=1:=by omega
  have n2:¬kind=2:=by omega
  have n3:¬kind=3:=by omega
  have n4:¬kind=4:=by omega
  have n5:¬kind=5:=by omega
  have n6:¬kind=6:=by omega
  have n7:¬kind=7:=by omega
  have n8:¬kind=8:=by omega
  have n9:¬kind=9:=by omega
  try simp only[tt,seval,n1,n2,n3,n4,n5,n6,n7,n8,n9]
  exact⟨_,_,(by rw[hzs];simp [eI,dw,bh,n1,n2,n3,n4,n5,n6,n7,n8,n9];omega),ac rfl⟩
theorem Gn:ByteArray.empty=⟨#[]⟩:=rfl
theorem eC {α:Type} {g:α→Bool} {l:List α} {x:α} (h:x∈l) (hx:g x=false):l.all g=false:=by
 cases h':l.all g with
 |false=>rfl
 |true=>have:=List.all_eq_true.1 h' x h;rw[hx] at this;cases this
theorem fH {α:Type} {g:α→Bool} {l:List α} (h:∀j (hj:j<l.length),g l[j]=true):l.all g=true:=List.all_eq_true.2 fun x hx=>by
 obtain⟨j,hj,rfl⟩:=List.mem_iff_getElem.1 hx
 exact h j hj
def mK:Expr→Bool | .mk kind op not val qual name kids sub=>eW kind op not val qual name kids.length sub.length
def tY:Item→Bool | .mk star qual e as_=>if star=true then (fX qual&&(decide (as_=⟨#[]⟩)&&mK e)) else (decide (qual=⟨#[]⟩)&&fX as_)
def tZ (i:Nat):Source→Bool | .mk table as_ on=>aD table&&(fX as_&&(decide (on.length≤1)&&(decide (¬i=0)||decide (on.length=0))))
def BF (l:List Source):Bool:=(List.range l.length).all fun i=>match l[i]? with|some s=>tZ i s|none=>true
def D5:Query→Bool | .mk _ items from_ where_ order limit=>decide (1≤items.length∧items.length≤12)&&(decide (1≤from_.length∧from_.length≤3)&&(decide (where_.length≤1)&&(decide (order.length≤12)&&(decide (-1≤limit)&&(items.all tY&&BF from_)))))
theorem BG {l:List Source} {i:Nat} (h:i<l.length) (hb:tZ i l[i]=false):BF l=false:=by
 refine eC (x:=i) (List.mem_range.2 h) ?_
 rw[List.getElem?_eq_getElem h];exact hb
theorem D6 {l:List Source} (h:∀j (hj:j<l.length),tZ j l[j]=true):BF l=true:=List.all_eq_true.2 fun j hj=>by
 have hj:=List.mem_range.1 hj
 rw[List.getElem?_eq_getElem hj];exact h j hj
def gP (g:Expr→Bool) (q:Query):Bool:=D5 q&&(aw q).all g
def E5 (g:Expr→Bool):Expr→Bool | .mk kind op not val qual name kids sub=>aO kind op not val qual name kids.length sub.length&&(kids.all g&&sub.all (gP g))
noncomputable def fmE:Expr→Bool:=qk E5
theorem BH (l:List Expr) (g:Expr→Bool) (h:∀x∈l,Cl Tryz.prog 212 [.ag (an x.row)] [] fun r _=>r=vb (!g x)):Cl Tryz.prog 243 [.c (.sl l.length (l.flatMap Expr.row) none),.c (.fn 212 [] [])] [] fun r _=>∃n:Int,r=vi n∧decide (0≤n) = !(l.all g):=by
 refine ab aa false Tryz.func243 rfl (by kernel_rfl) ?_
 simp only[Tryz.f243,tt,seval]
 refine fun _=>?_
 refine dLoop.intro (fun f L p=>∃i:Nat,f 8=vi i∧i≤l.length∧(∀j (hj:j<l.length),j<i→g l[j]=true)∧L=[]∧p=none) (fun f _ _=>(l.length-bn (f 8)).toNat) [] none ⟨SubO.nil _,PoSub.none _,?_⟩ ?_
 ·simp only[tt,seval]
  exact⟨0,rfl,by omega,fun j _ h=>absurd h (Nat.not_lt_zero _)⟩
 ·rintro g' L p ⟨i,hix,hi,hall,rfl,rfl⟩
  simp only[tt,seval] at hix
  simp only[tt,seval,hix,Int.ofNat_lt]
  refine And.intro (fun hlt=>?_) (fun hge=>?_)
  ·refine⟨by omega,by omega,_,ax Expr.row_len (List.getElem?_eq_getElem hlt),Expr.ne _ _,?_⟩
   simp only[tt,seval,hix,Expr.tk,Expr.row_len]
   refine cZ (h l[i] (List.getElem_mem hlt)) (by decide) ?_ ?_<;>simp only[tt,seval,hix]
   refine And.intro (fun hb=>?_) (fun hb=>?_)
   ·have hb:g l[i]=false:=by simpa only[Bool.not_eq_true'] using hb
    refine⟨vi i,[],⟨i,rfl,?_⟩,ac rfl⟩
    rw[decide_eq_true (by omega),eC (List.getElem_mem hlt) hb];rfl
   ·have hb:g l[i]=true:=by simpa only[Bool.not_eq_false'] using hb
    try rw[eE i (by omega)]
    exact⟨_,none,SubO.nil _,PoSub.none _,⟨i+1,rfl,by omega,fun j hj hji=>by
     by_cases e:j=i
     ·subst e;exact hb
     ·exact hall j hj (by omega),rfl,rfl⟩,by simp only[bn];omega⟩
  ·refine⟨vi (-1),[],⟨-1,rfl,?_⟩,ac rfl⟩
   rw[fH fun j hj=>hall j hj (by omega)];rfl
theorem vR (l:List Expr) (g:Expr→Bool) (h:∀x∈l,Cl Tryz.prog 212 [.ag (an x.row)] [] fun r _=>r=vb (!g x)):Cl Tryz.prog 211 [.c (.sl l.length (l.flatMap Expr.row) none),.c (.fn 212 [] [])] [] fun r _=>r=vb (!(l.all g)):=by
 refine ab aa false Tryz.func211 rfl (by kernel_rfl) ?_
 simp only[Tryz.f211,tt,seval]
 refine fc (BH l g h) ?_ ?_ ?_
 ·decide
 ·simp only[tt,seval]
 rintro r ⟨n,rfl,hn⟩
 simp only[tt,seval]
 exact⟨_,_,aE hn,ac rfl⟩
theorem BI (l:List Query) (g:Query→Bool) (h:∀x∈l,Cl Tryz.prog 190 [.ag (an x.row)] [] fun r _=>r=vb (!g x)):Cl Tryz.prog 239 [.c (.sl l.length (l.flatMap Query.row) none),.c (.fn 190 [] [])] [] fun r _=>∃n:Int,r=vi n∧decide (0≤n) = !(l.all g):=by
 refine ab aa false Tryz.func239 rfl (by kernel_rfl) ?_
 simp only[Tryz.f239,tt,seval]
 refine fun _=>?_
 refine dLoop.intro (fun f L p=>∃i:Nat,f 8=vi i∧i≤l.length∧(∀j (hj:j<l.length),j<i→g l[j]=true)∧L=[]∧p=none) (fun f _ _=>(l.length-bn (f 8)).toNat) [] none ⟨SubO.nil _,PoSub.none _,?_⟩ ?_
 ·simp only[tt,seval]
  exact⟨0,rfl,by omega,fun j _ h=>absurd h (Nat.not_lt_zero _)⟩
 ·rintro g' L p ⟨i,hix,hi,hall,rfl,rfl⟩
  simp only[tt,seval] at hix
  simp only[tt,seval,hix,Int.ofNat_lt]
  refine And.intro (fun hlt=>?_) (fun hge=>?_)
  ·refine⟨by omega,by omega,_,ax Query.row_len (List.getElem?_eq_getElem hlt),Query.ne _ _,?_⟩
   simp only[tt,seval,hix,Query.tk,Query.row_len]
   refine cZ (h l[i] (List.getElem_mem hlt)) (by decide) ?_ ?_<;>simp only[tt,seval,hix]
   refine And.intro (fun hb=>?_) (fun hb=>?_)
   ·have hb:g l[i]=false:=by simpa only[Bool.not_eq_true'] using hb
    refine⟨vi i,[],⟨i,rfl,?_⟩,ac rfl⟩
    rw[decide_eq_true (by omega),eC (List.getElem_mem hlt) hb];rfl
   ·have hb:g l[i]=true:=by simpa only[Bool.not_eq_false'] using hb
    try rw[eE i (by omega)]
    exact⟨_,none,SubO.nil _,PoSub.none _,⟨i+1,rfl,by omega,fun j hj hji=>by
     by_cases e:j=i
     ·subst e;exact hb
     ·exact hall j hj (by omega),rfl,rfl⟩,by simp only[bn];omega⟩
  ·refine⟨vi (-1),[],⟨-1,rfl,?_⟩,ac rfl⟩
   rw[fH fun j hj=>hall j hj (by omega)];rfl
theorem ea (l:List Query) (g:Query→Bool) (h:∀x∈l,Cl Tryz.prog 190 [.ag (an x.row)] [] fun r _=>r=vb (!g x)):Cl Tryz.prog 189 [.c (.sl l.length (l.flatMap Query.row) none),.c (.fn 190 [] [])] [] fun r _=>r=vb (!(l.all g)):=by
 refine ab aa false Tryz.func189 rfl (by kernel_rfl) ?_
 simp only[Tryz.f189,tt,seval]
 refine fc (BI l g h) ?_ ?_ ?_
 ·decide
 ·simp only[tt,seval]
 rintro r ⟨n,rfl,hn⟩
 simp only[tt,seval]
 exact⟨_,_,aE hn,ac rfl⟩
theorem Ez (e:Expr) (b:Bool) (h:Cl Tryz.prog 127 [.ag (an e.row)] [] fun r _=>r=vb b):Cl Tryz.prog 212 [.ag (an e.row)] [] fun r _=>r=vb (!b):=by
 obtain⟨kind,op,not,val,qual,name,kids,sub⟩:=e
 rw[Expr.row_mk] at h ⊢
 refine ab aa false Tryz.func212 rfl (by kernel_rfl) ?_
 simp only[Tryz.f212,tt,seval]
 refine cZ (h) (by decide) ?_ ?_<;>simp only[tt,seval]
 exact⟨_,_,rfl,ac rfl⟩
theorem om (e:Query) (b:Bool) (h:Cl Tryz.prog 133 [.ag (an e.row)] [] fun r _=>r=vb b):Cl Tryz.prog 190 [.ag (an e.row)] [] fun r _=>r=vb (!b):=by
 obtain⟨distinct,items,from_,where_,order,limit⟩:=e
 rw[Query.row_mk] at h ⊢
 refine ab aa false Tryz.func190 rfl (by kernel_rfl) ?_
 simp only[Tryz.f190,tt,seval]
 refine cZ (h) (by decide) ?_ ?_<;>simp only[tt,seval]
 exact⟨_,_,rfl,ac rfl⟩
theorem dc (l:List Expr) (g:Expr→Bool) (h:∀x∈l,Cl Tryz.prog 127 [.ag (an x.row)] [] fun r _=>r=vb (g x)):Cl Tryz.prog 141 [.c (.sl l.length (l.flatMap Expr.row) none)] [] fun r _=>r=vb (l.all g):=by
 refine ab aa false Tryz.func141 rfl (by kernel_rfl) ?_
 simp only[Tryz.f141,tt,seval]
 refine cZ (vR l g (fun x hx=>Ez x (g x) (h x hx))) (by decide) ?_ ?_<;>simp only[tt,seval]
 exact⟨_,_,aE (Bool.not_not _),ac rfl⟩
theorem D7 (e:Expr):Cl Tryz.prog 199 [.ag (an e.row)] [] fun r _=>r=vb (mK e):=by
 obtain⟨kind,op,not,val,qual,name,kids,sub⟩:=e
 rw[Expr.row_mk]
 refine ab aa false Tryz.func199 rfl (by kernel_rfl) ?_
 simp only[Tryz.f199,tt,seval]
 refine cZ (BE kind op not val qual name kids sub) (by decide) ?_ ?_<;>simp only[tt,seval,Expr.row_mk,Gn]
 exact⟨_,_,rfl,ac rfl⟩
set_option maxHeartbeats 4000000 in
theorem rB (kind op:Int) (not:Bool) (val:Val) (qual name:ByteArray) (kids:List Expr) (sub:List Query) (g:Expr→Bool) (hkids:∀x∈kids,Cl Tryz.prog 127 [.ag (an x.row)] [] fun r _=>r=vb (g x)) (hsub:∀q∈sub,Cl Tryz.prog 133 [.ag (an q.row)] [] fun r _=>r=vb (gP g q)) (hkl:kids.length≤1048576) (hsl:sub.length≤1048576):Cl Tryz.prog 127 [.ag (an (Expr.mk kind op not val qual name kids sub).row)] [] fun r _=>r=vb (E5 g (Expr.mk kind op not val qual name kids sub)):=by
 obtain⟨zb,hzb⟩:∃zb,zb=E5 g (Expr.mk kind op not val qual name kids sub):=⟨_,rfl⟩
 rw[←hzb,Expr.row_mk]
 refine ab aa false Tryz.func127 rfl (by kernel_rfl) ?_
 simp only[Tryz.f127,tt,seval]
 obtain⟨nk,hnk⟩:∃nk:Int,nk=kids.length:=⟨_,rfl⟩
 obtain⟨ns,hns⟩:∃ns:Int,ns=sub.length:=⟨_,rfl⟩
 rw[E5,aO,←hnk,←hns] at hzb
 rcases (show kind=1∨kind=2∨kind=3∨kind=4∨kind=5∨kind=6∨kind=7∨kind=8∨kind=9∨(kind<1∨9<kind) by omega) with rfl|rfl|rfl|rfl|rfl|rfl|rfl|rfl|rfl|hk
 ·try simp only[tt,seval]
  refine cZ (fG 1 op not val qual name kids sub) (by decide) ?_ ?_<;>simp only[tt,seval,Expr.row_mk,eI,bh]
  generalize dw 1 op val qual name=okv at *
  cases hok:okv
  case false=>
   try simp only[tt,seval,hok,aL]
   exact⟨_,_,aE (by rw[hzb];simp [bh,hok];try omega),ac rfl⟩
  try simp only[tt,seval,hok,aL]
  by_cases ho:op=0
  case neg=>
   try simp only[tt,seval,ho,aL]
   exact⟨_,_,aE (by rw[hzb];simp [bh,hok,ho];try omega),ac rfl⟩
  try simp only[tt,seval,ho,aL]
  cases not
  case true=>
   try simp only[tt,seval,aL]
   exact⟨_,_,aE (by rw[hzb];simp [bh,hok,ho];try omega),ac rfl⟩
  try simp only[tt,seval,aL]
  by_cases hq:qual=⟨#[]⟩
  case neg=>
   try simp only[tt,seval,hq,aL]
   exact⟨_,_,aE (by rw[hzb];simp [bh,hok,ho,hq];try omega),ac rfl⟩
  try simp only[tt,seval,hq,aL]
  by_cases hn:name=⟨#[]⟩
  case neg=>
   try simp only[tt,seval,hn,aL]
   exact⟨_,_,aE (by rw[hzb];simp [bh,hok,ho,hq,hn];try omega),ac rfl⟩
  try simp only[tt,seval,hn,aL]
  refine fun _=>?_
  rw[←hnk]
  by_cases hlo:nk<0
  case pos=>
   try simp only[tt,seval,hlo,aL]
   exact⟨_,_,aE (by rw[hzb];simp [bh,hok,ho,hq,hn,hlo];try omega),ac rfl⟩
  try simp only[tt,seval,hlo,aL]
  try refine fun _=>?_
  try rw[←hnk]
  by_cases hhi:0<nk
  case pos=>
   try simp only[tt,seval,hhi,aL]
   exact⟨_,_,aE (by rw[hzb];simp [bh,hok,ho,hq,hn,hlo,hhi];try omega),ac rfl⟩
  try simp only[tt,seval,hhi,aL]
  try refine fun _=>?_
  try rw[←hns]
  by_cases hns0:ns=0
  case neg=>
   try simp only[tt,seval,hns0,aL]
   exact⟨_,_,aE (by rw[hzb];simp [bh,hok,ho,hq,hn,hlo,hhi,hns0];try omega),ac rfl⟩
  try simp only[tt,seval,hns0,aL]
  refine cZ (dc kids g hkids) (by decide) ?_ ?_<;>simp only[tt,seval,Expr.row_mk]
  cases hka:kids.all g
  case false=>
   try simp only[tt,seval,hka,aL]
   exact⟨_,_,aE (by rw[hzb];simp [bh,hok,ho,hq,hn,hlo,hhi,hns0,hka];try omega),ac rfl⟩
  try simp only[tt,seval,hka,aL]
  refine cZ (ea sub (gP g) (fun q hq=>om q (gP g q) (hsub q hq))) (by decide) ?_ ?_<;>simp only[tt,seval,Expr.row_mk]
  cases hsa:sub.all (gP g)
  case false=>
   try simp only[tt,seval,hsa,aL]
   exact⟨_,_,aE (by rw[hzb];simp [bh,hok,ho,hq,hn,hlo,hhi,hns0,hka,hsa];try omega),ac rfl⟩
  try simp only[tt,seval,hsa,aL]
  exact⟨_,_,aE (by rw[hzb];simp [bh,hok,ho,hq,hn,hlo,hhi,hns0,hka,hsa];try omega),ac rfl⟩
 ·try simp only[tt,seval]
  refine cZ (fG 2 op not val qual name kids sub) (by decide) ?_ ?_<;>simp only[tt,seval,Expr.row_mk,eI,bh]
  generalize dw 2 op val qual name=okv at *
  cases hok:okv
  case false=>
   try simp only[tt,seval,hok,aL]
   exact⟨_,_,aE (by rw[hzb];simp [bh,hok];try omega),ac rfl⟩
  try simp only[tt,seval,hok,aL]
  by_cases ho:op=0
  case neg=>
   try simp only[tt,seval,ho,aL]
   exact⟨_,_,aE (by rw[hzb];simp [bh,hok,ho];try omega),ac rfl⟩
  try simp only[tt,seval,ho,aL]
  cases not
  case true=>
   try simp only[tt,seval,aL]
   exact⟨_,_,aE (by rw[hzb];simp [bh,hok,ho];try omega),ac rfl⟩
  try simp only[tt,seval,aL]
  rw[cX (by kernel_rfl) (fe val)]
  try simp only[tt,seval,aL]
  cases hv:zV val
  case false=>
   try simp only[tt,seval,hv,aL]
   exact⟨_,_,aE (by rw[hzb];simp [bh,hok,ho,hv];try omega),ac rfl⟩
  try simp only[tt,seval,hv,aL]
  refine fun _=>?_
  rw[←hnk]
  by_cases hlo:nk<0
  case pos=>
   try simp only[tt,seval,hlo,aL]
   exact⟨_,_,aE (by rw[hzb];simp [bh,hok,ho,hv,hlo];try omega),ac rfl⟩
  try simp only[tt,seval,hlo,aL]
  try refine fun _=>?_
  try rw[←hnk]
  by_cases hhi:0<nk
  case pos=>
   try simp only[tt,seval,hhi,aL]
   exact⟨_,_,aE (by rw[hzb];simp [bh,hok,ho,hv,hlo,hhi];try omega),ac rfl⟩
  try simp only[tt,seval,hhi,aL]
  try refine fun _=>?_
  try rw[←hns]
  by_cases hns0:ns=0
  case neg=>
   try simp only[tt,seval,hns0,aL]
   exact⟨_,_,aE (by rw[hzb];simp [bh,hok,ho,hv,hlo,hhi,hns0];try omega),ac rfl⟩
  try simp only[tt,seval,hns0,aL]
  refine cZ (dc kids g hkids) (by decide) ?_ ?_<;>simp only[tt,seval,Expr.row_mk]
  cases hka:kids.all g
  case false=>
   try simp only[tt,seval,hka,aL]
   exact⟨_,_,aE (by rw[hzb];simp [bh,hok,ho,hv,hlo,hhi,hns0,hka];try omega),ac rfl⟩
  try simp only[tt,seval,hka,aL]
  refine cZ (ea sub (gP g) (fun q hq=>om q (gP g q) (hsub q hq))) (by decide) ?_ ?_<;>simp only[tt,seval,Expr.row_mk]
  cases hsa:sub.all (gP g)
  case false=>
   try simp only[tt,seval,hsa,aL]
   exact⟨_,_,aE (by rw[hzb];simp [bh,hok,ho,hv,hlo,hhi,hns0,hka,hsa];try omega),ac rfl⟩
  try simp only[tt,seval,hsa,aL]
  exact⟨_,_,aE (by rw[hzb];simp [bh,hok,ho,hv,hlo,hhi,hns0,hka,hsa];try omega),ac rfl⟩
 ·try simp only[tt,seval]
  refine cZ (fG 3 op not val qual name kids sub) (by decide) ?_ ?_<;>simp only[tt,seval,Expr.row_mk,eI,bh]
  generalize dw 3 op val qual name=okv at *
  cases hok:okv
  case false=>
   try simp only[tt,seval,hok,aL]
   exact⟨_,_,aE (by rw[hzb];simp [bh,hok];try omega),ac rfl⟩
  try simp only[tt,seval,hok,aL]
  cases not
  case true=>
   try simp only[tt,seval,aL]
   exact⟨_,_,aE (by rw[hzb];simp [bh,hok];try omega),ac rfl⟩
  try simp only[tt,seval,aL]
  rw[cX (by kernel_rfl) (fe val)]
  try simp only[tt,seval,aL]
  cases hv:zV val
  case false=>
   try simp only[tt,seval,hv,aL]
   exact⟨_,_,aE (by rw[hzb];simp [bh,hok,hv];try omega),ac rfl⟩
  try simp only[tt,seval,hv,aL]
  by_cases hq:qual=⟨#[]⟩
  case neg=>
   try simp only[tt,seval,hq,aL]
   exact⟨_,_,aE (by rw[hzb];simp [bh,hok,hv,hq];try omega),ac rfl⟩
  try simp only[tt,seval,hq,aL]
  by_cases hn:name=⟨#[]⟩
  case neg=>
   try simp only[tt,seval,hn,aL]
   exact⟨_,_,aE (by rw[hzb];simp [bh,hok,hv,hq,hn];try omega),ac rfl⟩
  try simp only[tt,seval,hn,aL]
  refine fun _=>?_
  rw[←hnk]
  by_cases hlo:nk<1
  case pos=>
   try simp only[tt,seval,hlo,aL]
   exact⟨_,_,aE (by rw[hzb];simp [bh,hok,hv,hq,hn,hlo];try omega),ac rfl⟩
  try simp only[tt,seval,hlo,aL]
  try refine fun _=>?_
  try rw[←hnk]
  by_cases hhi:1<nk
  case pos=>
   try simp only[tt,seval,hhi,aL]
   exact⟨_,_,aE (by rw[hzb];simp [bh,hok,hv,hq,hn,hlo,hhi];try omega),ac rfl⟩
  try simp only[tt,seval,hhi,aL]
  try refine fun _=>?_
  try rw[←hns]
  by_cases hns0:ns=0
  case neg=>
   try simp only[tt,seval,hns0,aL]
   exact⟨_,_,aE (by rw[hzb];simp [bh,hok,hv,hq,hn,hlo,hhi,hns0];try omega),ac rfl⟩
  try simp only[tt,seval,hns0,aL]
  refine cZ (dc kids g hkids) (by decide) ?_ ?_<;>simp only[tt,seval,Expr.row_mk]
  cases hka:kids.all g
  case false=>
   try simp only[tt,seval,hka,aL]
   exact⟨_,_,aE (by rw[hzb];simp [bh,hok,hv,hq,hn,hlo,hhi,hns0,hka];try omega),ac rfl⟩
  try simp only[tt,seval,hka,aL]
  refine cZ (ea sub (gP g) (fun q hq=>om q (gP g q) (hsub q hq))) (by decide) ?_ ?_<;>simp only[tt,seval,Expr.row_mk]
  cases hsa:sub.all (gP g)
  case false=>
   try simp only[tt,seval,hsa,aL]
   exact⟨_,_,aE (by rw[hzb];simp [bh,hok,hv,hq,hn,hlo,hhi,hns0,hka,hsa];try omega),ac rfl⟩
  try simp only[tt,seval,hsa,aL]
  exact⟨_,_,aE (by rw[hzb];simp [bh,hok,hv,hq,hn,hlo,hhi,hns0,hka,hsa];try omega),ac rfl⟩
 ·try simp only[tt,seval]
  refine cZ (fG 4 op not val qual name kids sub) (by decide) ?_ ?_<;>simp only[tt,seval,Expr.row_mk,eI,bh]
  generalize dw 4 op val qual name=okv at *
  cases hok:okv
  case false=>
   try simp only[tt,seval,hok,aL]
   exact⟨_,_,aE (by rw[hzb];simp [bh,hok];try omega),ac rfl⟩
  try simp only[tt,seval,hok,aL]
  cases not
  case true=>
   try simp only[tt,seval,aL]
   exact⟨_,_,aE (by rw[hzb];simp [bh,hok];try omega),ac rfl⟩
  try simp only[tt,seval,aL]
  rw[cX (by kernel_rfl) (fe val)]
  try simp only[tt,seval,aL]
  cases hv:zV val
  case false=>
   try simp only[tt,seval,hv,aL]
   exact⟨_,_,aE (by rw[hzb];simp [bh,hok,hv];try omega),ac rfl⟩
  try simp only[tt,seval,hv,aL]
  by_cases hq:qual=⟨#[]⟩
  case neg=>
   try simp only[tt,seval,hq,aL]
   exact⟨_,_,aE (by rw[hzb];simp [bh,hok,hv,hq];try omega),ac rfl⟩
  try simp only[tt,seval,hq,aL]
  by_cases hn:name=⟨#[]⟩
  case neg=>
   try simp only[tt,seval,hn,aL]
   exact⟨_,_,aE (by rw[hzb];simp [bh,hok,hv,hq,hn];try omega),ac rfl⟩
  try simp only[tt,seval,hn,aL]
  refine fun _=>?_
  rw[←hnk]
  by_cases hlo:nk<2
  case pos=>
   try simp only[tt,seval,hlo,aL]
   exact⟨_,_,aE (by rw[hzb];simp [bh,hok,hv,hq,hn,hlo];try omega),ac rfl⟩
  try simp only[tt,seval,hlo,aL]
  try refine fun _=>?_
  try rw[←hnk]
  by_cases hhi:2<nk
  case pos=>
   try simp only[tt,seval,hhi,aL]
   exact⟨_,_,aE (by rw[hzb];simp [bh,hok,hv,hq,hn,hlo,hhi];try omega),ac rfl⟩
  try simp only[tt,seval,hhi,aL]
  try refine fun _=>?_
  try rw[←hns]
  by_cases hns0:ns=0
  case neg=>
   try simp only[tt,seval,hns0,aL]
   exact⟨_,_,aE (by rw[hzb];simp [bh,hok,hv,hq,hn,hlo,hhi,hns0];try omega),ac rfl⟩
  try simp only[tt,seval,hns0,aL]
  refine cZ (dc kids g hkids) (by decide) ?_ ?_<;>simp only[tt,seval,Expr.row_mk]
  cases hka:kids.all g
  case false=>
   try simp only[tt,seval,hka,aL]
   exact⟨_,_,aE (by rw[hzb];simp [bh,hok,hv,hq,hn,hlo,hhi,hns0,hka];try omega),ac rfl⟩
  try simp only[tt,seval,hka,aL]
  refine cZ (ea sub (gP g) (fun q hq=>om q (gP g q) (hsub q hq))) (by decide) ?_ ?_<;>simp only[tt,seval,Expr.row_mk]
  cases hsa:sub.all (gP g)
  case false=>
   try simp only[tt,seval,hsa,aL]
   exact⟨_,_,aE (by rw[hzb];simp [bh,hok,hv,hq,hn,hlo,hhi,hns0,hka,hsa];try omega),ac rfl⟩
  try simp only[tt,seval,hsa,aL]
  exact⟨_,_,aE (by rw[hzb];simp [bh,hok,hv,hq,hn,hlo,hhi,hns0,hka,hsa];try omega),ac rfl⟩
 ·try simp only[tt,seval]
  refine cZ (fG 5 op not val qual name kids sub) (by decide) ?_ ?_<;>simp only[tt,seval,Expr.row_mk,eI,bh]
  generalize dw 5 op val qual name=okv at *
  cases hok:okv
  case false=>
   try simp only[tt,seval,hok,aL]
   exact⟨_,_,aE (by rw[hzb];simp [bh,hok];try omega),ac rfl⟩
  try simp only[tt,seval,hok,aL]
  by_cases ho:op=0
  case neg=>
   try simp only[tt,seval,ho,aL]
   exact⟨_,_,aE (by rw[hzb];simp [bh,hok,ho];try omega),ac rfl⟩
  try simp only[tt,seval,ho,aL]
  rw[cX (by kernel_rfl) (fe val)]
  try simp only[tt,seval,aL]
  cases hv:zV val
  case false=>
   try simp only[tt,seval,hv,aL]
   exact⟨_,_,aE (by rw[hzb];simp [bh,hok,ho,hv];try omega),ac rfl⟩
  try simp only[tt,seval,hv,aL]
  by_cases hq:qual=⟨#[]⟩
  case neg=>
   try simp only[tt,seval,hq,aL]
   exact⟨_,_,aE (by rw[hzb];simp [bh,hok,ho,hv,hq];try omega),ac rfl⟩
  try simp only[tt,seval,hq,aL]
  by_cases hn:name=⟨#[]⟩
  case neg=>
   try simp only[tt,seval,hn,aL]
   exact⟨_,_,aE (by rw[hzb];simp [bh,hok,ho,hv,hq,hn];try omega),ac rfl⟩
  try simp only[tt,seval,hn,aL]
  refine fun _=>?_
  rw[←hnk]
  by_cases hlo:nk<1
  case pos=>
   try simp only[tt,seval,hlo,aL]
   exact⟨_,_,aE (by rw[hzb];simp [bh,hok,ho,hv,hq,hn,hlo];try omega),ac rfl⟩
  try simp only[tt,seval,hlo,aL]
  try refine fun _=>?_
  try rw[←hnk]
  by_cases hhi:1<nk
  case pos=>
   try simp only[tt,seval,hhi,aL]
   exact⟨_,_,aE (by rw[hzb];simp [bh,hok,ho,hv,hq,hn,hlo,hhi];try omega),ac rfl⟩
  try simp only[tt,seval,hhi,aL]
  try refine fun _=>?_
  try rw[←hns]
  by_cases hns0:ns=0
  case neg=>
   try simp only[tt,seval,hns0,aL]
   exact⟨_,_,aE (by rw[hzb];simp [bh,hok,ho,hv,hq,hn,hlo,hhi,hns0];try omega),ac rfl⟩
  try simp only[tt,seval,hns0,aL]
  refine cZ (dc kids g hkids) (by decide) ?_ ?_<;>simp only[tt,seval,Expr.row_mk]
  cases hka:kids.all g
  case false=>
   try simp only[tt,seval,hka,aL]
   exact⟨_,_,aE (by rw[hzb];simp [bh,hok,ho,hv,hq,hn,hlo,hhi,hns0,hka];try omega),ac rfl⟩
  try simp only[tt,seval,hka,aL]
  refine cZ (ea sub (gP g) (fun q hq=>om q (gP g q) (hsub q hq))) (by decide) ?_ ?_<;>simp only[tt,seval,Expr.row_mk]
  cases hsa:sub.all (gP g)
  case false=>
   try simp only[tt,seval,hsa,aL]
   exact⟨_,_,aE (by rw[hzb];simp [bh,hok,ho,hv,hq,hn,hlo,hhi,hns0,hka,hsa];try omega),ac rfl⟩
  try simp only[tt,seval,hsa,aL]
  exact⟨_,_,aE (by rw[hzb];simp [bh,hok,ho,hv,hq,hn,hlo,hhi,hns0,hka,hsa];try omega),ac rfl⟩
 ·try simp only[tt,seval]
  refine cZ (fG 6 op not val qual name kids sub) (by decide) ?_ ?_<;>simp only[tt,seval,Expr.row_mk,eI,bh]
  generalize dw 6 op val qual name=okv at *
  cases hok:okv
  case false=>
   try simp only[tt,seval,hok,aL]
   exact⟨_,_,aE (by rw[hzb];simp [bh,hok];try omega),ac rfl⟩
  try simp only[tt,seval,hok,aL]
  by_cases ho:op=0
  case neg=>
   try simp only[tt,seval,ho,aL]
   exact⟨_,_,aE (by rw[hzb];simp [bh,hok,ho];try omega),ac rfl⟩
  try simp only[tt,seval,ho,aL]
  rw[cX (by kernel_rfl) (fe val)]
  try simp only[tt,seval,aL]
  cases hv:zV val
  case false=>
   try simp only[tt,seval,hv,aL]
   exact⟨_,_,aE (by rw[hzb];simp [bh,hok,ho,hv];try omega),ac rfl⟩
  try simp only[tt,seval,hv,aL]
  by_cases hq:qual=⟨#[]⟩
  case neg=>
   try simp only[tt,seval,hq,aL]
   exact⟨_,_,aE (by rw[hzb];simp [bh,hok,ho,hv,hq];try omega),ac rfl⟩
  try simp only[tt,seval,hq,aL]
  by_cases hn:name=⟨#[]⟩
  case neg=>
   try simp only[tt,seval,hn,aL]
   exact⟨_,_,aE (by rw[hzb];simp [bh,hok,ho,hv,hq,hn];try omega),ac rfl⟩
  try simp only[tt,seval,hn,aL]
  refine fun _=>?_
  rw[←hnk]
  by_cases hlo:nk<3
  case pos=>
   try simp only[tt,seval,hlo,aL]
   exact⟨_,_,aE (by rw[hzb];simp [bh,hok,ho,hv,hq,hn,hlo];try omega),ac rfl⟩
  try simp only[tt,seval,hlo,aL]
  try refine fun _=>?_
  try rw[←hnk]
  by_cases hhi:3<nk
  case pos=>
   try simp only[tt,seval,hhi,aL]
   exact⟨_,_,aE (by rw[hzb];simp [bh,hok,ho,hv,hq,hn,hlo,hhi];try omega),ac rfl⟩
  try simp only[tt,seval,hhi,aL]
  try refine fun _=>?_
  try rw[←hns]
  by_cases hns0:ns=0
  case neg=>
   try simp only[tt,seval,hns0,aL]
   exact⟨_,_,aE (by rw[hzb];simp [bh,hok,ho,hv,hq,hn,hlo,hhi,hns0];try omega),ac rfl⟩
  try simp only[tt,seval,hns0,aL]
  refine cZ (dc kids g hkids) (by decide) ?_ ?_<;>simp only[tt,seval,Expr.row_mk]
  cases hka:kids.all g
  case false=>
   try simp only[tt,seval,hka,aL]
   exact⟨_,_,aE (by rw[hzb];simp [bh,hok,ho,hv,hq,hn,hlo,hhi,hns0,hka];try omega),ac rfl⟩
  try simp only[tt,seval,hka,aL]
  refine cZ (ea sub (gP g) (fun q hq=>om q (gP g q) (hsub q hq))) (by decide) ?_ ?_<;>simp only[tt,seval,Expr.row_mk]
  cases hsa:sub.all (gP g)
  case false=>
   try simp only[tt,seval,hsa,aL]
   exact⟨_,_,aE (by rw[hzb];simp [bh,hok,ho,hv,hq,hn,hlo,hhi,hns0,hka,hsa];try omega),ac rfl⟩
  try simp only[tt,seval,hsa,aL]
  exact⟨_,_,aE (by rw[hzb];simp [bh,hok,ho,hv,hq,hn,hlo,hhi,hns0,hka,hsa];try omega),ac rfl⟩
 ·try simp only[tt,seval]
  refine cZ (fG 7 op not val qual name kids sub) (by decide) ?_ ?_<;>simp only[tt,seval,Expr.row_mk,eI,bh]
  generalize dw 7 op val qual name=okv at *
  cases hok:okv
  case false=>
   try simp only[tt,seval,hok,aL]
   exact⟨_,_,aE (by rw[hzb];simp [bh,hok];try omega),ac rfl⟩
  try simp only[tt,seval,hok,aL]
  by_cases ho:op=0
  case neg=>
   try simp only[tt,seval,ho,aL]
   exact⟨_,_,aE (by rw[hzb];simp [bh,hok,ho];try omega),ac rfl⟩
  try simp only[tt,seval,ho,aL]
  rw[cX (by kernel_rfl) (fe val)]
  try simp only[tt,seval,aL]
  cases hv:zV val
  case false=>
   try simp only[tt,seval,hv,aL]
   exact⟨_,_,aE (by rw[hzb];simp [bh,hok,ho,hv];try omega),ac rfl⟩
  try simp only[tt,seval,hv,aL]
  by_cases hq:qual=⟨#[]⟩
  case neg=>
   try simp only[tt,seval,hq,aL]
   exact⟨_,_,aE (by rw[hzb];simp [bh,hok,ho,hv,hq];try omega),ac rfl⟩
  try simp only[tt,seval,hq,aL]
  by_cases hn:name=⟨#[]⟩
  case neg=>
   try simp only[tt,seval,hn,aL]
   exact⟨_,_,aE (by rw[hzb];simp [bh,hok,ho,hv,hq,hn];try omega),ac rfl⟩
  try simp only[tt,seval,hn,aL]
  refine fun _=>?_
  rw[←hnk]
  by_cases hlo:nk<2
  case pos=>
   try simp only[tt,seval,hlo,aL]
   exact⟨_,_,aE (by rw[hzb];simp [bh,hok,ho,hv,hq,hn,hlo];try omega),ac rfl⟩
  try simp only[tt,seval,hlo,aL]
  try refine fun _=>?_
  try rw[←hnk]
  by_cases hhi:9<nk
  case pos=>
   try simp only[tt,seval,hhi,aL]
   exact⟨_,_,aE (by rw[hzb];simp [bh,hok,ho,hv,hq,hn,hlo,hhi];try omega),ac rfl⟩
  try simp only[tt,seval,hhi,aL]
  try refine fun _=>?_
  try rw[←hns]
  by_cases hns0:ns=0
  case neg=>
   try simp only[tt,seval,hns0,aL]
   exact⟨_,_,aE (by rw[hzb];simp [bh,hok,ho,hv,hq,hn,hlo,hhi,hns0];try omega),ac rfl⟩
  try simp only[tt,seval,hns0,aL]
  refine cZ (dc kids g hkids) (by decide) ?_ ?_<;>simp only[tt,seval,Expr.row_mk]
  cases hka:kids.all g
  case false=>
   try simp only[tt,seval,hka,aL]
   exact⟨_,_,aE (by rw[hzb];simp [bh,hok,ho,hv,hq,hn,hlo,hhi,hns0,hka];try omega),ac rfl⟩
  try simp only[tt,seval,hka,aL]
  refine cZ (ea sub (gP g) (fun q hq=>om q (gP g q) (hsub q hq))) (by decide) ?_ ?_<;>simp only[tt,seval,Expr.row_mk]
  cases hsa:sub.all (gP g)
  case false=>
   try simp only[tt,seval,hsa,aL]
   exact⟨_,_,aE (by rw[hzb];simp [bh,hok,ho,hv,hq,hn,hlo,hhi,hns0,hka,hsa];try omega),ac rfl⟩
  try simp only[tt,seval,hsa,aL]
  exact⟨_,_,aE (by rw[hzb];simp [bh,hok,ho,hv,hq,hn,hlo,hhi,hns0,hka,hsa];try omega),ac rfl⟩
 ·try simp only[tt,seval]
  refine cZ (fG 8 op not val qual name kids sub) (by decide) ?_ ?_<;>simp only[tt,seval,Expr.row_mk,eI,bh]
  generalize dw 8 op val qual name=okv at *
  cases hok:okv
  case false=>
   try simp only[tt,seval,hok,aL]
   exact⟨_,_,aE (by rw[hzb];simp [bh,hok];try omega),ac rfl⟩
  try simp only[tt,seval,hok,aL]
  by_cases ho:op=0
  case neg=>
   try simp only[tt,seval,ho,aL]
   exact⟨_,_,aE (by rw[hzb];simp [bh,hok,ho];try omega),ac rfl⟩
  try simp only[tt,seval,ho,aL]
  rw[cX (by kernel_rfl) (fe val)]
  try simp only[tt,seval,aL]
  cases hv:zV val
  case false=>
   try simp only[tt,seval,hv,aL]
   exact⟨_,_,aE (by rw[hzb];simp [bh,hok,ho,hv];try omega),ac rfl⟩
  try simp only[tt,seval,hv,aL]
  by_cases hq:qual=⟨#[]⟩
  case neg=>
   try simp only[tt,seval,hq,aL]
   exact⟨_,_,aE (by rw[hzb];simp [bh,hok,ho,hv,hq];try omega),ac rfl⟩
  try simp only[tt,seval,hq,aL]
  by_cases hn:name=⟨#[]⟩
  case neg=>
   try simp only[tt,seval,hn,aL]
   exact⟨_,_,aE (by rw[hzb];simp [bh,hok,ho,hv,hq,hn];try omega),ac rfl⟩
  try simp only[tt,seval,hn,aL]
  refine fun _=>?_
  rw[←hnk]
  by_cases hlo:nk<1
  case pos=>
   try simp only[tt,seval,hlo,aL]
   exact⟨_,_,aE (by rw[hzb];simp [bh,hok,ho,hv,hq,hn,hlo];try omega),ac rfl⟩
  try simp only[tt,seval,hlo,aL]
  try refine fun _=>?_
  try rw[←hnk]
  by_cases hhi:1<nk
  case pos=>
   try simp only[tt,seval,hhi,aL]
   exact⟨_,_,aE (by rw[hzb];simp [bh,hok,ho,hv,hq,hn,hlo,hhi];try omega),ac rfl⟩
  try simp only[tt,seval,hhi,aL]
  try refine fun _=>?_
  try rw[←hns]
  by_cases hns0:ns=1
  case neg=>
   try simp only[tt,seval,hns0,aL]
   exact⟨_,_,aE (by rw[hzb];simp [bh,hok,ho,hv,hq,hn,hlo,hhi,hns0];try omega),ac rfl⟩
  try simp only[tt,seval,hns0,aL]
  refine cZ (dc kids g hkids) (by decide) ?_ ?_<;>simp only[tt,seval,Expr.row_mk]
  cases hka:kids.all g
  case false=>
   try simp only[tt,seval,hka,aL]
   exact⟨_,_,aE (by rw[hzb];simp [bh,hok,ho,hv,hq,hn,hlo,hhi,hns0,hka];try omega),ac rfl⟩
  try simp only[tt,seval,hka,aL]
  refine cZ (ea sub (gP g) (fun q hq=>om q (gP g q) (hsub q hq))) (by decide) ?_ ?_<;>simp only[tt,seval,Expr.row_mk]
  cases hsa:sub.all (gP g)
  case false=>
   try simp only[tt,seval,hsa,aL]
   exact⟨_,_,aE (by rw[hzb];simp [bh,hok,ho,hv,hq,hn,hlo,hhi,hns0,hka,hsa];try omega),ac rfl⟩
  try simp only[tt,seval,hsa,aL]
  exact⟨_,_,aE (by rw[hzb];simp [bh,hok,ho,hv,hq,hn,hlo,hhi,hns0,hka,hsa];try omega),ac rfl⟩
 ·try simp only[tt,seval]
  refine cZ (fG 9 op not val qual name kids sub) (by decide) ?_ ?_<;>simp only[tt,seval,Expr.row_mk,eI,bh]
  generalize dw 9 op val qual name=okv at *
  cases hok:okv
  case false=>
   try simp only[tt,seval,hok,aL]
   exact⟨_,_,aE (by rw[hzb];simp [bh,hok];try omega),ac rfl⟩
  try simp only[tt,seval,hok,aL]
  by_cases ho:op=0
  case neg=>
   try simp only[tt,seval,ho,aL]
   exact⟨_,_,aE (by rw[hzb];simp [bh,hok,ho];try omega),ac rfl⟩
  try simp only[tt,seval,ho,aL]
  cases not
  case true=>
   try simp only[tt,seval,aL]
   exact⟨_,_,aE (by rw[hzb];simp [bh,hok,ho];try omega),ac rfl⟩
  try simp only[tt,seval,aL]
  rw[cX (by kernel_rfl) (fe val)]
  try simp only[tt,seval,aL]
  cases hv:zV val
  case false=>
   try simp only[tt,seval,hv,aL]
   exact⟨_,_,aE (by rw[hzb];simp [bh,hok,ho,hv];try omega),ac rfl⟩
  try simp only[tt,seval,hv,aL]
  by_cases hq:qual=⟨#[]⟩
  case neg=>
   try simp only[tt,seval,hq,aL]
   exact⟨_,_,aE (by rw[hzb];simp [bh,hok,ho,hv,hq];try omega),ac rfl⟩
  try simp only[tt,seval,hq,aL]
  by_cases hn:name=⟨#[]⟩
  case neg=>
   try simp only[tt,seval,hn,aL]
   exact⟨_,_,aE (by rw[hzb];simp [bh,hok,ho,hv,hq,hn];try omega),ac rfl⟩
  try simp only[tt,seval,hn,aL]
  refine fun _=>?_
  rw[←hnk]
  by_cases hlo:nk<0
  case pos=>
   try simp only[tt,seval,hlo,aL]
   exact⟨_,_,aE (by rw[hzb];simp [bh,hok,ho,hv,hq,hn,hlo];try omega),ac rfl⟩
  try simp only[tt,seval,hlo,aL]
  try refine fun _=>?_
  try rw[←hnk]
  by_cases hhi:0<nk
  case pos=>
   try simp only[tt,seval,hhi,aL]
   exact⟨_,_,aE (by rw[hzb];simp [bh,hok,ho,hv,hq,hn,hlo,hhi];try omega),ac rfl⟩
  try simp only[tt,seval,hhi,aL]
  try refine fun _=>?_
  try rw[←hns]
  by_cases hns0:ns=1
  case neg=>
   try simp only[tt,seval,hns0,aL]
   exact⟨_,_,aE (by rw[hzb];simp [bh,hok,ho,hv,hq,hn,hlo,hhi,hns0];try omega),ac rfl⟩
  try simp only[tt,seval,hns0,aL]
  refine cZ (dc kids g hkids) (by decide) ?_ ?_<;>simp only[tt,seval,Expr.row_mk]
  cases hka:kids.all g
  case false=>
   try simp only[tt,seval,hka,aL]
   exact⟨_,_,aE (by rw[hzb];simp [bh,hok,ho,hv,hq,hn,hlo,hhi,hns0,hka];try omega),ac rfl⟩
  try simp only[tt,seval,hka,aL]
  refine cZ (ea sub (gP g) (fun q hq=>om q (gP g q) (hsub q hq))) (by decide) ?_ ?_<;>simp only[tt,seval,Expr.row_mk]
  cases hsa:sub.all (gP g)
  case false=>
   try simp only[tt,seval,hsa,aL]
   exact⟨_,_,aE (by rw[hzb];simp [bh,hok,ho,hv,hq,hn,hlo,hhi,hns0,hka,hsa];try omega),ac rfl⟩
  try simp only[tt,seval,hsa,aL]
  exact⟨_,_,aE (by rw[hzb];simp [bh,hok,ho,hv,hq,hn,hlo,hhi,hns0,hka,hsa];try omega),ac rfl⟩
 ·have n1:¬kind=1:=by omega
  have n2:¬kind=2:=by omega
  have n3:¬kind=3:=by omega
  have n4:¬kind=4:=by omega
  have n5:¬kind=5:=by omega
  have n6:¬kind=6:=by omega
  have n7:¬kind=7:=by omega
  have n8:¬kind=8:=by omega
  have n9:¬kind=9:=by omega
  have hokf:dw kind op val qual name=false:=by simp [dw,n1,n2,n3,n4,n5,n6,n7,n8,n9];omega
  refine cZ (fG kind op not val qual name kids sub) (by decide) ?_ ?_<;>simp only[tt,seval,Expr.row_mk,eI,hokf]
  exact⟨_,_,aE (by rw[hzb];simp [hokf]),ac rfl⟩
theorem u5 (distinct:Bool) (items:List Item) (from_:List Source) (where_:List Expr) (order:List SortKey) (limit:Int) (g:Expr→Bool) (h:¬(1≤items.length∧items.length≤12)):gP g (Query.mk distinct items from_ where_ order limit)=false:=by simp only[gP,D5,decide_eq_false h,Bool.false_and]
theorem xl (distinct:Bool) (items:List Item) (from_:List Source) (where_:List Expr) (order:List SortKey) (limit:Int) (g:Expr→Bool) (h:¬(1≤from_.length∧from_.length≤3)):gP g (Query.mk distinct items from_ where_ order limit)=false:=by simp only[gP,D5,decide_eq_false h,Bool.false_and,Bool.and_false]
theorem yH (distinct:Bool) (items:List Item) (from_:List Source) (where_:List Expr) (order:List SortKey) (limit:Int) (g:Expr→Bool) (h:¬where_.length≤1):gP g (Query.mk distinct items from_ where_ order limit)=false:=by simp only[gP,D5,decide_eq_false h,Bool.false_and,Bool.and_false]
theorem yI (distinct:Bool) (items:List Item) (from_:List Source) (where_:List Expr) (order:List SortKey) (limit:Int) (g:Expr→Bool) (h:¬order.length≤12):gP g (Query.mk distinct items from_ where_ order limit)=false:=by simp only[gP,D5,decide_eq_false h,Bool.false_and,Bool.and_false]
theorem yJ (distinct:Bool) (items:List Item) (from_:List Source) (where_:List Expr) (order:List SortKey) (limit:Int) (g:Expr→Bool) (h:¬ -1≤limit):gP g (Query.mk distinct items from_ where_ order limit)=false:=by simp only[gP,D5,decide_eq_false h,Bool.false_and,Bool.and_false]
theorem rC (distinct:Bool) (items:List Item) (from_:List Source) (where_:List Expr) (order:List SortKey) (limit:Int) (g:Expr→Bool) {x:Item} (hm:x∈items) (h:tY x=false):gP g (Query.mk distinct items from_ where_ order limit)=false:=by simp only[gP,D5,eC hm h,Bool.false_and,Bool.and_false]
theorem vS (distinct:Bool) (items:List Item) (from_:List Source) (where_:List Expr) (order:List SortKey) (limit:Int) (g:Expr→Bool) {i:Nat} (hm:i<from_.length) (h:tZ i from_[i]=false):gP g (Query.mk distinct items from_ where_ order limit)=false:=by simp only[gP,D5,BG hm h,Bool.false_and,Bool.and_false]
theorem EA (distinct:Bool) (items:List Item) (from_:List Source) (where_:List Expr) (order:List SortKey) (limit:Int) (g:Expr→Bool) (h1:1≤items.length∧items.length≤12) (h2:1≤from_.length∧from_.length≤3) (h3:where_.length≤1) (h4:order.length≤12) (h5 : -1≤limit) (h6:∀j (hj:j<items.length),tY items[j]=true) (h7:∀j (hj:j<from_.length),tZ j from_[j]=true) :
 gP g (Query.mk distinct items from_ where_ order limit)=(aw (Query.mk distinct items from_ where_ order limit)).all g:=by simp only[gP,D5,decide_eq_true h1,decide_eq_true h2,decide_eq_true h3,decide_eq_true h4,decide_eq_true h5,fH h6,D6 h7,Bool.true_and]
set_option maxHeartbeats 1000000 in
theorem ie (q:Query) (g:Expr→Bool) (h:∀x∈aw q,Cl Tryz.prog 127 [.ag (an x.row)] [] fun r _=>r=vb (g x)) (hsz:aW q≤1048576):Cl Tryz.prog 133 [.ag (an q.row)] [] fun r _=>r=vb (gP g q):=by
 obtain⟨distinct,items,from_,where_,order,limit⟩:=q
 obtain⟨zb,hzb⟩:∃zb,zb=gP g (Query.mk distinct items from_ where_ order limit):=⟨_,rfl⟩
 rw[←hzb,Query.row_mk]
 refine ab aa false Tryz.func133 rfl (by kernel_rfl) ?_
 simp only[Tryz.f133,tt,seval]
 refine fun _=>?_
 by_cases c1:(items.length:Int)<1
 case pos=>
  simp only[tt,seval,decide_eq_true c1]
  exact⟨_,_,aE (by rw[hzb];exact (u5 distinct items from_ where_ order limit g (by omega)).symm),ac rfl⟩
 simp only[tt,seval,decide_eq_false c1]
 try refine fun _=>?_
 by_cases c2:(12:Int)<items.length
 case pos=>
  simp only[tt,seval,decide_eq_true c2]
  exact⟨_,_,aE (by rw[hzb];exact (u5 distinct items from_ where_ order limit g (by omega)).symm),ac rfl⟩
 simp only[tt,seval,decide_eq_false c2]
 try refine fun _=>?_
 by_cases c3:(from_.length:Int)<1
 case pos=>
  simp only[tt,seval,decide_eq_true c3]
  exact⟨_,_,aE (by rw[hzb];exact (xl distinct items from_ where_ order limit g (by omega)).symm),ac rfl⟩
 simp only[tt,seval,decide_eq_false c3]
 try refine fun _=>?_
 by_cases c4:(3:Int)<from_.length
 case pos=>
  simp only[tt,seval,decide_eq_true c4]
  exact⟨_,_,aE (by rw[hzb];exact (xl distinct items from_ where_ order limit g (by omega)).symm),ac rfl⟩
 simp only[tt,seval,decide_eq_false c4]
 try refine fun _=>?_
 by_cases c5:(1:Int)<where_.length
 case pos=>
  simp only[tt,seval,decide_eq_true c5]
  exact⟨_,_,aE (by rw[hzb];exact (yH distinct items from_ where_ order limit g (by omega)).symm),ac rfl⟩
 simp only[tt,seval,decide_eq_false c5]
 try refine fun _=>?_
 by_cases c6:(12:Int)<order.length
 case pos=>
  simp only[tt,seval,decide_eq_true c6]
  exact⟨_,_,aE (by rw[hzb];exact (yI distinct items from_ where_ order limit g (by omega)).symm),ac rfl⟩
 simp only[tt,seval,decide_eq_false c6]
 refine And.intro (fun c7=>?_) (fun c7=>?_)
 ·exact⟨_,_,aE (by rw[hzb];exact (yJ distinct items from_ where_ order limit g (by omega)).symm),ac rfl⟩
 ·try simp only[tt,seval]
  refine fun _=>?_
  refine dLoop.intro (fun f L p=>∃i:Nat,f 49=vi i∧i≤items.length∧(∀j (hj:j<items.length),j<i→tY items[j]=true)∧L=[(1,.str [.v (.bool distinct),.sl items.length (items.flatMap Item.row) none,.sl from_.length (from_.flatMap Source.row) none,.sl where_.length (where_.flatMap Expr.row) none,.sl order.length (order.flatMap SortKey.row) none,.v (.int .i64 limit)])]∧p=none) (fun f _ _=>(items.length-bn (f 49)).toNat) [(1,.str [.v (.bool distinct),.sl items.length (items.flatMap Item.row) none,.sl from_.length (from_.flatMap Source.row) none,.sl where_.length (where_.flatMap Expr.row) none,.sl order.length (order.flatMap SortKey.row) none,.v (.int .i64 limit)])] none ⟨SubO.cons rfl (SubO.nil _),PoSub.none _,?_⟩ ?_
  ·simp only[tt,seval]
   exact⟨0,rfl,by omega,fun j _ h=>absurd h (Nat.not_lt_zero _)⟩
  ·rintro g' L p ⟨i,ix,hi,hall,rfl,rfl⟩
   simp only[tt,seval] at ix
   simp only[tt,seval,ix,Int.ofNat_lt]
   refine And.intro (fun hlt=>?_) (fun hge=>?_)
   ·have hlt:i<items.length:=by omega
    obtain⟨it,bO⟩:∃it,it=items[i]:=⟨_,rfl⟩
    refine⟨by omega,by omega,_,ax Item.row_len (List.getElem?_eq_getElem hlt),Item.ne _ _,?_⟩
    obtain⟨star,qual,⟨k,o,n,v,q,m,ks,ss⟩,as_⟩:=it
    rw[←bO,Item.row_mk,Expr.row_mk]
    simp only[tt,seval,ix]
    cases star
    case true=>
     try simp only[tt,seval,ix]
     refine cZ (xk qual) (by decide) ?_ ?_<;>simp only[tt,seval,ix]
     cases hm:fX qual
     case false=>
      simp only[tt,seval,hm]
      exact⟨_,_,aE (by rw[hzb];exact (rC distinct items from_ where_ order limit g (bO▸List.getElem_mem hlt) (by simp [tY,hm])).symm),ac rfl⟩
     simp only[tt,seval,hm]
     by_cases ha:as_=⟨#[]⟩
     case neg=>
      simp only[tt,seval,decide_eq_false ha]
      exact⟨_,_,aE (by rw[hzb];exact (rC distinct items from_ where_ order limit g (bO▸List.getElem_mem hlt) (by simp [tY,hm,ha])).symm),ac rfl⟩
     simp only[tt,seval,decide_eq_true ha]
     refine cZ (D7 (Expr.mk k o n v q m ks ss)) (by decide) ?_ ?_<;>simp only[tt,seval,ix,Expr.row_mk]
     cases hz:eW k o n v q m ks.length ss.length
     case false=>
      try simp only[tt,seval,mK,hz]
      exact⟨_,_,aE (by rw[hzb];exact (rC distinct items from_ where_ order limit g (bO▸List.getElem_mem hlt) (by simp [tY,hm,ha,mK,hz])).symm),ac rfl⟩
     try simp only[tt,seval,mK,hz,ix]
     try simp only[tt,seval,ix]
     try rw[eE i (by omega)]
     exact⟨_,none,SubO.cons rfl (SubO.nil _),PoSub.none _,⟨i+1,rfl,by omega,fun j hj hji=>by
      by_cases e:j=i
      ·subst e;rw[←bO];simp [tY,hm,ha,mK,hz]
      ·exact hall j hj (by omega),rfl,rfl⟩,by simp only[bn];omega⟩
    case false=>
     try simp only[tt,seval,ix]
     by_cases hq:qual=⟨#[]⟩
     case neg=>
      simp only[tt,seval,decide_eq_false hq]
      exact⟨_,_,aE (by rw[hzb];exact (rC distinct items from_ where_ order limit g (bO▸List.getElem_mem hlt) (by simp [tY,hq])).symm),ac rfl⟩
     simp only[tt,seval,decide_eq_true hq]
     refine cZ (xk as_) (by decide) ?_ ?_<;>simp only[tt,seval,ix]
     cases hm:fX as_
     case false=>
      simp only[tt,seval,hm]
      exact⟨_,_,aE (by rw[hzb];exact (rC distinct items from_ where_ order limit g (bO▸List.getElem_mem hlt) (by simp [tY,hm])).symm),ac rfl⟩
     simp only[tt,seval,hm,ix]
     try simp only[tt,seval,ix]
     try rw[eE i (by omega)]
     exact⟨_,none,SubO.cons rfl (SubO.nil _),PoSub.none _,⟨i+1,rfl,by omega,fun j hj hji=>by
      by_cases e:j=i
      ·subst e;rw[←bO];simp [tY,hm,hq]
      ·exact hall j hj (by omega),rfl,rfl⟩,by simp only[bn];omega⟩
   ·have hall:=fun j hj=>hall j hj (by omega)
    try simp only[tt,seval,ix]
    have hall1:=hall
    clear hall
    refine fun _=>?_
    refine dLoop.intro (fun f L p=>∃i:Nat,f 92=vi i∧i≤from_.length∧(∀j (hj:j<from_.length),j<i→tZ j from_[j]=true)∧L=[(1,.str [.v (.bool distinct),.sl items.length (items.flatMap Item.row) none,.sl from_.length (from_.flatMap Source.row) none,.sl where_.length (where_.flatMap Expr.row) none,.sl order.length (order.flatMap SortKey.row) none,.v (.int .i64 limit)])]∧p=none) (fun f _ _=>(from_.length-bn (f 92)).toNat) [(1,.str [.v (.bool distinct),.sl items.length (items.flatMap Item.row) none,.sl from_.length (from_.flatMap Source.row) none,.sl where_.length (where_.flatMap Expr.row) none,.sl order.length (order.flatMap SortKey.row) none,.v (.int .i64 limit)])] none ⟨SubO.cons rfl (SubO.nil _),PoSub.none _,?_⟩ ?_
    ·simp only[tt,seval]
     exact⟨0,rfl,by omega,fun j _ h=>absurd h (Nat.not_lt_zero _)⟩
    ·rintro g' L p ⟨i,ix,hi,hall,rfl,rfl⟩
     simp only[tt,seval] at ix
     simp only[tt,seval,ix,Int.ofNat_lt]
     refine And.intro (fun hlt=>?_) (fun hge=>?_)
     ·have hlt:i<from_.length:=by omega
      obtain⟨it,bO⟩:∃it,it=from_[i]:=⟨_,rfl⟩
      refine⟨by omega,by omega,_,ax Source.row_len (List.getElem?_eq_getElem hlt),Source.ne _ _,?_⟩
      obtain⟨table,as_,on⟩:=it
      rw[←bO,Source.row_mk]
      simp only[tt,seval,ix]
      refine cZ (gy table) (by decide) ?_ ?_<;>simp only[tt,seval,ix]
      cases hnb:decide (1≤table.size∧table.size≤20)
      case false=>
       simp only[tt,seval,hnb]
       exact⟨_,_,aE (by rw[hzb];exact (vS distinct items from_ where_ order limit g hlt (by rw[←bO];simp [tZ,aD,hnb])).symm),ac rfl⟩
      simp only[tt,seval,hnb]
      refine cZ (xk as_) (by decide) ?_ ?_<;>simp only[tt,seval,ix]
      cases hm:fX as_
      case false=>
       simp only[tt,seval,hm]
       exact⟨_,_,aE (by rw[hzb];exact (vS distinct items from_ where_ order limit g hlt (by rw[←bO];simp [tZ,aD,hnb,hm])).symm),ac rfl⟩
      simp only[tt,seval,hm]
      try refine fun _=>?_
      by_cases c8:(1:Int)<on.length
      case pos=>
       simp only[tt,seval,decide_eq_true c8]
       exact⟨_,_,aE (by rw[hzb];exact (vS distinct items from_ where_ order limit g hlt (by rw[←bO];simp only[tZ,decide_eq_false (show ¬on.length≤1 by omega),Bool.false_and,Bool.and_false])).symm),ac rfl⟩
      simp only[tt,seval,decide_eq_false c8,ix]
      by_cases c9:(i:Int)=0
      case neg=>
       simp only[tt,seval,decide_eq_false c9,c9,ix]
       try simp only[tt,seval,ix]
       try rw[eE i (by omega)]
       exact⟨_,none,SubO.cons rfl (SubO.nil _),PoSub.none _,⟨i+1,rfl,by omega,fun j hj hji=>by
        by_cases e:j=i
        ·subst e;rw[←bO];simp only[tZ,aD,hnb,hm,decide_eq_true (show on.length≤1 by omega),decide_eq_true (show ¬j=0 by omega),Bool.true_and,Bool.true_or]
        ·exact hall j hj (by omega),rfl,rfl⟩,by simp only[bn];omega⟩
      simp only[tt,seval,decide_eq_true c9,ix]
      try refine fun _=>?_
      refine And.intro (fun c10=>?_) (fun c10=>?_)
      ·exact⟨_,_,aE (by rw[hzb];exact (vS distinct items from_ where_ order limit g hlt (by rw[←bO];simp only[tZ,decide_eq_false (show ¬ ¬i=0 by omega),decide_eq_false (show ¬on.length=0 by omega),Bool.or_false,Bool.and_false])).symm),ac rfl⟩
      ·have hi0:i=0:=by omega
       try simp only[tt,seval,ix]
       try rw[eE i (by omega)]
       exact⟨_,none,SubO.cons rfl (SubO.nil _),PoSub.none _,⟨i+1,rfl,by omega,fun j hj hji=>by
        by_cases e:j=i
        ·subst e;rw[←bO];simp only[tZ,aD,hnb,hm,decide_eq_true (show on.length≤1 by omega),decide_eq_true (show on.length=0 by omega),Bool.true_and,Bool.or_true]
        ·exact hall j hj (by omega),rfl,rfl⟩,by simp only[bn];omega⟩
     ·have hall:=fun j hj=>hall j hj (by omega)
      try simp only[tt,seval,ix]
      refine cZ (qR distinct items from_ where_ order limit hsz) (by decide) ?_ ?_<;>simp only[tt,seval,Query.row_mk]
      refine cZ (dc (aw (Query.mk distinct items from_ where_ order limit)) g h) (by decide) ?_ ?_<;>simp only[tt,seval,Query.row_mk]
      exact⟨_,_,aE (by rw[hzb,EA distinct items from_ where_ order limit g ⟨by omega,by omega⟩ ⟨by omega,by omega⟩ (by omega) (by omega) (by omega) hall1 hall]),ac rfl⟩
set_option maxHeartbeats 1000000 in
theorem lM (q:Query) (g:Expr→Bool) (h:∀x∈aw q,Cl Tryz.prog 121 [.ag (an x.row)] [] fun r _=>r=vb (g x)) (hsz:aW q≤1048576):Cl Tryz.prog 128 [.ag (an q.row)] [] fun r _=>r=vb (gP g q):=by
 obtain⟨distinct,items,from_,where_,order,limit⟩:=q
 obtain⟨zb,hzb⟩:∃zb,zb=gP g (Query.mk distinct items from_ where_ order limit):=⟨_,rfl⟩
 rw[←hzb,Query.row_mk]
 refine ab aa false Tryz.func128 rfl (by kernel_rfl) ?_
 simp only[Tryz.f128,tt,seval]
 refine fun _=>?_
 refine cZ (dO items.length 1 12) (by decide) ?_ ?_<;>simp only[tt,seval,Query.row_mk]
 by_cases c1:(1:Int)≤items.length∧(items.length:Int)≤12
 case neg=>
  simp only[tt,seval,decide_eq_false c1]
  exact⟨_,_,aE (by rw[hzb];exact (u5 distinct items from_ where_ order limit g (by omega)).symm),ac rfl⟩
 simp only[tt,seval,decide_eq_true c1]
 refine fun _=>?_
 refine cZ (dO from_.length 1 3) (by decide) ?_ ?_<;>simp only[tt,seval,Query.row_mk]
 by_cases c2:(1:Int)≤from_.length∧(from_.length:Int)≤3
 case neg=>
  simp only[tt,seval,decide_eq_false c2]
  exact⟨_,_,aE (by rw[hzb];exact (xl distinct items from_ where_ order limit g (by omega)).symm),ac rfl⟩
 simp only[tt,seval,decide_eq_true c2]
 try refine fun _=>?_
 by_cases c5:(1:Int)<where_.length
 case pos=>
  simp only[tt,seval,decide_eq_true c5]
  exact⟨_,_,aE (by rw[hzb];exact (yH distinct items from_ where_ order limit g (by omega)).symm),ac rfl⟩
 simp only[tt,seval,decide_eq_false c5]
 try refine fun _=>?_
 by_cases c6:(12:Int)<order.length
 case pos=>
  simp only[tt,seval,decide_eq_true c6]
  exact⟨_,_,aE (by rw[hzb];exact (yI distinct items from_ where_ order limit g (by omega)).symm),ac rfl⟩
 simp only[tt,seval,decide_eq_false c6]
 refine And.intro (fun c7=>?_) (fun c7=>?_)
 ·exact⟨_,_,aE (by rw[hzb];exact (yJ distinct items from_ where_ order limit g (by omega)).symm),ac rfl⟩
 ·try simp only[tt,seval]
  refine dLoop.intro (fun f L p=>∃i:Nat,f 3=vi i∧i≤items.length∧(∀j (hj:j<items.length),j<i→tY items[j]=true)∧L=[(1,.str [.v (.bool distinct),.sl items.length (items.flatMap Item.row) none,.sl from_.length (from_.flatMap Source.row) none,.sl where_.length (where_.flatMap Expr.row) none,.sl order.length (order.flatMap SortKey.row) none,.v (.int .i64 limit)])]∧p=none) (fun f _ _=>(items.length-bn (f 3)).toNat) [(1,.str [.v (.bool distinct),.sl items.length (items.flatMap Item.row) none,.sl from_.length (from_.flatMap Source.row) none,.sl where_.length (where_.flatMap Expr.row) none,.sl order.length (order.flatMap SortKey.row) none,.v (.int .i64 limit)])] none ⟨SubO.cons rfl (SubO.nil _),PoSub.none _,?_⟩ ?_
  ·simp only[tt,seval]
   exact⟨0,rfl,by omega,fun j _ h=>absurd h (Nat.not_lt_zero _)⟩
  ·rintro g' L p ⟨i,ix,hi,hall,rfl,rfl⟩
   simp only[tt,seval] at ix
   simp only[tt,seval,ix,Int.ofNat_lt]
   refine fun _=>?_
   refine And.intro (fun hlt=>?_) (fun hge=>?_)
   ·have hlt:i<items.length:=by omega
    obtain⟨it,bO⟩:∃it,it=items[i]:=⟨_,rfl⟩
    refine⟨by omega,by omega,_,ax Item.row_len (List.getElem?_eq_getElem hlt),Item.ne _ _,?_⟩
    obtain⟨star,qual,⟨k,o,n,v,q,m,ks,ss⟩,as_⟩:=it
    rw[←bO,Item.row_mk,Expr.row_mk]
    simp only[tt,seval,ix]
    cases star
    case true=>
     try simp only[tt,seval,ix]
     refine cZ (mf qual) (by decide) ?_ ?_<;>simp only[tt,seval,ix]
     cases hm:fX qual
     case false=>
      simp only[tt,seval,hm]
      exact⟨_,_,aE (by rw[hzb];exact (rC distinct items from_ where_ order limit g (bO▸List.getElem_mem hlt) (by simp [tY,hm])).symm),ac rfl⟩
     simp only[tt,seval,hm]
     by_cases ha:as_=⟨#[]⟩
     case neg=>
      simp only[tt,seval,decide_eq_false ha]
      exact⟨_,_,aE (by rw[hzb];exact (rC distinct items from_ where_ order limit g (bO▸List.getElem_mem hlt) (by simp [tY,hm,ha])).symm),ac rfl⟩
     simp only[tt,seval,decide_eq_true ha]
     refine cZ (D4 k o n v q m ks ss) (by decide) ?_ ?_<;>simp only[tt,seval,ix,Expr.row_mk,Gn]
     cases hz:eW k o n v q m ks.length ss.length
     case false=>
      try simp only[tt,seval,mK,hz]
      exact⟨_,_,aE (by rw[hzb];exact (rC distinct items from_ where_ order limit g (bO▸List.getElem_mem hlt) (by simp [tY,hm,ha,mK,hz])).symm),ac rfl⟩
     try simp only[tt,seval,mK,hz,ix]
     try simp only[tt,seval,ix]
     try rw[eE i (by omega)]
     exact⟨_,none,SubO.cons rfl (SubO.nil _),PoSub.none _,⟨i+1,rfl,by omega,fun j hj hji=>by
      by_cases e:j=i
      ·subst e;rw[←bO];simp [tY,hm,ha,mK,hz]
      ·exact hall j hj (by omega),rfl,rfl⟩,by simp only[bn];omega⟩
    case false=>
     try simp only[tt,seval,ix]
     by_cases hq:qual=⟨#[]⟩
     case neg=>
      simp only[tt,seval,decide_eq_false hq]
      exact⟨_,_,aE (by rw[hzb];exact (rC distinct items from_ where_ order limit g (bO▸List.getElem_mem hlt) (by simp [tY,hq])).symm),ac rfl⟩
     simp only[tt,seval,decide_eq_true hq]
     refine cZ (mf as_) (by decide) ?_ ?_<;>simp only[tt,seval,ix]
     cases hm:fX as_
     case false=>
      simp only[tt,seval,hm]
      exact⟨_,_,aE (by rw[hzb];exact (rC distinct items from_ where_ order limit g (bO▸List.getElem_mem hlt) (by simp [tY,hm])).symm),ac rfl⟩
     simp only[tt,seval,hm,ix]
     try simp only[tt,seval,ix]
     try rw[eE i (by omega)]
     exact⟨_,none,SubO.cons rfl (SubO.nil _),PoSub.none _,⟨i+1,rfl,by omega,fun j hj hji=>by
      by_cases e:j=i
      ·subst e;rw[←bO];simp [tY,hm,hq]
      ·exact hall j hj (by omega),rfl,rfl⟩,by simp only[bn];omega⟩
   ·have hall:=fun j hj=>hall j hj (by omega)
    try simp only[tt,seval,ix]
    have hall1:=hall
    clear hall
    refine dLoop.intro (fun f L p=>∃i:Nat,f 5=vi i∧i≤from_.length∧(∀j (hj:j<from_.length),j<i→tZ j from_[j]=true)∧L=[(1,.str [.v (.bool distinct),.sl items.length (items.flatMap Item.row) none,.sl from_.length (from_.flatMap Source.row) none,.sl where_.length (where_.flatMap Expr.row) none,.sl order.length (order.flatMap SortKey.row) none,.v (.int .i64 limit)])]∧p=none) (fun f _ _=>(from_.length-bn (f 5)).toNat) [(1,.str [.v (.bool distinct),.sl items.length (items.flatMap Item.row) none,.sl from_.length (from_.flatMap Source.row) none,.sl where_.length (where_.flatMap Expr.row) none,.sl order.length (order.flatMap SortKey.row) none,.v (.int .i64 limit)])] none ⟨SubO.cons rfl (SubO.nil _),PoSub.none _,?_⟩ ?_
    ·simp only[tt,seval]
     exact⟨0,rfl,by omega,fun j _ h=>absurd h (Nat.not_lt_zero _)⟩
    ·rintro g' L p ⟨i,ix,hi,hall,rfl,rfl⟩
     simp only[tt,seval] at ix
     simp only[tt,seval,ix,Int.ofNat_lt]
     refine fun _=>?_
     refine And.intro (fun hlt=>?_) (fun hge=>?_)
     ·have hlt:i<from_.length:=by omega
      obtain⟨it,bO⟩:∃it,it=from_[i]:=⟨_,rfl⟩
      refine⟨by omega,by omega,_,ax Source.row_len (List.getElem?_eq_getElem hlt),Source.ne _ _,?_⟩
      obtain⟨table,as_,on⟩:=it
      rw[←bO,Source.row_mk]
      simp only[tt,seval,ix]
      refine cZ (jN table) (by decide) ?_ ?_<;>simp only[tt,seval,ix]
      cases hnb:decide (1≤table.size∧table.size≤20)
      case false=>
       simp only[tt,seval,hnb]
       exact⟨_,_,aE (by rw[hzb];exact (vS distinct items from_ where_ order limit g hlt (by rw[←bO];simp [tZ,aD,hnb])).symm),ac rfl⟩
      simp only[tt,seval,hnb]
      refine cZ (mf as_) (by decide) ?_ ?_<;>simp only[tt,seval,ix]
      cases hm:fX as_
      case false=>
       simp only[tt,seval,hm]
       exact⟨_,_,aE (by rw[hzb];exact (vS distinct items from_ where_ order limit g hlt (by rw[←bO];simp [tZ,aD,hnb,hm])).symm),ac rfl⟩
      simp only[tt,seval,hm]
      try refine fun _=>?_
      by_cases c8:(1:Int)<on.length
      case pos=>
       simp only[tt,seval,decide_eq_true c8]
       exact⟨_,_,aE (by rw[hzb];exact (vS distinct items from_ where_ order limit g hlt (by rw[←bO];simp only[tZ,decide_eq_false (show ¬on.length≤1 by omega),Bool.false_and,Bool.and_false])).symm),ac rfl⟩
      simp only[tt,seval,decide_eq_false c8,ix]
      by_cases c9:(i:Int)=0
      case neg=>
       simp only[tt,seval,decide_eq_false c9,c9,ix]
       try simp only[tt,seval,ix]
       try rw[eE i (by omega)]
       exact⟨_,none,SubO.cons rfl (SubO.nil _),PoSub.none _,⟨i+1,rfl,by omega,fun j hj hji=>by
        by_cases e:j=i
        ·subst e;rw[←bO];simp only[tZ,aD,hnb,hm,decide_eq_true (show on.length≤1 by omega),decide_eq_true (show ¬j=0 by omega),Bool.true_and,Bool.true_or]
        ·exact hall j hj (by omega),rfl,rfl⟩,by simp only[bn];omega⟩
      simp only[tt,seval,decide_eq_true c9,ix]
      try refine fun _=>?_
      refine And.intro (fun c10=>?_) (fun c10=>?_)
      ·exact⟨_,_,aE (by rw[hzb];exact (vS distinct items from_ where_ order limit g hlt (by rw[←bO];simp only[tZ,decide_eq_false (show ¬ ¬i=0 by omega),decide_eq_false (show ¬on.length=0 by omega),Bool.or_false,Bool.and_false])).symm),ac rfl⟩
      ·have hi0:i=0:=by omega
       try simp only[tt,seval,ix]
       try rw[eE i (by omega)]
       exact⟨_,none,SubO.cons rfl (SubO.nil _),PoSub.none _,⟨i+1,rfl,by omega,fun j hj hji=>by
        by_cases e:j=i
        ·subst e;rw[←bO];simp only[tZ,aD,hnb,hm,decide_eq_true (show on.length≤1 by omega),decide_eq_true (show on.length=0 by omega),Bool.true_and,Bool.or_true]
        ·exact hall j hj (by omega),rfl,rfl⟩,by simp only[bn];omega⟩
     ·have hall:=fun j hj=>hall j hj (by omega)
      try simp only[tt,seval,ix]
      have hq:=EA distinct items from_ where_ order limit g ⟨by omega,by omega⟩ ⟨by omega,by omega⟩ (by omega) (by omega) (by omega) hall1 hall
      have hql:=dh (Query.mk distinct items from_ where_ order limit)
      refine cZ (me distinct items from_ where_ order limit hsz) (by decide) ?_ ?_<;>simp only[tt,seval,Query.row_mk]
      rw[hq] at hzb
      generalize aw (Query.mk distinct items from_ where_ order limit)=l at *
      refine dLoop.intro (fun f L p=>∃i:Nat,f 8=vi i∧i≤l.length∧(∀j (hj:j<l.length),j<i→g l[j]=true)∧L=[(1,.str [.v (.bool distinct),.sl items.length (items.flatMap Item.row) none,.sl from_.length (from_.flatMap Source.row) none,.sl where_.length (where_.flatMap Expr.row) none,.sl order.length (order.flatMap SortKey.row) none,.v (.int .i64 limit)])]∧p=none) (fun f _ _=>(l.length-bn (f 8)).toNat) [(1,.str [.v (.bool distinct),.sl items.length (items.flatMap Item.row) none,.sl from_.length (from_.flatMap Source.row) none,.sl where_.length (where_.flatMap Expr.row) none,.sl order.length (order.flatMap SortKey.row) none,.v (.int .i64 limit)])] none ⟨SubO.cons rfl (SubO.nil _),PoSub.none _,?_⟩ ?_
      ·simp only[tt,seval]
       exact⟨0,rfl,by omega,fun j _ h=>absurd h (Nat.not_lt_zero _)⟩
      ·rintro g' L p ⟨i,ix,hi,hal,rfl,rfl⟩
       simp only[tt,seval] at ix
       simp only[tt,seval,ix,Int.ofNat_lt]
       refine fun _=>And.intro (fun hlt=>?_) (fun hge=>?_)
       ·have hlt:i<l.length:=by omega
        refine⟨by omega,by omega,_,ax Expr.row_len (List.getElem?_eq_getElem hlt),Expr.ne _ _,?_⟩
        simp only[tt,seval,ix,Expr.tk,Expr.row_len]
        refine cZ (h l[i] (List.getElem_mem hlt)) (by decide) ?_ ?_<;>simp only[tt,seval,ix]
        refine And.intro (fun hb=>?_) (fun hb=>?_)
        ·have hb:g l[i]=false:=by simpa only[Bool.not_eq_true'] using hb
         exact⟨_,_,aE (by rw[hzb];exact (eC (List.getElem_mem hlt) hb).symm),ac rfl⟩
        ·have hb:g l[i]=true:=by simpa only[Bool.not_eq_false'] using hb
         try simp only[tt,seval,ix]
         try rw[eE i (by omega)]
         exact⟨_,none,SubO.cons rfl (SubO.nil _),PoSub.none _,⟨i+1,rfl,by omega,fun j hj hji=>by
          by_cases e:j=i
          ·subst e;exact hb
          ·exact hal j hj (by omega),rfl,rfl⟩,by simp only[bn];omega⟩
       ·exact⟨_,_,aE (by rw[hzb];exact (fH fun j hj=>hal j hj (by omega)).symm),ac rfl⟩
theorem zQ {n:Nat} {l:List D} (h:l.length=n):eA n l=some l:=by
 have:=eS (r:=[]) h
 rwa[List.append_nil] at this
theorem BJ {kind op:Int} {not:Bool} {val:Val} {qual name:ByteArray} {nk ns:Int} (h:aO kind op not val qual name nk ns=true):ns≤1:=by
 simp only[aO,Bool.and_eq_true,decide_eq_true_eq] at h
 have h:=h.2.2.2.2.2.2
 rw[h];unfold bh;(repeat' split)<;>decide
theorem u7 (kind op:Int) (not:Bool) (val:Val) (qual name:ByteArray) (kids:List Expr) (sub:List Query) (g:Expr→Bool) (hg:∀x,jl x (Expr.mk kind op not val qual name kids sub)→Cl Tryz.prog 121 [.ag (an x.row)] [] fun r _=>r=vb (g x)) (hsz:av (Expr.mk kind op not val qual name kids sub)≤1048576):Cl Tryz.prog 121 [.ag (an (Expr.mk kind op not val qual name kids sub).row)] [] fun r _=>r=vb (E5 g (Expr.mk kind op not val qual name kids sub)):=by
 have hks:=hsz
 rw[et,aC,d8] at hks
 obtain⟨zb,hzb⟩:∃zb,zb=E5 g (Expr.mk kind op not val qual name kids sub):=⟨_,rfl⟩
 rw[←hzb]
 have e:E5 g (Expr.mk kind op not val qual name kids sub)=(aO kind op not val qual name kids.length sub.length&&(kids.all g&&sub.all (gP g))):=rfl
 rw[e] at hzb
 rw[Expr.row_mk]
 refine ab aa false Tryz.func121 rfl (by kernel_rfl) ?_
 simp only[Tryz.f121,tt,seval]
 refine cZ (zP kind op not val qual name kids sub (by omega) (by omega)) (by decide) ?_ ?_<;>simp only[tt,seval,Expr.row_mk]
 cases hb:aO kind op not val qual name kids.length sub.length
 case false=>
  simp only[tt,seval,hb]
  exact⟨_,_,aE (by rw[hzb,hb];rfl),ac rfl⟩
 have hns:=BJ hb
 rw[hb,Bool.true_and] at hzb
 simp only[tt,seval,hb]
 refine dLoop.intro (fun f L p=>∃i:Nat,f 3=vi i∧i≤kids.length∧(∀j (hj:j<kids.length),j<i→g kids[j]=true)∧L=[(1,.str [.v (.int .i64 kind),.v (.int .i64 op),.v (.bool not),.v (.int .i64 val.kind),.v (.int .i64 val.num),.v (.string val.text),.v (.string qual),.v (.string name),.sl kids.length (kids.flatMap Expr.row) none,.sl sub.length (sub.flatMap Query.row) none])]∧p=none) (fun f _ _=>(kids.length-bn (f 3)).toNat) [(1,.str [.v (.int .i64 kind),.v (.int .i64 op),.v (.bool not),.v (.int .i64 val.kind),.v (.int .i64 val.num),.v (.string val.text),.v (.string qual),.v (.string name),.sl kids.length (kids.flatMap Expr.row) none,.sl sub.length (sub.flatMap Query.row) none])] none ⟨SubO.cons rfl (SubO.nil _),PoSub.none _,?_⟩ ?_
 ·simp only[tt,seval]
  exact⟨0,rfl,by omega,fun j _ h=>absurd h (Nat.not_lt_zero _)⟩
 ·rintro g' L p ⟨i,ix,hi,hal,rfl,rfl⟩
  simp only[tt,seval] at ix
  simp only[tt,seval,ix,Int.ofNat_lt]
  refine fun _=>And.intro (fun hlt=>?_) (fun hge=>?_)
  ·have hlt:i<kids.length:=by omega
   refine⟨by omega,by omega,_,ax Expr.row_len (List.getElem?_eq_getElem hlt),Expr.ne _ _,?_⟩
   simp only[tt,seval,ix,Expr.tk,Expr.row_len]
   refine cZ (hg kids[i] (.inl (List.getElem_mem hlt))) (by decide) ?_ ?_<;>simp only[tt,seval,ix]
   refine And.intro (fun hb=>?_) (fun hb=>?_)
   ·have hb:g kids[i]=false:=by simpa only[Bool.not_eq_true'] using hb
    exact⟨_,_,aE (by rw[hzb,eC (List.getElem_mem hlt) hb];rfl),ac rfl⟩
   ·have hb:g kids[i]=true:=by simpa only[Bool.not_eq_false'] using hb
    try simp only[tt,seval,ix]
    try rw[eE i (by omega)]
    exact⟨_,none,SubO.cons rfl (SubO.nil _),PoSub.none _,⟨i+1,rfl,by omega,fun j hj hji=>by
     by_cases e:j=i
     ·subst e;exact hb
     ·exact hal j hj (by omega),rfl,rfl⟩,by simp only[bn];omega⟩
  ·rw[fH fun j hj=>hal j hj (by omega),Bool.true_and] at hzb
   try simp only[tt,seval]
   refine fun _=>?_
   rcases sub with _|⟨q,_|⟨q2,rest⟩⟩
   ·simp only[tt,seval,List.length_nil]
    exact⟨_,_,aE (by rw[hzb];rfl),ac rfl⟩
   ·simp only[tt,seval,List.length_cons,List.length_nil]
    refine⟨q.row++[],by simp,Query.ne _ _,?_⟩
    simp only[tt,seval,zQ (Query.row_len q),Query.row_len]
    refine cZ (lM q g (fun x hx=>hg x (.inr ⟨q,by show q∈[q];simp,hx⟩)) (Nat.le_trans (mS (e:=(Expr.mk kind op not val qual name kids [q])) (by show q∈[q];simp)) hsz)) (by decide) ?_ ?_<;>simp only[tt,seval]
    exact⟨_,_,aE (by rw[hzb];simp),ac rfl⟩
   ·simp only[List.length_cons] at hns;omega
theorem sJ (e:Expr):av e≤1048576→Cl Tryz.prog 121 [.ag (an e.row)] [] fun r _=>r=vb (fmE e):=by
 refine gC (P:=fun e b=>av e≤1048576→Cl Tryz.prog 121 [.ag (an e.row)] [] fun r _=>r=vb b) (fun e g hg hsz=>?_) e
 obtain⟨kind,op,not,val,qual,name,kids,sub⟩:=e
 exact u7 kind op not val qual name kids sub g (fun x hx=>hg x hx (Nat.le_trans (iR hx) hsz)) hsz
theorem kK (e:Expr):av e≤1048576→Cl Tryz.prog 127 [.ag (an e.row)] [] fun r _=>r=vb (fmE e):=by
 refine gC (P:=fun e b=>av e≤1048576→Cl Tryz.prog 127 [.ag (an e.row)] [] fun r _=>r=vb b) (fun e g hg hsz=>?_) e
 obtain⟨kind,op,not,val,qual,name,kids,sub⟩:=e
 have hks:=hsz
 rw[et,aC,d8] at hks
 have hg:=fun x hx=>hg x hx (Nat.le_trans (iR hx) hsz)
 exact rB kind op not val qual name kids sub g (fun x hx=>hg x (.inl hx)) (fun q hq=>ie q g (fun x hx=>hg x (.inr ⟨q,hq,hx⟩)) (Nat.le_trans (mS (e:=(Expr.mk kind op not val qual name kids sub)) hq) hsz)) (by omega) (by omega)
noncomputable def okE (e:Expr):Bool:=decide (nh e≤24)&&(decide (jI e≤200)&&fmE e)
theorem p5 (d n:Nat):Cl Tryz.prog 124 [vi d,vi n] [] fun r _=>r=vb (decide (d≤24)&&decide (n≤200)):=by
 refine ab aa false Tryz.func124 rfl (by kernel_rfl) ?_
 simp only[Tryz.f124,tt,seval]
 by_cases h1:(d:Int)≤24
 ·simp only[tt,seval,decide_eq_true h1]
  exact⟨_,_,aE (by rw[decide_eq_true (show d≤24 by omega),Bool.true_and];exact decide_eq_decide.2 (by omega)),ac rfl⟩
 ·simp only[tt,seval,decide_eq_false h1]
  exact⟨_,_,aE (by rw[decide_eq_false (show ¬d≤24 by omega)];rfl),ac rfl⟩
theorem zR (e:Expr) (hsz:av e≤1048576):Cl Tryz.prog 77 [.ag (an e.row)] [] fun r _=>r=vb (okE e):=by
 obtain⟨zb,hzb⟩:∃zb,zb=okE e:=⟨_,rfl⟩
 rw[←hzb]
 rw[okE] at hzb
 have c1:=(ni e).1 hsz
 have c2:=(gp e).1 hsz
 have c3:=kK e hsz
 obtain⟨kind,op,not,val,qual,name,kids,sub⟩:=e
 generalize nh (Expr.mk kind op not val qual name kids sub)=d at *
 generalize jI (Expr.mk kind op not val qual name kids sub)=n at *
 generalize fmE (Expr.mk kind op not val qual name kids sub)=b at *
 rw[Expr.row_mk] at c1 c2 c3 ⊢
 refine ab aa false Tryz.func77 rfl (by kernel_rfl) ?_
 simp only[Tryz.f77,tt,seval]
 refine dDrawn.intro [] (gG [0,4,3,7,9,10,12,15,16,18]) (by kernel_rfl) ?_
 simp only[tt,seval]
 refine cZ (c1) (by decide) ?_ ?_<;>simp only[tt,seval]
 refine cZ (c2) (by decide) ?_ ?_<;>simp only[tt,seval]
 refine cZ (p5 d n) (by decide) ?_ ?_<;>simp only[tt,seval]
 cases hb:(decide (d≤24)&&decide (n≤200))
 ·simp only[tt,seval,hb]
  exact⟨_,_,aE (by rw[hzb,←Bool.and_assoc,hb];rfl),ac rfl⟩
 ·simp only[tt,seval,hb]
  refine cZ (c3) (by decide) ?_ ?_<;>simp only[tt,seval]
  exact⟨_,_,aE (by rw[hzb,←Bool.and_assoc,hb];rfl),ac rfl⟩
theorem vT (e:Expr) (hsz:av e≤1048576):Cl Tryz.prog 74 [.ag (an e.row)] [] fun r _=>r=vb (okE e):=by
 obtain⟨zb,hzb⟩:∃zb,zb=okE e:=⟨_,rfl⟩
 rw[←hzb]
 rw[okE] at hzb
 have c1:=(oZ e).1 hsz
 have c2:=BD e hsz 200 (by omega) (by omega)
 have c3:=sJ e hsz
 obtain⟨kind,op,not,val,qual,name,kids,sub⟩:=e
 generalize nh (Expr.mk kind op not val qual name kids sub)=d at *
 generalize jI (Expr.mk kind op not val qual name kids sub)=n at *
 generalize fmE (Expr.mk kind op not val qual name kids sub)=b at *
 rw[Expr.row_mk] at c1 c2 c3 ⊢
 refine ab aa false Tryz.func74 rfl (by kernel_rfl) ?_
 simp only[Tryz.f74,tt,seval]
 refine cZ (c2) (by decide) ?_ ?_<;>simp only[tt,seval]
 by_cases h2:n≤200
 case neg=>
  have h0:cL 200 n<0:=by unfold cL;split<;>omega
  simp only[tt,seval,decide_eq_false (show ¬(0:Int)≤cL 200 n by omega)]
  exact⟨_,_,aE (by rw[hzb,decide_eq_false h2,Bool.false_and,Bool.and_false]),ac rfl⟩
 have h0:0≤cL 200 n:=by unfold cL;split<;>omega
 simp only[tt,seval,decide_eq_true h0]
 refine cZ (c3) (by decide) ?_ ?_<;>simp only[tt,seval]
 cases b
 case false=>
  simp only[tt,seval]
  exact⟨_,_,aE (by rw[hzb,Bool.and_false,Bool.and_false]),ac rfl⟩
 simp only[tt,seval]
 refine cZ (c1) (by decide) ?_ ?_<;>simp only[tt,seval]
 exact⟨_,_,aE (by rw[hzb,decide_eq_true h2,Bool.and_true,Bool.and_true];exact decide_eq_decide.2 (by omega)),ac rfl⟩
def gT (s:ByteArray):Tok:=⟨5,s,0⟩
def iT (n:Int):Tok:=⟨3,iJ n,0⟩
def rD (op:Int):Tok:=⟨if op=1∨op=2∨op=15 then 1 else 5,tq op,0⟩
theorem BK (l:List Tok) (t:Tok):l.length+1=(l++[t]).length:=by simp
theorem EB (l:List Tok) (t u:Tok):l.length+2=(l++[t,u]).length:=by simp
theorem ET {a b:Tok} (h:a=b):(S.ag (an a.row):S) = .ag (an b.row):=by rw[h]
theorem zS (s:ByteArray):Cl Tryz.prog 221 [vs s] [] fun r _=>r = .ag (an (gT s).row):=by
 refine ab aa false Tryz.func221 rfl (by kernel_rfl) ?_
 simp only[Tryz.f221,tt,seval]
 exact⟨_,_,rfl,ac rfl⟩
theorem D8 (op:Int):Cl Tryz.prog 157 [vi op] [] fun r _=>r = .ag (an (rD op).row):=by
 refine ab aa false Tryz.func157 rfl (by kernel_rfl) ?_
 simp only[Tryz.f157,tt,seval]
 by_cases h1:op=1
 ·simp only[tt,seval,decide_eq_true h1]
  refine cZ (nw op) (by decide) ?_ ?_<;>simp only[tt,seval]
  exact⟨_,_,ET (by rw[rD,if_pos (.inl h1)]),ac rfl⟩
 simp only[tt,seval,decide_eq_false h1]
 by_cases h2:op=2
 ·simp only[tt,seval,decide_eq_true h2]
  refine cZ (nw op) (by decide) ?_ ?_<;>simp only[tt,seval]
  exact⟨_,_,ET (by rw[rD,if_pos (.inr (.inl h2))]),ac rfl⟩
 simp only[tt,seval,decide_eq_false h2]
 refine And.intro (fun h3=>?_) (fun h3=>?_)
 ·skip
  refine cZ (nw op) (by decide) ?_ ?_<;>simp only[tt,seval]
  exact⟨_,_,ET (by rw[rD,if_pos (.inr (.inr h3))]),ac rfl⟩
 try simp only[tt,seval]
 refine cZ (nw op) (by decide) ?_ ?_<;>simp only[tt,seval]
 refine cZ (zS (tq op)) (by decide) ?_ ?_<;>simp only[tt,seval,gT,Tok.row]
 exact⟨_,_,ET (by rw[rD,if_neg (fun h=>h.elim h1 fun h=>h.elim h2 h3)]),ac rfl⟩
def Stmt.query:Stmt→Query | .mk _ q _ _ _ _ _=>q
def bA:Stmt→List Expr | .mk _ q _ rows _ sets w=>aw q++rows.flatMap ERow.l++sets++w
theorem sK {α β:Type} (f:α→List β) {l:List α} {i:Nat} (h:i<l.length):(l.take (i+1)).flatMap f=(l.take i).flatMap f++f l[i]:=by
 rw[List.take_succ_eq_append_getElem h,List.flatMap_append];simp
theorem mL {α β:Type} (f:α→List β) (l:List α) (i:Nat):((l.take i).flatMap f).length≤(l.flatMap f).length:=by
 conv=>rhs;rw[←List.take_append_drop i l]
 rw[List.flatMap_append,List.length_append];omega
theorem oo (l:List ERow):(l.flatMap ERow.l).length+l.length≤lU l:=by
 rw[gz]
 induction l with
 |nil=>simp
 |cons x r ih=>
  rw[List.flatMap_cons,List.length_append,List.length_cons,List.map_cons,List.sum_cons,jP,aC]
  omega
theorem zT (distinct:Bool) (items:List Item) (from_:List Source) (where_:List Expr) (order:List SortKey) (limit:Int) (hsz:aW (Query.mk distinct items from_ where_ order limit)≤1048576):Cl Tryz.prog 182 [.ag (an (Query.mk distinct items from_ where_ order limit).row)] [] fun r _=>r = .c (.ow 29 (aw (Query.mk distinct items from_ where_ order limit)).length ((aw (Query.mk distinct items from_ where_ order limit)).flatMap Expr.row) none):=by
 have hlen:=dh (Query.mk distinct items from_ where_ order limit)
 have q0:aw (Query.mk distinct items from_ where_ order limit)=bb items++from_.flatMap Source.on++where_++order.map SortKey.e:=rfl
 rw[q0] at hlen ⊢
 simp only[List.length_append,List.length_map] at hlen
 have htot:=Nat.le_trans hlen hsz
 have hil:=d4 items
 rw[f5,f4,eJ,aC,dx] at hsz
 rw[Query.row_mk]
 refine ab aa false Tryz.func182 rfl (by kernel_rfl) ?_
 simp only[Tryz.f182,tt,seval]
 refine dLoop.gh [.ren 7 30] ⟨by decide,by decide,?_⟩
 refine dLoop0.intro (fun f L p=>∃(i:Nat) (es:List Expr),f 4=vi i∧f 3 = .c (.s 30 es.length)∧i≤items.length∧es=bb (items.take i)∧L=[(1,.str [.v (.bool distinct),.sl items.length (items.flatMap Item.row) none,.sl from_.length (from_.flatMap Source.row) none,.sl where_.length (where_.flatMap Expr.row) none,.sl order.length (order.flatMap SortKey.row) none,.v (.int .i64 limit)]),(30,.arr 29 es.length (es.flatMap Expr.row) none)]∧p=none) (fun f _ _=>(items.length-bn (f 4)).toNat) [(1,.str [.v (.bool distinct),.sl items.length (items.flatMap Item.row) none,.sl from_.length (from_.flatMap Source.row) none,.sl where_.length (where_.flatMap Expr.row) none,.sl order.length (order.flatMap SortKey.row) none,.v (.int .i64 limit)]),(30,.arr 29 0 [] none)] none ⟨SubO.cons rfl (SubO.cons rfl (SubO.nil _)),PoSub.none _,?_⟩ ?_
 ·simp only[tt,seval]
  exact⟨0,[],rfl,rfl,by omega,rfl,rfl⟩
 ·rintro g L p ⟨i,es,hi4,h3,hi,hes,rfl,rfl⟩
  simp only[tt,seval] at hi4 h3
  simp only[tt,seval,hi4,h3,Int.ofNat_lt]
  refine fun _=>?_
  refine And.intro (fun hlt=>?_) (fun hge=>?_)
  ·have hlt:i<items.length:=by omega
   have hst:=jj hlt
   have hel:es.length≤items.length:=by rw[hes];exact Nat.le_trans (d4 _) (by rw[List.length_take];omega)
   have hei:es.length≤i:=by rw[hes];exact Nat.le_trans (d4 _) (by rw[List.length_take];omega)
   obtain⟨it,bO⟩:∃it,it=items[i]:=⟨_,rfl⟩
   rw[←bO] at hst
   refine⟨by omega,by omega,_,ax Item.row_len (List.getElem?_eq_getElem hlt),Item.ne _ _,?_⟩
   obtain⟨star,qual,⟨k,o,n,v,q,m,ks,ss⟩,as_⟩:=it
   rw[←bO,Item.row_mk,Expr.row_mk]
   simp only[tt,seval,hi4,h3,Int.ofNat_lt]
   refine And.intro (fun hs=>?_) (fun hs=>?_)
   ·have hs:star=false:=by simpa only[Bool.not_eq_true'] using hs
    refine⟨by omega,by omega,_,ax Item.row_len (List.getElem?_eq_getElem hlt),Item.ne _ _,?_⟩
    rw[←bO,Item.row_mk,Expr.row_mk]
    simp only[tt,seval,hi4,h3,Int.ofNat_lt]
    refine⟨by kernel_rfl,⟨by simp only[maxLen];omega,by omega⟩,?_⟩
    have e:es.flatMap Expr.row++[int k,int o,bool n,int v.kind,int v.num,str v.text,str q,str m,.sl ks.length (ks.flatMap Expr.row),.sl ss.length (ss.flatMap Query.row)]=(es++[Expr.mk k o n v q m ks ss]).flatMap Expr.row:=by rw[List.flatMap_append];simp [Expr.row_mk]
    have e2:es.length+1=(es++[Expr.mk k o n v q m ks ss]).length:=by simp
    rw[e,e2]
    try rw[eE i (by omega)]
    exact⟨_,none,SubO.cons rfl (SubO.cons rfl (SubO.nil _)),PoSub.none _,⟨i+1,_,rfl,rfl,by omega,by rw[hst,hes];subst hs;rfl,rfl,rfl⟩,by simp only[bn];omega⟩
   ·have hs:star=true:=by simpa only[Bool.not_eq_false'] using hs
    try rw[eE i (by omega)]
    exact⟨_,none,SubO.cons rfl (SubO.cons rfl (SubO.nil _)),PoSub.none _,⟨i+1,es,rfl,rfl,by omega,by rw[hst,hes];subst hs;simp [Item.star],rfl,rfl⟩,by simp only[bn];omega⟩
  ·have hie:i=items.length:=by omega
   subst hie
   rw[List.take_length] at hes
   subst hes
   try simp only[tt,seval,hi4,h3]
   refine dLoop.gh [.ren 30 45] ⟨by decide,by decide,?_⟩
   refine dLoop0.intro (fun f L p=>∃(i:Nat) (es:List Expr),f 5=vi i∧f 3 = .c (.s 45 es.length)∧i≤from_.length∧es=bb items++(from_.take i).flatMap Source.on∧L=[(1,.str [.v (.bool distinct),.sl items.length (items.flatMap Item.row) none,.sl from_.length (from_.flatMap Source.row) none,.sl where_.length (where_.flatMap Expr.row) none,.sl order.length (order.flatMap SortKey.row) none,.v (.int .i64 limit)]),(45,.arr 29 es.length (es.flatMap Expr.row) none)]∧p=none) (fun f _ _=>(from_.length-bn (f 5)).toNat) [(1,.str [.v (.bool distinct),.sl items.length (items.flatMap Item.row) none,.sl from_.length (from_.flatMap Source.row) none,.sl where_.length (where_.flatMap Expr.row) none,.sl order.length (order.flatMap SortKey.row) none,.v (.int .i64 limit)]),(45,.arr 29 (bb items).length ((bb items).flatMap Expr.row) none)] none ⟨SubO.cons rfl (SubO.cons rfl (SubO.nil _)),PoSub.none _,?_⟩ ?_
   ·simp only[tt,seval,h3]
    exact⟨0,bb items,rfl,rfl,by omega,by simp,rfl⟩
   ·rintro g L p ⟨i,es,hi5,h3,hi,hes,rfl,rfl⟩
    simp only[tt,seval] at hi5 h3
    simp only[tt,seval,hi5,h3,Int.ofNat_lt]
    refine fun _=>?_
    refine And.intro (fun hlt=>?_) (fun hge=>?_)
    ·have hlt:i<from_.length:=by omega
     have hst:=pL hlt
     have hel:es.length≤(bb items).length+(from_.flatMap Source.on).length:=by have:=jk from_ i;rw[hes,List.length_append];omega
     obtain⟨it,bO⟩:∃it,it=from_[i]:=⟨_,rfl⟩
     rw[←bO] at hst
     have hon:it.on.length≤1048576:=by
      have h1:=dD dm (List.getElem_mem hlt)
      rw[←bO] at h1
      obtain⟨table,as_,on⟩:=it
      rw[eG,aC] at h1
      show on.length≤_
      omega
     refine⟨by omega,by omega,_,ax Source.row_len (List.getElem?_eq_getElem hlt),Source.ne _ _,?_⟩
     obtain⟨table,as_,on⟩:=it
     have hon:on.length≤1048576:=hon
     rw[←bO,Source.row_mk]
     simp only[tt,seval,hi5,h3,Int.ofNat_lt]
     refine⟨by kernel_rfl,by rw[aT Expr.row_len],⟨by simp only[maxLen];omega,by omega⟩,?_⟩
     have e2:es.length+on.length=(es++on).length:=by simp
     rw[←List.flatMap_append,e2]
     try rw[eE i (by omega)]
     exact⟨_,none,SubO.cons rfl (SubO.cons rfl (SubO.nil _)),PoSub.none _,⟨i+1,_,rfl,rfl,by omega,by rw[hst,hes,List.append_assoc];rfl,rfl,rfl⟩,by simp only[bn];omega⟩
    ·have hie:i=from_.length:=by omega
     subst hie
     rw[List.take_length] at hes
     try simp only[tt,seval,hi5,h3]
     have hel:es.length=(bb items).length+(from_.flatMap Source.on).length:=by rw[hes,List.length_append]
     refine⟨by kernel_rfl,by rw[aT Expr.row_len],⟨by simp only[maxLen];omega,by omega⟩,?_⟩
     have e2:es.length+where_.length=(es++where_).length:=by simp
     rw[←List.flatMap_append,e2]
     obtain⟨fs,hfs⟩:∃fs,fs=es++where_:=⟨_,rfl⟩
     have hfl:fs.length=(bb items).length+(from_.flatMap Source.on).length+where_.length:=by rw[hfs,List.length_append,hel]
     have hfs':fs=bb items++from_.flatMap Source.on++where_:=by rw[hfs,hes]
     rw[←hfs]
     try simp only[tt,seval]
     refine dLoop.gh [.ren 49 65] ⟨by decide,by decide,?_⟩
     refine dLoop0.intro (fun f L p=>∃(i:Nat) (es:List Expr),f 6=vi i∧f 3 = .c (.s 65 es.length)∧i≤order.length∧es=fs++(order.take i).map SortKey.e∧L=[(1,.str [.v (.bool distinct),.sl items.length (items.flatMap Item.row) none,.sl from_.length (from_.flatMap Source.row) none,.sl where_.length (where_.flatMap Expr.row) none,.sl order.length (order.flatMap SortKey.row) none,.v (.int .i64 limit)]),(65,.arr 29 es.length (es.flatMap Expr.row) none)]∧p=none) (fun f _ _=>(order.length-bn (f 6)).toNat) [(1,.str [.v (.bool distinct),.sl items.length (items.flatMap Item.row) none,.sl from_.length (from_.flatMap Source.row) none,.sl where_.length (where_.flatMap Expr.row) none,.sl order.length (order.flatMap SortKey.row) none,.v (.int .i64 limit)]),(65,.arr 29 fs.length (fs.flatMap Expr.row) none)] none ⟨SubO.cons rfl (SubO.cons rfl (SubO.nil _)),PoSub.none _,?_⟩ ?_
     ·simp only[tt,seval,h3]
      exact⟨0,fs,rfl,rfl,by omega,by simp,rfl⟩
     ·rintro g L p ⟨i,es,hi6,h3,hi,hes,rfl,rfl⟩
      simp only[tt,seval] at hi6 h3
      simp only[tt,seval,hi6,h3,Int.ofNat_lt]
      refine fun _=>?_
      refine And.intro (fun hlt=>?_) (fun hge=>?_)
      ·have hlt:i<order.length:=by omega
       have hst:=nD hlt
       have hel:es.length=fs.length+i:=by rw[hes,List.length_append,List.length_map,List.length_take];omega
       obtain⟨it,bO⟩:∃it,it=order[i]:=⟨_,rfl⟩
       rw[←bO] at hst
       refine⟨by omega,by omega,_,ax SortKey.row_len (List.getElem?_eq_getElem hlt),SortKey.ne _ _,?_⟩
       obtain⟨⟨k,o,n,v,q,m,ks,ss⟩,desc⟩:=it
       rw[←bO,SortKey.row_mk,Expr.row_mk]
       simp only[tt,seval,hi6,h3,Int.ofNat_lt]
       refine⟨by kernel_rfl,⟨by simp only[maxLen];omega,by omega⟩,?_⟩
       have e:es.flatMap Expr.row++[int k,int o,bool n,int v.kind,int v.num,str v.text,str q,str m,.sl ks.length (ks.flatMap Expr.row),.sl ss.length (ss.flatMap Query.row)]=(es++[Expr.mk k o n v q m ks ss]).flatMap Expr.row:=by rw[List.flatMap_append];simp [Expr.row_mk]
       have e2:es.length+1=(es++[Expr.mk k o n v q m ks ss]).length:=by simp
       rw[e,e2]
       try rw[eE i (by omega)]
       exact⟨_,none,SubO.cons rfl (SubO.cons rfl (SubO.nil _)),PoSub.none _,⟨i+1,_,rfl,rfl,by omega,by rw[hst,hes,List.append_assoc];rfl,rfl,rfl⟩,by simp only[bn];omega⟩
      ·have hie:i=order.length:=by omega
       subst hie
       rw[List.take_length] at hes
       try simp only[tt,seval,hi6,h3]
       refine⟨_,[],rfl,aj ?_⟩
       simp only[tt,seval]
       rw[hes,hfs']
       exact⟨rfl,rfl,rfl⟩
theorem BL (distinct:Bool) (items:List Item) (from_:List Source) (where_:List Expr) (order:List SortKey) (limit:Int) (hsz:aW (Query.mk distinct items from_ where_ order limit)≤1048576):Cl Tryz.prog 197 [.ag (an (Query.mk distinct items from_ where_ order limit).row)] [] fun r _=>r = .c (.ow 29 (aw (Query.mk distinct items from_ where_ order limit)).length ((aw (Query.mk distinct items from_ where_ order limit)).flatMap Expr.row) none):=by
 have hlen:=dh (Query.mk distinct items from_ where_ order limit)
 have q0:aw (Query.mk distinct items from_ where_ order limit)=bb items++from_.flatMap Source.on++where_++order.map SortKey.e:=rfl
 rw[q0] at hlen ⊢
 simp only[List.length_append,List.length_map] at hlen
 have htot:=Nat.le_trans hlen hsz
 have hil:=d4 items
 rw[f5,f4,eJ,aC,dx] at hsz
 rw[Query.row_mk]
 refine ab aa false Tryz.func197 rfl (by kernel_rfl) ?_
 simp only[Tryz.f197,tt,seval]
 refine fun _=>?_
 refine dLoop.gh [.ren 10 25] ⟨by decide,by decide,?_⟩
 refine dLoop0.intro (fun f L p=>∃(i:Nat) (es:List Expr),f 14=vi i∧f 3 = .c (.s 25 es.length)∧i≤items.length∧es=bb (items.take i)∧L=[(1,.str [.v (.bool distinct),.sl items.length (items.flatMap Item.row) none,.sl from_.length (from_.flatMap Source.row) none,.sl where_.length (where_.flatMap Expr.row) none,.sl order.length (order.flatMap SortKey.row) none,.v (.int .i64 limit)]),(25,.arr 29 es.length (es.flatMap Expr.row) none)]∧p=none) (fun f _ _=>(items.length-bn (f 14)).toNat) [(1,.str [.v (.bool distinct),.sl items.length (items.flatMap Item.row) none,.sl from_.length (from_.flatMap Source.row) none,.sl where_.length (where_.flatMap Expr.row) none,.sl order.length (order.flatMap SortKey.row) none,.v (.int .i64 limit)]),(25,.arr 29 0 [] none)] none ⟨SubO.cons rfl (SubO.cons rfl (SubO.nil _)),PoSub.none _,?_⟩ ?_
 ·simp only[tt,seval]
  exact⟨0,[],rfl,rfl,by omega,rfl,rfl⟩
 ·rintro g L p ⟨i,es,hi4,h3,hi,hes,rfl,rfl⟩
  simp only[tt,seval] at hi4 h3
  simp only[tt,seval,hi4,h3,Int.ofNat_lt]
  refine And.intro (fun hlt=>?_) (fun hge=>?_)
  ·have hlt:i<items.length:=by omega
   have hst:=jj hlt
   have hel:es.length≤items.length:=by rw[hes];exact Nat.le_trans (d4 _) (by rw[List.length_take];omega)
   have hei:es.length≤i:=by rw[hes];exact Nat.le_trans (d4 _) (by rw[List.length_take];omega)
   obtain⟨it,bO⟩:∃it,it=items[i]:=⟨_,rfl⟩
   rw[←bO] at hst
   refine⟨by omega,by omega,_,ax Item.row_len (List.getElem?_eq_getElem hlt),Item.ne _ _,?_⟩
   obtain⟨star,qual,⟨k,o,n,v,q,m,ks,ss⟩,as_⟩:=it
   rw[←bO,Item.row_mk,Expr.row_mk]
   simp only[tt,seval,hi4,h3,Int.ofNat_lt]
   refine And.intro (fun hs=>?_) (fun hs=>?_)
   ·have hs:star=false:=by simpa only[Bool.not_eq_true'] using hs
    refine⟨by kernel_rfl,⟨by simp only[maxLen];omega,by omega⟩,?_⟩
    have e:es.flatMap Expr.row++[int k,int o,bool n,int v.kind,int v.num,str v.text,str q,str m,.sl ks.length (ks.flatMap Expr.row),.sl ss.length (ss.flatMap Query.row)]=(es++[Expr.mk k o n v q m ks ss]).flatMap Expr.row:=by rw[List.flatMap_append];simp [Expr.row_mk]
    have e2:es.length+1=(es++[Expr.mk k o n v q m ks ss]).length:=by simp
    rw[e,e2]
    try rw[eE i (by omega)]
    exact⟨_,none,SubO.cons rfl (SubO.cons rfl (SubO.nil _)),PoSub.none _,⟨i+1,_,rfl,rfl,by omega,by rw[hst,hes];subst hs;rfl,rfl,rfl⟩,by simp only[bn];omega⟩
   ·have hs:star=true:=by simpa only[Bool.not_eq_false'] using hs
    try rw[eE i (by omega)]
    exact⟨_,none,SubO.cons rfl (SubO.cons rfl (SubO.nil _)),PoSub.none _,⟨i+1,es,rfl,rfl,by omega,by rw[hst,hes];subst hs;simp [Item.star],rfl,rfl⟩,by simp only[bn];omega⟩
  ·have hie:i=items.length:=by omega
   subst hie
   rw[List.take_length] at hes
   subst hes
   try simp only[tt,seval,hi4,h3]
   refine fun _=>?_
   refine dLoop.gh [.ren 25 37] ⟨by decide,by decide,?_⟩
   refine dLoop0.intro (fun f L p=>∃(i:Nat) (es:List Expr),f 30=vi i∧f 3 = .c (.s 37 es.length)∧i≤from_.length∧es=bb items++(from_.take i).flatMap Source.on∧L=[(1,.str [.v (.bool distinct),.sl items.length (items.flatMap Item.row) none,.sl from_.length (from_.flatMap Source.row) none,.sl where_.length (where_.flatMap Expr.row) none,.sl order.length (order.flatMap SortKey.row) none,.v (.int .i64 limit)]),(37,.arr 29 es.length (es.flatMap Expr.row) none)]∧p=none) (fun f _ _=>(from_.length-bn (f 30)).toNat) [(1,.str [.v (.bool distinct),.sl items.length (items.flatMap Item.row) none,.sl from_.length (from_.flatMap Source.row) none,.sl where_.length (where_.flatMap Expr.row) none,.sl order.length (order.flatMap SortKey.row) none,.v (.int .i64 limit)]),(37,.arr 29 (bb items).length ((bb items).flatMap Expr.row) none)] none ⟨SubO.cons rfl (SubO.cons rfl (SubO.nil _)),PoSub.none _,?_⟩ ?_
   ·simp only[tt,seval,h3]
    exact⟨0,bb items,rfl,rfl,by omega,by simp,rfl⟩
   ·rintro g L p ⟨i,es,hi5,h3,hi,hes,rfl,rfl⟩
    simp only[tt,seval] at hi5 h3
    simp only[tt,seval,hi5,h3,Int.ofNat_lt]
    refine And.intro (fun hlt=>?_) (fun hge=>?_)
    ·have hlt:i<from_.length:=by omega
     have hst:=pL hlt
     have hel:es.length≤(bb items).length+(from_.flatMap Source.on).length:=by have:=jk from_ i;rw[hes,List.length_append];omega
     obtain⟨it,bO⟩:∃it,it=from_[i]:=⟨_,rfl⟩
     rw[←bO] at hst
     have hon:it.on.length≤1048576:=by
      have h1:=dD dm (List.getElem_mem hlt)
      rw[←bO] at h1
      obtain⟨table,as_,on⟩:=it
      rw[eG,aC] at h1
      show on.length≤_
      omega
     refine⟨by omega,by omega,_,ax Source.row_len (List.getElem?_eq_getElem hlt),Source.ne _ _,?_⟩
     obtain⟨table,as_,on⟩:=it
     have hon:on.length≤1048576:=hon
     rw[←bO,Source.row_mk]
     simp only[tt,seval,hi5,h3,Int.ofNat_lt]
     refine⟨by kernel_rfl,by rw[aT Expr.row_len],⟨by simp only[maxLen];omega,by omega⟩,?_⟩
     have e2:es.length+on.length=(es++on).length:=by simp
     rw[←List.flatMap_append,e2]
     try rw[eE i (by omega)]
     exact⟨_,none,SubO.cons rfl (SubO.cons rfl (SubO.nil _)),PoSub.none _,⟨i+1,_,rfl,rfl,by omega,by rw[hst,hes,List.append_assoc];rfl,rfl,rfl⟩,by simp only[bn];omega⟩
    ·have hie:i=from_.length:=by omega
     subst hie
     rw[List.take_length] at hes
     try simp only[tt,seval,hi5,h3]
     have hel:es.length=(bb items).length+(from_.flatMap Source.on).length:=by rw[hes,List.length_append]
     refine⟨by kernel_rfl,by rw[aT Expr.row_len],⟨by simp only[maxLen];omega,by omega⟩,?_⟩
     have e2:es.length+where_.length=(es++where_).length:=by simp
     rw[←List.flatMap_append,e2]
     obtain⟨fs,hfs⟩:∃fs,fs=es++where_:=⟨_,rfl⟩
     have hfl:fs.length=(bb items).length+(from_.flatMap Source.on).length+where_.length:=by rw[hfs,List.length_append,hel]
     have hfs':fs=bb items++from_.flatMap Source.on++where_:=by rw[hfs,hes]
     rw[←hfs]
     try simp only[tt,seval]
     refine fun _=>?_
     refine dLoop.gh [.ren 42 54] ⟨by decide,by decide,?_⟩
     refine dLoop0.intro (fun f L p=>∃(i:Nat) (es:List Expr),f 46=vi i∧f 3 = .c (.s 54 es.length)∧i≤order.length∧es=fs++(order.take i).map SortKey.e∧L=[(1,.str [.v (.bool distinct),.sl items.length (items.flatMap Item.row) none,.sl from_.length (from_.flatMap Source.row) none,.sl where_.length (where_.flatMap Expr.row) none,.sl order.length (order.flatMap SortKey.row) none,.v (.int .i64 limit)]),(54,.arr 29 es.length (es.flatMap Expr.row) none)]∧p=none) (fun f _ _=>(order.length-bn (f 46)).toNat) [(1,.str [.v (.bool distinct),.sl items.length (items.flatMap Item.row) none,.sl from_.length (from_.flatMap Source.row) none,.sl where_.length (where_.flatMap Expr.row) none,.sl order.length (order.flatMap SortKey.row) none,.v (.int .i64 limit)]),(54,.arr 29 fs.length (fs.flatMap Expr.row) none)] none ⟨SubO.cons rfl (SubO.cons rfl (SubO.nil _)),PoSub.none _,?_⟩ ?_
     ·simp only[tt,seval,h3]
      exact⟨0,fs,rfl,rfl,by omega,by simp,rfl⟩
     ·rintro g L p ⟨i,es,hi6,h3,hi,hes,rfl,rfl⟩
      simp only[tt,seval] at hi6 h3
      simp only[tt,seval,hi6,h3,Int.ofNat_lt]
      refine And.intro (fun hlt=>?_) (fun hge=>?_)
      ·have hlt:i<order.length:=by omega
       have hst:=nD hlt
       have hel:es.length=fs.length+i:=by rw[hes,List.length_append,List.length_map,List.length_take];omega
       obtain⟨it,bO⟩:∃it,it=order[i]:=⟨_,rfl⟩
       rw[←bO] at hst
       refine⟨by omega,by omega,_,ax SortKey.row_len (List.getElem?_eq_getElem hlt),SortKey.ne _ _,?_⟩
       obtain⟨⟨k,o,n,v,q,m,ks,ss⟩,desc⟩:=it
       rw[←bO,SortKey.row_mk,Expr.row_mk]
       simp only[tt,seval,hi6,h3,Int.ofNat_lt]
       refine⟨by kernel_rfl,⟨by simp only[maxLen];omega,by omega⟩,?_⟩
       have e:es.flatMap Expr.row++[int k,int o,bool n,int v.kind,int v.num,str v.text,str q,str m,.sl ks.length (ks.flatMap Expr.row),.sl ss.length (ss.flatMap Query.row)]=(es++[Expr.mk k o n v q m ks ss]).flatMap Expr.row:=by rw[List.flatMap_append];simp [Expr.row_mk]
       have e2:es.length+1=(es++[Expr.mk k o n v q m ks ss]).length:=by simp
       rw[e,e2]
       try rw[eE i (by omega)]
       exact⟨_,none,SubO.cons rfl (SubO.cons rfl (SubO.nil _)),PoSub.none _,⟨i+1,_,rfl,rfl,by omega,by rw[hst,hes,List.append_assoc];rfl,rfl,rfl⟩,by simp only[bn];omega⟩
      ·have hie:i=order.length:=by omega
       subst hie
       rw[List.take_length] at hes
       try simp only[tt,seval,hi6,h3]
       refine⟨_,[],rfl,aj ?_⟩
       simp only[tt,seval]
       rw[hes,hfs']
       exact⟨rfl,rfl,rfl⟩
theorem sL (kind:Int) (distinct:Bool) (items:List Item) (from_:List Source) (where_:List Expr) (order:List SortKey) (limit:Int) (table:ByteArray) (rows:List ERow) (cols:List ByteArray) (sets where2:List Expr) (hsz:eL (Stmt.mk kind (Query.mk distinct items from_ where_ order limit) table rows cols sets where2)≤1048576):Cl Tryz.prog 202 [.ag (an (Stmt.mk kind (Query.mk distinct items from_ where_ order limit) table rows cols sets where2).row)] [] fun r _=>r = .c (.sl (bA (Stmt.mk kind (Query.mk distinct items from_ where_ order limit) table rows cols sets where2)).length ((bA (Stmt.mk kind (Query.mk distinct items from_ where_ order limit) table rows cols sets where2)).flatMap Expr.row) none):=by
 have hql:=dh (Query.mk distinct items from_ where_ order limit)
 have hrl:=oo rows
 have q0:bA (Stmt.mk kind (Query.mk distinct items from_ where_ order limit) table rows cols sets where2)=aw (Query.mk distinct items from_ where_ order limit)++rows.flatMap ERow.l++sets++where2:=rfl
 rw[q0]
 rw[gA] at hsz
 have hqs:aW (Query.mk distinct items from_ where_ order limit)≤1048576:=by omega
 have hs1:sets.length+where2.length+(rows.flatMap ERow.l).length+(aw (Query.mk distinct items from_ where_ order limit)).length≤1048576:=by
  rw[aC,aC] at hsz;omega
 have hrn:rows.length≤1048576:=by omega
 have hqc:=zT distinct items from_ where_ order limit hqs
 rw[Query.row_mk] at hqc
 generalize aw (Query.mk distinct items from_ where_ order limit)=lq at *
 rw[Stmt.row_mk,Query.row_mk]
 simp only[lc]
 refine ab aa false Tryz.func202 rfl (by kernel_rfl) ?_
 simp only[Tryz.f202,tt,seval]
 refine cZ (hqc) (by decide) ?_ ?_<;>simp only[tt,seval]
 refine dLoop.gh [.ren 10007 21] ⟨by decide,by decide,?_⟩
 refine dLoop0.intro (fun f L p=>∃(i:Nat) (es:List Expr),f 4=vi i∧f 3 = .c (.s 21 es.length)∧i≤rows.length∧es=lq++(rows.take i).flatMap ERow.l∧L=[(21,.arr 29 es.length (es.flatMap Expr.row) none),(1,.str [.v (.int .i64 kind),.v (.bool distinct),.sl items.length (items.flatMap Item.row) none,.sl from_.length (from_.flatMap Source.row) none,.sl where_.length (where_.flatMap Expr.row) none,.sl order.length (order.flatMap SortKey.row) none,.v (.int .i64 limit),.v (.string table),.sl rows.length (rows.flatMap ERow.row) none,.sl cols.length (cols.flatMap srow) none,.sl sets.length (sets.flatMap Expr.row) none,.sl where2.length (where2.flatMap Expr.row) none])]∧p=none) (fun f _ _=>(rows.length-bn (f 4)).toNat) [(21,.arr 29 lq.length (lq.flatMap Expr.row) none),(1,.str [.v (.int .i64 kind),.v (.bool distinct),.sl items.length (items.flatMap Item.row) none,.sl from_.length (from_.flatMap Source.row) none,.sl where_.length (where_.flatMap Expr.row) none,.sl order.length (order.flatMap SortKey.row) none,.v (.int .i64 limit),.v (.string table),.sl rows.length (rows.flatMap ERow.row) none,.sl cols.length (cols.flatMap srow) none,.sl sets.length (sets.flatMap Expr.row) none,.sl where2.length (where2.flatMap Expr.row) none])] none ⟨SubO.cons rfl (SubO.cons rfl (SubO.nil _)),PoSub.none _,?_⟩ ?_
 ·simp only[tt,seval]
  exact⟨0,lq,rfl,rfl,by omega,by simp,rfl⟩
 ·rintro g L p ⟨i,es,h4,h3,hi,hes,rfl,rfl⟩
  simp only[tt,seval] at h4 h3
  simp only[tt,seval,h4,h3,Int.ofNat_lt]
  refine fun _=>?_
  refine And.intro (fun hlt=>?_) (fun hge=>?_)
  ·have hlt:i<rows.length:=by omega
   have hstp:=sK ERow.l hlt
   have hel:es.length+rows[i].l.length≤lq.length+(rows.flatMap ERow.l).length:=by
    have:=mL ERow.l rows (i+1)
    rw[hstp,List.length_append] at this
    rw[hes,List.length_append];omega
   obtain⟨it,bO⟩:∃it,it=rows[i]:=⟨_,rfl⟩
   rw[←bO] at hstp hel
   refine⟨by omega,by omega,_,ax ERow.row_len (List.getElem?_eq_getElem hlt),ERow.ne _ _,?_⟩
   rw[←bO,mz]
   simp only[tt,seval,h4,h3]
   refine⟨by kernel_rfl,by rw[aT Expr.row_len],⟨by simp only[maxLen];omega,by omega⟩,?_⟩
   have e2:es.length+it.l.length=(es++it.l).length:=by simp
   rw[←List.flatMap_append,e2]
   try rw[eE i (by omega)]
   exact⟨_,none,SubO.cons rfl (SubO.cons rfl (SubO.nil _)),PoSub.none _,⟨i+1,_,rfl,rfl,by omega,by rw[hstp,hes,List.append_assoc],rfl,rfl⟩,by simp only[bn];omega⟩
  ·have hie:i=rows.length:=by omega
   subst hie
   rw[List.take_length] at hes
   have hel:es.length=lq.length+(rows.flatMap ERow.l).length:=by rw[hes,List.length_append]
   rw[←hes]
   try simp only[tt,seval,h4,h3]
   refine⟨by kernel_rfl,by rw[aT Expr.row_len],⟨by simp only[maxLen];omega,by omega⟩,?_⟩
   have e2:es.length+sets.length=(es++sets).length:=by simp
   rw[←List.flatMap_append,e2]
   try simp only[tt,seval,h4,h3]
   refine⟨by kernel_rfl,by rw[aT Expr.row_len],⟨by simp only[maxLen,List.length_append];omega,by simp only[List.length_append];omega⟩,?_⟩
   have e3:(es++sets).length+where2.length=(es++sets++where2).length:=by simp [Nat.add_assoc]
   rw[←List.flatMap_append,e3]
   refine⟨_,[],rfl,aj ?_⟩
   simp only[tt,seval]
theorem p6 (kind:Int) (distinct:Bool) (items:List Item) (from_:List Source) (where_:List Expr) (order:List SortKey) (limit:Int) (table:ByteArray) (rows:List ERow) (cols:List ByteArray) (sets where2:List Expr) (hsz:eL (Stmt.mk kind (Query.mk distinct items from_ where_ order limit) table rows cols sets where2)≤1048576):Cl Tryz.prog 142 [.ag (an (Stmt.mk kind (Query.mk distinct items from_ where_ order limit) table rows cols sets where2).row)] [] fun r _=>r = .c (.sl (bA (Stmt.mk kind (Query.mk distinct items from_ where_ order limit) table rows cols sets where2)).length ((bA (Stmt.mk kind (Query.mk distinct items from_ where_ order limit) table rows cols sets where2)).flatMap Expr.row) none):=by
 have hql:=dh (Query.mk distinct items from_ where_ order limit)
 have hrl:=oo rows
 have q0:bA (Stmt.mk kind (Query.mk distinct items from_ where_ order limit) table rows cols sets where2)=aw (Query.mk distinct items from_ where_ order limit)++rows.flatMap ERow.l++sets++where2:=rfl
 rw[q0]
 rw[gA] at hsz
 have hqs:aW (Query.mk distinct items from_ where_ order limit)≤1048576:=by omega
 have hs1:sets.length+where2.length+(rows.flatMap ERow.l).length+(aw (Query.mk distinct items from_ where_ order limit)).length≤1048576:=by
  rw[aC,aC] at hsz;omega
 have hrn:rows.length≤1048576:=by omega
 have hqc:=BL distinct items from_ where_ order limit hqs
 rw[Query.row_mk] at hqc
 generalize aw (Query.mk distinct items from_ where_ order limit)=lq at *
 rw[Stmt.row_mk,Query.row_mk]
 simp only[lc]
 refine ab aa false Tryz.func142 rfl (by kernel_rfl) ?_
 simp only[Tryz.f142,tt,seval]
 refine cZ (hqc) (by decide) ?_ ?_<;>simp only[tt,seval]
 refine fun _=>?_
 refine dLoop.gh [.ren 10008 18] ⟨by decide,by decide,?_⟩
 refine dLoop0.intro (fun f L p=>∃(i:Nat) (es:List Expr),f 12=vi i∧f 3 = .c (.s 18 es.length)∧i≤rows.length∧es=lq++(rows.take i).flatMap ERow.l∧L=[(18,.arr 29 es.length (es.flatMap Expr.row) none),(1,.str [.v (.int .i64 kind),.v (.bool distinct),.sl items.length (items.flatMap Item.row) none,.sl from_.length (from_.flatMap Source.row) none,.sl where_.length (where_.flatMap Expr.row) none,.sl order.length (order.flatMap SortKey.row) none,.v (.int .i64 limit),.v (.string table),.sl rows.length (rows.flatMap ERow.row) none,.sl cols.length (cols.flatMap srow) none,.sl sets.length (sets.flatMap Expr.row) none,.sl where2.length (where2.flatMap Expr.row) none])]∧p=none) (fun f _ _=>(rows.length-bn (f 12)).toNat) [(18,.arr 29 lq.length (lq.flatMap Expr.row) none),(1,.str [.v (.int .i64 kind),.v (.bool distinct),.sl items.length (items.flatMap Item.row) none,.sl from_.length (from_.flatMap Source.row) none,.sl where_.length (where_.flatMap Expr.row) none,.sl order.length (order.flatMap SortKey.row) none,.v (.int .i64 limit),.v (.string table),.sl rows.length (rows.flatMap ERow.row) none,.sl cols.length (cols.flatMap srow) none,.sl sets.length (sets.flatMap Expr.row) none,.sl where2.length (where2.flatMap Expr.row) none])] none ⟨SubO.cons rfl (SubO.cons rfl (SubO.nil _)),PoSub.none _,?_⟩ ?_
 ·simp only[tt,seval]
  exact⟨0,lq,rfl,rfl,by omega,by simp,rfl⟩
 ·rintro g L p ⟨i,es,h4,h3,hi,hes,rfl,rfl⟩
  simp only[tt,seval] at h4 h3
  simp only[tt,seval,h4,h3,Int.ofNat_lt]
  refine And.intro (fun hlt=>?_) (fun hge=>?_)
  ·have hlt:i<rows.length:=by omega
   have hstp:=sK ERow.l hlt
   have hel:es.length+rows[i].l.length≤lq.length+(rows.flatMap ERow.l).length:=by
    have:=mL ERow.l rows (i+1)
    rw[hstp,List.length_append] at this
    rw[hes,List.length_append];omega
   obtain⟨it,bO⟩:∃it,it=rows[i]:=⟨_,rfl⟩
   rw[←bO] at hstp hel
   refine⟨by omega,by omega,_,ax ERow.row_len (List.getElem?_eq_getElem hlt),ERow.ne _ _,?_⟩
   rw[←bO,mz]
   simp only[tt,seval,h4,h3]
   refine⟨by kernel_rfl,by rw[aT Expr.row_len],⟨by simp only[maxLen];omega,by omega⟩,?_⟩
   have e2:es.length+it.l.length=(es++it.l).length:=by simp
   rw[←List.flatMap_append,e2]
   try rw[eE i (by omega)]
   exact⟨_,none,SubO.cons rfl (SubO.cons rfl (SubO.nil _)),PoSub.none _,⟨i+1,_,rfl,rfl,by omega,by rw[hstp,hes,List.append_assoc],rfl,rfl⟩,by simp only[bn];omega⟩
  ·have hie:i=rows.length:=by omega
   subst hie
   rw[List.take_length] at hes
   have hel:es.length=lq.length+(rows.flatMap ERow.l).length:=by rw[hes,List.length_append]
   rw[←hes]
   try simp only[tt,seval,h4,h3]
   refine⟨by kernel_rfl,by rw[aT Expr.row_len],⟨by simp only[maxLen];omega,by omega⟩,?_⟩
   have e2:es.length+sets.length=(es++sets).length:=by simp
   rw[←List.flatMap_append,e2]
   try simp only[tt,seval,h4,h3]
   refine⟨by kernel_rfl,by rw[aT Expr.row_len],⟨by simp only[maxLen,List.length_append];omega,by simp only[List.length_append];omega⟩,?_⟩
   have e3:(es++sets).length+where2.length=(es++sets++where2).length:=by simp [Nat.add_assoc]
   rw[←List.flatMap_append,e3]
   refine⟨_,[],rfl,aj ?_⟩
   simp only[tt,seval]
theorem D9 (l:List ERow) {x:Expr} (h:x∈l.flatMap ERow.l):av x≤lU l:=by
 obtain⟨y,hy,hx⟩:=List.mem_flatMap.1 h
 have h1:=dD hZ hy
 have h2:=dD av hx
 rw[jP,aC] at h1
 rw[gz];omega
theorem BM (l:List ERow):((l.flatMap ERow.l).map fun x=>av x+1).sum≤lU l:=by
 rw[gz]
 induction l with
 |nil=>simp
 |cons x r ih=>
  rw[List.flatMap_cons,List.map_append,List.sum_append,gX,List.map_cons,List.sum_cons,List.length_cons,jP,aC]
  omega
theorem gI {s:Stmt} {x:Expr} (h:x∈bA s):av x≤eL s:=by
 obtain⟨kind,q,table,rows,cols,sets,where2⟩:=s
 rw[gA,aC,aC]
 simp only[bA,List.mem_append] at h
 rcases h with ((h|h)|h)|h
 ·have:=iD h;omega
 ·have:=D9 rows h;omega
 ·have:=dD av h;omega
 ·have:=dD av h;omega
theorem gY (s:Stmt):((bA s).map fun x=>av x+1).sum≤eL s:=by
 obtain⟨kind,q,table,rows,cols,sets,where2⟩:=s
 rw[gA,aC,aC]
 have h1:=kJ q
 have h2:=BM rows
 simp only[bA,List.map_append,List.sum_append,gX av sets,gX av where2]
 omega
theorem jo (s:Stmt):(bA s).length≤eL s:=by
 have h:=gY s
 rw[gX] at h;omega
theorem mM (q:Query) (g:Expr→Nat) (h:∀x∈aw q,Cl Tryz.prog 195 [.ag (an x.row)] [] fun r _=>r=vi (g x:Nat)) (hsz:aW q≤1048576) (hs:((aw q).map g).sum≤2097152):Cl Tryz.prog 130 [.ag (an q.row)] [] fun r _=>r=vi (((aw q).map g).sum:Nat):=by
 have hlen:=dh q
 obtain⟨distinct,items,from_,where_,order,limit⟩:=q
 rw[Query.row_mk]
 refine ab aa false Tryz.func130 rfl (by kernel_rfl) ?_
 simp only[Tryz.f130,tt,seval]
 refine cZ (me distinct items from_ where_ order limit hsz) (by decide) ?_ ?_<;>simp only[tt,seval,Query.row_mk]
 generalize aw (Query.mk distinct items from_ where_ order limit)=l at *
 refine dLoop.intro (fun f L p=>∃i:Nat,f 5=vi i∧i≤l.length∧f 3=vi (((l.take i).map g).sum:Nat)∧L=[(1,.str [.v (.bool distinct),.sl items.length (items.flatMap Item.row) none,.sl from_.length (from_.flatMap Source.row) none,.sl where_.length (where_.flatMap Expr.row) none,.sl order.length (order.flatMap SortKey.row) none,.v (.int .i64 limit)])]∧p=none) (fun f _ _=>(l.length-bn (f 5)).toNat) [(1,.str [.v (.bool distinct),.sl items.length (items.flatMap Item.row) none,.sl from_.length (from_.flatMap Source.row) none,.sl where_.length (where_.flatMap Expr.row) none,.sl order.length (order.flatMap SortKey.row) none,.v (.int .i64 limit)])] none ⟨SubO.cons rfl (SubO.nil _),PoSub.none _,?_⟩ ?_
 ·simp only[tt,seval]
  exact⟨0,rfl,by omega,by simp⟩
 ·rintro g' L p ⟨i,hix,hi,hac,rfl,rfl⟩
  simp only[tt,seval] at hix hac
  simp only[tt,seval,hix,hac,Int.ofNat_lt]
  refine fun _=>?_
  refine And.intro (fun hlt=>?_) (fun hge=>?_)
  ·have hlt:i<l.length:=by omega
   have hmem:l[i]∈l:=List.getElem_mem hlt
   refine⟨by omega,by omega,_,ax Expr.row_len (List.getElem?_eq_getElem hlt),Expr.ne _ _,?_⟩
   simp only[tt,seval,hix,hac,Expr.tk,Expr.row_len]
   refine cZ (h _ hmem) (by decide) ?_ ?_<;>simp only[tt,seval,hix,hac]
   obtain⟨rst,hrst⟩:=cU g l (i+1)
   rw[eE i (by omega)]
   have hstep:((l.take (i+1)).map g).sum=((l.take i).map g).sum+g l[i]:=gn g hlt
   rw[ak (by omega) (by omega)]
   skip
   exact⟨_,none,SubO.cons rfl (SubO.nil _),PoSub.none _,⟨i+1,rfl,by omega,eX (by rw[hstep];omega),rfl,rfl⟩,by simp only[bn];omega⟩
  ·have hie:i=l.length:=by omega
   subst hie
   rw[List.take_length] at hac
   try simp only[tt,seval,hix,hac]
   try rw[List.take_length]
   exact⟨_,_,rfl,ac rfl⟩
theorem rE (kind op:Int) (not:Bool) (val:Val) (qual name:ByteArray) (kids:List Expr) (sub:List Query) (g:Expr→Nat) (hg:∀x,jl x (Expr.mk kind op not val qual name kids sub)→(Cl Tryz.prog 195 [.ag (an x.row)] [] fun r _=>r=vi (g x:Nat))∧g x≤av x+1) (hsz:av (Expr.mk kind op not val qual name kids sub)≤1048576):Cl Tryz.prog 195 [.ag (an (Expr.mk kind op not val qual name kids sub).row)] [] fun r _=>r=vi (D1 g (Expr.mk kind op not val qual name kids sub):Nat):=by
 have hdl:=yG (g:=g) (fun x hx=>(hg x hx).2)
 have hks:=hsz
 rw[et,aC,d8] at hks
 have e:D1 g (Expr.mk kind op not val qual name kids sub)=1+(kids.map g).sum+(sub.map fun q=>((aw q).map g).sum).sum:=rfl
 rw[e] at hdl ⊢
 rw[Expr.row_mk]
 refine ab aa false Tryz.func195 rfl (by kernel_rfl) ?_
 simp only[Tryz.f195,tt,seval]
 refine dLoop.intro (fun f L p=>∃i:Nat,f 4=vi i∧i≤kids.length∧f 3=vi ((1+((kids.take i).map g).sum):Nat)∧L=[(1,.str [.v (.int .i64 kind),.v (.int .i64 op),.v (.bool not),.v (.int .i64 val.kind),.v (.int .i64 val.num),.v (.string val.text),.v (.string qual),.v (.string name),.sl kids.length (kids.flatMap Expr.row) none,.sl sub.length (sub.flatMap Query.row) none])]∧p=none) (fun f _ _=>(kids.length-bn (f 4)).toNat) [(1,.str [.v (.int .i64 kind),.v (.int .i64 op),.v (.bool not),.v (.int .i64 val.kind),.v (.int .i64 val.num),.v (.string val.text),.v (.string qual),.v (.string name),.sl kids.length (kids.flatMap Expr.row) none,.sl sub.length (sub.flatMap Query.row) none])] none ⟨SubO.cons rfl (SubO.nil _),PoSub.none _,?_⟩ ?_
 ·simp only[tt,seval]
  exact⟨0,rfl,by omega,by simp⟩
 ·rintro g' L p ⟨i,hix,hi,hac,rfl,rfl⟩
  simp only[tt,seval] at hix hac
  simp only[tt,seval,hix,hac,Int.ofNat_lt]
  refine fun _=>?_
  refine And.intro (fun hlt=>?_) (fun hge=>?_)
  ·have hlt:i<kids.length:=by omega
   have hmem:kids[i]∈kids:=List.getElem_mem hlt
   refine⟨by omega,by omega,_,ax Expr.row_len (List.getElem?_eq_getElem hlt),Expr.ne _ _,?_⟩
   simp only[tt,seval,hix,hac,Expr.tk,Expr.row_len]
   refine cZ ((hg _ (.inl hmem)).1) (by decide) ?_ ?_<;>simp only[tt,seval,hix,hac]
   obtain⟨rst,hrst⟩:=cU g kids (i+1)
   rw[eE i (by omega)]
   have hstep:((kids.take (i+1)).map g).sum=((kids.take i).map g).sum+g kids[i]:=gn g hlt
   rw[ak (by omega) (by omega)]
   skip
   exact⟨_,none,SubO.cons rfl (SubO.nil _),PoSub.none _,⟨i+1,rfl,by omega,eX (by rw[hstep];omega),rfl,rfl⟩,by simp only[bn];omega⟩
  ·have hie:i=kids.length:=by omega
   subst hie
   rw[List.take_length] at hac
   try simp only[tt,seval,hix,hac]
   try rw[List.take_length]
   refine dLoop.intro (fun f L p=>∃i:Nat,f 5=vi i∧i≤sub.length∧f 3=vi ((1+(kids.map g).sum+((sub.take i).map fun q=>((aw q).map g).sum).sum):Nat)∧L=[(1,.str [.v (.int .i64 kind),.v (.int .i64 op),.v (.bool not),.v (.int .i64 val.kind),.v (.int .i64 val.num),.v (.string val.text),.v (.string qual),.v (.string name),.sl kids.length (kids.flatMap Expr.row) none,.sl sub.length (sub.flatMap Query.row) none])]∧p=none) (fun f _ _=>(sub.length-bn (f 5)).toNat) [(1,.str [.v (.int .i64 kind),.v (.int .i64 op),.v (.bool not),.v (.int .i64 val.kind),.v (.int .i64 val.num),.v (.string val.text),.v (.string qual),.v (.string name),.sl kids.length (kids.flatMap Expr.row) none,.sl sub.length (sub.flatMap Query.row) none])] none ⟨SubO.cons rfl (SubO.nil _),PoSub.none _,?_⟩ ?_
   ·simp only[tt,seval,hac]
    exact⟨0,rfl,by omega,by simp⟩
   ·rintro g' L p ⟨i,hix,hi,hac,rfl,rfl⟩
    simp only[tt,seval] at hix hac
    simp only[tt,seval,hix,hac,Int.ofNat_lt]
    refine fun _=>?_
    refine And.intro (fun hlt=>?_) (fun hge=>?_)
    ·have hlt:i<sub.length:=by omega
     have hmem:sub[i]∈sub:=List.getElem_mem hlt
     refine⟨by omega,by omega,_,ax Query.row_len (List.getElem?_eq_getElem hlt),Query.ne _ _,?_⟩
     simp only[tt,seval,hix,hac,Query.tk,Query.row_len]
     obtain⟨rst,hrst⟩:=cU (fun q=>((aw q).map g).sum) sub (i+1)
     have hstep:((sub.take (i+1)).map fun q=>((aw q).map g).sum).sum=((sub.take i).map fun q=>((aw q).map g).sum).sum+((aw sub[i]).map g).sum:=gn _ hlt
     refine cZ (mM sub[i] g (fun x hx=>(hg x (.inr ⟨_,hmem,hx⟩)).1) (Nat.le_trans (mS (e:=(Expr.mk kind op not val qual name kids sub)) hmem) hsz) (by omega)) (by decide) ?_ ?_<;>simp only[tt,seval,hix,hac]
     rw[eE i (by omega)]
     rw[ak (by omega) (by omega)]
     skip
     exact⟨_,none,SubO.cons rfl (SubO.nil _),PoSub.none _,⟨i+1,rfl,by omega,eX (by rw[hstep];omega),rfl,rfl⟩,by simp only[bn];omega⟩
    ·have hie:i=sub.length:=by omega
     subst hie
     rw[List.take_length] at hac
     try simp only[tt,seval,hix,hac]
     try rw[List.take_length]
     exact⟨_,_,rfl,ac rfl⟩
theorem qT (e:Expr):(av e≤1048576→Cl Tryz.prog 195 [.ag (an e.row)] [] fun r _=>r=vi (jI e:Nat))∧jI e≤av e+1:=by
 refine gC (P:=fun e d=>(av e≤1048576→Cl Tryz.prog 195 [.ag (an e.row)] [] fun r _=>r=vi (d:Nat))∧d≤av e+1) (fun e g hg=>⟨fun hsz=>?_,yG fun x hx=>(hg x hx).2⟩) e
 obtain⟨kind,op,not,val,qual,name,kids,sub⟩:=e
 exact rE kind op not val qual name kids sub g (fun x hx=>⟨(hg x hx).1 (Nat.le_trans (iR hx) hsz),(hg x hx).2⟩) hsz
theorem vU (s:Stmt) (hsz:eL s≤1048576):Cl Tryz.prog 135 [.ag (an s.row)] [] fun r _=>r=vi (bX ((bA s).map nh):Nat):=by
 have hlen:=jo s
 have hm:=fun x hx=>gI (s:=s) (x:=x) hx
 have hsum:=gY s
 obtain⟨kind,⟨distinct,items,from_,where_,order,limit⟩,table,rows,cols,sets,where2⟩:=s
 have hc:=sL kind distinct items from_ where_ order limit table rows cols sets where2 hsz
 generalize bA (Stmt.mk kind (Query.mk distinct items from_ where_ order limit) table rows cols sets where2)=l at *
 have hd:∀x∈l,Cl Tryz.prog 122 [.ag (an x.row)] [] fun r _=>r=vi (nh x:Nat):=fun x hx=>(oZ x).1 (Nat.le_trans (hm x hx) hsz)
 have hsl:(l.map jI).sum≤2097152:=by
  have:=jJ (l:=l) (f:=jI) (g:=fun x=>av x+1) fun x _=>(gp x).2
  omega
 rw[Stmt.row_mk,Query.row_mk] at hc ⊢
 simp only[lc] at hc ⊢
 refine ab aa false Tryz.func135 rfl (by kernel_rfl) ?_
 simp only[Tryz.f135,tt,seval]
 refine cZ (hc) (by decide) ?_ ?_<;>simp only[tt,seval]
 refine dLoop.intro (fun f L p=>∃i:Nat,f 5=vi i∧i≤l.length∧f 3=vi (bX ((l.take i).map nh):Nat)∧L=[(1,.str [.v (.int .i64 kind),.v (.bool distinct),.sl items.length (items.flatMap Item.row) none,.sl from_.length (from_.flatMap Source.row) none,.sl where_.length (where_.flatMap Expr.row) none,.sl order.length (order.flatMap SortKey.row) none,.v (.int .i64 limit),.v (.string table),.sl rows.length (rows.flatMap ERow.row) none,.sl cols.length (cols.flatMap srow) none,.sl sets.length (sets.flatMap Expr.row) none,.sl where2.length (where2.flatMap Expr.row) none])]∧p=none) (fun f _ _=>(l.length-bn (f 5)).toNat) [(1,.str [.v (.int .i64 kind),.v (.bool distinct),.sl items.length (items.flatMap Item.row) none,.sl from_.length (from_.flatMap Source.row) none,.sl where_.length (where_.flatMap Expr.row) none,.sl order.length (order.flatMap SortKey.row) none,.v (.int .i64 limit),.v (.string table),.sl rows.length (rows.flatMap ERow.row) none,.sl cols.length (cols.flatMap srow) none,.sl sets.length (sets.flatMap Expr.row) none,.sl where2.length (where2.flatMap Expr.row) none])] none ⟨SubO.cons rfl (SubO.nil _),PoSub.none _,?_⟩ ?_
 ·simp only[tt,seval]
  exact⟨0,rfl,by omega,by simp [bX]⟩
 ·rintro g' L p ⟨i,hix,hi,hac,rfl,rfl⟩
  simp only[tt,seval] at hix hac
  simp only[tt,seval,hix,hac,Int.ofNat_lt]
  refine fun _=>?_
  refine And.intro (fun hlt=>?_) (fun hge=>?_)
  ·have hlt:i<l.length:=by omega
   have hmem:l[i]∈l:=List.getElem_mem hlt
   refine⟨by omega,by omega,_,ax Expr.row_len (List.getElem?_eq_getElem hlt),Expr.ne _ _,?_⟩
   simp only[tt,seval,hix,hac,Expr.tk,Expr.row_len]
   refine cZ (hd _ hmem) (by decide) ?_ ?_<;>simp only[tt,seval,hix,hac]
   refine cZ (pQ (bX ((l.take i).map nh)) (nh l[i])) (by decide) ?_ ?_<;>simp only[tt,seval,hix,hac]
   rw[eE i (by omega)]
   have hstep:bX ((l.take (i+1)).map nh)=max (bX ((l.take i).map nh)) (nh l[i]):=by rw[eh nh hlt,gH]
   exact⟨_,none,SubO.cons rfl (SubO.nil _),PoSub.none _,⟨i+1,rfl,by omega,eX (by rw[hstep]),rfl,rfl⟩,by simp only[bn];omega⟩
  ·have hie:i=l.length:=by omega
   subst hie
   rw[List.take_length] at hac
   try simp only[tt,seval,hix,hac]
   try rw[List.take_length]
   exact⟨_,_,rfl,ac rfl⟩
theorem ua (s:Stmt) (hsz:eL s≤1048576):Cl Tryz.prog 137 [.ag (an s.row)] [] fun r _=>r=vi (bX ((bA s).map nh):Nat):=by
 have hlen:=jo s
 have hm:=fun x hx=>gI (s:=s) (x:=x) hx
 have hsum:=gY s
 obtain⟨kind,⟨distinct,items,from_,where_,order,limit⟩,table,rows,cols,sets,where2⟩:=s
 have hc:=p6 kind distinct items from_ where_ order limit table rows cols sets where2 hsz
 generalize bA (Stmt.mk kind (Query.mk distinct items from_ where_ order limit) table rows cols sets where2)=l at *
 have hd:∀x∈l,Cl Tryz.prog 125 [.ag (an x.row)] [] fun r _=>r=vi (nh x:Nat):=fun x hx=>(ni x).1 (Nat.le_trans (hm x hx) hsz)
 have hsl:(l.map jI).sum≤2097152:=by
  have:=jJ (l:=l) (f:=jI) (g:=fun x=>av x+1) fun x _=>(gp x).2
  omega
 rw[Stmt.row_mk,Query.row_mk] at hc ⊢
 simp only[lc] at hc ⊢
 refine ab aa false Tryz.func137 rfl (by kernel_rfl) ?_
 simp only[Tryz.f137,tt,seval]
 refine cZ (hc) (by decide) ?_ ?_<;>simp only[tt,seval]
 refine cZ (pn l nh hd (by omega)) (by decide) ?_ ?_<;>simp only[tt,seval]
 exact⟨_,_,rfl,ac rfl⟩
theorem xm (s:Stmt) (hsz:eL s≤1048576):Cl Tryz.prog 136 [.ag (an s.row)] [] fun r _=>r=vi (((bA s).map jI).sum:Nat):=by
 have hlen:=jo s
 have hm:=fun x hx=>gI (s:=s) (x:=x) hx
 have hsum:=gY s
 obtain⟨kind,⟨distinct,items,from_,where_,order,limit⟩,table,rows,cols,sets,where2⟩:=s
 have hc:=sL kind distinct items from_ where_ order limit table rows cols sets where2 hsz
 generalize bA (Stmt.mk kind (Query.mk distinct items from_ where_ order limit) table rows cols sets where2)=l at *
 have hd:∀x∈l,Cl Tryz.prog 195 [.ag (an x.row)] [] fun r _=>r=vi (jI x:Nat):=fun x hx=>(qT x).1 (Nat.le_trans (hm x hx) hsz)
 have hsl:(l.map jI).sum≤2097152:=by
  have:=jJ (l:=l) (f:=jI) (g:=fun x=>av x+1) fun x _=>(gp x).2
  omega
 rw[Stmt.row_mk,Query.row_mk] at hc ⊢
 simp only[lc] at hc ⊢
 refine ab aa false Tryz.func136 rfl (by kernel_rfl) ?_
 simp only[Tryz.f136,tt,seval]
 refine cZ (hc) (by decide) ?_ ?_<;>simp only[tt,seval]
 refine dLoop.intro (fun f L p=>∃i:Nat,f 5=vi i∧i≤l.length∧f 3=vi (((l.take i).map jI).sum:Nat)∧L=[(1,.str [.v (.int .i64 kind),.v (.bool distinct),.sl items.length (items.flatMap Item.row) none,.sl from_.length (from_.flatMap Source.row) none,.sl where_.length (where_.flatMap Expr.row) none,.sl order.length (order.flatMap SortKey.row) none,.v (.int .i64 limit),.v (.string table),.sl rows.length (rows.flatMap ERow.row) none,.sl cols.length (cols.flatMap srow) none,.sl sets.length (sets.flatMap Expr.row) none,.sl where2.length (where2.flatMap Expr.row) none])]∧p=none) (fun f _ _=>(l.length-bn (f 5)).toNat) [(1,.str [.v (.int .i64 kind),.v (.bool distinct),.sl items.length (items.flatMap Item.row) none,.sl from_.length (from_.flatMap Source.row) none,.sl where_.length (where_.flatMap Expr.row) none,.sl order.length (order.flatMap SortKey.row) none,.v (.int .i64 limit),.v (.string table),.sl rows.length (rows.flatMap ERow.row) none,.sl cols.length (cols.flatMap srow) none,.sl sets.length (sets.flatMap Expr.row) none,.sl where2.length (where2.flatMap Expr.row) none])] none ⟨SubO.cons rfl (SubO.nil _),PoSub.none _,?_⟩ ?_
 ·simp only[tt,seval]
  exact⟨0,rfl,by omega,by simp⟩
 ·rintro g' L p ⟨i,hix,hi,hac,rfl,rfl⟩
  simp only[tt,seval] at hix hac
  simp only[tt,seval,hix,hac,Int.ofNat_lt]
  refine fun _=>?_
  refine And.intro (fun hlt=>?_) (fun hge=>?_)
  ·have hlt:i<l.length:=by omega
   have hmem:l[i]∈l:=List.getElem_mem hlt
   refine⟨by omega,by omega,_,ax Expr.row_len (List.getElem?_eq_getElem hlt),Expr.ne _ _,?_⟩
   simp only[tt,seval,hix,hac,Expr.tk,Expr.row_len]
   refine cZ (hd _ hmem) (by decide) ?_ ?_<;>simp only[tt,seval,hix,hac]
   obtain⟨rst,hrst⟩:=cU jI l (i+1)
   rw[eE i (by omega)]
   have hstep:((l.take (i+1)).map jI).sum=((l.take i).map jI).sum+jI l[i]:=gn jI hlt
   rw[ak (by omega) (by omega)]
   skip
   exact⟨_,none,SubO.cons rfl (SubO.nil _),PoSub.none _,⟨i+1,rfl,by omega,eX (by rw[hstep];omega),rfl,rfl⟩,by simp only[bn];omega⟩
  ·have hie:i=l.length:=by omega
   subst hie
   rw[List.take_length] at hac
   try simp only[tt,seval,hix,hac]
   try rw[List.take_length]
   exact⟨_,_,rfl,ac rfl⟩
theorem vV (s:Stmt) (hsz:eL s≤1048576):Cl Tryz.prog 138 [.ag (an s.row)] [] fun r _=>r=vi (((bA s).map jI).sum:Nat):=by
 have hlen:=jo s
 have hm:=fun x hx=>gI (s:=s) (x:=x) hx
 have hsum:=gY s
 obtain⟨kind,⟨distinct,items,from_,where_,order,limit⟩,table,rows,cols,sets,where2⟩:=s
 have hc:=p6 kind distinct items from_ where_ order limit table rows cols sets where2 hsz
 generalize bA (Stmt.mk kind (Query.mk distinct items from_ where_ order limit) table rows cols sets where2)=l at *
 have hd:∀x∈l,Cl Tryz.prog 126 [.ag (an x.row)] [] fun r _=>r=vi (jI x:Nat):=fun x hx=>(gp x).1 (Nat.le_trans (hm x hx) hsz)
 have hsl:(l.map jI).sum≤2097152:=by
  have:=jJ (l:=l) (f:=jI) (g:=fun x=>av x+1) fun x _=>(gp x).2
  omega
 rw[Stmt.row_mk,Query.row_mk] at hc ⊢
 simp only[lc] at hc ⊢
 refine ab aa false Tryz.func138 rfl (by kernel_rfl) ?_
 simp only[Tryz.f138,tt,seval]
 refine cZ (hc) (by decide) ?_ ?_<;>simp only[tt,seval]
 refine cZ (lL l jI hd (by omega) hsl) (by decide) ?_ ?_<;>simp only[tt,seval]
 exact⟨_,_,rfl,ac rfl⟩
def oC:Query→Bool | .mk distinct items from_ where_ order limit=>decide (distinct=false)&&(decide (limit=0)&&(decide (items.length=0)&&(decide (from_.length=0)&&(decide (where_.length=0)&&decide (order.length=0)))))
theorem E6 (l:List Item) (fg:FuncId):Cl Tryz.prog 208 [.c (.sl l.length (l.flatMap Item.row) none),.c (.sl 0 [] none),.c (.fn fg [] [])] [] fun r _=>r=vb (decide (l.length=0)):=by
 refine ab aa false Tryz.func208 rfl (by kernel_rfl) ?_
 simp only[Tryz.f208,tt,seval]
 refine fun _=>?_
 by_cases h:l.length=0
 case neg=>
  simp only[tt,seval,decide_eq_false (show ¬(l.length:Int)=0 by omega)]
  exact⟨_,_,aE (decide_eq_false h).symm,ac rfl⟩
 have hs:l=[]:=List.eq_nil_of_length_eq_zero h
 subst hs
 simp only[tt,seval,List.length_nil]
 refine dLoop.intro (fun f L p=>f 17=vi 0∧L=[]∧p=none) (fun _ _ _=>0) [] none ⟨SubO.nil _,PoSub.none _,?_⟩ ?_
 ·simp only[tt,seval]
 ·rintro g L p ⟨h5',rfl,rfl⟩
  simp only[tt,seval] at h5'
  simp only[tt,seval,h5',List.length_nil]
  try refine fun _=>?_
  exact⟨_,_,rfl,ac rfl⟩
theorem E7 (l:List Source) (fg:FuncId):Cl Tryz.prog 209 [.c (.sl l.length (l.flatMap Source.row) none),.c (.sl 0 [] none),.c (.fn fg [] [])] [] fun r _=>r=vb (decide (l.length=0)):=by
 refine ab aa false Tryz.func209 rfl (by kernel_rfl) ?_
 simp only[Tryz.f209,tt,seval]
 refine fun _=>?_
 by_cases h:l.length=0
 case neg=>
  simp only[tt,seval,decide_eq_false (show ¬(l.length:Int)=0 by omega)]
  exact⟨_,_,aE (decide_eq_false h).symm,ac rfl⟩
 have hs:l=[]:=List.eq_nil_of_length_eq_zero h
 subst hs
 simp only[tt,seval,List.length_nil]
 refine dLoop.intro (fun f L p=>f 17=vi 0∧L=[]∧p=none) (fun _ _ _=>0) [] none ⟨SubO.nil _,PoSub.none _,?_⟩ ?_
 ·simp only[tt,seval]
 ·rintro g L p ⟨h5',rfl,rfl⟩
  simp only[tt,seval] at h5'
  simp only[tt,seval,h5',List.length_nil]
  try refine fun _=>?_
  exact⟨_,_,rfl,ac rfl⟩
theorem E8 (l:List SortKey) (fg:FuncId):Cl Tryz.prog 210 [.c (.sl l.length (l.flatMap SortKey.row) none),.c (.sl 0 [] none),.c (.fn fg [] [])] [] fun r _=>r=vb (decide (l.length=0)):=by
 refine ab aa false Tryz.func210 rfl (by kernel_rfl) ?_
 simp only[Tryz.f210,tt,seval]
 refine fun _=>?_
 by_cases h:l.length=0
 case neg=>
  simp only[tt,seval,decide_eq_false (show ¬(l.length:Int)=0 by omega)]
  exact⟨_,_,aE (decide_eq_false h).symm,ac rfl⟩
 have hs:l=[]:=List.eq_nil_of_length_eq_zero h
 subst hs
 simp only[tt,seval,List.length_nil]
 refine dLoop.intro (fun f L p=>f 17=vi 0∧L=[]∧p=none) (fun _ _ _=>0) [] none ⟨SubO.nil _,PoSub.none _,?_⟩ ?_
 ·simp only[tt,seval]
 ·rintro g L p ⟨h5',rfl,rfl⟩
  simp only[tt,seval] at h5'
  simp only[tt,seval,h5',List.length_nil]
  try refine fun _=>?_
  exact⟨_,_,rfl,ac rfl⟩
theorem zU (distinct:Bool) (items:List Item) (from_:List Source) (where_:List Expr) (order:List SortKey) (limit:Int):Cl Tryz.prog 139 [.ag (an (Query.mk distinct items from_ where_ order limit).row),.ag (an (Query.mk false [] [] [] [] 0).row)] [] fun r _=>r=vb (oC (Query.mk distinct items from_ where_ order limit)):=by
 obtain⟨zb,hzb⟩:∃zb,zb=oC (Query.mk distinct items from_ where_ order limit):=⟨_,rfl⟩
 rw[←hzb,Query.row_mk,Query.row_mk]
 refine ab aa false Tryz.func139 rfl (by kernel_rfl) ?_
 simp only[Tryz.f139,tt,seval]
 cases hd:distinct
 case' true=>
  subst hd
  try simp only[tt,seval,aL]
  exact⟨_,_,aE (by rw[hzb];simp [oC]),ac rfl⟩
 try simp only[tt,seval,aL]
 by_cases h1:limit=0
 case neg=>
  try simp only[tt,seval,decide_eq_false h1]
  exact⟨_,_,aE (by rw[hzb];simp [oC,hd,h1]),ac rfl⟩
 try simp only[tt,seval,h1,decide_eq_true h1]
 refine cZ (E6 items 203) (by decide) ?_ ?_<;>simp only[tt,seval,Query.row_mk]
 by_cases h2:items.length=0
 case neg=>
  try simp only[tt,seval,decide_eq_false h2]
  exact⟨_,_,aE (by rw[hzb];simp [oC,hd,h1,h2]),ac rfl⟩
 try simp only[tt,seval,decide_eq_true h2]
 refine cZ (E7 from_ 205) (by decide) ?_ ?_<;>simp only[tt,seval,Query.row_mk]
 by_cases h3:from_.length=0
 case neg=>
  try simp only[tt,seval,decide_eq_false h3]
  exact⟨_,_,aE (by rw[hzb];simp [oC,hd,h1,h2,h3]),ac rfl⟩
 try simp only[tt,seval,decide_eq_true h3]
 refine cZ (ol where_) (by decide) ?_ ?_<;>simp only[tt,seval,Query.row_mk]
 by_cases h4:where_.length=0
 case neg=>
  try simp only[tt,seval,decide_eq_false h4]
  exact⟨_,_,aE (by rw[hzb];simp [oC,hd,h1,h2,h3,h4]),ac rfl⟩
 try simp only[tt,seval,decide_eq_true h4]
 refine cZ (E8 order 207) (by decide) ?_ ?_<;>simp only[tt,seval,Query.row_mk]
 exact⟨_,_,aE (by rw[hzb];simp [oC,hd,h1,h2,h3,h4]),ac rfl⟩
theorem BN (distinct:Bool) (items:List Item) (from_:List Source) (where_:List Expr) (order:List SortKey) (limit:Int):Cl Tryz.prog 200 [.ag (an (Query.mk distinct items from_ where_ order limit).row),.ag (an (Query.mk false [] [] [] [] 0).row)] [] fun r _=>r=vb (oC (Query.mk distinct items from_ where_ order limit)):=by
 obtain⟨zb,hzb⟩:∃zb,zb=oC (Query.mk distinct items from_ where_ order limit):=⟨_,rfl⟩
 rw[←hzb,Query.row_mk,Query.row_mk]
 refine ab aa false Tryz.func200 rfl (by kernel_rfl) ?_
 simp only[Tryz.f200,tt,seval]
 cases hd:distinct
 case' true=>
  subst hd
  try simp only[tt,seval,aL]
  exact⟨_,_,aE (by rw[hzb];simp [oC]),ac rfl⟩
 try simp only[tt,seval,aL]
 by_cases h1:limit=0
 case neg=>
  try simp only[tt,seval,h1,decide_eq_false h1]
  exact⟨_,_,aE (by rw[hzb];simp [oC,hd,h1]),ac rfl⟩
 try simp only[tt,seval,h1,decide_eq_true h1]
 refine fun _=>?_
 by_cases h2:items.length=0
 case neg=>
  try simp only[tt,seval,decide_eq_false (show ¬(items.length:Int)=0 by omega)]
  exact⟨_,_,aE (by rw[hzb];simp [oC,hd,h1,h2]),ac rfl⟩
 try simp only[tt,seval,show (items.length:Int)=0 from by omega]
 refine fun _=>?_
 by_cases h3:from_.length=0
 case neg=>
  try simp only[tt,seval,decide_eq_false (show ¬(from_.length:Int)=0 by omega)]
  exact⟨_,_,aE (by rw[hzb];simp [oC,hd,h1,h2,h3]),ac rfl⟩
 try simp only[tt,seval,show (from_.length:Int)=0 from by omega]
 refine fun _=>?_
 by_cases h5:order.length=0
 case neg=>
  try simp only[tt,seval,decide_eq_false (show ¬(order.length:Int)=0 by omega)]
  exact⟨_,_,aE (by rw[hzb];simp [oC,hd,h1,h2,h3,h5]),ac rfl⟩
 try simp only[tt,seval,show (order.length:Int)=0 from by omega]
 refine cZ (sI where_) (by decide) ?_ ?_<;>simp only[tt,seval,Query.row_mk]
 by_cases h4:where_.length=0
 case neg=>
  try simp only[tt,seval,decide_eq_false h4,h4]
  exact⟨_,_,aE (by rw[hzb];simp [oC,hd,h1,h2,h3,h5,h4]),ac rfl⟩
 try simp only[tt,seval,decide_eq_true h4]
 subst h1
 refine dLoop.intro (fun f L p=>f 5=vi 0∧L=[(2,.str [.v (.bool false),.sl items.length (items.flatMap Item.row) none,.sl from_.length (from_.flatMap Source.row) none,.sl where_.length (where_.flatMap Expr.row) none,.sl order.length (order.flatMap SortKey.row) none,.v (.int .i64 0)]),(3,.str [.v (.bool false),.sl 0 [] none,.sl 0 [] none,.sl 0 [] none,.sl 0 [] none,.v (.int .i64 0)])]∧p=none) (fun _ _ _=>0) [(2,.str [.v (.bool false),.sl items.length (items.flatMap Item.row) none,.sl from_.length (from_.flatMap Source.row) none,.sl where_.length (where_.flatMap Expr.row) none,.sl order.length (order.flatMap SortKey.row) none,.v (.int .i64 0)]),(3,.str [.v (.bool false),.sl 0 [] none,.sl 0 [] none,.sl 0 [] none,.sl 0 [] none,.v (.int .i64 0)])] none ⟨SubO.cons rfl (SubO.cons rfl (SubO.nil _)),PoSub.none _,?_⟩ ?_
 ·try simp only[tt,seval]
  try exact⟨rfl,rfl,rfl⟩
 ·rintro g1 L p ⟨h5',rfl,rfl⟩
  simp only[tt,seval] at h5'
  simp only[tt,seval,h5']
  refine fun _=>And.intro (fun hlt=>absurd hlt (by omega)) (fun _=>?_)
  try simp only[tt,seval,h5']
  refine dLoop.intro (fun f L p=>f 8=vi 0∧L=[(2,.str [.v (.bool false),.sl items.length (items.flatMap Item.row) none,.sl from_.length (from_.flatMap Source.row) none,.sl where_.length (where_.flatMap Expr.row) none,.sl order.length (order.flatMap SortKey.row) none,.v (.int .i64 0)]),(3,.str [.v (.bool false),.sl 0 [] none,.sl 0 [] none,.sl 0 [] none,.sl 0 [] none,.v (.int .i64 0)])]∧p=none) (fun _ _ _=>0) [(2,.str [.v (.bool false),.sl items.length (items.flatMap Item.row) none,.sl from_.length (from_.flatMap Source.row) none,.sl where_.length (where_.flatMap Expr.row) none,.sl order.length (order.flatMap SortKey.row) none,.v (.int .i64 0)]),(3,.str [.v (.bool false),.sl 0 [] none,.sl 0 [] none,.sl 0 [] none,.sl 0 [] none,.v (.int .i64 0)])] none ⟨SubO.cons rfl (SubO.cons rfl (SubO.nil _)),PoSub.none _,?_⟩ ?_
  ·try simp only[tt,seval]
   try exact⟨rfl,rfl,rfl⟩
  ·rintro g2 L p ⟨h8',rfl,rfl⟩
   simp only[tt,seval] at h8'
   simp only[tt,seval,h8']
   refine fun _=>And.intro (fun hlt=>absurd hlt (by omega)) (fun _=>?_)
   try simp only[tt,seval,h8']
   refine dLoop.intro (fun f L p=>f 11=vi 0∧L=[(2,.str [.v (.bool false),.sl items.length (items.flatMap Item.row) none,.sl from_.length (from_.flatMap Source.row) none,.sl where_.length (where_.flatMap Expr.row) none,.sl order.length (order.flatMap SortKey.row) none,.v (.int .i64 0)]),(3,.str [.v (.bool false),.sl 0 [] none,.sl 0 [] none,.sl 0 [] none,.sl 0 [] none,.v (.int .i64 0)])]∧p=none) (fun _ _ _=>0) [(2,.str [.v (.bool false),.sl items.length (items.flatMap Item.row) none,.sl from_.length (from_.flatMap Source.row) none,.sl where_.length (where_.flatMap Expr.row) none,.sl order.length (order.flatMap SortKey.row) none,.v (.int .i64 0)]),(3,.str [.v (.bool false),.sl 0 [] none,.sl 0 [] none,.sl 0 [] none,.sl 0 [] none,.v (.int .i64 0)])] none ⟨SubO.cons rfl (SubO.cons rfl (SubO.nil _)),PoSub.none _,?_⟩ ?_
   ·try simp only[tt,seval]
    try exact⟨rfl,rfl,rfl⟩
   ·rintro g3 L p ⟨h11',rfl,rfl⟩
    simp only[tt,seval] at h11'
    simp only[tt,seval,h11']
    refine fun _=>And.intro (fun hlt=>absurd hlt (by omega)) (fun _=>?_)
    try simp only[tt,seval,h11']
    exact⟨_,_,aE (by rw[hzb];simp [oC,hd,h2,h3,h5,h4]),ac rfl⟩
noncomputable def Da (s:Stmt):Bool:=decide (bX ((bA s).map nh)≤24)&&decide (((bA s).map jI).sum≤200)
def A5 (x:ERow):Bool:=decide (1≤x.l.length∧x.l.length≤12)
def fV (f:Bool) (kind:Int) (rows:List ERow) (cols:List ByteArray) (sets where2:List Expr):Bool:=
 if kind=2 then decide (cols.length=0)&&(decide (sets.length=0)&&(decide (where2.length=0)&&(decide (1≤rows.length)&&(decide (rows.length≤5)&&rows.all A5))))
 else if kind=3 then decide (rows.length=0)&&(decide (1≤cols.length)&&(decide (cols.length≤12)&&(decide (sets.length=cols.length)&&(decide (where2.length≤1)&&cols.all aD))))
 else if kind=4 then decide (rows.length=0)&&(decide (cols.length=0)&&(decide (sets.length=0)&&decide (where2.length≤1))) else false
noncomputable def A6 (s:Stmt):Bool:=match s with
 |.mk kind q table rows cols sets where2=>if kind=1 then decide (table=⟨#[]⟩)&&(decide (rows.length=0)&&(decide (cols.length=0)&&(decide (sets.length=0)&&(decide (where2.length=0)&&gP fmE q))))
  else oC q&&(aD table&&((bA s).all fmE&&fV true kind rows cols sets where2))
noncomputable def fI (s:Stmt):Bool:=Da s&&A6 s
theorem EC (x:ERow) (hl:x.l.length≤1048576):Cl Tryz.prog 144 [.c (.sl x.l.length (x.l.flatMap Expr.row) none)] [] fun r _=>r=vb (!A5 x):=by
 refine ab aa false Tryz.func144 rfl (by kernel_rfl) ?_
 simp only[Tryz.f144,tt,seval]
 refine fun _=>?_
 by_cases h1:(x.l.length:Int)<1
 ·simp only[tt,seval,decide_eq_true h1]
  exact⟨_,_,aE (by unfold A5;rw[decide_eq_false (by omega)];rfl),ac rfl⟩
 ·simp only[tt,seval,decide_eq_false h1]
  refine fun _=>?_
  by_cases h2:(12:Int)<x.l.length
  ·try simp only[tt,seval,decide_eq_true h2]
   exact⟨_,_,aE (by unfold A5;rw[decide_eq_false (by omega)];simp [h2]),ac rfl⟩
  ·try simp only[tt,seval,decide_eq_false h2]
   exact⟨_,_,aE (by unfold A5;rw[decide_eq_true (by omega)];simp [h2]),ac rfl⟩
theorem ED (s:ByteArray):Cl Tryz.prog 146 [vs s] [] fun r _=>r=vb (!aD s):=by
 refine ab aa false Tryz.func146 rfl (by kernel_rfl) ?_
 simp only[Tryz.f146,tt,seval]
 refine cZ (gy s) (by decide) ?_ ?_<;>simp only[tt,seval]
 exact⟨_,_,rfl,ac rfl⟩
theorem BO (l:List ERow) (g:ERow→Bool) (h:∀x∈l,Cl Tryz.prog 144 [.c (.sl x.l.length (x.l.flatMap Expr.row) none)] [] fun r _=>r=vb (!g x)):Cl Tryz.prog 213 [.c (.sl l.length (l.flatMap ERow.row) none),.c (.fn 144 [] [])] [] fun r _=>∃n:Int,r=vi n∧decide (0≤n) = !(l.all g):=by
 refine ab aa false Tryz.func213 rfl (by kernel_rfl) ?_
 simp only[Tryz.f213,tt,seval]
 refine fun _=>?_
 refine dLoop.intro (fun f L p=>∃i:Nat,f 8=vi i∧i≤l.length∧(∀j (hj:j<l.length),j<i→g l[j]=true)∧L=[]∧p=none) (fun f _ _=>(l.length-bn (f 8)).toNat) [] none ⟨SubO.nil _,PoSub.none _,?_⟩ ?_
 ·simp only[tt,seval]
  exact⟨0,rfl,by omega,fun j _ h=>absurd h (Nat.not_lt_zero _)⟩
 ·rintro g' L p ⟨i,hix,hi,hall,rfl,rfl⟩
  simp only[tt,seval] at hix
  simp only[tt,seval,hix,Int.ofNat_lt]
  refine And.intro (fun hlt=>?_) (fun hge=>?_)
  ·refine⟨by omega,by omega,_,ax ERow.row_len (List.getElem?_eq_getElem hlt),ERow.ne _ _,?_⟩
   simp only[tt,seval,hix,ERow.tk,ERow.row_len,mz]
   refine cZ (h l[i] (List.getElem_mem hlt)) (by decide) ?_ ?_<;>simp only[tt,seval,hix]
   refine And.intro (fun hb=>?_) (fun hb=>?_)
   ·have hb:g l[i]=false:=by simpa only[Bool.not_eq_true'] using hb
    refine⟨vi i,[],⟨i,rfl,?_⟩,ac rfl⟩
    rw[decide_eq_true (by omega),eC (List.getElem_mem hlt) hb];rfl
   ·have hb:g l[i]=true:=by simpa only[Bool.not_eq_false'] using hb
    try rw[eE i (by omega)]
    exact⟨_,none,SubO.nil _,PoSub.none _,⟨i+1,rfl,by omega,fun j hj hji=>by
     by_cases e:j=i
     ·subst e;exact hb
     ·exact hall j hj (by omega),rfl,rfl⟩,by simp only[bn];omega⟩
  ·refine⟨vi (-1),[],⟨-1,rfl,?_⟩,ac rfl⟩
   rw[fH fun j hj=>hall j hj (by omega)];rfl
theorem vW (l:List ERow) (g:ERow→Bool) (h:∀x∈l,Cl Tryz.prog 144 [.c (.sl x.l.length (x.l.flatMap Expr.row) none)] [] fun r _=>r=vb (!g x)):Cl Tryz.prog 143 [.c (.sl l.length (l.flatMap ERow.row) none),.c (.fn 144 [] [])] [] fun r _=>r=vb (!(l.all g)):=by
 refine ab aa false Tryz.func143 rfl (by kernel_rfl) ?_
 simp only[Tryz.f143,tt,seval]
 refine fc (BO l g h) ?_ ?_ ?_
 ·decide
 ·simp only[tt,seval]
 rintro r ⟨n,rfl,hn⟩
 simp only[tt,seval]
 exact⟨_,_,aE hn,ac rfl⟩
theorem BP (l:List ByteArray) (g:ByteArray→Bool) (h:∀x∈l,Cl Tryz.prog 146 [vs x] [] fun r _=>r=vb (!g x)):Cl Tryz.prog 214 [.c (.sl l.length (l.flatMap srow) none),.c (.fn 146 [] [])] [] fun r _=>∃n:Int,r=vi n∧decide (0≤n) = !(l.all g):=by
 refine ab aa false Tryz.func214 rfl (by kernel_rfl) ?_
 simp only[Tryz.f214,tt,seval]
 refine fun _=>?_
 refine dLoop.intro (fun f L p=>∃i:Nat,f 8=vi i∧i≤l.length∧(∀j (hj:j<l.length),j<i→g l[j]=true)∧L=[]∧p=none) (fun f _ _=>(l.length-bn (f 8)).toNat) [] none ⟨SubO.nil _,PoSub.none _,?_⟩ ?_
 ·simp only[tt,seval]
  exact⟨0,rfl,by omega,fun j _ h=>absurd h (Nat.not_lt_zero _)⟩
 ·rintro g' L p ⟨i,hix,hi,hall,rfl,rfl⟩
  simp only[tt,seval] at hix
  simp only[tt,seval,hix,Int.ofNat_lt]
  refine And.intro (fun hlt=>?_) (fun hge=>?_)
  ·refine⟨by omega,by omega,_,ax dB (List.getElem?_eq_getElem hlt),jc _ _,?_⟩
   simp only[tt,seval,hix,gO,srow]
   refine cZ (h l[i] (List.getElem_mem hlt)) (by decide) ?_ ?_<;>simp only[tt,seval,hix]
   refine And.intro (fun hb=>?_) (fun hb=>?_)
   ·have hb:g l[i]=false:=by simpa only[Bool.not_eq_true'] using hb
    refine⟨vi i,[],⟨i,rfl,?_⟩,ac rfl⟩
    rw[decide_eq_true (by omega),eC (List.getElem_mem hlt) hb];rfl
   ·have hb:g l[i]=true:=by simpa only[Bool.not_eq_false'] using hb
    try rw[eE i (by omega)]
    exact⟨_,none,SubO.nil _,PoSub.none _,⟨i+1,rfl,by omega,fun j hj hji=>by
     by_cases e:j=i
     ·subst e;exact hb
     ·exact hall j hj (by omega),rfl,rfl⟩,by simp only[bn];omega⟩
  ·refine⟨vi (-1),[],⟨-1,rfl,?_⟩,ac rfl⟩
   rw[fH fun j hj=>hall j hj (by omega)];rfl
theorem Db (l:List ByteArray) (g:ByteArray→Bool) (h:∀x∈l,Cl Tryz.prog 146 [vs x] [] fun r _=>r=vb (!g x)):Cl Tryz.prog 145 [.c (.sl l.length (l.flatMap srow) none),.c (.fn 146 [] [])] [] fun r _=>r=vb (!(l.all g)):=by
 refine ab aa false Tryz.func145 rfl (by kernel_rfl) ?_
 simp only[Tryz.f145,tt,seval]
 refine fc (BP l g h) ?_ ?_ ?_
 ·decide
 ·simp only[tt,seval]
 rintro r ⟨n,rfl,hn⟩
 simp only[tt,seval]
 exact⟨_,_,aE hn,ac rfl⟩
set_option maxHeartbeats 2000000 in
theorem zW (s:Stmt) (hsz:eL s≤1048576):Cl Tryz.prog 83 [.ag (an s.row)] [] fun r _=>r=vb (fI s):=by
 have cd:=ua s hsz
 have cs:=vV s hsz
 have hex:=fun x hx=>gI (s:=s) (x:=x) hx
 obtain⟨zb,hzb⟩:∃zb,zb=fI s:=⟨_,rfl⟩
 rw[←hzb]
 have hsmd:Da s=(decide (bX ((bA s).map nh)≤24)&&decide (((bA s).map jI).sum≤200)):=rfl
 generalize bX ((bA s).map nh)=dp at *
 generalize ((bA s).map jI).sum=nn at *
 obtain⟨kind,⟨distinct,items,from_,where_,order,limit⟩,table,rows,cols,sets,where2⟩:=s
 have ce:=p6 kind distinct items from_ where_ order limit table rows cols sets where2 hsz
 have hss:=hsz
 rw[gA] at hss
 have hqs:aW (Query.mk distinct items from_ where_ order limit)≤1048576:=by omega
 have hrn:=oo rows
 have hr9:(rows.length≤9223372036854775807)=True:=eq_true (by omega)
 have hc9:(cols.length≤9223372036854775807)=True:=eq_true (by unfold jh at hss;omega)
 have hs9:(sets.length≤9223372036854775807)=True:=eq_true (by rw[aC,aC] at hss;omega)
 have hw9:(where2.length≤9223372036854775807)=True:=eq_true (by rw[aC,aC] at hss;omega)
 have cq:=ie (Query.mk distinct items from_ where_ order limit) fmE (fun x hx=>kK x (Nat.le_trans (iD hx) hqs)) hqs
 have ca:=dc (bA (Stmt.mk kind (Query.mk distinct items from_ where_ order limit) table rows cols sets where2)) fmE (fun x hx=>kK x (Nat.le_trans (hex x hx) hsz))
 have cz:=zU distinct items from_ where_ order limit
 have cr:=vW rows A5 (fun x hx=>EC x (by have:=dD hZ hx;rw[jP,aC] at this;rw[gz] at hss;omega))
 have ct:=Db cols aD (fun x _=>ED x)
 rw[Query.row_mk] at cq cz
 rw[Stmt.row_mk,Query.row_mk] at cd cs ce ⊢
 simp only[lc] at cd cs ce ⊢
 refine ab aa false Tryz.func83 rfl (by kernel_rfl) ?_
 simp only[Tryz.f83,tt,seval]
 refine dDrawn.intro [] (gG [0,4,3,7,9,10]) (by kernel_rfl) ?_
 simp only[tt,seval]
 refine cZ (cd) (by decide) ?_ ?_<;>simp only[tt,seval]
 refine cZ (cs) (by decide) ?_ ?_<;>simp only[tt,seval]
 refine cZ (p5 dp nn) (by decide) ?_ ?_<;>simp only[tt,seval]
 rw[←hsmd]
 cases hsm:Da (Stmt.mk kind (Query.mk distinct items from_ where_ order limit) table rows cols sets where2)
 case false=>
  simp only[tt,seval,hsm]
  exact⟨_,_,aE (by rw[hzb];simp [fI,hsm]),ac rfl⟩
 simp only[tt,seval,hsm]
 refine And.intro (fun k1=>?_) (fun k1=>?_)
 ·try simp only[tt,seval]
  by_cases ht:table=⟨#[]⟩
  case neg=>
   try simp only[tt,seval,decide_eq_false ht,hr9,hc9,hs9,hw9]
   exact⟨_,_,aE (by rw[hzb,fI,hsm,Bool.true_and];simp [A6,k1,ht];try omega),ac rfl⟩
  try simp only[tt,seval,decide_eq_true ht,hr9,hc9,hs9,hw9]
  by_cases h1:rows.length=0
  case neg=>
   try simp only[tt,seval,decide_eq_false (show ¬(rows.length:Int)=0 by omega),hr9,hc9,hs9,hw9]
   exact⟨_,_,aE (by rw[hzb,fI,hsm,Bool.true_and];simp [A6,k1,ht,h1];try omega),ac rfl⟩
  try simp only[tt,seval,decide_eq_true (show (rows.length:Int)=0 by omega),hr9,hc9,hs9,hw9]
  by_cases h2:cols.length=0
  case neg=>
   try simp only[tt,seval,decide_eq_false (show ¬(cols.length:Int)=0 by omega),hr9,hc9,hs9,hw9]
   exact⟨_,_,aE (by rw[hzb,fI,hsm,Bool.true_and];simp [A6,k1,ht,h1,h2];try omega),ac rfl⟩
  try simp only[tt,seval,decide_eq_true (show (cols.length:Int)=0 by omega),hr9,hc9,hs9,hw9]
  by_cases h3:sets.length=0
  case neg=>
   try simp only[tt,seval,decide_eq_false (show ¬(sets.length:Int)=0 by omega),hr9,hc9,hs9,hw9]
   exact⟨_,_,aE (by rw[hzb,fI,hsm,Bool.true_and];simp [A6,k1,ht,h1,h2,h3];try omega),ac rfl⟩
  try simp only[tt,seval,decide_eq_true (show (sets.length:Int)=0 by omega),hr9,hc9,hs9,hw9]
  by_cases h4:where2.length=0
  case neg=>
   try simp only[tt,seval,decide_eq_false (show ¬(where2.length:Int)=0 by omega),hr9,hc9,hs9,hw9]
   exact⟨_,_,aE (by rw[hzb,fI,hsm,Bool.true_and];simp [A6,k1,ht,h1,h2,h3,h4];try omega),ac rfl⟩
  try simp only[tt,seval,decide_eq_true (show (where2.length:Int)=0 by omega),hr9,hc9,hs9,hw9]
  refine cZ (cq) (by decide) ?_ ?_<;>simp only[tt,seval,Query.row_mk,hr9,hc9,hs9,hw9]
  exact⟨_,_,aE (by rw[hzb,fI,hsm,Bool.true_and];simp [A6,k1,ht,h1,h2,h3,h4];try omega),ac rfl⟩
 try simp only[tt,seval]
 refine cZ (cz) (by decide) ?_ ?_<;>simp only[tt,seval,Query.row_mk,hr9,hc9,hs9,hw9]
 cases hz:oC (Query.mk distinct items from_ where_ order limit)
 case false=>
  simp only[tt,seval,hz,hr9,hc9,hs9,hw9]
  exact⟨_,_,aE (by rw[hzb,fI,hsm,Bool.true_and];simp [A6,k1,hz];try omega),ac rfl⟩
 simp only[tt,seval,hz,hr9,hc9,hs9,hw9]
 refine cZ (gy table) (by decide) ?_ ?_<;>simp only[tt,seval,hr9,hc9,hs9,hw9]
 cases hn:decide (1≤table.size∧table.size≤20)
 case false=>
  simp only[tt,seval,hn,hr9,hc9,hs9,hw9]
  exact⟨_,_,aE (by rw[hzb,fI,hsm,Bool.true_and];simp [A6,k1,hz,hn,aD];try omega),ac rfl⟩
 simp only[tt,seval,hn,hr9,hc9,hs9,hw9]
 refine cZ (ce) (by decide) ?_ ?_<;>simp only[tt,seval,hr9,hc9,hs9,hw9]
 refine cZ (ca) (by decide) ?_ ?_<;>simp only[tt,seval,hr9,hc9,hs9,hw9]
 cases hf:(bA (Stmt.mk kind (Query.mk distinct items from_ where_ order limit) table rows cols sets where2)).all fmE
 case false=>
  simp only[tt,seval,hf,hr9,hc9,hs9,hw9]
  exact⟨_,_,aE (by rw[hzb,fI,hsm,A6,if_neg k1,hz,hf,Bool.false_and,Bool.and_false];rfl),ac rfl⟩
 simp only[tt,seval,hf,hr9,hc9,hs9,hw9]
 have hzb:zb=fV true kind rows cols sets where2:=by rw[hzb,fI,hsm,A6,if_neg k1,hz,hf,aD,hn];rfl
 refine And.intro (fun k2=>?_) (fun k2=>?_)
 ·try simp only[tt,seval,hr9,hc9,hs9,hw9]
  by_cases h2:cols.length=0
  case neg=>
   try simp only[tt,seval,decide_eq_false (show ¬(cols.length:Int)=0 by omega),hr9,hc9,hs9,hw9]
   exact⟨_,_,aE (by rw[hzb];simp [fV,k2,h2];try omega),ac rfl⟩
  try simp only[tt,seval,decide_eq_true (show (cols.length:Int)=0 by omega),hr9,hc9,hs9,hw9]
  by_cases h3:sets.length=0
  case neg=>
   try simp only[tt,seval,decide_eq_false (show ¬(sets.length:Int)=0 by omega),hr9,hc9,hs9,hw9]
   exact⟨_,_,aE (by rw[hzb];simp [fV,k2,h2,h3];try omega),ac rfl⟩
  try simp only[tt,seval,decide_eq_true (show (sets.length:Int)=0 by omega),hr9,hc9,hs9,hw9]
  by_cases h4:where2.length=0
  case neg=>
   try simp only[tt,seval,decide_eq_false (show ¬(where2.length:Int)=0 by omega),hr9,hc9,hs9,hw9]
   exact⟨_,_,aE (by rw[hzb];simp [fV,k2,h2,h3,h4];try omega),ac rfl⟩
  try simp only[tt,seval,decide_eq_true (show (where2.length:Int)=0 by omega),hr9,hc9,hs9,hw9]
  by_cases h5:1≤rows.length
  case neg=>
   try simp only[tt,seval,decide_eq_false (show ¬(1:Int)≤rows.length by omega),hr9,hc9,hs9,hw9]
   exact⟨_,_,aE (by rw[hzb];simp [fV,k2,h2,h3,h4,h5];try omega),ac rfl⟩
  try simp only[tt,seval,decide_eq_true (show (1:Int)≤rows.length by omega),hr9,hc9,hs9,hw9]
  by_cases h6:rows.length≤5
  case neg=>
   try simp only[tt,seval,decide_eq_false (show ¬(rows.length:Int)≤5 by omega),hr9,hc9,hs9,hw9]
   exact⟨_,_,aE (by rw[hzb];simp [fV,k2,h2,h3,h4,h5,h6];try omega),ac rfl⟩
  try simp only[tt,seval,decide_eq_true (show (rows.length:Int)≤5 by omega),hr9,hc9,hs9,hw9]
  refine cZ (cr) (by decide) ?_ ?_<;>simp only[tt,seval,hr9,hc9,hs9,hw9]
  exact⟨_,_,aE (by rw[hzb];simp [fV,k2,h2,h3,h4,h5,h6];try omega),ac rfl⟩
 try simp only[tt,seval,hr9,hc9,hs9,hw9]
 refine And.intro (fun k3=>?_) (fun k3=>?_)
 ·try simp only[tt,seval,hr9,hc9,hs9,hw9]
  by_cases h1:rows.length=0
  case neg=>
   try simp only[tt,seval,decide_eq_false (show ¬(rows.length:Int)=0 by omega),hr9,hc9,hs9,hw9]
   exact⟨_,_,aE (by rw[hzb];simp [fV,k2,k3,h1];try omega),ac rfl⟩
  try simp only[tt,seval,decide_eq_true (show (rows.length:Int)=0 by omega),hr9,hc9,hs9,hw9]
  by_cases h2:1≤cols.length
  case neg=>
   try simp only[tt,seval,decide_eq_false (show ¬(1:Int)≤cols.length by omega),hr9,hc9,hs9,hw9]
   exact⟨_,_,aE (by rw[hzb];simp [fV,k2,k3,h1,h2];try omega),ac rfl⟩
  try simp only[tt,seval,decide_eq_true (show (1:Int)≤cols.length by omega),hr9,hc9,hs9,hw9]
  by_cases h3:cols.length≤12
  case neg=>
   try simp only[tt,seval,decide_eq_false (show ¬(cols.length:Int)≤12 by omega),hr9,hc9,hs9,hw9]
   exact⟨_,_,aE (by rw[hzb];simp [fV,k2,k3,h1,h2,h3];try omega),ac rfl⟩
  try simp only[tt,seval,decide_eq_true (show (cols.length:Int)≤12 by omega),hr9,hc9,hs9,hw9]
  by_cases h4:sets.length=cols.length
  case neg=>
   try simp only[tt,seval,decide_eq_false (show ¬(sets.length:Int)=cols.length by omega),hr9,hc9,hs9,hw9]
   exact⟨_,_,aE (by rw[hzb];simp [fV,k2,k3,h1,h2,h3,h4];try omega),ac rfl⟩
  try simp only[tt,seval,decide_eq_true (show (sets.length:Int)=cols.length by omega),hr9,hc9,hs9,hw9]
  by_cases h5:where2.length≤1
  case neg=>
   try simp only[tt,seval,decide_eq_false (show ¬(where2.length:Int)≤1 by omega),hr9,hc9,hs9,hw9]
   exact⟨_,_,aE (by rw[hzb];simp [fV,k2,k3,h1,h2,h3,h4,h5];try omega),ac rfl⟩
  try simp only[tt,seval,decide_eq_true (show (where2.length:Int)≤1 by omega),hr9,hc9,hs9,hw9]
  refine cZ (ct) (by decide) ?_ ?_<;>simp only[tt,seval,hr9,hc9,hs9,hw9]
  exact⟨_,_,aE (by rw[hzb];simp [fV,k2,k3,h1,h2,h3,h4,h5];try omega),ac rfl⟩
 try simp only[tt,seval,hr9,hc9,hs9,hw9]
 refine And.intro (fun k4=>?_) (fun k4=>?_)
 ·try simp only[tt,seval,hr9,hc9,hs9,hw9]
  by_cases h1:rows.length=0
  case neg=>
   try simp only[tt,seval,decide_eq_false (show ¬(rows.length:Int)=0 by omega),hr9,hc9,hs9,hw9]
   exact⟨_,_,aE (by rw[hzb];simp [fV,k2,k3,k4,h1];try omega),ac rfl⟩
  try simp only[tt,seval,decide_eq_true (show (rows.length:Int)=0 by omega),hr9,hc9,hs9,hw9]
  by_cases h2:cols.length=0
  case neg=>
   try simp only[tt,seval,decide_eq_false (show ¬(cols.length:Int)=0 by omega),hr9,hc9,hs9,hw9]
   exact⟨_,_,aE (by rw[hzb];simp [fV,k2,k3,k4,h1,h2];try omega),ac rfl⟩
  try simp only[tt,seval,decide_eq_true (show (cols.length:Int)=0 by omega),hr9,hc9,hs9,hw9]
  by_cases h3:sets.length=0
  case neg=>
   try simp only[tt,seval,decide_eq_false (show ¬(sets.length:Int)=0 by omega),hr9,hc9,hs9,hw9]
   exact⟨_,_,aE (by rw[hzb];simp [fV,k2,k3,k4,h1,h2,h3];try omega),ac rfl⟩
  try simp only[tt,seval,decide_eq_true (show (sets.length:Int)=0 by omega),hr9,hc9,hs9,hw9]
  exact⟨_,_,aE (by rw[hzb];simp [fV,k2,k3,k4,h1,h2,h3];try omega),ac rfl⟩
 exact⟨_,_,aE (by rw[hzb];simp [fV,k2,k3,k4];try omega),ac rfl⟩
noncomputable def ja (q:Query):Bool:=gP fmE q&&(decide (bX ((aw q).map nh)≤24)&&decide (((aw q).map jI).sum≤200))
noncomputable def rS (x:ERow):Bool:=A5 x&&x.l.all okE
noncomputable def oq (s:Stmt):Bool:=match s with
 |.mk kind q table rows cols sets where2=>if kind=1 then ja q&&(decide (table=⟨#[]⟩)&&decide (rows.length+cols.length+sets.length+where2.length=0))
  else if kind=2 then rows.all rS&&(oC q&&(aD table&&(decide (1≤rows.length∧rows.length≤5)&&decide (cols.length+sets.length+where2.length=0))))
  else if kind=3 then cols.all aD&&(oC q&&(aD table&&(decide (rows.length=0)&&(decide (1≤cols.length∧cols.length≤12)&&(decide (sets.length=cols.length)&&(decide (where2.length≤1)&&(sets.all okE&&where2.all okE)))))))
  else if kind=4 then oC q&&(aD table&&(decide (rows.length+cols.length+sets.length=0)&&(decide (where2.length≤1)&&where2.all okE))) else false
theorem ub (l:List Expr) (hl:l.length≤1048576) (h:∀x∈l,av x≤1048576):Cl Tryz.prog 201 [.c (.sl l.length (l.flatMap Expr.row) none)] [] fun r _=>r=vb (l.all okE):=by
 obtain⟨zb,hzb⟩:∃zb,zb=l.all okE:=⟨_,rfl⟩
 rw[←hzb]
 refine ab aa false Tryz.func201 rfl (by kernel_rfl) ?_
 simp only[Tryz.f201,tt,seval]
 refine dLoop.intro (fun f L p=>∃i:Nat,f 3=vi i∧i≤l.length∧(∀j (hj:j<l.length),j<i→okE l[j]=true)∧L=[]∧p=none) (fun f _ _=>(l.length-bn (f 3)).toNat) [] none ⟨SubO.nil _,PoSub.none _,?_⟩ ?_
 ·simp only[tt,seval]
  exact⟨0,rfl,by omega,fun j _ h=>absurd h (Nat.not_lt_zero _)⟩
 ·rintro g' L p ⟨i,ix,hi,hal,rfl,rfl⟩
  simp only[tt,seval] at ix
  simp only[tt,seval,ix,Int.ofNat_lt]
  refine fun _=>And.intro (fun hlt=>?_) (fun hge=>?_)
  ·have hlt:i<l.length:=by omega
   refine⟨by omega,by omega,_,ax Expr.row_len (List.getElem?_eq_getElem hlt),Expr.ne _ _,?_⟩
   simp only[tt,seval,ix,Expr.tk,Expr.row_len]
   refine cZ (vT l[i] (h _ (List.getElem_mem hlt))) (by decide) ?_ ?_<;>simp only[tt,seval,ix]
   refine And.intro (fun hb=>?_) (fun hb=>?_)
   ·have hb:okE l[i]=false:=by simpa only[Bool.not_eq_true'] using hb
    exact⟨_,_,aE (by rw[hzb,eC (List.getElem_mem hlt) hb]),ac rfl⟩
   ·have hb:okE l[i]=true:=by simpa only[Bool.not_eq_false'] using hb
    try simp only[tt,seval,ix]
    try rw[eE i (by omega)]
    exact⟨_,none,SubO.nil _,PoSub.none _,⟨i+1,rfl,by omega,fun j hj hji=>by
     by_cases e:j=i
     ·subst e;exact hb
     ·exact hal j hj (by omega),rfl,rfl⟩,by simp only[bn];omega⟩
  ·exact⟨_,_,aE (by rw[hzb,fH fun j hj=>hal j hj (by omega)]),ac rfl⟩
theorem sM (q:Query) (hsz:aW q≤1048576):Cl Tryz.prog 78 [.ag (an q.row)] [] fun r _=>r=vb (ja q):=by
 have hx:∀x∈aw q,av x≤1048576:=fun x hx=>Nat.le_trans (iD hx) hsz
 have hsum:=kJ q
 have hs2:((aw q).map jI).sum≤2097152:=by
  have:=jJ (l:=aw q) (f:=jI) (g:=fun x=>av x+1) fun x _=>(gp x).2
  omega
 have c1:=lM q fmE (fun x h=>sJ x (hx x h)) hsz
 have c2:=vN q nh (fun x h=>(oZ x).1 (hx x h)) hsz
 have c3:=mM q jI (fun x h=>(qT x).1 (hx x h)) hsz hs2
 unfold ja
 generalize bX ((aw q).map nh)=dp at *
 generalize ((aw q).map jI).sum=nn at *
 generalize gP fmE q=fq at *
 obtain⟨distinct,items,from_,where_,order,limit⟩:=q
 rw[Query.row_mk] at c1 c2 c3 ⊢
 refine ab aa false Tryz.func78 rfl (by kernel_rfl) ?_
 simp only[Tryz.f78,tt,seval]
 refine cZ (c1) (by decide) ?_ ?_<;>simp only[tt,seval]
 cases fq
 case false=>
  try simp only[tt,seval]
  exact⟨_,_,rfl,ac rfl⟩
 try simp only[tt,seval]
 refine cZ (c2) (by decide) ?_ ?_<;>simp only[tt,seval]
 by_cases h1:(dp:Int)≤24
 case neg=>
  simp only[tt,seval,decide_eq_false h1]
  exact⟨_,_,aE (by rw[decide_eq_false (show ¬dp≤24 by omega)];rfl),ac rfl⟩
 simp only[tt,seval,decide_eq_true h1]
 refine cZ (c3) (by decide) ?_ ?_<;>simp only[tt,seval]
 exact⟨_,_,aE (by rw[decide_eq_true (show dp≤24 by omega)];exact decide_eq_decide.2 (by omega)),ac rfl⟩
set_option maxHeartbeats 4000000 in
theorem zX (s:Stmt) (hsz:eL s≤1048576):Cl Tryz.prog 134 [.ag (an s.row)] [] fun r _=>r=vb (oq s):=by
 have hex:=fun x hx=>gI (s:=s) (x:=x) hx
 obtain⟨zb,hzb⟩:∃zb,zb=oq s:=⟨_,rfl⟩
 rw[←hzb]
 obtain⟨kind,⟨distinct,items,from_,where_,order,limit⟩,table,rows,cols,sets,where2⟩:=s
 have hss:=hsz
 rw[gA] at hss
 have hqs:aW (Query.mk distinct items from_ where_ order limit)≤1048576:=by omega
 have hrn:=oo rows
 have hcl:cols.length≤1048576:=by unfold jh at hss;omega
 have hsl:sets.length≤1048576:=by rw[aC,aC] at hss;omega
 have hwl:where2.length≤1048576:=by rw[aC,aC] at hss;omega
 have hr9:(rows.length≤9223372036854775807)=True:=eq_true (by omega)
 have hc9:(cols.length≤9223372036854775807)=True:=eq_true (by omega)
 have hs9:(sets.length≤9223372036854775807)=True:=eq_true (by omega)
 have hw9:(where2.length≤9223372036854775807)=True:=eq_true (by omega)
 have w1:=ak (n:=(rows.length:Int)+cols.length) (by omega) (by omega)
 have w2:=ak (n:=(rows.length:Int)+cols.length+sets.length) (by omega) (by omega)
 have w3:=ak (n:=(rows.length:Int)+cols.length+sets.length+where2.length) (by omega) (by omega)
 have w4:=ak (n:=(cols.length:Int)+sets.length) (by omega) (by omega)
 have w5:=ak (n:=(cols.length:Int)+sets.length+where2.length) (by omega) (by omega)
 have cq:=sM (Query.mk distinct items from_ where_ order limit) hqs
 have cz:=BN distinct items from_ where_ order limit
 have cSg:=ub sets hsl fun x hx=>Nat.le_trans (dD av hx) (by rw[aC,aC] at hss;omega)
 have cW:=ub where2 hwl fun x hx=>Nat.le_trans (dD av hx) (by rw[aC,aC] at hss;omega)
 have cR:∀x∈rows,x.l.length≤1048576∧Cl Tryz.prog 201 [.c (.sl x.l.length (x.l.flatMap Expr.row) none)] [] fun r _=>r=vb (x.l.all okE):=fun x hx=>by
  have h1:=dD hZ hx
  rw[jP,aC] at h1
  rw[gz] at hss
  exact⟨by omega,ub x.l (by omega) fun y hy=>Nat.le_trans (dD av hy) (by omega)⟩
 rw[Query.row_mk] at cq cz
 rw[Stmt.row_mk,Query.row_mk]
 simp only[lc]
 refine ab aa false Tryz.func134 rfl (by kernel_rfl) ?_
 simp only[Tryz.f134,tt,seval]
 refine cZ (cz) (by decide) ?_ ?_<;>simp only[tt,seval,Query.row_mk]
 refine cZ (jN table) (by decide) ?_ ?_<;>simp only[tt,seval]
 refine dDrawn.intro [] (gG [0,2,4,6,8,10,12,14,16,18,20,22,24,26,28,30]) (by kernel_rfl) ?_
 simp only[tt,seval]
 try simp only[tt,seval,hr9,hc9,hs9,hw9,w1,w2,w3,w4,w5]
 refine And.intro (fun k1=>?_) (fun k1=>?_)
 ·try simp only[tt,seval,hr9,hc9,hs9,hw9,w1,w2,w3,w4,w5]
  refine cZ (cq) (by decide) ?_ ?_<;>simp only[tt,seval,Query.row_mk,hr9,hc9,hs9,hw9,w1,w2,w3,w4,w5]
  by_cases hq:ja (Query.mk distinct items from_ where_ order limit)=true
  case neg=>
   try simp only[tt,seval,(eq_false_of_ne_true hq),hr9,hc9,hs9,hw9,w1,w2,w3,w4,w5]
   exact⟨_,_,aE (by rw[hzb];simp [oq,k1,hq];try omega),ac rfl⟩
  try simp only[tt,seval,hq,hr9,hc9,hs9,hw9,w1,w2,w3,w4,w5]
  by_cases ht:table=⟨#[]⟩
  case neg=>
   try simp only[tt,seval,decide_eq_false ht,hr9,hc9,hs9,hw9,w1,w2,w3,w4,w5]
   exact⟨_,_,aE (by rw[hzb];simp [oq,k1,hq,ht];try omega),ac rfl⟩
  try simp only[tt,seval,decide_eq_true ht,hr9,hc9,hs9,hw9,w1,w2,w3,w4,w5]
  exact⟨_,_,aE (by rw[hzb];simp only[oq,if_pos k1,hq,decide_eq_true ht,Bool.true_and];exact decide_eq_decide.2 (by omega)),ac rfl⟩
 try simp only[tt,seval,hr9,hc9,hs9,hw9,w1,w2,w3,w4,w5]
 refine And.intro (fun k2=>?_) (fun k2=>?_)
 ·try simp only[tt,seval,hr9,hc9,hs9,hw9,w1,w2,w3,w4,w5]
  refine dLoop.intro (fun f L p=>∃i:Nat,f 9=vi i∧i≤rows.length∧(∀j (hj:j<rows.length),j<i→rS rows[j]=true)∧L=[(1,.str [.v (.int .i64 kind),.v (.bool distinct),.sl items.length (items.flatMap Item.row) none,.sl from_.length (from_.flatMap Source.row) none,.sl where_.length (where_.flatMap Expr.row) none,.sl order.length (order.flatMap SortKey.row) none,.v (.int .i64 limit),.v (.string table),.sl rows.length (rows.flatMap ERow.row) none,.sl cols.length (cols.flatMap srow) none,.sl sets.length (sets.flatMap Expr.row) none,.sl where2.length (where2.flatMap Expr.row) none])]∧p=none) (fun f _ _=>(rows.length-bn (f 9)).toNat) [(1,.str [.v (.int .i64 kind),.v (.bool distinct),.sl items.length (items.flatMap Item.row) none,.sl from_.length (from_.flatMap Source.row) none,.sl where_.length (where_.flatMap Expr.row) none,.sl order.length (order.flatMap SortKey.row) none,.v (.int .i64 limit),.v (.string table),.sl rows.length (rows.flatMap ERow.row) none,.sl cols.length (cols.flatMap srow) none,.sl sets.length (sets.flatMap Expr.row) none,.sl where2.length (where2.flatMap Expr.row) none])] none ⟨SubO.cons rfl (SubO.nil _),PoSub.none _,?_⟩ ?_
  ·try simp only[tt,seval,hr9,hc9,hs9,hw9,w1,w2,w3,w4,w5]
   exact⟨0,rfl,by omega,fun j _ h=>absurd h (Nat.not_lt_zero _)⟩
  ·rintro g' L p ⟨i,ix,hi,hal,rfl,rfl⟩
   simp only[tt,seval] at ix
   simp only[tt,seval,ix,Int.ofNat_lt,hr9,hc9,hs9,hw9,w1,w2,w3,w4,w5]
   refine And.intro (fun hlt=>?_) (fun hge=>?_)
   ·have hlt:i<rows.length:=by omega
    obtain⟨it,bO⟩:∃it,it=rows[i]:=⟨_,rfl⟩
    have hx:rows[i]?=some it:=by rw[bO];exact List.getElem?_eq_getElem hlt
    obtain⟨hil,cri⟩:=cR it (by rw[bO];exact List.getElem_mem hlt)
    have hbad:rS it=false→oq (Stmt.mk 2 (Query.mk distinct items from_ where_ order limit) table rows cols sets where2)=false:=fun hb=>by
     simp only[oq,if_neg (show ¬(2:Int)=1 by decide),if_pos,eC (List.getElem_mem hlt) (bO▸hb),Bool.false_and]
    have i0:((0:Int)≤(i:Int))=True:=eq_true (by omega)
    have iL:((i:Int)<(rows.length:Int))=True:=eq_true (by omega)
    have iT:(i<rows.length)=True:=eq_true hlt
    have hl9:(it.l.length≤9223372036854775807)=True:=eq_true (by omega)
    try simp only[tt,seval,ix,aN hx ERow.row_len,i0,iL,iT,mz,hl9,hr9,hc9,hs9,hw9,w1,w2,w3,w4,w5]
    refine cZ (dO it.l.length 1 12) (by decide) ?_ ?_<;>simp only[tt,seval,ix,aN hx ERow.row_len,i0,iL,iT,mz,hl9,hr9,hc9,hs9,hw9,w1,w2,w3,w4,w5]
    by_cases h1:(1:Int)≤it.l.length∧(it.l.length:Int)≤12
    case neg=>
     simp only[tt,seval,decide_eq_false h1,ix,aN hx ERow.row_len,i0,iL,iT,mz,hl9,hr9,hc9,hs9,hw9,w1,w2,w3,w4,w5]
     exact⟨_,_,aE (by subst k2;rw[hzb];exact (hbad (by unfold rS A5;rw[decide_eq_false (by omega)];rfl)).symm),ac rfl⟩
    simp only[tt,seval,decide_eq_true h1,ix,aN hx ERow.row_len,i0,iL,iT,mz,hl9,hr9,hc9,hs9,hw9,w1,w2,w3,w4,w5]
    refine cZ (cri) (by decide) ?_ ?_<;>simp only[tt,seval,ix,aN hx ERow.row_len,i0,iL,iT,mz,hl9,hr9,hc9,hs9,hw9,w1,w2,w3,w4,w5]
    cases h2:it.l.all okE
    case false=>
     try simp only[tt,seval,h2,ix,hr9,hc9,hs9,hw9,w1,w2,w3,w4,w5]
     exact⟨_,_,aE (by subst k2;rw[hzb];exact (hbad (by unfold rS;rw[h2,Bool.and_false])).symm),ac rfl⟩
    try simp only[tt,seval,h2,ix,hr9,hc9,hs9,hw9,w1,w2,w3,w4,w5]
    try rw[eE i (by omega)]
    exact⟨_,none,SubO.cons rfl (SubO.nil _),PoSub.none _,⟨i+1,rfl,by omega,fun j hj hji=>by
     by_cases e:j=i
     ·subst e;rw[←bO];unfold rS A5;rw[h2,decide_eq_true (by omega)];rfl
     ·exact hal j hj (by omega),rfl,rfl⟩,by simp only[bn];omega⟩
   ·have har:rows.all rS=true:=fH fun j hj=>hal j hj (by omega)
    try simp only[tt,seval,ix,hr9,hc9,hs9,hw9,w1,w2,w3,w4,w5]
    by_cases hz:oC (Query.mk distinct items from_ where_ order limit)=true
    case neg=>
     try simp only[tt,seval,(eq_false_of_ne_true hz),hr9,hc9,hs9,hw9,w1,w2,w3,w4,w5]
     exact⟨_,_,aE (by rw[hzb];simp [oq,k1,k2,har,aD,hz];try omega),ac rfl⟩
    try simp only[tt,seval,hz,hr9,hc9,hs9,hw9,w1,w2,w3,w4,w5]
    by_cases hn:decide (1≤table.size∧table.size≤20)=true
    case neg=>
     try simp only[tt,seval,(eq_false_of_ne_true hn),hr9,hc9,hs9,hw9,w1,w2,w3,w4,w5]
     exact⟨_,_,aE (by rw[hzb];simp [oq,k1,k2,har,aD,hz,hn];try omega),ac rfl⟩
    try simp only[tt,seval,hn,hr9,hc9,hs9,hw9,w1,w2,w3,w4,w5]
    refine cZ (dO rows.length 1 5) (by decide) ?_ ?_<;>simp only[tt,seval,hr9,hc9,hs9,hw9,w1,w2,w3,w4,w5]
    by_cases h4:(1:Int)≤rows.length∧(rows.length:Int)≤5
    case neg=>
     try simp only[tt,seval,decide_eq_false h4,hr9,hc9,hs9,hw9,w1,w2,w3,w4,w5]
     exact⟨_,_,aE (by rw[hzb];simp [oq,k2,har,hz,aD,hn,show ¬(1≤rows.length∧rows.length≤5) by omega];try omega),ac rfl⟩
    try simp only[tt,seval,decide_eq_true h4,hr9,hc9,hs9,hw9,w1,w2,w3,w4,w5]
    exact⟨_,_,aE (by rw[hzb];simp only[oq,if_neg k1,if_pos k2,har,hz,aD,hn,decide_eq_true (show 1≤rows.length∧rows.length≤5 by omega),Bool.true_and];exact decide_eq_decide.2 (by omega)),ac rfl⟩
 try simp only[tt,seval,hr9,hc9,hs9,hw9,w1,w2,w3,w4,w5]
 refine And.intro (fun k3=>?_) (fun k3=>?_)
 ·try simp only[tt,seval,hr9,hc9,hs9,hw9,w1,w2,w3,w4,w5]
  refine dLoop.intro (fun f L p=>∃i:Nat,f 10=vi i∧i≤cols.length∧(∀j (hj:j<cols.length),j<i→aD cols[j]=true)∧L=[(1,.str [.v (.int .i64 kind),.v (.bool distinct),.sl items.length (items.flatMap Item.row) none,.sl from_.length (from_.flatMap Source.row) none,.sl where_.length (where_.flatMap Expr.row) none,.sl order.length (order.flatMap SortKey.row) none,.v (.int .i64 limit),.v (.string table),.sl rows.length (rows.flatMap ERow.row) none,.sl cols.length (cols.flatMap srow) none,.sl sets.length (sets.flatMap Expr.row) none,.sl where2.length (where2.flatMap Expr.row) none])]∧p=none) (fun f _ _=>(cols.length-bn (f 10)).toNat) [(1,.str [.v (.int .i64 kind),.v (.bool distinct),.sl items.length (items.flatMap Item.row) none,.sl from_.length (from_.flatMap Source.row) none,.sl where_.length (where_.flatMap Expr.row) none,.sl order.length (order.flatMap SortKey.row) none,.v (.int .i64 limit),.v (.string table),.sl rows.length (rows.flatMap ERow.row) none,.sl cols.length (cols.flatMap srow) none,.sl sets.length (sets.flatMap Expr.row) none,.sl where2.length (where2.flatMap Expr.row) none])] none ⟨SubO.cons rfl (SubO.nil _),PoSub.none _,?_⟩ ?_
  ·try simp only[tt,seval,hr9,hc9,hs9,hw9,w1,w2,w3,w4,w5]
   exact⟨0,rfl,by omega,fun j _ h=>absurd h (Nat.not_lt_zero _)⟩
  ·rintro g' L p ⟨i,ix,hi,hal,rfl,rfl⟩
   simp only[tt,seval] at ix
   simp only[tt,seval,ix,Int.ofNat_lt,hr9,hc9,hs9,hw9,w1,w2,w3,w4,w5]
   refine And.intro (fun hlt=>?_) (fun hge=>?_)
   ·have hlt:i<cols.length:=by omega
    refine⟨by omega,by omega,_,ax dB (List.getElem?_eq_getElem hlt),jc _ _,?_⟩
    simp only[tt,seval,ix,gO,srow,hr9,hc9,hs9,hw9,w1,w2,w3,w4,w5]
    refine cZ (jN cols[i]) (by decide) ?_ ?_<;>simp only[tt,seval,ix,hr9,hc9,hs9,hw9,w1,w2,w3,w4,w5]
    cases hb:decide (1≤cols[i].size∧cols[i].size≤20)
    case false=>
     try simp only[tt,seval,hb,ix,hr9,hc9,hs9,hw9,w1,w2,w3,w4,w5]
     exact⟨_,_,aE (by rw[hzb];simp only[oq,if_neg k1,if_neg k2,if_pos k3,eC (List.getElem_mem hlt) (show aD cols[i]=false from hb),Bool.false_and]),ac rfl⟩
    try simp only[tt,seval,hb,ix,hr9,hc9,hs9,hw9,w1,w2,w3,w4,w5]
    try rw[eE i (by omega)]
    exact⟨_,none,SubO.cons rfl (SubO.nil _),PoSub.none _,⟨i+1,rfl,by omega,fun j hj hji=>by
     by_cases e:j=i
     ·subst e;exact hb
     ·exact hal j hj (by omega),rfl,rfl⟩,by simp only[bn];omega⟩
   ·have har:cols.all aD=true:=fH fun j hj=>hal j hj (by omega)
    try simp only[tt,seval,ix,hr9,hc9,hs9,hw9,w1,w2,w3,w4,w5]
    by_cases hz:oC (Query.mk distinct items from_ where_ order limit)=true
    case neg=>
     try simp only[tt,seval,(eq_false_of_ne_true hz),hr9,hc9,hs9,hw9,w1,w2,w3,w4,w5]
     exact⟨_,_,aE (by rw[hzb];simp [oq,k1,k2,k3,har,aD,hz];try omega),ac rfl⟩
    try simp only[tt,seval,hz,hr9,hc9,hs9,hw9,w1,w2,w3,w4,w5]
    by_cases hn:decide (1≤table.size∧table.size≤20)=true
    case neg=>
     try simp only[tt,seval,(eq_false_of_ne_true hn),hr9,hc9,hs9,hw9,w1,w2,w3,w4,w5]
     exact⟨_,_,aE (by rw[hzb];simp [oq,k1,k2,k3,har,aD,hz,hn];try omega),ac rfl⟩
    try simp only[tt,seval,hn,hr9,hc9,hs9,hw9,w1,w2,w3,w4,w5]
    by_cases h1:rows.length=0
    case neg=>
     try simp only[tt,seval,decide_eq_false (show ¬(rows.length:Int)=0 by omega),hr9,hc9,hs9,hw9,w1,w2,w3,w4,w5]
     exact⟨_,_,aE (by rw[hzb];simp [oq,k1,k2,k3,har,aD,hz,hn,h1];try omega),ac rfl⟩
    try simp only[tt,seval,decide_eq_true (show (rows.length:Int)=0 by omega),hr9,hc9,hs9,hw9,w1,w2,w3,w4,w5]
    refine cZ (dO cols.length 1 12) (by decide) ?_ ?_<;>simp only[tt,seval,hr9,hc9,hs9,hw9,w1,w2,w3,w4,w5]
    by_cases h2:(1:Int)≤cols.length∧(cols.length:Int)≤12
    case neg=>
     try simp only[tt,seval,decide_eq_false h2,hr9,hc9,hs9,hw9,w1,w2,w3,w4,w5]
     exact⟨_,_,aE (by rw[hzb];simp [oq,k3,har,hz,aD,hn,h1,show ¬(1≤cols.length∧cols.length≤12) by omega];try omega),ac rfl⟩
    try simp only[tt,seval,decide_eq_true h2,hr9,hc9,hs9,hw9,w1,w2,w3,w4,w5]
    have h2':1≤cols.length∧cols.length≤12:=by omega
    by_cases h3:sets.length=cols.length
    case neg=>
     try simp only[tt,seval,decide_eq_false (show ¬(sets.length:Int)=cols.length by omega),hr9,hc9,hs9,hw9,w1,w2,w3,w4,w5]
     exact⟨_,_,aE (by rw[hzb];simp [oq,k3,har,hz,aD,hn,h1,h2',h3];try omega),ac rfl⟩
    try simp only[tt,seval,decide_eq_true (show (sets.length:Int)=cols.length by omega),hr9,hc9,hs9,hw9,w1,w2,w3,w4,w5]
    by_cases h4:where2.length≤1
    case neg=>
     try simp only[tt,seval,decide_eq_false (show ¬(where2.length:Int)≤1 by omega),hr9,hc9,hs9,hw9,w1,w2,w3,w4,w5]
     exact⟨_,_,aE (by rw[hzb];simp [oq,k3,har,hz,aD,hn,h1,h2',h3,h4];try omega),ac rfl⟩
    try simp only[tt,seval,decide_eq_true (show (where2.length:Int)≤1 by omega),hr9,hc9,hs9,hw9,w1,w2,w3,w4,w5]
    refine cZ (cSg) (by decide) ?_ ?_<;>simp only[tt,seval,hr9,hc9,hs9,hw9,w1,w2,w3,w4,w5]
    by_cases h8:sets.all okE=true
    case neg=>
     try simp only[tt,seval,(eq_false_of_ne_true h8),hr9,hc9,hs9,hw9,w1,w2,w3,w4,w5]
     exact⟨_,_,aE (by rw[hzb];simp only[oq,if_neg k1,if_neg k2,if_pos k3,har,hz,aD,hn,decide_eq_true h1,decide_eq_true (show 1≤cols.length∧cols.length≤12 by omega),decide_eq_true h3,decide_eq_true h4,eq_false_of_ne_true h8,Bool.true_and,Bool.false_and]),ac rfl⟩
    try simp only[tt,seval,h8,hr9,hc9,hs9,hw9,w1,w2,w3,w4,w5]
    refine cZ (cW) (by decide) ?_ ?_<;>simp only[tt,seval,hr9,hc9,hs9,hw9,w1,w2,w3,w4,w5]
    exact⟨_,_,aE (by rw[hzb];simp only[oq,if_neg k1,if_neg k2,if_pos k3,har,hz,aD,hn,decide_eq_true h1,decide_eq_true (show 1≤cols.length∧cols.length≤12 by omega),decide_eq_true h3,decide_eq_true h4,h8,Bool.true_and]),ac rfl⟩
 try simp only[tt,seval,hr9,hc9,hs9,hw9,w1,w2,w3,w4,w5]
 refine And.intro (fun k4=>?_) (fun k4=>?_)
 ·try simp only[tt,seval,hr9,hc9,hs9,hw9,w1,w2,w3,w4,w5]
  by_cases hz:oC (Query.mk distinct items from_ where_ order limit)=true
  case neg=>
   try simp only[tt,seval,(eq_false_of_ne_true hz),hr9,hc9,hs9,hw9,w1,w2,w3,w4,w5]
   exact⟨_,_,aE (by rw[hzb];simp only[oq,if_neg k1,if_neg k2,if_neg k3,if_pos k4,aD,eq_false_of_ne_true hz,Bool.true_and,Bool.false_and,Bool.and_false]),ac rfl⟩
  try simp only[tt,seval,hz,hr9,hc9,hs9,hw9,w1,w2,w3,w4,w5]
  by_cases hn:decide (1≤table.size∧table.size≤20)=true
  case neg=>
   try simp only[tt,seval,(eq_false_of_ne_true hn),hr9,hc9,hs9,hw9,w1,w2,w3,w4,w5]
   exact⟨_,_,aE (by rw[hzb];simp only[oq,if_neg k1,if_neg k2,if_neg k3,if_pos k4,aD,hz,eq_false_of_ne_true hn,Bool.true_and,Bool.false_and,Bool.and_false]),ac rfl⟩
  try simp only[tt,seval,hn,hr9,hc9,hs9,hw9,w1,w2,w3,w4,w5]
  by_cases h1:rows.length+cols.length+sets.length=0
  case neg=>
   try simp only[tt,seval,decide_eq_false (show ¬(rows.length:Int)+cols.length+sets.length=0 by omega),hr9,hc9,hs9,hw9,w1,w2,w3,w4,w5]
   exact⟨_,_,aE (by rw[hzb];simp only[oq,if_neg k1,if_neg k2,if_neg k3,if_pos k4,aD,hz,hn,decide_eq_false h1,Bool.true_and,Bool.false_and,Bool.and_false]),ac rfl⟩
  try simp only[tt,seval,decide_eq_true (show (rows.length:Int)+cols.length+sets.length=0 by omega),hr9,hc9,hs9,hw9,w1,w2,w3,w4,w5]
  by_cases h2:where2.length≤1
  case neg=>
   try simp only[tt,seval,decide_eq_false (show ¬(where2.length:Int)≤1 by omega),hr9,hc9,hs9,hw9,w1,w2,w3,w4,w5]
   exact⟨_,_,aE (by rw[hzb];simp only[oq,if_neg k1,if_neg k2,if_neg k3,if_pos k4,aD,hz,hn,decide_eq_true h1,decide_eq_false h2,Bool.true_and,Bool.false_and,Bool.and_false]),ac rfl⟩
  try simp only[tt,seval,decide_eq_true (show (where2.length:Int)≤1 by omega),hr9,hc9,hs9,hw9,w1,w2,w3,w4,w5]
  refine cZ (cW) (by decide) ?_ ?_<;>simp only[tt,seval,hr9,hc9,hs9,hw9,w1,w2,w3,w4,w5]
  exact⟨_,_,aE (by rw[hzb];simp only[oq,if_neg k1,if_neg k2,if_neg k3,if_pos k4,hz,aD,hn,decide_eq_true h1,decide_eq_true h2,Bool.true_and]),ac rfl⟩
 exact⟨_,_,aE (by rw[hzb];simp [oq,k1,k2,k3,k4];try omega),ac rfl⟩
theorem zY {α:Type} {f g:α→Bool} {l:List α} (h:∀x∈l,f x=g x):l.all f=l.all g:=by
 induction l with
 |nil=>rfl
 |cons x r ih=>rw[List.all_cons,List.all_cons,h x (by simp),ih fun y hy=>h y (by simp [hy])]
theorem Dc {l:List Nat} {x:Nat} (h:x∈l):x≤bX l:=by
 unfold bX
 suffices H:∀(l:List Nat) (a:Nat),(a≤l.foldl max a)∧∀x∈l,x≤l.foldl max a from (H l 0).2 x h
 intro l
 induction l with
 |nil=>exact fun a=>⟨Nat.le_refl _,fun x h=>by cases h⟩
 |cons y r ih=>
  intro a
  obtain⟨h1,h2⟩:=ih (max a y)
  refine⟨Nat.le_trans (Nat.le_max_left _ _) h1,fun x hx=>?_⟩
  rcases List.mem_cons.1 hx with rfl|hx
  ·exact Nat.le_trans (Nat.le_max_right _ _) h1
  ·exact h2 x hx
theorem E9 {l:List Nat} {x:Nat} (h:x∈l):x≤l.sum:=by
 induction l with
 |nil=>cases h
 |cons y r ih=>
  rw[List.sum_cons]
  rcases List.mem_cons.1 h with rfl|h
  ·omega
  ·have:=ih h;omega
theorem BQ {s:Stmt} (h:Da s=true) {x:Expr} (hx:x∈bA s):okE x=fmE x:=by
 simp only[Da,Bool.and_eq_true,decide_eq_true_eq] at h
 have h1:=Dc (List.mem_map_of_mem (f:=nh) hx)
 have h2:=E9 (List.mem_map_of_mem (f:=jI) hx)
 unfold okE
 rw[decide_eq_true (show nh x≤24 by omega),decide_eq_true (show jI x≤200 by omega),Bool.true_and,Bool.true_and]
theorem vX {q:Query} (h:oC q=true):aw q=[]:=by
 obtain⟨distinct,items,from_,where_,order,limit⟩:=q
 simp only[oC,Bool.and_eq_true,decide_eq_true_eq] at h
 obtain⟨_,_,h1,h2,h3,h4⟩:=h
 have e1:=List.eq_nil_of_length_eq_zero h1
 have e2:=List.eq_nil_of_length_eq_zero h2
 have e3:=List.eq_nil_of_length_eq_zero h3
 have e4:=List.eq_nil_of_length_eq_zero h4
 subst e1 e2 e3 e4
 rfl
theorem BR (s:Stmt):(oq s&&Da s)=fI s:=by
 cases hsm:Da s
 case false=>rw[fI,hsm,Bool.and_false];rfl
 rw[fI,hsm,Bool.and_true,Bool.true_and]
 have hok:=fun x hx=>BQ (s:=s) hsm (x:=x) hx
 obtain⟨kind,q,table,rows,cols,sets,where2⟩:=s
 have hall:(bA (Stmt.mk kind q table rows cols sets where2)).all okE=(bA (Stmt.mk kind q table rows cols sets where2)).all fmE:=zY hok
 have hst:bA (Stmt.mk kind q table rows cols sets where2)=aw q++rows.flatMap ERow.l++sets++where2:=rfl
 simp only[Da,Bool.and_eq_true,decide_eq_true_eq] at hsm
 rw[Bool.eq_iff_iff]
 simp only[oq,A6]
 by_cases k1:kind=1
 ·simp only[if_pos k1,Bool.and_eq_true,decide_eq_true_eq,ja]
  constructor
  ·rintro⟨⟨h1,_,_⟩,h2,h3⟩
   exact⟨h2,by omega,by omega,by omega,by omega,h1⟩
  ·rintro⟨h1,h2,h3,h4,h5,h6⟩
   have e2:=List.eq_nil_of_length_eq_zero h2
   have e4:=List.eq_nil_of_length_eq_zero h4
   have e5:=List.eq_nil_of_length_eq_zero h5
   subst e2 e4 e5
   rw[hst] at hsm
   simp only[List.flatMap_nil,List.append_nil] at hsm
   exact⟨⟨h6,hsm.1,hsm.2⟩,h1,by simp [h3]⟩
 simp only[if_neg k1]
 by_cases hz:oC q=true
 case neg=>
  simp only[eq_false_of_ne_true hz,Bool.false_and,Bool.and_false]
  (repeat' split)<;>simp
 rw[hst,vX hz,List.nil_append] at hall
 rw[hst,vX hz,List.nil_append]
 simp only[List.all_append] at hall ⊢
 simp only[hz,Bool.true_and,fV]
 by_cases k2:kind=2
 ·simp only[if_pos k2,Bool.and_eq_true,decide_eq_true_eq]
  have hrow:rows.all rS=(rows.all A5&&(rows.flatMap ERow.l).all okE):=by
   clear hall hok hst hsm
   induction rows with
   |nil=>rfl
   |cons x r ih=>
    simp only[List.all_cons,List.flatMap_cons,List.all_append,ih,rS]
    cases A5 x<;>cases x.l.all okE<;>cases r.all A5<;>simp
  rw[hrow]
  constructor
  ·rintro⟨h1,h2,h3,h4⟩
   have e3:=List.eq_nil_of_length_eq_zero (show sets.length=0 by omega)
   have e4:=List.eq_nil_of_length_eq_zero (show where2.length=0 by omega)
   subst e3 e4
   simp only[Bool.and_eq_true] at h1
   simp only[List.all_nil,Bool.and_true] at hall
   exact⟨h2,⟨⟨by rw[←hall];exact h1.2,rfl⟩,rfl⟩,by simp at h4;simp [h4],rfl,rfl,h3.1,h3.2,h1.1⟩
  ·rintro⟨h2,⟨⟨h1,_⟩,_⟩,hc,hs,hw,h3,h4,h5⟩
   have e3:=List.eq_nil_of_length_eq_zero hs
   have e4:=List.eq_nil_of_length_eq_zero hw
   subst e3 e4
   simp only[List.all_nil,Bool.and_true] at hall
   exact⟨by rw[h5,hall,h1];rfl,h2,⟨h3,h4⟩,by simp [hc]⟩
 simp only[if_neg k2]
 by_cases k3:kind=3
 ·simp only[if_pos k3,Bool.and_eq_true,decide_eq_true_eq]
  constructor
  ·rintro⟨h1,h2,h3,h4,h5,h6,h7,h8⟩
   have e3:=List.eq_nil_of_length_eq_zero h3
   subst e3
   simp only[List.flatMap_nil,List.all_nil,Bool.true_and] at hall ⊢
   rw[h7,h8] at hall
   have ha:=hall.symm
   simp only[Bool.and_true,Bool.and_eq_true] at ha
   exact⟨h2,⟨⟨trivial,ha.1⟩,ha.2⟩,rfl,h4.1,h4.2,h5,h6,h1⟩
  ·rintro⟨h2,⟨⟨_,hs⟩,hw⟩,h3,h4,h4',h5,h6,h1⟩
   have e3:=List.eq_nil_of_length_eq_zero h3
   subst e3
   simp only[List.flatMap_nil,List.all_nil,Bool.true_and] at hall
   rw[hs,hw] at hall
   simp only[Bool.and_true,Bool.and_eq_true] at hall
   exact⟨h1,h2,rfl,⟨h4,h4'⟩,h5,h6,hall.1,hall.2⟩
 simp only[if_neg k3]
 by_cases k4:kind=4
 ·simp only[if_pos k4,Bool.and_eq_true,decide_eq_true_eq]
  constructor
  ·rintro⟨h2,h3,h4,h5⟩
   have e1:=List.eq_nil_of_length_eq_zero (show rows.length=0 by omega)
   have e2:=List.eq_nil_of_length_eq_zero (show cols.length=0 by omega)
   have e3:=List.eq_nil_of_length_eq_zero (show sets.length=0 by omega)
   subst e1 e2 e3
   simp only[List.flatMap_nil,List.all_nil,Bool.true_and] at hall ⊢
   rw[h5] at hall
   exact⟨h2,⟨⟨trivial,trivial⟩,hall.symm⟩,rfl,rfl,rfl,h4⟩
  ·rintro⟨h2,⟨⟨_,_⟩,hw⟩,h3,h4,h5,h6⟩
   have e1:=List.eq_nil_of_length_eq_zero h3
   have e2:=List.eq_nil_of_length_eq_zero h4
   have e3:=List.eq_nil_of_length_eq_zero h5
   subst e1 e2 e3
   simp only[List.flatMap_nil,List.all_nil,Bool.true_and] at hall
   rw[hw] at hall
   exact⟨h2,rfl,h6,hall⟩
 simp only[if_neg k4,Bool.and_false]
theorem BS (s:Stmt) (hsz:eL s≤1048576):Cl Tryz.prog 81 [.ag (an s.row)] [] fun r _=>r=vb (fI s):=by
 have c1:=zX s hsz
 have c2:=vU s hsz
 have c3:=xm s hsz
 rw[←BR]
 have hsmd:Da s=(decide (bX ((bA s).map nh)≤24)&&decide (((bA s).map jI).sum≤200)):=rfl
 rw[hsmd]
 generalize bX ((bA s).map nh)=dp at *
 generalize ((bA s).map jI).sum=nn at *
 generalize oq s=sh at *
 obtain⟨kind,⟨distinct,items,from_,where_,order,limit⟩,table,rows,cols,sets,where2⟩:=s
 rw[Stmt.row_mk,Query.row_mk] at c1 c2 c3 ⊢
 simp only[lc] at c1 c2 c3 ⊢
 refine ab aa false Tryz.func81 rfl (by kernel_rfl) ?_
 simp only[Tryz.f81,tt,seval]
 refine cZ (c1) (by decide) ?_ ?_<;>simp only[tt,seval]
 cases sh
 case false=>
  try simp only[tt,seval]
  exact⟨_,_,rfl,ac rfl⟩
 try simp only[tt,seval]
 refine cZ (c2) (by decide) ?_ ?_<;>simp only[tt,seval]
 by_cases h1:(dp:Int)≤24
 case neg=>
  simp only[tt,seval,decide_eq_false h1]
  exact⟨_,_,aE (by rw[decide_eq_false (show ¬dp≤24 by omega)];rfl),ac rfl⟩
 simp only[tt,seval,decide_eq_true h1]
 refine cZ (c3) (by decide) ?_ ?_<;>simp only[tt,seval]
 exact⟨_,_,aE (by rw[decide_eq_true (show dp≤24 by omega)];exact decide_eq_decide.2 (by omega)),ac rfl⟩
end Go.Proofs.YteffjmaadkkmeaaGreatDoor
