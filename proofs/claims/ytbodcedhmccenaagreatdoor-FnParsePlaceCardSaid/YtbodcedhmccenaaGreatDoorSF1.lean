/-
  Trees in order.
  Conditions: none.
-/
import Derived.Test.YtbodcedhmccenaaGreatDoorSB1
set_option linter.unusedVariables false
set_option linter.unusedSimpArgs false
set_option linter.unusedSectionVars false
set_option maxRecDepth 8000
namespace Go.Proofs.YtbodcedhmccenaaGreatDoor
open Go Go.Dv
open Go.Vc (D d5 d6 cM bo)
theorem og (distinct:Bool) (items:List Item) (from_:List Source) (where_:List Expr) (order:List SortKey) (limit:Int) (hsz:szQuery (Query.mk distinct items from_ where_ order limit)<=1048576):Cl Tryz.prog 173 [.ag (ar (Query.mk distinct items from_ where_ order limit).row)] [] fun r _=>r = .c (.sl (exprsQ (Query.mk distinct items from_ where_ order limit)).length ((exprsQ (Query.mk distinct items from_ where_ order limit)).flatMap Expr.row) none):=by
 have hlen:=eV (Query.mk distinct items from_ where_ order limit)
 have q0:exprsQ (Query.mk distinct items from_ where_ order limit)=bd items++from_.flatMap Source.on++where_++order.map SortKey.e:=rfl
 rw[q0] at hlen ⊢
 simp only[aB,List.length_map] at hlen
 have htot:=Nat.le_trans hlen hsz
 have hil:=ee items
 rw[cV,cU,bX,aC,bN] at hsz
 rw[ay]
 refine ah ab false Tryz.func173 rfl (by kernel_rfl) ?_
 simp only[Tryz.f173,tt,seval]
 refine dLoop.gh [.ren 7 30] ⟨by decide,by decide,?_⟩
 refine dLoop0.intro (fun f L p=>∃(i:Nat) (es:List Expr),f 4=vi i/\f 3 = .c (.s 30 es.length)/\i<=items.length/\es=bd (items.take i)/\L=[(1,.str [.v (.bool distinct),.sl items.length (items.flatMap Item.row) none,.sl from_.length (from_.flatMap Source.row) none,.sl where_.length (where_.flatMap Expr.row) none,.sl order.length (order.flatMap SortKey.row) none,.v (.int .i64 limit)]),(30,.arr 52 es.length (es.flatMap Expr.row) none)]/\p=none) (fun f _ _=>(items.length-bq (f 4)).toNat) [(1,.str [.v (.bool distinct),.sl items.length (items.flatMap Item.row) none,.sl from_.length (from_.flatMap Source.row) none,.sl where_.length (where_.flatMap Expr.row) none,.sl order.length (order.flatMap SortKey.row) none,.v (.int .i64 limit)]),(30,.arr 52 0 [] none)] none ⟨ac rfl (ac rfl (al _)),an _,?_⟩ ?_
 ·simp only[tt,seval]
  exact⟨0,[],rfl,rfl,by omega,rfl,rfl⟩
 ·rintro g L p ⟨i,es,hi4,h3,hi,hes,rfl,rfl⟩
  simp only[tt,seval] at hi4 h3
  simp only[tt,seval,hi4,Int.ofNat_lt]
  refine fun _=>?_
  refine aa (fun hlt=>?_) (fun hge=>?_)
  ·have hlt:i<items.length:=by omega
   have hst:=oB hlt
   have hel:es.length<=items.length:=by rw[hes];exact Nat.le_trans (ee _) (by rw[List.length_take];omega)
   have hei:es.length<=i:=by rw[hes];exact Nat.le_trans (ee _) (by rw[List.length_take];omega)
   obtain⟨it,bD⟩:∃it,it=items[i]:=⟨_,rfl⟩
   rw[<-bD] at hst
   refine⟨by omega,by omega,_,aE Item.row_len (az hlt),Item.ne _ _,?_⟩
   obtain⟨star,qual,⟨k,o,n,v,q,m,ks,ss⟩,as_⟩:=it
   rw[<-bD,Item.row_mk,ae]
   simp only[tt,seval,hi4,h3,Int.ofNat_lt]
   refine aa (fun hs=>?_) (fun hs=>?_)
   ·have hs:star=false:=by simpa only[Bool.not_eq_true'] using hs
    refine⟨by omega,by omega,_,aE Item.row_len (az hlt),Item.ne _ _,?_⟩
    rw[<-bD,Item.row_mk,ae]
    simp only[tt,seval,hi4]
    refine⟨by kernel_rfl,⟨by simp only[maxLen];omega,by omega⟩,?_⟩
    have e:es.flatMap Expr.row++[int k,int o,bool n,int v.kind,int v.num,str v.text,str q,str m,.sl ks.length (ks.flatMap Expr.row),.sl ss.length (ss.flatMap Query.row)]=(es++[Expr.mk k o n v q m ks ss]).flatMap Expr.row:=by rw[List.flatMap_append];simp [ae]
    have e2:es.length+1=(es++[Expr.mk k o n v q m ks ss]).length:=by simp
    rw[e,e2]
    try rw[f5 i (by omega)]
    exact⟨_,none,ac rfl (ac rfl (al _)),an _,⟨i+1,_,rfl,rfl,by omega,by rw[hst,hes];subst hs;rfl,rfl,rfl⟩,by simp only[bq];omega⟩
   ·have hs:star=true:=by simpa only[Bool.not_eq_false'] using hs
    try rw[f5 i (by omega)]
    exact⟨_,none,ac rfl (ac rfl (al _)),an _,⟨i+1,es,rfl,rfl,by omega,by rw[hst,hes];subst hs;simp [Item.star],rfl,rfl⟩,by simp only[bq];omega⟩
  ·have hie:i=items.length:=by omega
   subst hie
   rw[List.take_length] at hes
   subst hes
   refine dLoop.gh [.ren 30 45] ⟨by decide,by decide,?_⟩
   refine dLoop0.intro (fun f L p=>∃(i:Nat) (es:List Expr),f 5=vi i/\f 3 = .c (.s 45 es.length)/\i<=from_.length/\es=bd items++(from_.take i).flatMap Source.on/\L=[(1,.str [.v (.bool distinct),.sl items.length (items.flatMap Item.row) none,.sl from_.length (from_.flatMap Source.row) none,.sl where_.length (where_.flatMap Expr.row) none,.sl order.length (order.flatMap SortKey.row) none,.v (.int .i64 limit)]),(45,.arr 52 es.length (es.flatMap Expr.row) none)]/\p=none) (fun f _ _=>(from_.length-bq (f 5)).toNat) [(1,.str [.v (.bool distinct),.sl items.length (items.flatMap Item.row) none,.sl from_.length (from_.flatMap Source.row) none,.sl where_.length (where_.flatMap Expr.row) none,.sl order.length (order.flatMap SortKey.row) none,.v (.int .i64 limit)]),(45,.arr 52 (bd items).length ((bd items).flatMap Expr.row) none)] none ⟨ac rfl (ac rfl (al _)),an _,?_⟩ ?_
   ·simp only[tt,seval,h3]
    exact⟨0,bd items,rfl,rfl,by omega,by simp,rfl⟩
   ·rintro g L p ⟨i,es,hi5,h3,hi,hes,rfl,rfl⟩
    simp only[tt,seval] at hi5 h3
    simp only[tt,seval,hi5,h3,Int.ofNat_lt]
    refine fun _=>?_
    refine aa (fun hlt=>?_) (fun hge=>?_)
    ·have hlt:i<from_.length:=by omega
     have hst:=xj hlt
     have hel:es.length<=(bd items).length+(from_.flatMap Source.on).length:=by have:=oC from_ i;rw[hes,aB];omega
     obtain⟨it,bD⟩:∃it,it=from_[i]:=⟨_,rfl⟩
     rw[<-bD] at hst
     have hon:it.on.length<=1048576:=by
      have h1:=dX cA (aK hlt)
      rw[<-bD] at h1
      obtain⟨table,as_,on⟩:=it
      rw[dF,aC] at h1
      show on.length<=_
      omega
     refine⟨by omega,by omega,_,aE Source.row_len (az hlt),Source.ne _ _,?_⟩
     obtain⟨table,as_,on⟩:=it
     have hon:on.length<=1048576:=hon
     rw[<-bD,Source.row_mk]
     simp only[tt,seval]
     refine⟨by kernel_rfl,by rw[bT aJ],⟨by simp only[maxLen];omega,by omega⟩,?_⟩
     have e2:es.length+on.length=(es++on).length:=by simp
     rw[<-List.flatMap_append,e2]
     try rw[f5 i (by omega)]
     exact⟨_,none,ac rfl (ac rfl (al _)),an _,⟨i+1,_,rfl,rfl,by omega,by rw[hst,hes,b9];rfl,rfl,rfl⟩,by simp only[bq];omega⟩
    ·have hie:i=from_.length:=by omega
     subst hie
     rw[List.take_length] at hes
     have hel:es.length=(bd items).length+(from_.flatMap Source.on).length:=by rw[hes,aB]
     refine⟨by kernel_rfl,by rw[bT aJ],⟨by simp only[maxLen];omega,by omega⟩,?_⟩
     have e2:es.length+where_.length=(es++where_).length:=by simp
     rw[<-List.flatMap_append,e2]
     obtain⟨fs,hfs⟩:∃fs,fs=es++where_:=⟨_,rfl⟩
     have hfl:fs.length=(bd items).length+(from_.flatMap Source.on).length+where_.length:=by rw[hfs,aB,hel]
     have hfs':fs=bd items++from_.flatMap Source.on++where_:=by rw[hfs,hes]
     rw[<-hfs]
     refine dLoop.gh [.ren 49 65] ⟨by decide,by decide,?_⟩
     refine dLoop0.intro (fun f L p=>∃(i:Nat) (es:List Expr),f 6=vi i/\f 3 = .c (.s 65 es.length)/\i<=order.length/\es=fs++(order.take i).map SortKey.e/\L=[(1,.str [.v (.bool distinct),.sl items.length (items.flatMap Item.row) none,.sl from_.length (from_.flatMap Source.row) none,.sl where_.length (where_.flatMap Expr.row) none,.sl order.length (order.flatMap SortKey.row) none,.v (.int .i64 limit)]),(65,.arr 52 es.length (es.flatMap Expr.row) none)]/\p=none) (fun f _ _=>(order.length-bq (f 6)).toNat) [(1,.str [.v (.bool distinct),.sl items.length (items.flatMap Item.row) none,.sl from_.length (from_.flatMap Source.row) none,.sl where_.length (where_.flatMap Expr.row) none,.sl order.length (order.flatMap SortKey.row) none,.v (.int .i64 limit)]),(65,.arr 52 fs.length (fs.flatMap Expr.row) none)] none ⟨ac rfl (ac rfl (al _)),an _,?_⟩ ?_
     ·simp only[tt,seval]
      exact⟨0,fs,rfl,rfl,by omega,by simp,rfl⟩
     ·rintro g L p ⟨i,es,hi6,h3,hi,hes,rfl,rfl⟩
      simp only[tt,seval] at hi6 h3
      simp only[tt,seval,hi6,h3,Int.ofNat_lt]
      refine fun _=>?_
      refine aa (fun hlt=>?_) (fun hge=>?_)
      ·have hlt:i<order.length:=by omega
       have hst:=uf hlt
       have hel:es.length=fs.length+i:=by rw[hes,aB,List.length_map,List.length_take];omega
       obtain⟨it,bD⟩:∃it,it=order[i]:=⟨_,rfl⟩
       rw[<-bD] at hst
       refine⟨by omega,by omega,_,aE SortKey.row_len (az hlt),SortKey.ne _ _,?_⟩
       obtain⟨⟨k,o,n,v,q,m,ks,ss⟩,desc⟩:=it
       rw[<-bD,SortKey.row_mk,ae]
       simp only[tt,seval,hi6]
       refine⟨by kernel_rfl,⟨by simp only[maxLen];omega,by omega⟩,?_⟩
       have e:es.flatMap Expr.row++[int k,int o,bool n,int v.kind,int v.num,str v.text,str q,str m,.sl ks.length (ks.flatMap Expr.row),.sl ss.length (ss.flatMap Query.row)]=(es++[Expr.mk k o n v q m ks ss]).flatMap Expr.row:=by rw[List.flatMap_append];simp [ae]
       have e2:es.length+1=(es++[Expr.mk k o n v q m ks ss]).length:=by simp
       rw[e,e2]
       try rw[f5 i (by omega)]
       exact⟨_,none,ac rfl (ac rfl (al _)),an _,⟨i+1,_,rfl,rfl,by omega,by rw[hst,hes,b9];rfl,rfl,rfl⟩,by simp only[bq];omega⟩
      ·have hie:i=order.length:=by omega
       subst hie
       rw[List.take_length] at hes
       refine⟨_,[],rfl,ai ?_⟩
       simp only[tt,seval]
       rw[hes,hfs']
       exact⟨rfl,rfl⟩
theorem qy (distinct:Bool) (items:List Item) (from_:List Source) (where_:List Expr) (order:List SortKey) (limit:Int) (hsz:szQuery (Query.mk distinct items from_ where_ order limit)<=1048576):Cl Tryz.prog 241 [.ag (ar (Query.mk distinct items from_ where_ order limit).row)] [] fun r _=>r = .c (.sl (exprsQ (Query.mk distinct items from_ where_ order limit)).length ((exprsQ (Query.mk distinct items from_ where_ order limit)).flatMap Expr.row) none):=by
 have hlen:=eV (Query.mk distinct items from_ where_ order limit)
 have q0:exprsQ (Query.mk distinct items from_ where_ order limit)=bd items++from_.flatMap Source.on++where_++order.map SortKey.e:=rfl
 rw[q0] at hlen ⊢
 simp only[aB,List.length_map] at hlen
 have htot:=Nat.le_trans hlen hsz
 have hil:=ee items
 rw[cV,cU,bX,aC,bN] at hsz
 rw[ay]
 refine ah ab false Tryz.func241 rfl (by kernel_rfl) ?_
 simp only[Tryz.f241,tt,seval]
 refine fun _=>?_
 refine dLoop.gh [.ren 10 25] ⟨by decide,by decide,?_⟩
 refine dLoop0.intro (fun f L p=>∃(i:Nat) (es:List Expr),f 14=vi i/\f 3 = .c (.s 25 es.length)/\i<=items.length/\es=bd (items.take i)/\L=[(1,.str [.v (.bool distinct),.sl items.length (items.flatMap Item.row) none,.sl from_.length (from_.flatMap Source.row) none,.sl where_.length (where_.flatMap Expr.row) none,.sl order.length (order.flatMap SortKey.row) none,.v (.int .i64 limit)]),(25,.arr 52 es.length (es.flatMap Expr.row) none)]/\p=none) (fun f _ _=>(items.length-bq (f 14)).toNat) [(1,.str [.v (.bool distinct),.sl items.length (items.flatMap Item.row) none,.sl from_.length (from_.flatMap Source.row) none,.sl where_.length (where_.flatMap Expr.row) none,.sl order.length (order.flatMap SortKey.row) none,.v (.int .i64 limit)]),(25,.arr 52 0 [] none)] none ⟨ac rfl (ac rfl (al _)),an _,?_⟩ ?_
 ·simp only[tt,seval]
  exact⟨0,[],rfl,rfl,by omega,rfl,rfl⟩
 ·rintro g L p ⟨i,es,hi4,h3,hi,hes,rfl,rfl⟩
  simp only[tt,seval] at hi4 h3
  simp only[tt,seval,hi4,Int.ofNat_lt]
  refine aa (fun hlt=>?_) (fun hge=>?_)
  ·have hlt:i<items.length:=by omega
   have hst:=oB hlt
   have hel:es.length<=items.length:=by rw[hes];exact Nat.le_trans (ee _) (by rw[List.length_take];omega)
   have hei:es.length<=i:=by rw[hes];exact Nat.le_trans (ee _) (by rw[List.length_take];omega)
   obtain⟨it,bD⟩:∃it,it=items[i]:=⟨_,rfl⟩
   rw[<-bD] at hst
   refine⟨by omega,by omega,_,aE Item.row_len (az hlt),Item.ne _ _,?_⟩
   obtain⟨star,qual,⟨k,o,n,v,q,m,ks,ss⟩,as_⟩:=it
   rw[<-bD,Item.row_mk,ae]
   simp only[tt,seval,hi4,h3]
   refine aa (fun hs=>?_) (fun hs=>?_)
   ·have hs:star=false:=by simpa only[Bool.not_eq_true'] using hs
    refine⟨by kernel_rfl,⟨by simp only[maxLen];omega,by omega⟩,?_⟩
    have e:es.flatMap Expr.row++[int k,int o,bool n,int v.kind,int v.num,str v.text,str q,str m,.sl ks.length (ks.flatMap Expr.row),.sl ss.length (ss.flatMap Query.row)]=(es++[Expr.mk k o n v q m ks ss]).flatMap Expr.row:=by rw[List.flatMap_append];simp [ae]
    have e2:es.length+1=(es++[Expr.mk k o n v q m ks ss]).length:=by simp
    rw[e,e2]
    try rw[f5 i (by omega)]
    exact⟨_,none,ac rfl (ac rfl (al _)),an _,⟨i+1,_,rfl,rfl,by omega,by rw[hst,hes];subst hs;rfl,rfl,rfl⟩,by simp only[bq];omega⟩
   ·have hs:star=true:=by simpa only[Bool.not_eq_false'] using hs
    try rw[f5 i (by omega)]
    exact⟨_,none,ac rfl (ac rfl (al _)),an _,⟨i+1,es,rfl,rfl,by omega,by rw[hst,hes];subst hs;simp [Item.star],rfl,rfl⟩,by simp only[bq];omega⟩
  ·have hie:i=items.length:=by omega
   subst hie
   rw[List.take_length] at hes
   subst hes
   refine fun _=>?_
   refine dLoop.gh [.ren 25 37] ⟨by decide,by decide,?_⟩
   refine dLoop0.intro (fun f L p=>∃(i:Nat) (es:List Expr),f 30=vi i/\f 3 = .c (.s 37 es.length)/\i<=from_.length/\es=bd items++(from_.take i).flatMap Source.on/\L=[(1,.str [.v (.bool distinct),.sl items.length (items.flatMap Item.row) none,.sl from_.length (from_.flatMap Source.row) none,.sl where_.length (where_.flatMap Expr.row) none,.sl order.length (order.flatMap SortKey.row) none,.v (.int .i64 limit)]),(37,.arr 52 es.length (es.flatMap Expr.row) none)]/\p=none) (fun f _ _=>(from_.length-bq (f 30)).toNat) [(1,.str [.v (.bool distinct),.sl items.length (items.flatMap Item.row) none,.sl from_.length (from_.flatMap Source.row) none,.sl where_.length (where_.flatMap Expr.row) none,.sl order.length (order.flatMap SortKey.row) none,.v (.int .i64 limit)]),(37,.arr 52 (bd items).length ((bd items).flatMap Expr.row) none)] none ⟨ac rfl (ac rfl (al _)),an _,?_⟩ ?_
   ·simp only[tt,seval,h3]
    exact⟨0,bd items,rfl,rfl,by omega,by simp,rfl⟩
   ·rintro g L p ⟨i,es,hi5,h3,hi,hes,rfl,rfl⟩
    simp only[tt,seval] at hi5 h3
    simp only[tt,seval,hi5,h3,Int.ofNat_lt]
    refine aa (fun hlt=>?_) (fun hge=>?_)
    ·have hlt:i<from_.length:=by omega
     have hst:=xj hlt
     have hel:es.length<=(bd items).length+(from_.flatMap Source.on).length:=by have:=oC from_ i;rw[hes,aB];omega
     obtain⟨it,bD⟩:∃it,it=from_[i]:=⟨_,rfl⟩
     rw[<-bD] at hst
     have hon:it.on.length<=1048576:=by
      have h1:=dX cA (aK hlt)
      rw[<-bD] at h1
      obtain⟨table,as_,on⟩:=it
      rw[dF,aC] at h1
      show on.length<=_
      omega
     refine⟨by omega,by omega,_,aE Source.row_len (az hlt),Source.ne _ _,?_⟩
     obtain⟨table,as_,on⟩:=it
     have hon:on.length<=1048576:=hon
     rw[<-bD,Source.row_mk]
     simp only[tt,seval]
     refine⟨by kernel_rfl,by rw[bT aJ],⟨by simp only[maxLen];omega,by omega⟩,?_⟩
     have e2:es.length+on.length=(es++on).length:=by simp
     rw[<-List.flatMap_append,e2]
     try rw[f5 i (by omega)]
     exact⟨_,none,ac rfl (ac rfl (al _)),an _,⟨i+1,_,rfl,rfl,by omega,by rw[hst,hes,b9];rfl,rfl,rfl⟩,by simp only[bq];omega⟩
    ·have hie:i=from_.length:=by omega
     subst hie
     rw[List.take_length] at hes
     have hel:es.length=(bd items).length+(from_.flatMap Source.on).length:=by rw[hes,aB]
     refine⟨by kernel_rfl,by rw[bT aJ],⟨by simp only[maxLen];omega,by omega⟩,?_⟩
     have e2:es.length+where_.length=(es++where_).length:=by simp
     rw[<-List.flatMap_append,e2]
     obtain⟨fs,hfs⟩:∃fs,fs=es++where_:=⟨_,rfl⟩
     have hfl:fs.length=(bd items).length+(from_.flatMap Source.on).length+where_.length:=by rw[hfs,aB,hel]
     have hfs':fs=bd items++from_.flatMap Source.on++where_:=by rw[hfs,hes]
     rw[<-hfs]
     refine fun _=>?_
     refine dLoop.gh [.ren 42 54] ⟨by decide,by decide,?_⟩
     refine dLoop0.intro (fun f L p=>∃(i:Nat) (es:List Expr),f 46=vi i/\f 3 = .c (.s 54 es.length)/\i<=order.length/\es=fs++(order.take i).map SortKey.e/\L=[(1,.str [.v (.bool distinct),.sl items.length (items.flatMap Item.row) none,.sl from_.length (from_.flatMap Source.row) none,.sl where_.length (where_.flatMap Expr.row) none,.sl order.length (order.flatMap SortKey.row) none,.v (.int .i64 limit)]),(54,.arr 52 es.length (es.flatMap Expr.row) none)]/\p=none) (fun f _ _=>(order.length-bq (f 46)).toNat) [(1,.str [.v (.bool distinct),.sl items.length (items.flatMap Item.row) none,.sl from_.length (from_.flatMap Source.row) none,.sl where_.length (where_.flatMap Expr.row) none,.sl order.length (order.flatMap SortKey.row) none,.v (.int .i64 limit)]),(54,.arr 52 fs.length (fs.flatMap Expr.row) none)] none ⟨ac rfl (ac rfl (al _)),an _,?_⟩ ?_
     ·simp only[tt,seval]
      exact⟨0,fs,rfl,rfl,by omega,by simp,rfl⟩
     ·rintro g L p ⟨i,es,hi6,h3,hi,hes,rfl,rfl⟩
      simp only[tt,seval] at hi6 h3
      simp only[tt,seval,hi6,h3,Int.ofNat_lt]
      refine aa (fun hlt=>?_) (fun hge=>?_)
      ·have hlt:i<order.length:=by omega
       have hst:=uf hlt
       have hel:es.length=fs.length+i:=by rw[hes,aB,List.length_map,List.length_take];omega
       obtain⟨it,bD⟩:∃it,it=order[i]:=⟨_,rfl⟩
       rw[<-bD] at hst
       refine⟨by omega,by omega,_,aE SortKey.row_len (az hlt),SortKey.ne _ _,?_⟩
       obtain⟨⟨k,o,n,v,q,m,ks,ss⟩,desc⟩:=it
       rw[<-bD,SortKey.row_mk,ae]
       simp only[tt,seval,hi6]
       refine⟨by kernel_rfl,⟨by simp only[maxLen];omega,by omega⟩,?_⟩
       have e:es.flatMap Expr.row++[int k,int o,bool n,int v.kind,int v.num,str v.text,str q,str m,.sl ks.length (ks.flatMap Expr.row),.sl ss.length (ss.flatMap Query.row)]=(es++[Expr.mk k o n v q m ks ss]).flatMap Expr.row:=by rw[List.flatMap_append];simp [ae]
       have e2:es.length+1=(es++[Expr.mk k o n v q m ks ss]).length:=by simp
       rw[e,e2]
       try rw[f5 i (by omega)]
       exact⟨_,none,ac rfl (ac rfl (al _)),an _,⟨i+1,_,rfl,rfl,by omega,by rw[hst,hes,b9];rfl,rfl,rfl⟩,by simp only[bq];omega⟩
      ·have hie:i=order.length:=by omega
       subst hie
       rw[List.take_length] at hes
       refine⟨_,[],rfl,ai ?_⟩
       simp only[tt,seval]
       rw[hes,hfs']
       exact⟨rfl,rfl⟩
def bI (l:List Nat):Nat:=l.foldl max 0
theorem gO (l:List Nat) (x:Nat):bI (l++[x])=max (bI l) x:=by simp [bI]
theorem lw {l:List Nat} {b:Nat} (h:∀x∈l,x<=b):bI l<=b:=by
 unfold bI
 suffices H:∀(l:List Nat) (a:Nat),a<=b->(∀x∈l,x<=b)->l.foldl max a<=b from H l 0 (Nat.zero_le _) h
 intro l
 induction l with
 |nil=>exact fun a h _=>h
 |cons y r ih=>exact fun a h hx=>ih _ (Nat.max_le.2 ⟨h,hx y (by simp)⟩) fun x hm=>hx x (by simp [hm])
theorem dW {α:Type} (g:α->Nat) {l:List α} {i:Nat} (h:i<l.length):(l.take (i+1)).map g=(l.take i).map g++[g l[i]]:=by
 rw[List.take_succ_eq_append_getElem h,List.map_append];rfl
theorem Ec (a b:Nat):(if (b:Int)>(a:Int) then (b:Int) else (a:Int))=((max a b:Nat):Int):=by split<;>omega
theorem D4 {x e:Expr} (h:x∈e.kids):szExpr x+1<=szExpr e:=by
 obtain⟨k,o,n,v,q,m,ks,ss⟩:=e
 have h:x∈ks:=h
 rw[bQ,aC]
 have:=dX szExpr h
 have:=List.length_pos_of_mem h
 omega
theorem D5 {q:Query} {e:Expr} (h:q∈e.sub):szQuery q+1<=szExpr e:=by
 obtain⟨k,o,n,v,q',m,ks,ss⟩:=e
 have h:q∈ss:=h
 rw[bQ,bw]
 have:=dX szQuery h
 have:=List.length_pos_of_mem h
 omega
theorem rZ {x e:Expr} (h:fq x e):szExpr x+1<=szExpr e:=by
 rcases h with h|⟨q,hq,h⟩
 ·exact D4 h
 ·have:=D5 hq;have:=nL h;omega
def DB (g:Expr->Nat) (e:Expr):Nat:=1+bI (e.kids.map g++e.sub.map fun q=>bI ((exprsQ q).map g))
noncomputable def dpE:Expr->Nat:=f9 DB
theorem ya {e:Expr} {g:Expr->Nat} (h:∀x,fq x e->g x<=szExpr x+1):DB g e<=szExpr e+1:=by
 unfold DB
 have:bI (e.kids.map g++e.sub.map fun q=>bI ((exprsQ q).map g))<=szExpr e:=lw fun y hy=>by
  rcases List.mem_append.1 hy with hy|hy
  ·obtain⟨x,hx,rfl⟩:=List.mem_map.1 hy
   have:=h x (.inl hx);have:=rZ (.inl hx:fq x e);omega
  ·obtain⟨q,hq,rfl⟩:=List.mem_map.1 hy
   refine lw fun z hz=>?_
   obtain⟨x,hx,rfl⟩:=List.mem_map.1 hz
   have:=h x (.inr ⟨q,hq,hx⟩);have:=rZ (.inr ⟨q,hq,hx⟩:fq x e);omega
 omega
theorem tm (a b:Nat):Cl Tryz.prog 175 [vi a,vi b] [] fun r _=>r=vi (max a b:Nat):=by
 refine ah ab false Tryz.func175 rfl (by kernel_rfl) ?_
 simp only[Tryz.f175,tt,seval]
 refine aa (fun h=>?_) (fun h=>?_)
 ·exact⟨_,_,kh (by omega),ak rfl⟩
 ·exact⟨_,_,kh (by omega),ak rfl⟩
theorem vk (l:List Expr) (g:Expr->Nat) (h:∀x∈l,Cl Tryz.prog 88 [.ag (ar x.row)] [] fun r _=>r=vi (g x:Nat)) (hl:l.length<=1048576):Cl Tryz.prog 240 [.c (.sl l.length (l.flatMap Expr.row) none)] [] fun r _=>r=vi (bI (l.map g):Nat):=by
 refine ah ab false Tryz.func240 rfl (by kernel_rfl) ?_
 simp only[Tryz.f240,tt,seval]
 refine fun _=>?_
 refine dLoop.intro (fun f L p=>∃i:Nat,f 8=vi i/\i<=l.length/\f 3=vi (bI ((l.take i).map g):Nat)/\L=[]/\p=none) (fun f _ _=>(l.length-bq (f 8)).toNat) [] none ⟨al _,an _,?_⟩ ?_
 ·simp only[tt,seval]
  exact⟨0,rfl,by omega,by simp [bI]⟩
 ·rintro g' L p ⟨i,hix,hi,hac,rfl,rfl⟩
  simp only[tt,seval] at hix hac
  simp only[tt,seval,hix,hac,Int.ofNat_lt]
  refine aa (fun hlt=>?_) (fun hge=>?_)
  ·have hlt:i<l.length:=by omega
   obtain⟨it,bD⟩:∃it,it=l[i]:=⟨_,rfl⟩
   have hmem:it∈l:=by rw[bD];exact aK hlt
   refine⟨by omega,by omega,_,aE aJ (az hlt),Expr.ne _ _,?_⟩
   have hstep:bI ((l.take (i+1)).map g)=max (bI ((l.take i).map g)) (g l[i]):=by rw[dW g hlt,gO]
   rw[<-bD] at hstep
   obtain⟨k,o,n,v,q,m,ks,ss⟩:=it
   rw[<-bD,ae]
   simp only[tt,seval]
   refine cZ (h _ hmem) ?_ ?_<;>simp only[tt,seval,hix,ae]
   rw[Ec,aq (n:=(i:Int)+1) (by omega) (by omega)]
   exact⟨_,none,al _,an _,⟨i+1,rfl,by omega,kh (by rw[hstep]),rfl,rfl⟩,by simp only[bq];omega⟩
  ·have hie:i=l.length:=by omega
   subst hie
   rw[List.take_length] at hac
   try rw[List.take_length]
   exact⟨_,_,rfl,ak rfl⟩
theorem zy (q:Query) (g:Expr->Nat) (h:∀x∈exprsQ q,Cl Tryz.prog 88 [.ag (ar x.row)] [] fun r _=>r=vi (g x:Nat)) (hsz:szQuery q<=1048576):Cl Tryz.prog 144 [.ag (ar q.row)] [] fun r _=>r=vi (bI ((exprsQ q).map g):Nat):=by
 have hlen:=eV q
 obtain⟨distinct,items,from_,where_,order,limit⟩:=q
 rw[ay]
 refine ah ab false Tryz.func144 rfl (by kernel_rfl) ?_
 simp only[Tryz.f144,tt,seval]
 refine cZ (qy distinct items from_ where_ order limit hsz) ?_ ?_<;>simp only[tt,seval,ay]
 generalize exprsQ (Query.mk distinct items from_ where_ order limit)=l at *
 refine cZ (vk l g h (by omega)) ?_ ?_<;>simp only[tt,seval]
 exact⟨_,_,rfl,ak rfl⟩
theorem rc (kind op:Int) (not:Bool) (val:Val) (qual name:ByteArray) (kids:List Expr) (sub:List Query) (g:Expr->Nat) (hg:∀x,fq x (Expr.mk kind op not val qual name kids sub)->(Cl Tryz.prog 88 [.ag (ar x.row)] [] fun r _=>r=vi (g x:Nat))/\g x<=szExpr x+1) (hsz:szExpr (Expr.mk kind op not val qual name kids sub)<=1048576):Cl Tryz.prog 88 [.ag (ar (Expr.mk kind op not val qual name kids sub).row)] [] fun r _=>r=vi (DB g (Expr.mk kind op not val qual name kids sub):Nat):=by
 have hdl:=ya (g:=g) (fun x hx=>(hg x hx).2)
 have e:DB g (Expr.mk kind op not val qual name kids sub)=1+bI (kids.map g++sub.map fun q=>bI ((exprsQ q).map g)):=rfl
 rw[e] at hdl ⊢
 rw[ae]
 refine ah ab false Tryz.func88 rfl (by kernel_rfl) ?_
 simp only[Tryz.f88,tt,seval]
 refine fun _=>?_
 refine dLoop.intro (fun f L p=>∃i:Nat,f 11=vi i/\i<=kids.length/\f 3=vi (bI ((kids.take i).map g):Nat)/\L=[(1,.str [.v (.int .i64 kind),.v (.int .i64 op),.v (.bool not),.v (.int .i64 val.kind),.v (.int .i64 val.num),.v (.string val.text),.v (.string qual),.v (.string name),.sl kids.length (kids.flatMap Expr.row) none,.sl sub.length (sub.flatMap Query.row) none])]/\p=none) (fun f _ _=>(kids.length-bq (f 11)).toNat) [(1,.str [.v (.int .i64 kind),.v (.int .i64 op),.v (.bool not),.v (.int .i64 val.kind),.v (.int .i64 val.num),.v (.string val.text),.v (.string qual),.v (.string name),.sl kids.length (kids.flatMap Expr.row) none,.sl sub.length (sub.flatMap Query.row) none])] none ⟨ac rfl (al _),an _,?_⟩ ?_
 ·simp only[tt,seval]
  exact⟨0,rfl,by omega,by simp [bI]⟩
 ·rintro g' L p ⟨i,hix,hi,hac,rfl,rfl⟩
  simp only[tt,seval] at hix hac
  simp only[tt,seval,hix,hac,Int.ofNat_lt]
  refine aa (fun hlt=>?_) (fun hge=>?_)
  ·have hlt:i<kids.length:=by omega
   obtain⟨it,bD⟩:∃it,it=kids[i]:=⟨_,rfl⟩
   have hmem:it∈kids:=by rw[bD];exact aK hlt
   refine⟨by omega,by omega,_,aE aJ (az hlt),Expr.ne _ _,?_⟩
   have hstep:bI ((kids.take (i+1)).map g)=max (bI ((kids.take i).map g)) (g kids[i]):=by rw[dW g hlt,gO]
   rw[<-bD] at hstep
   obtain⟨k,o,n,v,q,m,ks,ss⟩:=it
   rw[<-bD,ae]
   simp only[tt,seval]
   refine cZ ((hg _ (.inl hmem)).1) ?_ ?_<;>simp only[tt,seval,hix,ae]
   rw[Ec,aq (n:=(i:Int)+1) (by omega) (by omega)]
   exact⟨_,none,ac rfl (al _),an _,⟨i+1,rfl,by omega,kh (by rw[hstep]),rfl,rfl⟩,by simp only[bq];omega⟩
  ·have hie:i=kids.length:=by omega
   subst hie
   rw[List.take_length] at hac
   refine fun _=>?_
   refine dLoop.intro (fun f L p=>∃i:Nat,f 23=vi i/\i<=sub.length/\f 3=vi (bI (kids.map g++(sub.take i).map fun q=>bI ((exprsQ q).map g)):Nat)/\L=[(1,.str [.v (.int .i64 kind),.v (.int .i64 op),.v (.bool not),.v (.int .i64 val.kind),.v (.int .i64 val.num),.v (.string val.text),.v (.string qual),.v (.string name),.sl kids.length (kids.flatMap Expr.row) none,.sl sub.length (sub.flatMap Query.row) none])]/\p=none) (fun f _ _=>(sub.length-bq (f 23)).toNat) [(1,.str [.v (.int .i64 kind),.v (.int .i64 op),.v (.bool not),.v (.int .i64 val.kind),.v (.int .i64 val.num),.v (.string val.text),.v (.string qual),.v (.string name),.sl kids.length (kids.flatMap Expr.row) none,.sl sub.length (sub.flatMap Query.row) none])] none ⟨ac rfl (al _),an _,?_⟩ ?_
   ·simp only[tt,seval,hac]
    exact⟨0,rfl,by omega,by simp [bI]⟩
   ·rintro g' L p ⟨i,hix,hi,hac,rfl,rfl⟩
    simp only[tt,seval] at hix hac
    simp only[tt,seval,hix,hac,Int.ofNat_lt]
    refine aa (fun hlt=>?_) (fun hge=>?_)
    ·have hlt:i<sub.length:=by omega
     obtain⟨it,bD⟩:∃it,it=sub[i]:=⟨_,rfl⟩
     have hmem:it∈sub:=by rw[bD];exact aK hlt
     refine⟨by omega,by omega,_,aE Query.row_len (az hlt),Query.ne _ _,?_⟩
     have hstep:bI (kids.map g++(sub.take (i+1)).map fun q=>bI ((exprsQ q).map g))=max (bI (kids.map g++(sub.take i).map fun q=>bI ((exprsQ q).map g))) (bI ((exprsQ sub[i]).map g)):=by rw[dW _ hlt,<-b9,gO]
     rw[<-bD] at hstep
     obtain⟨ds,its,frs,whs,ods,lim⟩:=it
     rw[<-bD,ay]
     simp only[tt,seval]
     refine cZ (zy (Query.mk ds its frs whs ods lim) g (fun x hx=>(hg x (.inr ⟨_,hmem,hx⟩)).1) (Nat.le_trans (lX (e:=(Expr.mk kind op not val qual name kids sub)) hmem) hsz)) ?_ ?_<;>simp only[tt,seval,hix,ay]
     rw[Ec,aq (n:=(i:Int)+1) (by omega) (by omega)]
     exact⟨_,none,ac rfl (al _),an _,⟨i+1,rfl,by omega,kh (by rw[hstep]),rfl,rfl⟩,by simp only[bq];omega⟩
    ·have hie:i=sub.length:=by omega
     subst hie
     rw[List.take_length] at hac
     try rw[List.take_length]
     rw[aq (by omega) (by omega)]
     exact⟨_,_,kh (by omega),ak rfl⟩
theorem wE (e:Expr):(szExpr e<=1048576->Cl Tryz.prog 88 [.ag (ar e.row)] [] fun r _=>r=vi (dpE e:Nat))/\dpE e<=szExpr e+1:=by
 refine gM (P:=fun e d=>(szExpr e<=1048576->Cl Tryz.prog 88 [.ag (ar e.row)] [] fun r _=>r=vi (d:Nat))/\d<=szExpr e+1) (fun e g hg=>⟨fun hsz=>?_,ya fun x hx=>(hg x hx).2⟩) e
 obtain⟨kind,op,not,val,qual,name,kids,sub⟩:=e
 exact rc kind op not val qual name kids sub g (fun x hx=>⟨(hg x hx).1 (Nat.le_trans (gY hx) hsz),(hg x hx).2⟩) hsz
theorem BD (q:Query) (g:Expr->Nat) (h:∀x∈exprsQ q,Cl Tryz.prog 86 [.ag (ar x.row)] [] fun r _=>r=vi (g x:Nat)) (hsz:szQuery q<=1048576):Cl Tryz.prog 99 [.ag (ar q.row)] [] fun r _=>r=vi (bI ((exprsQ q).map g):Nat):=by
 have hlen:=eV q
 obtain⟨distinct,items,from_,where_,order,limit⟩:=q
 rw[ay]
 refine ah ab false Tryz.func99 rfl (by kernel_rfl) ?_
 simp only[Tryz.f99,tt,seval]
 refine cZ (og distinct items from_ where_ order limit hsz) ?_ ?_<;>simp only[tt,seval,ay]
 generalize exprsQ (Query.mk distinct items from_ where_ order limit)=l at *
 refine dLoop.intro (fun f L p=>∃i:Nat,f 5=vi i/\i<=l.length/\f 3=vi (bI ((l.take i).map g):Nat)/\L=[(1,.str [.v (.bool distinct),.sl items.length (items.flatMap Item.row) none,.sl from_.length (from_.flatMap Source.row) none,.sl where_.length (where_.flatMap Expr.row) none,.sl order.length (order.flatMap SortKey.row) none,.v (.int .i64 limit)])]/\p=none) (fun f _ _=>(l.length-bq (f 5)).toNat) [(1,.str [.v (.bool distinct),.sl items.length (items.flatMap Item.row) none,.sl from_.length (from_.flatMap Source.row) none,.sl where_.length (where_.flatMap Expr.row) none,.sl order.length (order.flatMap SortKey.row) none,.v (.int .i64 limit)])] none ⟨ac rfl (al _),an _,?_⟩ ?_
 ·simp only[tt,seval]
  exact⟨0,rfl,by omega,by simp [bI]⟩
 ·rintro g' L p ⟨i,hix,hi,hac,rfl,rfl⟩
  simp only[tt,seval] at hix hac
  simp only[tt,seval,hix,hac,Int.ofNat_lt]
  refine fun _=>?_
  refine aa (fun hlt=>?_) (fun hge=>?_)
  ·have hlt:i<l.length:=by omega
   have hmem:l[i]∈l:=aK hlt
   refine⟨by omega,by omega,_,aE aJ (az hlt),Expr.ne _ _,?_⟩
   simp only[seval,Expr.tk,aJ]
   refine cZ (h _ hmem) ?_ ?_<;>simp only[tt,seval]
   refine cZ (tm (bI ((l.take i).map g)) (g l[i])) ?_ ?_<;>simp only[tt,seval,hix]
   rw[f5 i (by omega)]
   have hstep:bI ((l.take (i+1)).map g)=max (bI ((l.take i).map g)) (g l[i]):=by rw[dW g hlt,gO]
   exact⟨_,none,ac rfl (al _),an _,⟨i+1,rfl,by omega,kh (by rw[hstep]),rfl,rfl⟩,by simp only[bq];omega⟩
  ·have hie:i=l.length:=by omega
   subst hie
   rw[List.take_length] at hac
   try rw[List.take_length]
   exact⟨_,_,rfl,ak rfl⟩
theorem tn (kind op:Int) (not:Bool) (val:Val) (qual name:ByteArray) (kids:List Expr) (sub:List Query) (g:Expr->Nat) (hg:∀x,fq x (Expr.mk kind op not val qual name kids sub)->(Cl Tryz.prog 86 [.ag (ar x.row)] [] fun r _=>r=vi (g x:Nat))/\g x<=szExpr x+1) (hsz:szExpr (Expr.mk kind op not val qual name kids sub)<=1048576):Cl Tryz.prog 86 [.ag (ar (Expr.mk kind op not val qual name kids sub).row)] [] fun r _=>r=vi (DB g (Expr.mk kind op not val qual name kids sub):Nat):=by
 have hdl:=ya (g:=g) (fun x hx=>(hg x hx).2)
 have e:DB g (Expr.mk kind op not val qual name kids sub)=1+bI (kids.map g++sub.map fun q=>bI ((exprsQ q).map g)):=rfl
 rw[e] at hdl ⊢
 rw[ae]
 refine ah ab false Tryz.func86 rfl (by kernel_rfl) ?_
 simp only[Tryz.f86,tt,seval]
 refine dLoop.intro (fun f L p=>∃i:Nat,f 4=vi i/\i<=kids.length/\f 3=vi (bI ((kids.take i).map g):Nat)/\L=[(1,.str [.v (.int .i64 kind),.v (.int .i64 op),.v (.bool not),.v (.int .i64 val.kind),.v (.int .i64 val.num),.v (.string val.text),.v (.string qual),.v (.string name),.sl kids.length (kids.flatMap Expr.row) none,.sl sub.length (sub.flatMap Query.row) none])]/\p=none) (fun f _ _=>(kids.length-bq (f 4)).toNat) [(1,.str [.v (.int .i64 kind),.v (.int .i64 op),.v (.bool not),.v (.int .i64 val.kind),.v (.int .i64 val.num),.v (.string val.text),.v (.string qual),.v (.string name),.sl kids.length (kids.flatMap Expr.row) none,.sl sub.length (sub.flatMap Query.row) none])] none ⟨ac rfl (al _),an _,?_⟩ ?_
 ·simp only[tt,seval]
  exact⟨0,rfl,by omega,by simp [bI]⟩
 ·rintro g' L p ⟨i,hix,hi,hac,rfl,rfl⟩
  simp only[tt,seval] at hix hac
  simp only[tt,seval,hix,hac,Int.ofNat_lt]
  refine fun _=>?_
  refine aa (fun hlt=>?_) (fun hge=>?_)
  ·have hlt:i<kids.length:=by omega
   have hmem:kids[i]∈kids:=aK hlt
   refine⟨by omega,by omega,_,aE aJ (az hlt),Expr.ne _ _,?_⟩
   simp only[seval,Expr.tk,aJ]
   refine cZ ((hg _ (.inl hmem)).1) ?_ ?_<;>simp only[tt,seval]
   refine cZ (tm (bI ((kids.take i).map g)) (g kids[i])) ?_ ?_<;>simp only[tt,seval,hix]
   rw[f5 i (by omega)]
   have hstep:bI ((kids.take (i+1)).map g)=max (bI ((kids.take i).map g)) (g kids[i]):=by rw[dW g hlt,gO]
   exact⟨_,none,ac rfl (al _),an _,⟨i+1,rfl,by omega,kh (by rw[hstep]),rfl,rfl⟩,by simp only[bq];omega⟩
  ·have hie:i=kids.length:=by omega
   subst hie
   rw[List.take_length] at hac
   refine dLoop.intro (fun f L p=>∃i:Nat,f 5=vi i/\i<=sub.length/\f 3=vi (bI (kids.map g++(sub.take i).map fun q=>bI ((exprsQ q).map g)):Nat)/\L=[(1,.str [.v (.int .i64 kind),.v (.int .i64 op),.v (.bool not),.v (.int .i64 val.kind),.v (.int .i64 val.num),.v (.string val.text),.v (.string qual),.v (.string name),.sl kids.length (kids.flatMap Expr.row) none,.sl sub.length (sub.flatMap Query.row) none])]/\p=none) (fun f _ _=>(sub.length-bq (f 5)).toNat) [(1,.str [.v (.int .i64 kind),.v (.int .i64 op),.v (.bool not),.v (.int .i64 val.kind),.v (.int .i64 val.num),.v (.string val.text),.v (.string qual),.v (.string name),.sl kids.length (kids.flatMap Expr.row) none,.sl sub.length (sub.flatMap Query.row) none])] none ⟨ac rfl (al _),an _,?_⟩ ?_
   ·simp only[tt,seval,hac]
    exact⟨0,rfl,by omega,by simp [bI]⟩
   ·rintro g' L p ⟨i,hix,hi,hac,rfl,rfl⟩
    simp only[tt,seval] at hix hac
    simp only[tt,seval,hix,hac,Int.ofNat_lt]
    refine fun _=>?_
    refine aa (fun hlt=>?_) (fun hge=>?_)
    ·have hlt:i<sub.length:=by omega
     have hmem:sub[i]∈sub:=aK hlt
     refine⟨by omega,by omega,_,aE Query.row_len (az hlt),Query.ne _ _,?_⟩
     simp only[seval,Query.tk,Query.row_len]
     refine cZ (BD (sub[i]) g (fun x hx=>(hg x (.inr ⟨_,hmem,hx⟩)).1) (Nat.le_trans (lX (e:=(Expr.mk kind op not val qual name kids sub)) hmem) hsz)) ?_ ?_<;>simp only[tt,seval]
     refine cZ (tm (bI (kids.map g++(sub.take i).map fun q=>bI ((exprsQ q).map g))) (bI ((exprsQ sub[i]).map g))) ?_ ?_<;>simp only[tt,seval,hix]
     rw[f5 i (by omega)]
     have hstep:bI (kids.map g++(sub.take (i+1)).map fun q=>bI ((exprsQ q).map g))=max (bI (kids.map g++(sub.take i).map fun q=>bI ((exprsQ q).map g))) (bI ((exprsQ sub[i]).map g)):=by rw[dW _ hlt,<-b9,gO]
     exact⟨_,none,ac rfl (al _),an _,⟨i+1,rfl,by omega,kh (by rw[hstep]),rfl,rfl⟩,by simp only[bq];omega⟩
    ·have hie:i=sub.length:=by omega
     subst hie
     rw[List.take_length] at hac
     try rw[List.take_length]
     rw[aq (by omega) (by omega)]
     exact⟨_,_,kh (by omega),ak rfl⟩
theorem zA (e:Expr):(szExpr e<=1048576->Cl Tryz.prog 86 [.ag (ar e.row)] [] fun r _=>r=vi (dpE e:Nat))/\dpE e<=szExpr e+1:=by
 refine gM (P:=fun e d=>(szExpr e<=1048576->Cl Tryz.prog 86 [.ag (ar e.row)] [] fun r _=>r=vi (d:Nat))/\d<=szExpr e+1) (fun e g hg=>⟨fun hsz=>?_,ya fun x hx=>(hg x hx).2⟩) e
 obtain⟨kind,op,not,val,qual,name,kids,sub⟩:=e
 exact tn kind op not val qual name kids sub g (fun x hx=>⟨(hg x hx).1 (Nat.le_trans (gY hx) hsz),(hg x hx).2⟩) hsz
def A0 (g:Expr->Nat) (e:Expr):Nat:=1+(e.kids.map g).sum+(e.sub.map fun q=>((exprsQ q).map g).sum).sum
noncomputable def ndE:Expr->Nat:=f9 A0
theorem kM {α:Type} (g:α->Nat) {l:List α} {i:Nat} (h:i<l.length):((l.take (i+1)).map g).sum=((l.take i).map g).sum+g l[i]:=qV g h
theorem tq {α:Type} {f g:α->Nat}:∀ {l:List α},(∀x∈l,f x<=g x)->(l.map f).sum<=(l.map g).sum
 | [],_=>Nat.le_refl _
 |x::r,h=>by
  have h1:=h x (by simp)
  have h2:=tq (l:=r) fun y hy=>h y (by simp [hy])
  simp only[List.map_cons,List.sum_cons];omega
theorem nj {α:Type} (f:α->Nat):∀l:List α,(l.map fun x=>f x+1).sum=l.length+(l.map f).sum
 | []=>rfl
 |x::r=>by simp only[List.map_cons,List.sum_cons,nj f r,List.length_cons];omega
theorem qz:∀l:List Item,((bd l).map fun x=>szExpr x+1).sum<=iG l
 | []=>by simp [bd]
 |.mk s q e a::r=>by
  have:=qz r
  rw[iG,ja]
  cases s with
  |true=>
   have h:bd (.mk true q e a::r)=bd r:=rfl
   rw[h];omega
  |false=>
   have h:bd (.mk false q e a::r)=e::bd r:=rfl
   rw[h,List.map_cons,List.sum_cons];omega
theorem BE:∀l:List Source,((l.flatMap Source.on).map fun x=>szExpr x+1).sum<=cR l
 | []=>by simp
 |.mk t a o::r=>by
  have:=BE r
  rw[cR,dF,List.flatMap_cons,List.map_append,List.sum_append,aC]
  have h:(Source.mk t a o).on=o:=rfl
  rw[h,nj];omega
theorem yb:∀l:List SortKey,((l.map SortKey.e).map fun x=>szExpr x+1).sum<=ed l
 | []=>by simp
 |.mk e d::r=>by
  have:=yb r
  rw[ed,gH,List.map_cons,List.map_cons,List.sum_cons]
  have h:(SortKey.mk e d).e=e:=rfl
  rw[h];omega
theorem wF (q:Query):((exprsQ q).map fun x=>szExpr x+1).sum<=szQuery q:=by
 obtain⟨d,it,fr,wh,or,li⟩:=q
 have h1:=qz it
 have h2:=BE fr
 have h3:=yb or
 rw[cV,aC]
 have e:exprsQ (.mk d it fr wh or li)=bd it++fr.flatMap Source.on++wh++or.map SortKey.e:=rfl
 rw[e,List.map_append,List.map_append,List.map_append,List.sum_append,List.sum_append,List.sum_append,nj szExpr wh]
 omega
theorem DC {e:Expr} {g:Expr->Nat} (h:∀x,fq x e->g x<=szExpr x+1):A0 g e<=szExpr e+1:=by
 obtain⟨k,o,n,v,q,m,ks,ss⟩:=e
 have e1:A0 g (.mk k o n v q m ks ss)=1+(ks.map g).sum+(ss.map fun q=>((exprsQ q).map g).sum).sum:=rfl
 rw[e1,bQ,aC,bw]
 have h1:=tq (l:=ks) (f:=g) (g:=fun x=>szExpr x+1) fun x hx=>h x (.inl hx)
 have h2:=tq (l:=ss) (f:=fun q=>((exprsQ q).map g).sum) (g:=szQuery) fun q hq=>Nat.le_trans (tq fun x hx=>h x (.inr ⟨q,hq,hx⟩)) (wF q)
 rw[nj] at h1
 omega
theorem oM (l:List Expr) (g:Expr->Nat) (h:∀x∈l,Cl Tryz.prog 89 [.ag (ar x.row)] [] fun r _=>r=vi (g x:Nat)) (hl:l.length<=1048576) (hs:(l.map g).sum<=2097152):Cl Tryz.prog 176 [.c (.sl l.length (l.flatMap Expr.row) none)] [] fun r _=>r=vi ((l.map g).sum:Nat):=by
 refine ah ab false Tryz.func176 rfl (by kernel_rfl) ?_
 simp only[Tryz.f176,tt,seval]
 refine fun _=>?_
 refine dLoop.intro (fun f L p=>∃i:Nat,f 8=vi i/\i<=l.length/\f 3=vi (((l.take i).map g).sum:Nat)/\L=[]/\p=none) (fun f _ _=>(l.length-bq (f 8)).toNat) [] none ⟨al _,an _,?_⟩ ?_
 ·simp only[tt,seval]
  exact⟨0,rfl,by omega,by simp []⟩
 ·rintro g' L p ⟨i,hix,hi,hac,rfl,rfl⟩
  simp only[tt,seval] at hix hac
  simp only[tt,seval,hix,hac,Int.ofNat_lt]
  refine aa (fun hlt=>?_) (fun hge=>?_)
  ·have hlt:i<l.length:=by omega
   obtain⟨it,bD⟩:∃it,it=l[i]:=⟨_,rfl⟩
   have hmem:it∈l:=by rw[bD];exact aK hlt
   refine⟨by omega,by omega,_,aE aJ (az hlt),Expr.ne _ _,?_⟩
   have hstep:((l.take (i+1)).map g).sum=((l.take i).map g).sum+g l[i]:=kM g hlt
   rw[<-bD] at hstep
   obtain⟨k,o,n,v,q,m,ks,ss⟩:=it
   rw[<-bD,ae]
   simp only[tt,seval]
   refine cZ (h _ hmem) ?_ ?_<;>simp only[tt,seval,hix,ae]
   obtain⟨rst,hrst⟩:=gc g l (i+1)
   rw[f5 i (by omega)]
   rw[aq (by omega) (by omega)]
   exact⟨_,none,al _,an _,⟨i+1,rfl,by omega,kh (by rw[hstep];omega),rfl,rfl⟩,by simp only[bq];omega⟩
  ·have hie:i=l.length:=by omega
   subst hie
   rw[List.take_length] at hac
   try rw[List.take_length]
   exact⟨_,_,rfl,ak rfl⟩
theorem vl (q:Query) (g:Expr->Nat) (h:∀x∈exprsQ q,Cl Tryz.prog 89 [.ag (ar x.row)] [] fun r _=>r=vi (g x:Nat)) (hsz:szQuery q<=1048576) (hs:((exprsQ q).map g).sum<=2097152):Cl Tryz.prog 145 [.ag (ar q.row)] [] fun r _=>r=vi (((exprsQ q).map g).sum:Nat):=by
 have hlen:=eV q
 obtain⟨distinct,items,from_,where_,order,limit⟩:=q
 rw[ay]
 refine ah ab false Tryz.func145 rfl (by kernel_rfl) ?_
 simp only[Tryz.f145,tt,seval]
 refine cZ (qy distinct items from_ where_ order limit hsz) ?_ ?_<;>simp only[tt,seval,ay]
 generalize exprsQ (Query.mk distinct items from_ where_ order limit)=l at *
 refine cZ (oM l g h (by omega) hs) ?_ ?_<;>simp only[tt,seval]
 exact⟨_,_,rfl,ak rfl⟩
theorem vm (kind op:Int) (not:Bool) (val:Val) (qual name:ByteArray) (kids:List Expr) (sub:List Query) (g:Expr->Nat) (hg:∀x,fq x (Expr.mk kind op not val qual name kids sub)->(Cl Tryz.prog 89 [.ag (ar x.row)] [] fun r _=>r=vi (g x:Nat))/\g x<=szExpr x+1) (hsz:szExpr (Expr.mk kind op not val qual name kids sub)<=1048576):Cl Tryz.prog 89 [.ag (ar (Expr.mk kind op not val qual name kids sub).row)] [] fun r _=>r=vi (A0 g (Expr.mk kind op not val qual name kids sub):Nat):=by
 have hdl:=DC (g:=g) (fun x hx=>(hg x hx).2)
 have hks:=hsz
 rw[bQ,aC,bw] at hks
 have e:A0 g (Expr.mk kind op not val qual name kids sub)=1+(kids.map g).sum+(sub.map fun q=>((exprsQ q).map g).sum).sum:=rfl
 rw[e] at hdl ⊢
 rw[ae]
 refine ah ab false Tryz.func89 rfl (by kernel_rfl) ?_
 simp only[Tryz.f89,tt,seval]
 refine cZ (oM kids g (fun x hx=>(hg x (.inl hx)).1) (by omega) (by omega)) ?_ ?_<;>simp only[tt,seval]
 rw[aq (by omega) (by omega)]
 refine fun _=>?_
 refine dLoop.intro (fun f L p=>∃i:Nat,f 13=vi i/\i<=sub.length/\f 3=vi ((1+(kids.map g).sum+((sub.take i).map fun q=>((exprsQ q).map g).sum).sum):Nat)/\L=[(1,.str [.v (.int .i64 kind),.v (.int .i64 op),.v (.bool not),.v (.int .i64 val.kind),.v (.int .i64 val.num),.v (.string val.text),.v (.string qual),.v (.string name),.sl kids.length (kids.flatMap Expr.row) none,.sl sub.length (sub.flatMap Query.row) none])]/\p=none) (fun f _ _=>(sub.length-bq (f 13)).toNat) [(1,.str [.v (.int .i64 kind),.v (.int .i64 op),.v (.bool not),.v (.int .i64 val.kind),.v (.int .i64 val.num),.v (.string val.text),.v (.string qual),.v (.string name),.sl kids.length (kids.flatMap Expr.row) none,.sl sub.length (sub.flatMap Query.row) none])] none ⟨ac rfl (al _),an _,?_⟩ ?_
 ·simp only[tt,seval]
  exact⟨0,rfl,by omega,by simp⟩
 ·rintro g' L p ⟨i,hix,hi,hac,rfl,rfl⟩
  simp only[tt,seval] at hix hac
  simp only[tt,seval,hix,hac,Int.ofNat_lt]
  refine aa (fun hlt=>?_) (fun hge=>?_)
  ·have hlt:i<sub.length:=by omega
   obtain⟨it,bD⟩:∃it,it=sub[i]:=⟨_,rfl⟩
   have hmem:it∈sub:=by rw[bD];exact aK hlt
   refine⟨by omega,by omega,_,aE Query.row_len (az hlt),Query.ne _ _,?_⟩
   have hstep:((sub.take (i+1)).map fun q=>((exprsQ q).map g).sum).sum=((sub.take i).map fun q=>((exprsQ q).map g).sum).sum+((exprsQ sub[i]).map g).sum:=kM _ hlt
   rw[<-bD] at hstep
   obtain⟨ds,its,frs,whs,ods,lim⟩:=it
   rw[<-bD,ay]
   simp only[tt,seval]
   obtain⟨rst,hrst⟩:=gc (fun q=>((exprsQ q).map g).sum) sub (i+1)
   refine cZ (vl (Query.mk ds its frs whs ods lim) g (fun x hx=>(hg x (.inr ⟨_,hmem,hx⟩)).1) (Nat.le_trans (lX (e:=(Expr.mk kind op not val qual name kids sub)) hmem) hsz) (by omega)) ?_ ?_<;>simp only[tt,seval,hix,ay]
   rw[f5 i (by omega)]
   rw[aq (by omega) (by omega)]
   exact⟨_,none,ac rfl (al _),an _,⟨i+1,rfl,by omega,kh (by rw[hstep];omega),rfl,rfl⟩,by simp only[bq];omega⟩
  ·have hie:i=sub.length:=by omega
   subst hie
   rw[List.take_length] at hac
   try rw[List.take_length]
   exact⟨_,_,rfl,ak rfl⟩
theorem BF (e:Expr):(szExpr e<=1048576->Cl Tryz.prog 89 [.ag (ar e.row)] [] fun r _=>r=vi (ndE e:Nat))/\ndE e<=szExpr e+1:=by
 refine gM (P:=fun e d=>(szExpr e<=1048576->Cl Tryz.prog 89 [.ag (ar e.row)] [] fun r _=>r=vi (d:Nat))/\d<=szExpr e+1) (fun e g hg=>⟨fun hsz=>?_,DC fun x hx=>(hg x hx).2⟩) e
 obtain⟨kind,op,not,val,qual,name,kids,sub⟩:=e
 exact vm kind op not val qual name kids sub g (fun x hx=>⟨(hg x hx).1 (Nat.le_trans (gY hx) hsz),(hg x hx).2⟩) hsz
theorem zB (q:Query) (hsz:szQuery q<=1048576):Cl Tryz.prog 173 [.ag (ar q.row)] [] fun r _=>r = .c (.sl (exprsQ q).length ((exprsQ q).flatMap Expr.row) none):=by
 obtain⟨distinct,items,from_,where_,order,limit⟩:=q
 exact og distinct items from_ where_ order limit hsz
theorem BG {l:Int} (h:0<=l):cF l 1=l-1:=by unfold cF;split<;>omega
theorem vn (kind op:Int) (not:Bool) (val:Val) (qual name:ByteArray) (kids:List Expr) (sub:List Query) (g:Expr->Nat) (hg:∀x,fq x (Expr.mk kind op not val qual name kids sub)->∀l:Int,0<=l->l<=200->Cl Tryz.prog 84 [.ag (ar x.row),vi l] [] fun r _=>r=vi (cF l (g x))) (hsz:szExpr (Expr.mk kind op not val qual name kids sub)<=1048576) (l0:Int) (hl0:0<=l0) (hl1:l0<=200):Cl Tryz.prog 84 [.ag (ar (Expr.mk kind op not val qual name kids sub).row),vi l0] [] fun r _=>r=vi (cF l0 (A0 g (Expr.mk kind op not val qual name kids sub))):=by
 have hks:=hsz
 rw[bQ,aC,bw] at hks
 have e:A0 g (Expr.mk kind op not val qual name kids sub)=1+(kids.map g).sum+(sub.map fun q=>((exprsQ q).map g).sum).sum:=rfl
 rw[e]
 rw[ae]
 refine ah ab false Tryz.func84 rfl (by kernel_rfl) ?_
 simp only[Tryz.f84,tt,seval]
 rw[aq (by omega) (by omega)]
 refine dLoop.intro (fun f L p=>∃i:Nat,f 5=vi i/\i<=kids.length/\f 1=vi (cF l0 (1+((kids.take i).map g).sum))/\L=[(2,.str [.v (.int .i64 kind),.v (.int .i64 op),.v (.bool not),.v (.int .i64 val.kind),.v (.int .i64 val.num),.v (.string val.text),.v (.string qual),.v (.string name),.sl kids.length (kids.flatMap Expr.row) none,.sl sub.length (sub.flatMap Query.row) none])]/\p=none) (fun f _ _=>(kids.length-bq (f 5)).toNat) [(2,.str [.v (.int .i64 kind),.v (.int .i64 op),.v (.bool not),.v (.int .i64 val.kind),.v (.int .i64 val.num),.v (.string val.text),.v (.string qual),.v (.string name),.sl kids.length (kids.flatMap Expr.row) none,.sl sub.length (sub.flatMap Query.row) none])] none ⟨ac rfl (al _),an _,?_⟩ ?_
 ·simp only[tt,seval]
  exact⟨0,rfl,by omega,by simp [BG hl0]⟩
 ·rintro g' L p ⟨i,hix,hi,hac,rfl,rfl⟩
  simp only[tt,seval] at hix hac
  simp only[tt,seval,hix]
  refine fun _=>?_
  have hc:(i<kids.length/\0<=cF l0 (1+((kids.take i).map g).sum))∨(cF l0 (1+((kids.take i).map g).sum)=cF l0 (1+(kids.map g).sum)/\i<kids.length /\ ¬ 0<=cF l0 (1+((kids.take i).map g).sum))∨(cF l0 (1+((kids.take i).map g).sum)=cF l0 (1+(kids.map g).sum) /\ ¬i<kids.length):=by
   by_cases h1:i<kids.length
   ·by_cases h2:0<=cF l0 (1+((kids.take i).map g).sum)
    ·exact .inl ⟨h1,h2⟩
    ·obtain⟨rst,hrst⟩:=gc (g) kids i
     have hb:=gb (s:=(1+((kids.take i).map g).sum)) hl0
     have h3:=pw (b:=rst) (by omega:cF l0 (1+((kids.take i).map g).sum)<0) hl0
     refine .inr (.inl ⟨?_,h1,h2⟩)
     rw[show (1+(kids.map g).sum)=(1+((kids.take i).map g).sum)+rst by omega,h3];omega
   ·refine .inr (.inr ⟨?_,h1⟩)
    have:i=kids.length:=by omega
    subst this
    rw[List.take_length]
  rcases hc with⟨hlt,hp⟩|⟨he,hlt,hn⟩|⟨he,hge⟩
  ·simp only[tt,seval,av (show (i:Int)<kids.length by omega),hix,hac]
   refine aa (fun _=>?_) (fun hn=>absurd hp hn)
   refine⟨by omega,by omega,_,aE aJ (az hlt),Expr.ne _ _,?_⟩
   have hmem:kids[i]∈kids:=aK hlt
   simp only[seval,Expr.tk,aJ]
   have hb:=gb (s:=(1+((kids.take i).map g).sum)) hl0
   refine cZ (hg kids[i] (.inl hmem) (cF l0 (1+((kids.take i).map g).sum)) hp (by omega)) ?_ ?_<;>simp only[tt,seval,hix]
   rw[aq (n:=(i:Int)+1) (by omega) (by omega),<-u5 hp]
   exact⟨_,none,ac rfl (al _),an _,⟨i+1,rfl,by omega,kh (by rw[kM g hlt,Nat.add_assoc]),rfl,rfl⟩,by simp only[bq];omega⟩
  case' inr.inl=>
   simp only[tt,seval,av (show (i:Int)<kids.length by omega),hix,hac]
   refine aa (fun hp=>absurd hp hn) (fun _=>?_)
  case' inr.inr=>
   simp only[tt,seval,au (show ¬(i:Int)<kids.length by omega),hix,hac]
  all_goals
   rw[he] at hac
   try rw[he]
   refine dLoop.intro (fun f L p=>∃i:Nat,f 6=vi i/\i<=sub.length/\f 1=vi (cF l0 (1+(kids.map g).sum+((sub.take i).map fun q=>((exprsQ q).map g).sum).sum))/\L=[(2,.str [.v (.int .i64 kind),.v (.int .i64 op),.v (.bool not),.v (.int .i64 val.kind),.v (.int .i64 val.num),.v (.string val.text),.v (.string qual),.v (.string name),.sl kids.length (kids.flatMap Expr.row) none,.sl sub.length (sub.flatMap Query.row) none])]/\p=none) (fun f _ _=>(sub.length-bq (f 6)).toNat) [(2,.str [.v (.int .i64 kind),.v (.int .i64 op),.v (.bool not),.v (.int .i64 val.kind),.v (.int .i64 val.num),.v (.string val.text),.v (.string qual),.v (.string name),.sl kids.length (kids.flatMap Expr.row) none,.sl sub.length (sub.flatMap Query.row) none])] none ⟨ac rfl (al _),an _,?_⟩ ?_
   ·simp only[tt,seval,hac]
    exact⟨0,rfl,by omega,by simp⟩
   ·rintro g' L p ⟨i,hix,hi,hac,rfl,rfl⟩
    simp only[tt,seval] at hix hac
    simp only[tt,seval,hix]
    refine fun _=>?_
    have hc:(i<sub.length/\0<=cF l0 (1+(kids.map g).sum+((sub.take i).map fun q=>((exprsQ q).map g).sum).sum))∨(cF l0 (1+(kids.map g).sum+((sub.take i).map fun q=>((exprsQ q).map g).sum).sum)=cF l0 (1+(kids.map g).sum+(sub.map fun q=>((exprsQ q).map g).sum).sum)/\i<sub.length /\ ¬ 0<=cF l0 (1+(kids.map g).sum+((sub.take i).map fun q=>((exprsQ q).map g).sum).sum))∨(cF l0 (1+(kids.map g).sum+((sub.take i).map fun q=>((exprsQ q).map g).sum).sum)=cF l0 (1+(kids.map g).sum+(sub.map fun q=>((exprsQ q).map g).sum).sum) /\ ¬i<sub.length):=by
     by_cases h1:i<sub.length
     ·by_cases h2:0<=cF l0 (1+(kids.map g).sum+((sub.take i).map fun q=>((exprsQ q).map g).sum).sum)
      ·exact .inl ⟨h1,h2⟩
      ·obtain⟨rst,hrst⟩:=gc (fun q=>((exprsQ q).map g).sum) sub i
       have hb:=gb (s:=(1+(kids.map g).sum+((sub.take i).map fun q=>((exprsQ q).map g).sum).sum)) hl0
       have h3:=pw (b:=rst) (by omega:cF l0 (1+(kids.map g).sum+((sub.take i).map fun q=>((exprsQ q).map g).sum).sum)<0) hl0
       refine .inr (.inl ⟨?_,h1,h2⟩)
       rw[show (1+(kids.map g).sum+(sub.map fun q=>((exprsQ q).map g).sum).sum)=(1+(kids.map g).sum+((sub.take i).map fun q=>((exprsQ q).map g).sum).sum)+rst by omega,h3];omega
     ·refine .inr (.inr ⟨?_,h1⟩)
      have:i=sub.length:=by omega
      subst this
      rw[List.take_length]
    rcases hc with⟨hlt,hp⟩|⟨he,hlt,hn⟩|⟨he,hge⟩
    ·simp only[tt,seval,av (show (i:Int)<sub.length by omega),hix,hac]
     refine aa (fun _=>?_) (fun hn=>absurd hp hn)
     refine⟨by omega,by omega,_,aE Query.row_len (az hlt),Query.ne _ _,?_⟩
     have hmem:sub[i]∈sub:=aK hlt
     have hqs:=lX (e:=(Expr.mk kind op not val qual name kids sub)) hmem
     have hql:=eV sub[i]
     simp only[seval,Query.tk,Query.row_len]
     refine cZ (zB sub[i] (by omega)) ?_ ?_<;>simp only[tt,seval]
     have hl:∀x∈exprsQ sub[i],∀l:Int,0<=l->l<=200->Cl Tryz.prog 84 [.ag (ar x.row),vi l] [] fun r _=>r=vi (cF l (g x)):=fun x hx=>hg x (.inr ⟨_,hmem,hx⟩)
     have hstep2:((sub.take (i+1)).map fun q=>((exprsQ q).map g).sum).sum=((sub.take i).map fun q=>((exprsQ q).map g).sum).sum+((exprsQ sub[i]).map g).sum:=kM _ hlt
     generalize exprsQ sub[i]=l at *
     have hac2:=hac
     obtain⟨S,hS⟩:∃S,S=(1+(kids.map g).sum+((sub.take i).map fun q=>((exprsQ q).map g).sum).sum):=⟨_,rfl⟩
     rw[<-hS] at hac2
     try rw[<-hS]
     refine dLoop.intro (fun f L p=>∃k:Nat,f 8=vi k/\k<=l.length/\f 1=vi (cF l0 (S+((l.take k).map g).sum))/\L=[(2,.str [.v (.int .i64 kind),.v (.int .i64 op),.v (.bool not),.v (.int .i64 val.kind),.v (.int .i64 val.num),.v (.string val.text),.v (.string qual),.v (.string name),.sl kids.length (kids.flatMap Expr.row) none,.sl sub.length (sub.flatMap Query.row) none])]/\p=none) (fun f _ _=>(l.length-bq (f 8)).toNat) [(2,.str [.v (.int .i64 kind),.v (.int .i64 op),.v (.bool not),.v (.int .i64 val.kind),.v (.int .i64 val.num),.v (.string val.text),.v (.string qual),.v (.string name),.sl kids.length (kids.flatMap Expr.row) none,.sl sub.length (sub.flatMap Query.row) none])] none ⟨ac rfl (al _),an _,?_⟩ ?_
     ·simp only[tt,seval,hac2]
      exact⟨0,rfl,by omega,by simp⟩
     ·rintro g' L p ⟨k,hkx,hk0,hac3,rfl,rfl⟩
      simp only[tt,seval] at hkx hac3
      simp only[tt,seval,hkx]
      refine fun _=>?_
      have hc3:(k<l.length/\0<=cF l0 (S+((l.take k).map g).sum))∨(cF l0 (S+((l.take k).map g).sum)=cF l0 (S+(l.map g).sum)/\k<l.length /\ ¬ 0<=cF l0 (S+((l.take k).map g).sum))∨(cF l0 (S+((l.take k).map g).sum)=cF l0 (S+(l.map g).sum) /\ ¬k<l.length):=by
       by_cases h1:k<l.length
       ·by_cases h2:0<=cF l0 (S+((l.take k).map g).sum)
        ·exact .inl ⟨h1,h2⟩
        ·obtain⟨rst3,hrst3⟩:=gc (g) l k
         have hb3:=gb (s:=(S+((l.take k).map g).sum)) hl0
         have h3:=pw (b:=rst3) (by omega:cF l0 (S+((l.take k).map g).sum)<0) hl0
         refine .inr (.inl ⟨?_,h1,h2⟩)
         rw[show (S+(l.map g).sum)=(S+((l.take k).map g).sum)+rst3 by omega,h3];omega
       ·refine .inr (.inr ⟨?_,h1⟩)
        have:k=l.length:=by omega
        subst this
        rw[List.take_length]
      rcases hc3 with⟨hlt3,hp3⟩|⟨he3,hlt3,hn3⟩|⟨he3,hge3⟩
      ·simp only[tt,seval,av (show (k:Int)<l.length by omega),hkx,hac3]
       refine aa (fun _=>?_) (fun hn3=>absurd hp3 hn3)
       refine⟨by omega,by omega,_,aE aJ (az hlt3),Expr.ne _ _,?_⟩
       simp only[seval,Expr.tk,aJ]
       have hb3:=gb (s:=(S+((l.take k).map g).sum)) hl0
       refine cZ (hl l[k] (aK hlt3) (cF l0 (S+((l.take k).map g).sum)) hp3 (by omega)) ?_ ?_<;>simp only[tt,seval,hkx]
       rw[aq (n:=(k:Int)+1) (by omega) (by omega),<-u5 hp3]
       exact⟨_,none,ac rfl (al _),an _,⟨k+1,rfl,by omega,kh (by rw[kM g hlt3,Nat.add_assoc]),rfl,rfl⟩,by simp only[bq];omega⟩
      case' inr.inl=>
       simp only[tt,seval,av (show (k:Int)<l.length by omega),hkx,hac3]
       refine aa (fun hp3=>absurd hp3 hn3) (fun _=>?_)
      case' inr.inr=>
       simp only[tt,seval,au (show ¬(k:Int)<l.length by omega),hkx,hac3]
      all_goals
       rw[he3] at hac3
       try rw[he3]
       simp only[tt,seval,hix,hac3]
       try rw[f5 i (by omega)]
       exact⟨_,none,ac rfl (al _),an _,⟨i+1,rfl,by omega,kh (by rw[hstep2,hS];congr 1;omega),rfl,rfl⟩,by simp only[bq];omega⟩
    case' inr.inl=>
     simp only[tt,seval,av (show (i:Int)<sub.length by omega),hix,hac]
     refine aa (fun hp=>absurd hp hn) (fun _=>?_)
    case' inr.inr=>
     simp only[tt,seval,au (show ¬(i:Int)<sub.length by omega),hix,hac]
    all_goals
     rw[he] at hac
     try rw[he]
     exact⟨_,_,rfl,ak rfl⟩
theorem BH (e:Expr):szExpr e<=1048576->∀l:Int,0<=l->l<=200->Cl Tryz.prog 84 [.ag (ar e.row),vi l] [] fun r _=>r=vi (cF l (ndE e)):=by
 refine gM (P:=fun e d=>szExpr e<=1048576->∀l:Int,0<=l->l<=200->Cl Tryz.prog 84 [.ag (ar e.row),vi l] [] fun r _=>r=vi (cF l d)) (fun e g hg hsz l h0 h1=>?_) e
 obtain⟨kind,op,not,val,qual,name,kids,sub⟩:=e
 exact vn kind op not val qual name kids sub g (fun x hx=>hg x hx (Nat.le_trans (gY hx) hsz)) hsz l h0 h1
theorem GI:((true==false)=false)/\((false==true)=false)/\((false==false)=true)/\((true==true)=true):=⟨rfl,rfl,rfl,rfl⟩
def zV (v:Val):Bool:=decide (v.kind=0)&&(decide (v.num=0)&&decide (v.text=⟨#[]⟩))
def dQ (kind op:Int) (not:Bool) (val:Val) (qual name:ByteArray) (nk ns:Nat):Bool:=
 decide (kind=0)&&(decide (op=0)&&(decide (not=false)&&(zV val&&(decide (qual=⟨#[]⟩)&&(decide (name=⟨#[]⟩)&&(decide (nk=0)&&decide (ns=0)))))))
theorem wG (v:Val) (w:World):(Op.equalIn 10000 49 (.agg [.int .i64 v.kind,.int .i64 v.num,.string v.text].toArray) (.agg [.int .i64 0,.int .i64 0,.string ⟨#[]⟩].toArray)).run Tryz.prog w = .ok (zV v) w:=by
 refine Go.Vc.equalIn_fk (ks:=[(0,.int),(1,.int),(2,.str)]) (by kernel_rfl) (by kernel_rfl) (by kernel_rfl) ?_ w
 simp only[Go.Vc.eqFK,List.getElem?_cons_zero,List.getElem?_cons_succ,zV]
 by_cases h1:v.kind=0<;>by_cases h2:v.num=0<;>by_cases h3:v.text=⟨#[]⟩<;>simp [h1,h2,h3]
def kN (v:Val):Bool:=ec v&&((decide (¬v.kind=1)||decide (0<=v.num))&&decide (v.text.size<=40))
def bt (s:ByteArray):Bool:=decide (1<=s.size/\s.size<=20)
def dy (s:ByteArray):Bool:=decide (s=⟨#[]⟩)||bt s
theorem D6 (v:Val):Cl Tryz.prog 269 [.ag (ar v.row)] [] fun r _=>r=vb (kN v):=by
 obtain⟨zb,hzb⟩:∃zb,zb=kN v:=⟨_,rfl⟩
 rw[<-hzb,Val.row]
 refine ah ab false Tryz.func269 rfl (by kernel_rfl) ?_
 simp only[Tryz.f269,tt,seval]
 refine cZ (yK v) ?_ ?_<;>simp only[tt,seval,Val.row]
 cases hv:ec v<;>by_cases h1:v.kind=1<;>by_cases h2:0<=v.num
 all_goals try simp only[tt,seval,h1,h2]
 all_goals try refine fun _=>?_
 all_goals exact⟨_,_,aF (by rw[hzb];simp [kN,hv,h1,h2];try omega),ak rfl⟩
theorem D7 (v:Val):Cl Tryz.prog 270 [.ag (ar v.row)] [] fun r _=>r=vb (kN v):=by
 obtain⟨zb,hzb⟩:∃zb,zb=kN v:=⟨_,rfl⟩
 rw[<-hzb,Val.row]
 refine ah ab false Tryz.func270 rfl (by kernel_rfl) ?_
 simp only[Tryz.f270,tt,seval]
 refine cZ (vT v) ?_ ?_<;>simp only[tt,seval,Val.row]
 cases hv:ec v<;>by_cases h1:v.kind=1<;>by_cases h2:0<=v.num
 all_goals try simp only[tt,seval,h1,h2]
 all_goals try refine fun _=>?_
 all_goals exact⟨_,_,aF (by rw[hzb];simp [kN,hv,h1,h2];try omega),ak rfl⟩
theorem lx (s:ByteArray):Cl Tryz.prog 197 [vs s] [] fun r _=>r=vb (dy s):=by
 refine ah ab false Tryz.func197 rfl (by kernel_rfl) ?_
 simp only[Tryz.f197,tt,seval]
 by_cases h:s=⟨#[]⟩
 ·simp only[tt,seval,av h]
  exact⟨_,_,aF (by simp [dy,h]),ak rfl⟩
 ·simp only[tt,seval,au h]
  refine cZ (j7 s) ?_ ?_<;>simp only[tt,seval]
  exact⟨_,_,aF (by simp [dy,h,bt]),ak rfl⟩
theorem wH (s:ByteArray):Cl Tryz.prog 242 [vs s] [] fun r _=>r=vb (dy s):=by
 refine ah ab false Tryz.func242 rfl (by kernel_rfl) ?_
 simp only[Tryz.f242,tt,seval]
 by_cases h:s=⟨#[]⟩
 ·simp only[tt,seval,av h]
  exact⟨_,_,aF (by simp [dy,h]),ak rfl⟩
 ·simp only[tt,seval,au h]
  refine cZ (j8 s) ?_ ?_<;>simp only[tt,seval]
  exact⟨_,_,aF (by simp [dy,h,bt]),ak rfl⟩
theorem Ed (l:List Expr) (fg:FuncId):Cl Tryz.prog 182 [.c (.sl l.length (l.flatMap Expr.row) none),.c (.sl 0 [] none),.c (.fn fg [] [])] [] fun r _=>r=vb (decide (l.length=0)):=by
 refine ah ab false Tryz.func182 rfl (by kernel_rfl) ?_
 simp only[Tryz.f182,tt,seval]
 refine fun _=>?_
 by_cases h:l.length=0
 case neg=>
  simp only[tt,seval,au (show ¬(l.length:Int)=0 by omega)]
  exact⟨_,_,aF (au h).symm,ak rfl⟩
 have hs:l=[]:=List.eq_nil_of_length_eq_zero h
 subst hs
 simp only[tt,seval]
 refine dLoop.intro (fun f L p=>f 17=vi 0/\L=[]/\p=none) (fun _ _ _=>0) [] none ⟨al _,an _,?_⟩ ?_
 ·simp only[tt,seval]
 ·rintro g L p ⟨h5',rfl,rfl⟩
  simp only[tt,seval] at h5'
  simp only[tt,seval,h5']
  exact⟨_,_,rfl,ak rfl⟩
theorem Ee (l:List Query) (fg:FuncId):Cl Tryz.prog 94 [.c (.sl l.length (l.flatMap Query.row) none),.c (.sl 0 [] none),.c (.fn fg [] [])] [] fun r _=>r=vb (decide (l.length=0)):=by
 refine ah ab false Tryz.func94 rfl (by kernel_rfl) ?_
 simp only[Tryz.f94,tt,seval]
 refine fun _=>?_
 by_cases h:l.length=0
 case neg=>
  simp only[tt,seval,au (show ¬(l.length:Int)=0 by omega)]
  exact⟨_,_,aF (au h).symm,ak rfl⟩
 have hs:l=[]:=List.eq_nil_of_length_eq_zero h
 subst hs
 simp only[tt,seval]
 refine dLoop.intro (fun f L p=>f 17=vi 0/\L=[]/\p=none) (fun _ _ _=>0) [] none ⟨al _,an _,?_⟩ ?_
 ·simp only[tt,seval]
 ·rintro g L p ⟨h5',rfl,rfl⟩
  simp only[tt,seval] at h5'
  simp only[tt,seval,h5']
  exact⟨_,_,rfl,ak rfl⟩
theorem zC (l:List Expr):Cl Tryz.prog 76 [.c (.sl l.length (l.flatMap Expr.row) none),.c (.sl 0 [] none)] [] fun r _=>r=vb (decide (l.length=0)):=by
 refine ah ab false Tryz.func76 rfl (by kernel_rfl) ?_
 simp only[Tryz.f76,tt,seval]
 refine fun _=>?_
 by_cases h:l.length=0
 case neg=>
  simp only[tt,seval,au (show ¬(l.length:Int)=0 by omega)]
  exact⟨_,_,aF (au h).symm,ak rfl⟩
 have hs:l=[]:=List.eq_nil_of_length_eq_zero h
 subst hs
 simp only[tt,seval]
 refine dLoop.intro (fun f L p=>f 5=vi 0/\L=[]/\p=none) (fun _ _ _=>0) [] none ⟨al _,an _,?_⟩ ?_
 ·simp only[tt,seval]
 ·rintro g L p ⟨h5',rfl,rfl⟩
  simp only[tt,seval] at h5'
  simp only[tt,seval,h5']
  exact⟨_,_,rfl,ak rfl⟩
theorem tw (l:List Expr):Cl Tryz.prog 93 [.c (.sl l.length (l.flatMap Expr.row) none),.c (.sl 0 [] none)] [] fun r _=>r=vb (decide (l.length=0)):=by
 refine ah ab false Tryz.func93 rfl (by kernel_rfl) ?_
 simp only[Tryz.f93,tt,seval]
 refine cZ (Ed l 33) ?_ ?_<;>simp only[tt,seval]
 exact⟨_,_,rfl,ak rfl⟩
theorem BI (kind op:Int) (not:Bool) (val:Val) (qual name:ByteArray) (kids:List Expr) (sub:List Query):Cl Tryz.prog 33 [.ag (ar (Expr.mk kind op not val qual name kids sub).row),.ag (ar (Expr.mk 0 0 false ⟨0,0,⟨#[]⟩⟩ ⟨#[]⟩ ⟨#[]⟩ [] []).row)] [] fun r _=>r=vb (dQ kind op not val qual name kids.length sub.length):=by
 obtain⟨zb,hzb⟩:∃zb,zb=dQ kind op not val qual name kids.length sub.length:=⟨_,rfl⟩
 rw[<-hzb,ae,ae]
 refine ah ab false Tryz.func33 rfl (by kernel_rfl) ?_
 simp only[Tryz.f33,tt,seval]
 by_cases h1:kind=0
 case neg=>
  simp only[tt,seval,h1]
  exact⟨_,_,aF (by rw[hzb];simp [dQ,h1]),ak rfl⟩
 simp only[tt,seval,h1]
 by_cases h2:op=0
 case neg=>
  simp only[tt,seval,h2]
  exact⟨_,_,aF (by rw[hzb];simp [dQ,h1,h2]),ak rfl⟩
 simp only[tt,seval,h2]
 by_cases h3:not=false
 case neg=>
  simp only[tt,seval,(Bool.not_eq_false _▸h3:not=true),GI]
  exact⟨_,_,aF (by rw[hzb];simp [dQ,h1,h2,h3]),ak rfl⟩
 simp only[tt,seval,h3]
 rw[Bg (by kernel_rfl) (wG val)]
 simp only[tt,seval]
 by_cases h4:zV val=true
 case neg=>
  simp only[tt,seval,(Bool.not_eq_true _▸h4:zV val=false)]
  exact⟨_,_,aF (by rw[hzb];simp [dQ,h1,h2,h3,h4]),ak rfl⟩
 simp only[tt,seval,h4]
 by_cases h5:qual=⟨#[]⟩
 case neg=>
  simp only[tt,seval,h5]
  exact⟨_,_,aF (by rw[hzb];simp [dQ,h1,h2,h3,h4,h5]),ak rfl⟩
 simp only[tt,seval,h5]
 by_cases h6:name=⟨#[]⟩
 case neg=>
  simp only[tt,seval,h6]
  exact⟨_,_,aF (by rw[hzb];simp [dQ,h1,h2,h3,h4,h5,h6]),ak rfl⟩
 simp only[tt,seval,h6]
 refine cZ (tw kids) ?_ ?_<;>simp only[tt,seval]
 by_cases h7:kids.length=0
 case neg=>
  simp only[tt,seval,h7]
  exact⟨_,_,aF (by rw[hzb];simp [dQ,h1,h2,h3,h4,h5,h6,h7]),ak rfl⟩
 simp only[tt,seval,av h7]
 refine cZ (Ee sub 95) ?_ ?_<;>simp only[tt,seval]
 exact⟨_,_,aF (by rw[hzb];simp [dQ,h1,h2,h3,h4,h5,h6,h7]),ak rfl⟩
theorem yc (kind op:Int) (not:Bool) (val:Val) (qual name:ByteArray) (kids:List Expr) (sub:List Query):Cl Tryz.prog 29 [.ag (ar (Expr.mk kind op not val qual name kids sub).row),.ag (ar (Expr.mk 0 0 false ⟨0,0,⟨#[]⟩⟩ ⟨#[]⟩ ⟨#[]⟩ [] []).row)] [] fun r _=>r=vb (dQ kind op not val qual name kids.length sub.length):=by
 obtain⟨zb,hzb⟩:∃zb,zb=dQ kind op not val qual name kids.length sub.length:=⟨_,rfl⟩
 rw[<-hzb,ae,ae]
 refine ah ab false Tryz.func29 rfl (by kernel_rfl) ?_
 simp only[Tryz.f29,tt,seval]
 by_cases h1:kind=0
 case neg=>
  simp only[tt,seval,h1]
  exact⟨_,_,aF (by rw[hzb];simp [dQ,h1]),ak rfl⟩
 simp only[tt,seval,h1]
 by_cases h2:op=0
 case neg=>
  simp only[tt,seval,h2]
  exact⟨_,_,aF (by rw[hzb];simp [dQ,h1,h2]),ak rfl⟩
 simp only[tt,seval,h2]
 by_cases h3:not=false
 case neg=>
  simp only[tt,seval,(Bool.not_eq_false _▸h3:not=true),GI]
  exact⟨_,_,aF (by rw[hzb];simp [dQ,h1,h2,h3]),ak rfl⟩
 simp only[tt,seval,h3]
 rw[bS (by kernel_rfl) (wG val)]
 simp only[tt,seval]
 by_cases h4:zV val=true
 case neg=>
  simp only[tt,seval,(Bool.not_eq_true _▸h4:zV val=false)]
  exact⟨_,_,aF (by rw[hzb];simp [dQ,h1,h2,h3,h4]),ak rfl⟩
 simp only[tt,seval,h4]
 by_cases h5:qual=⟨#[]⟩
 case neg=>
  simp only[tt,seval,h5]
  exact⟨_,_,aF (by rw[hzb];simp [dQ,h1,h2,h3,h4,h5]),ak rfl⟩
 simp only[tt,seval,h5]
 by_cases h6:name=⟨#[]⟩
 case neg=>
  simp only[tt,seval,h6]
  exact⟨_,_,aF (by rw[hzb];simp [dQ,h1,h2,h3,h4,h5,h6]),ak rfl⟩
 simp only[tt,seval,h6]
 refine fun _=>?_
 by_cases h8:sub.length=0
 case neg=>
  simp only[tt,seval,au (show ¬(sub.length:Int)=0 by omega)]
  exact⟨_,_,aF (by rw[hzb];simp [dQ,h1,h2,h3,h4,h5,h6,h8]),ak rfl⟩
 simp only[tt,seval,show (sub.length:Int)=0 from by omega]
 refine cZ (zC kids) ?_ ?_<;>simp only[tt,seval]
 by_cases h7:kids.length=0
 case neg=>
  simp only[tt,seval,h7]
  exact⟨_,_,aF (by rw[hzb];simp [dQ,h1,h2,h3,h4,h5,h6,h7]),ak rfl⟩
 simp only[tt,seval,av h7]
 have hs:sub=[]:=List.eq_nil_of_length_eq_zero h8
 subst hs
 refine dLoop.intro (fun f L p=>f 5=vi 0/\L=[(2,.str [.v (.int .i64 0),.v (.int .i64 0),.v (.bool false),.v (.int .i64 val.kind),.v (.int .i64 val.num),.v (.string val.text),.v (.string ⟨#[]⟩),.v (.string ⟨#[]⟩),.sl kids.length (kids.flatMap Expr.row) none,.sl 0 [] none])]/\p=none) (fun _ _ _=>0) [(2,.str [.v (.int .i64 0),.v (.int .i64 0),.v (.bool false),.v (.int .i64 val.kind),.v (.int .i64 val.num),.v (.string val.text),.v (.string ⟨#[]⟩),.v (.string ⟨#[]⟩),.sl kids.length (kids.flatMap Expr.row) none,.sl 0 [] none])] none ⟨ac rfl (al _),an _,?_⟩ ?_
 ·simp only[tt,seval]
 ·rintro g L p ⟨h5',rfl,rfl⟩
  simp only[tt,seval] at h5'
  simp only[tt,seval,h5']
  exact⟨_,_,aF (by rw[hzb];simp [dQ,h1,h2,h3,h4,h5,h6,h7]),ak rfl⟩
theorem et (v:Val) (w:World):(Op.equalIn 10000 49 (.agg [.int .i64 v.kind,.int .i64 v.num,.string v.text].toArray) (.agg [.int .i64 0,.int .i64 0,.string ByteArray.empty].toArray)).run Tryz.prog w = .ok (zV v) w:=wG v w
def aQ (kind:Int):Bool×Bool×Bool×Bool×Int×Int×Int:=
 if kind=1 then (false,false,true,false,0,0,0) else if kind=2 then (false,false,false,true,0,0,0) else if kind=3 then (true,false,false,false,1,1,0) else if kind=4 then (true,false,false,false,2,2,0)
 else if kind=5 then (false,true,false,false,1,1,0) else if kind=6 then (false,true,false,false,3,3,0) else if kind=7 then (false,true,false,false,2,9,0) else if kind=8 then (false,true,false,false,1,1,1)
 else if kind=9 then (false,false,false,false,0,0,1) else (false,false,false,false,0,0,0)
def cm (kind op:Int) (val:Val) (qual name:ByteArray):Bool:=
 if kind=1 then kN val else if kind=2 then (bt name&&dy qual) else if kind=3 then (decide (op=15)||decide (op=16)) else if kind=4 then decide (1<=op/\op<=14) else decide (5<=kind/\kind<=9)
def aA (kind op:Int) (not:Bool) (val:Val) (qual name:ByteArray) (nk ns:Int):Bool:=
 cm kind op val qual name&&(((aQ kind).1||decide (op=0))&&(((aQ kind).2.1 || !not)&&(((aQ kind).2.2.1||zV val)&&(((aQ kind).2.2.2.1||(decide (qual=⟨#[]⟩)&&decide (name=⟨#[]⟩))) &&
  (decide ((aQ kind).2.2.2.2.1<=nk/\nk<=(aQ kind).2.2.2.2.2.1)&&decide (ns=(aQ kind).2.2.2.2.2.2))))))
set_option maxHeartbeats 4000000 in
theorem zD (kind op:Int) (not:Bool) (val:Val) (qual name:ByteArray) (kids:List Expr) (sub:List Query) (hkl:kids.length<=1048576) (hsl:sub.length<=1048576):Cl Tryz.prog 174 [.ag (ar (Expr.mk kind op not val qual name kids sub).row)] [] fun r _=>r=vb (aA kind op not val qual name kids.length sub.length):=by
 obtain⟨zb,hzb⟩:∃zb,zb=aA kind op not val qual name kids.length sub.length:=⟨_,rfl⟩
 rw[<-hzb,ae]
 refine ah ab false Tryz.func174 rfl (by kernel_rfl) ?_
 simp only[Tryz.f174,tt,seval]
 refine fun _ _=>?_
 have hk0:0<=(kids.length:Int)/\(kids.length:Int)<=1048576:=by omega
 have hs0:0<=(sub.length:Int)/\(sub.length:Int)<=1048576:=by omega
 generalize (kids.length:Int)=nk at *
 generalize (sub.length:Int)=ns at *
 rcases (show kind=1∨kind=2∨kind=3∨kind=4∨kind=5∨kind=6∨kind=7∨kind=8∨kind=9∨(kind<1∨9<kind) by omega) with rfl|rfl|rfl|rfl|rfl|rfl|rfl|rfl|rfl|hk
 ·try simp only[tt,seval]
  by_cases hq:qual=⟨#[]⟩
  case neg=>
   simp only[tt,seval,hq]
   exact⟨_,_,aF (by rw[hzb];simp [aA,cm,aQ,hq];try omega),ak rfl⟩
  simp only[tt,seval,hq]
  by_cases hn:name=⟨#[]⟩
  case neg=>
   simp only[tt,seval,hn]
   exact⟨_,_,aF (by rw[hzb];simp [aA,cm,aQ,hq,hn];try omega),ak rfl⟩
  simp only[tt,seval,hn]
  by_cases ho:op=0
  case neg=>
   simp only[tt,seval,ho]
   exact⟨_,_,aF (by rw[hzb];simp [aA,cm,aQ,hq,hn,ho];try omega),ak rfl⟩
  simp only[tt,seval,ho]
  cases not
  case true=>
   simp only[tt,seval]
   refine cZ (dh 1 5 8) ?_ ?_<;>simp only[tt,seval]
   exact⟨_,_,aF (by rw[hzb];simp [aA,cm,aQ,hq,hn,ho];try omega),ak rfl⟩
  simp only[tt,seval]
  refine cZ (D6 val) ?_ ?_<;>simp only[tt,seval,Val.row]
  cases hl:kN val
  case false=>
   simp only[tt,seval]
   exact⟨_,_,aF (by rw[hzb];simp [aA,cm,aQ,hq,hn,ho,hl];try omega),ak rfl⟩
  simp only[tt,seval]
  rw[aq (by omega) (by omega)]
  by_cases hz:nk+ns=0
  case neg=>
   simp only[tt,seval,hz]
   exact⟨_,_,aF (by rw[hzb];simp [aA,cm,aQ,hq,hn,ho,hl];try omega),ak rfl⟩
  simp only[tt,seval,hz]
  exact⟨_,_,aF (by rw[hzb];simp [aA,cm,aQ,hq,hn,ho,hl];try omega),ak rfl⟩
 ·try simp only[tt,seval]
  rw[bS (by kernel_rfl) (et val)]
  simp only[tt,seval]
  cases hv:zV val
  case false=>
   simp only[tt,seval]
   exact⟨_,_,aF (by rw[hzb];simp [aA,cm,aQ,bt,hv];try omega),ak rfl⟩
  simp only[tt,seval]
  by_cases ho:op=0
  case neg=>
   simp only[tt,seval,ho]
   exact⟨_,_,aF (by rw[hzb];simp [aA,cm,aQ,bt,hv,ho];try omega),ak rfl⟩
  simp only[tt,seval,ho]
  cases not
  case true=>
   simp only[tt,seval]
   refine cZ (dh 2 5 8) ?_ ?_<;>simp only[tt,seval]
   exact⟨_,_,aF (by rw[hzb];simp [aA,cm,aQ,bt,hv,ho];try omega),ak rfl⟩
  simp only[tt,seval]
  refine cZ (j7 name) ?_ ?_<;>simp only[tt,seval]
  cases hnb:decide (1<=name.size/\name.size<=20)
  case false=>
   simp only[tt,seval]
   exact⟨_,_,aF (by rw[hzb];simp [aA,cm,aQ,bt,hv,ho,hnb];try omega),ak rfl⟩
  simp only[tt,seval]
  refine cZ (lx qual) ?_ ?_<;>simp only[tt,seval]
  cases hmb:dy qual
  case false=>
   simp only[tt,seval]
   exact⟨_,_,aF (by rw[hzb];simp [aA,cm,aQ,bt,hv,ho,hnb,hmb];try omega),ak rfl⟩
  simp only[tt,seval]
  rw[aq (by omega) (by omega)]
  by_cases hz:nk+ns=0
  case neg=>
   simp only[tt,seval,hz]
   exact⟨_,_,aF (by rw[hzb];simp [aA,cm,aQ,bt,hv,ho,hnb,hmb];try omega),ak rfl⟩
  simp only[tt,seval,hz]
  exact⟨_,_,aF (by rw[hzb];simp [aA,cm,aQ,bt,hv,ho,hnb,hmb];try omega),ak rfl⟩
 ·try simp only[tt,seval]
  by_cases hq:qual=⟨#[]⟩
  case neg=>
   simp only[tt,seval,hq]
   exact⟨_,_,aF (by rw[hzb];simp [aA,cm,aQ,hq];try omega),ak rfl⟩
  simp only[tt,seval,hq]
  by_cases hn:name=⟨#[]⟩
  case neg=>
   simp only[tt,seval,hn]
   exact⟨_,_,aF (by rw[hzb];simp [aA,cm,aQ,hq,hn];try omega),ak rfl⟩
  simp only[tt,seval,hn]
  rw[bS (by kernel_rfl) (et val)]
  simp only[tt,seval]
  cases hv:zV val
  case false=>
   simp only[tt,seval]
   exact⟨_,_,aF (by rw[hzb];simp [aA,cm,aQ,hq,hn,hv];try omega),ak rfl⟩
  simp only[tt,seval]
  cases not
  case true=>
   simp only[tt,seval]
   refine cZ (dh 3 5 8) ?_ ?_<;>simp only[tt,seval]
   exact⟨_,_,aF (by rw[hzb];simp [aA,cm,aQ,hq,hn,hv];try omega),ak rfl⟩
  simp only[tt,seval]
  by_cases ho15:op=15
  case' neg=>
   simp only[tt,seval,ho15]
   by_cases ho16:op=16
   case neg=>
    simp only[tt,seval,ho16]
    exact⟨_,_,aF (by rw[hzb];simp [aA,cm,aQ,hq,hn,hv,ho15,ho16];try omega),ak rfl⟩
   simp only[tt,seval,ho16]
  case' pos=>try simp only[tt,seval,ho15]
  all_goals
   by_cases hk1:nk=1
   case neg=>
    simp only[tt,seval,hk1]
    exact⟨_,_,aF (by rw[hzb];simp [aA,cm,aQ, *];try omega),ak rfl⟩
   simp only[tt,seval,hk1]
   by_cases hs0:ns=0
   case neg=>
    simp only[tt,seval,hs0]
    exact⟨_,_,aF (by rw[hzb];simp [aA,cm,aQ, *];try omega),ak rfl⟩
   simp only[tt,seval,hs0]
   exact⟨_,_,aF (by rw[hzb];simp [aA,cm,aQ, *];try omega),ak rfl⟩
 ·try simp only[tt,seval]
  by_cases hq:qual=⟨#[]⟩
  case neg=>
   simp only[tt,seval,hq]
   exact⟨_,_,aF (by rw[hzb];simp [aA,cm,aQ,hq];try omega),ak rfl⟩
  simp only[tt,seval,hq]
  by_cases hn:name=⟨#[]⟩
  case neg=>
   simp only[tt,seval,hn]
   exact⟨_,_,aF (by rw[hzb];simp [aA,cm,aQ,hq,hn];try omega),ak rfl⟩
  simp only[tt,seval,hn]
  rw[bS (by kernel_rfl) (et val)]
  simp only[tt,seval]
  cases hv:zV val
  case false=>
   simp only[tt,seval]
   exact⟨_,_,aF (by rw[hzb];simp [aA,cm,aQ,hq,hn,hv];try omega),ak rfl⟩
  simp only[tt,seval]
  cases not
  case true=>
   simp only[tt,seval]
   refine cZ (dh 4 5 8) ?_ ?_<;>simp only[tt,seval]
   exact⟨_,_,aF (by rw[hzb];simp [aA,cm,aQ,hq,hn,hv];try omega),ak rfl⟩
  simp only[tt,seval]
  refine cZ (dh op 1 14) ?_ ?_<;>simp only[tt,seval]
  cases hop:decide ((1:Int)<=op/\op<=14)
  case false=>
   simp only[tt,seval]
   exact⟨_,_,aF (by rw[hzb];simp [aA,cm,aQ,hq,hn,hv,hop];try omega),ak rfl⟩
  simp only[tt,seval]
  by_cases hk2:nk=2
  case neg=>
   simp only[tt,seval,hk2]
   exact⟨_,_,aF (by rw[hzb];simp [aA,cm,aQ,hq,hn,hv,hop];try omega),ak rfl⟩
  simp only[tt,seval,hk2]
  by_cases hs0:ns=0
  case neg=>
   simp only[tt,seval,hs0]
   exact⟨_,_,aF (by rw[hzb];simp [aA,cm,aQ,hq,hn,hv,hop,hk2,hs0];try omega),ak rfl⟩
  simp only[tt,seval,hs0]
  exact⟨_,_,aF (by rw[hzb];simp [aA,cm,aQ,hq,hn,hv,hop,hk2,hs0];try omega),ak rfl⟩
 ·try simp only[tt,seval]
  by_cases hq:qual=⟨#[]⟩
  case neg=>
   simp only[tt,seval,hq]
   exact⟨_,_,aF (by rw[hzb];simp [aA,cm,aQ,hq];try omega),ak rfl⟩
  simp only[tt,seval,hq]
  by_cases hn:name=⟨#[]⟩
  case neg=>
   simp only[tt,seval,hn]
   exact⟨_,_,aF (by rw[hzb];simp [aA,cm,aQ,hq,hn];try omega),ak rfl⟩
  simp only[tt,seval,hn]
  rw[bS (by kernel_rfl) (et val)]
  simp only[tt,seval]
  cases hv:zV val
  case false=>
   simp only[tt,seval]
   exact⟨_,_,aF (by rw[hzb];simp [aA,cm,aQ,hq,hn,hv];try omega),ak rfl⟩
  simp only[tt,seval]
  by_cases ho:op=0
  case neg=>
   simp only[tt,seval,ho]
   exact⟨_,_,aF (by rw[hzb];simp [aA,cm,aQ,hq,hn,hv,ho];try omega),ak rfl⟩
  simp only[tt,seval,ho]
  cases not
  case' true=>
   simp only[tt,seval]
   refine cZ (dh 5 5 8) ?_ ?_<;>simp only[tt,seval]
  case' false=>try simp only[tt,seval]
  all_goals
   by_cases hk1:nk=1
   case neg=>
    simp only[tt,seval,hk1]
    exact⟨_,_,aF (by rw[hzb];simp [aA,cm,aQ,hq,hn,hv,ho];try omega),ak rfl⟩
   simp only[tt,seval,hk1]
   by_cases hs0:ns=0
   case neg=>
    simp only[tt,seval,hs0]
    exact⟨_,_,aF (by rw[hzb];simp [aA,cm,aQ,hq,hn,hv,ho,hk1,hs0];try omega),ak rfl⟩
   simp only[tt,seval,hs0]
   exact⟨_,_,aF (by rw[hzb];simp [aA,cm,aQ,hq,hn,hv,ho,hk1,hs0];try omega),ak rfl⟩
 ·try simp only[tt,seval]
  by_cases hq:qual=⟨#[]⟩
  case neg=>
   simp only[tt,seval,hq]
   exact⟨_,_,aF (by rw[hzb];simp [aA,cm,aQ,hq];try omega),ak rfl⟩
  simp only[tt,seval,hq]
  by_cases hn:name=⟨#[]⟩
  case neg=>
   simp only[tt,seval,hn]
   exact⟨_,_,aF (by rw[hzb];simp [aA,cm,aQ,hq,hn];try omega),ak rfl⟩
  simp only[tt,seval,hn]
  rw[bS (by kernel_rfl) (et val)]
  simp only[tt,seval]
  cases hv:zV val
  case false=>
   simp only[tt,seval]
   exact⟨_,_,aF (by rw[hzb];simp [aA,cm,aQ,hq,hn,hv];try omega),ak rfl⟩
  simp only[tt,seval]
  by_cases ho:op=0
  case neg=>
   simp only[tt,seval,ho]
   exact⟨_,_,aF (by rw[hzb];simp [aA,cm,aQ,hq,hn,hv,ho];try omega),ak rfl⟩
  simp only[tt,seval,ho]
  cases not
  case' true=>
   simp only[tt,seval]
   refine cZ (dh 6 5 8) ?_ ?_<;>simp only[tt,seval]
  case' false=>try simp only[tt,seval]
  all_goals
   by_cases hk3:nk=3
   case neg=>
    simp only[tt,seval,hk3]
    exact⟨_,_,aF (by rw[hzb];simp [aA,cm,aQ,hq,hn,hv,ho];try omega),ak rfl⟩
   simp only[tt,seval,hk3]
   by_cases hs0:ns=0
   case neg=>
    simp only[tt,seval,hs0]
    exact⟨_,_,aF (by rw[hzb];simp [aA,cm,aQ,hq,hn,hv,ho,hk3,hs0];try omega),ak rfl⟩
   simp only[tt,seval,hs0]
   exact⟨_,_,aF (by rw[hzb];simp [aA,cm,aQ,hq,hn,hv,ho,hk3,hs0];try omega),ak rfl⟩
 ·try simp only[tt,seval]
  by_cases hq:qual=⟨#[]⟩
  case neg=>
   simp only[tt,seval,hq]
   exact⟨_,_,aF (by rw[hzb];simp [aA,cm,aQ,hq];try omega),ak rfl⟩
  simp only[tt,seval,hq]
  by_cases hn:name=⟨#[]⟩
  case neg=>
   simp only[tt,seval,hn]
   exact⟨_,_,aF (by rw[hzb];simp [aA,cm,aQ,hq,hn];try omega),ak rfl⟩
  simp only[tt,seval,hn]
  rw[bS (by kernel_rfl) (et val)]
  simp only[tt,seval]
  cases hv:zV val
  case false=>
   simp only[tt,seval]
   exact⟨_,_,aF (by rw[hzb];simp [aA,cm,aQ,hq,hn,hv];try omega),ak rfl⟩
  simp only[tt,seval]
  by_cases ho:op=0
  case neg=>
   simp only[tt,seval,ho]
   exact⟨_,_,aF (by rw[hzb];simp [aA,cm,aQ,hq,hn,hv,ho];try omega),ak rfl⟩
  simp only[tt,seval,ho]
  cases not
  case' true=>
   simp only[tt,seval]
   refine cZ (dh 7 5 8) ?_ ?_<;>simp only[tt,seval]
  case' false=>try simp only[tt,seval]
  all_goals
   refine cZ (dh nk 2 9) ?_ ?_<;>simp only[tt,seval]
   cases hkr:decide ((2:Int)<=nk/\nk<=9)
   case false=>
    simp only[tt,seval]
    exact⟨_,_,aF (by rw[hzb];simp [aA,cm,aQ,hq,hn,hv,ho,hkr];try omega),ak rfl⟩
   simp only[tt,seval]
   by_cases hs0:ns=0
   case neg=>
    simp only[tt,seval,hs0]
    exact⟨_,_,aF (by rw[hzb];simp [aA,cm,aQ,hq,hn,hv,ho,hkr,hs0];try omega),ak rfl⟩
   simp only[tt,seval,hs0]
   exact⟨_,_,aF (by rw[hzb];simp [aA,cm,aQ,hq,hn,hv,ho,hkr,hs0];try omega),ak rfl⟩
 ·try simp only[tt,seval]
  by_cases hq:qual=⟨#[]⟩
  case neg=>
   simp only[tt,seval,hq]
   exact⟨_,_,aF (by rw[hzb];simp [aA,cm,aQ,hq];try omega),ak rfl⟩
  simp only[tt,seval,hq]
  by_cases hn:name=⟨#[]⟩
  case neg=>
   simp only[tt,seval,hn]
   exact⟨_,_,aF (by rw[hzb];simp [aA,cm,aQ,hq,hn];try omega),ak rfl⟩
  simp only[tt,seval,hn]
  rw[bS (by kernel_rfl) (et val)]
  simp only[tt,seval]
  cases hv:zV val
  case false=>
   simp only[tt,seval]
   exact⟨_,_,aF (by rw[hzb];simp [aA,cm,aQ,hq,hn,hv];try omega),ak rfl⟩
  simp only[tt,seval]
  by_cases ho:op=0
  case neg=>
   simp only[tt,seval,ho]
   exact⟨_,_,aF (by rw[hzb];simp [aA,cm,aQ,hq,hn,hv,ho];try omega),ak rfl⟩
  simp only[tt,seval,ho]
  cases not
  case' true=>
   simp only[tt,seval]
   refine cZ (dh 8 5 8) ?_ ?_<;>simp only[tt,seval]
  case' false=>try simp only[tt,seval]
  all_goals
   by_cases hk1:nk=1
   case neg=>
    simp only[tt,seval,hk1]
    exact⟨_,_,aF (by rw[hzb];simp [aA,cm,aQ,hq,hn,hv,ho];try omega),ak rfl⟩
   simp only[tt,seval,hk1]
   by_cases hs1:ns=1
   case neg=>
    simp only[tt,seval,hs1]
    exact⟨_,_,aF (by rw[hzb];simp [aA,cm,aQ,hq,hn,hv,ho,hk1,hs1];try omega),ak rfl⟩
   simp only[tt,seval,hs1]
   exact⟨_,_,aF (by rw[hzb];simp [aA,cm,aQ,hq,hn,hv,ho,hk1,hs1];try omega),ak rfl⟩
 ·try simp only[tt,seval]
  by_cases hq:qual=⟨#[]⟩
  case neg=>
   simp only[tt,seval,hq]
   exact⟨_,_,aF (by rw[hzb];simp [aA,cm,aQ,hq];try omega),ak rfl⟩
  simp only[tt,seval,hq]
  by_cases hn:name=⟨#[]⟩
  case neg=>
   simp only[tt,seval,hn]
   exact⟨_,_,aF (by rw[hzb];simp [aA,cm,aQ,hq,hn];try omega),ak rfl⟩
  simp only[tt,seval,hn]
  rw[bS (by kernel_rfl) (et val)]
  simp only[tt,seval]
  cases hv:zV val
  case false=>
   simp only[tt,seval]
   exact⟨_,_,aF (by rw[hzb];simp [aA,cm,aQ,hq,hn,hv];try omega),ak rfl⟩
  simp only[tt,seval]
  by_cases ho:op=0
  case neg=>
   simp only[tt,seval,ho]
   exact⟨_,_,aF (by rw[hzb];simp [aA,cm,aQ,hq,hn,hv,ho];try omega),ak rfl⟩
  simp only[tt,seval,ho]
  cases not
  case true=>
   simp only[tt,seval]
   refine cZ (dh 9 5 8) ?_ ?_<;>simp only[tt,seval]
   exact⟨_,_,aF (by rw[hzb];simp [aA,cm,aQ,hq,hn,hv,ho];try omega),ak rfl⟩
  simp only[tt,seval]
  by_cases hk0:nk=0
  case neg=>
   simp only[tt,seval,hk0]
   exact⟨_,_,aF (by rw[hzb];simp [aA,cm,aQ,hq,hn,hv,ho];try omega),ak rfl⟩
  simp only[tt,seval,hk0]
  by_cases hs1:ns=1
  case neg=>
   simp only[tt,seval,hs1]
   exact⟨_,_,aF (by rw[hzb];simp [aA,cm,aQ,hq,hn,hv,ho,hk0,hs1];try omega),ak rfl⟩
  simp only[tt,seval,hs1]
  exact⟨_,_,aF (by rw[hzb];simp [aA,cm,aQ,hq,hn,hv,ho,hk0,hs1];try omega),ak rfl⟩
 ·have n1:¬kind=1:=by omega
  have n2:¬kind=2:=by omega
  have n3:¬kind=3:=by omega
  have n4:¬kind=4:=by omega
  have n5:¬kind=5:=by omega
  have n6:¬kind=6:=by omega
  have n7:¬kind=7:=by omega
  have n8:¬kind=8:=by omega
  have n9:¬kind=9:=by omega
  have hk58:decide ((5:Int)<=kind/\kind<=8)=false:=au (by omega)
  simp only[tt,seval,n2]
  by_cases hq:qual=⟨#[]⟩
  case neg=>
   simp only[tt,seval,hq,n3,n4]
   exact⟨_,_,aF (by rw[hzb];simp [aA,cm,aQ,n1,n2,n3,n4,n5,n6,n7,n8,n9,hq];try omega),ak rfl⟩
  simp only[tt,seval,hq]
  by_cases hn:name=⟨#[]⟩
  case neg=>
   simp only[tt,seval,hn,n3,n4]
   exact⟨_,_,aF (by rw[hzb];simp [aA,cm,aQ,n1,n2,n3,n4,n5,n6,n7,n8,n9,hq,hn];try omega),ak rfl⟩
  simp only[tt,seval,hn,n1]
  rw[bS (by kernel_rfl) (et val)]
  simp only[tt,seval,n3,n4]
  cases hv:zV val
  case false=>
   simp only[tt,seval]
   exact⟨_,_,aF (by rw[hzb];simp [aA,cm,aQ,n1,n2,n3,n4,n5,n6,n7,n8,n9,hq,hn,hv];try omega),ak rfl⟩
  simp only[tt,seval]
  by_cases ho:op=0
  case neg=>
   simp only[tt,seval,ho,n1,n2,n3,n4,n5,n6,n7,n8,n9]
   exact⟨_,_,aF (by rw[hzb];simp [aA,cm,aQ,n1,n2,n3,n4,n5,n6,n7,n8,n9,hq,hn,hv,ho];try omega),ak rfl⟩
  simp only[tt,seval,ho]
  cases not
  case true=>
   simp only[tt,seval]
   refine cZ (dh kind 5 8) ?_ ?_<;>simp only[tt,seval]
   simp only[tt,seval,hk58]
   exact⟨_,_,aF (by rw[hzb];simp [aA,cm,aQ,n1,n2,n3,n4,n5,n6,n7,n8,n9];try omega),ak rfl⟩
  case false=>
   simp only[tt,seval,n1,n2,n3,n4,n5,n6,n7,n8,n9]
   exact⟨_,_,aF (by rw[hzb];simp [aA,cm,aQ,n1,n2,n3,n4,n5,n6,n7,n8,n9];try omega),ak rfl⟩
def dK (kind op:Int) (val:Val) (qual name:ByteArray):S:=.tu [([.v (.bool (aQ kind).1),.v (.bool (aQ kind).2.1),.v (.bool (aQ kind).2.2.1),.v (.bool (aQ kind).2.2.2.1),.v (.int .i64 (aQ kind).2.2.2.2.1),.v (.int .i64 (aQ kind).2.2.2.2.2.1),.v (.int .i64 (aQ kind).2.2.2.2.2.2)],false),([.v (.bool (cm kind op val qual name))],true)]
set_option maxHeartbeats 2000000 in
theorem eN (kind op:Int) (not:Bool) (val:Val) (qual name:ByteArray) (kids:List Expr) (sub:List Query):Cl Tryz.prog 177 [.ag (ar (Expr.mk kind op not val qual name kids sub).row)] [] fun r _=>r=dK kind op val qual name:=by
 obtain⟨zs,hzs⟩:∃zs,zs=dK kind op val qual name:=⟨_,rfl⟩
 rw[<-hzs,ae]
 refine ah ab false Tryz.func177 rfl (by kernel_rfl) ?_
 simp only[Tryz.f177,tt,seval]
 rcases (show kind=1∨kind=2∨kind=3∨kind=4∨kind=5∨kind=6∨kind=7∨kind=8∨kind=9∨(kind<1∨9<kind) by omega) with rfl|rfl|rfl|rfl|rfl|rfl|rfl|rfl|rfl|hk
 ·try simp only[tt,seval]
  refine cZ (D7 val) ?_ ?_<;>simp only[tt,seval,Val.row]
  exact⟨_,_,(by rw[hzs];simp [dK,cm,aQ,]),ak rfl⟩
 ·try simp only[tt,seval]
  refine cZ (j8 name) ?_ ?_<;>simp only[tt,seval]
  cases hnb:decide (1<=name.size/\name.size<=20)
  case false=>
   simp only[tt,seval]
   exact⟨_,_,(by rw[hzs];simp [dK,cm,aQ,bt,dy,hnb]),ak rfl⟩
  simp only[tt,seval]
  by_cases hq:qual=⟨#[]⟩
  case pos=>
   simp only[tt,seval,hq]
   exact⟨_,_,(by rw[hzs];simp [dK,cm,aQ,bt,dy,hnb,hq]),ak rfl⟩
  simp only[tt,seval,hq]
  refine cZ (j8 qual) ?_ ?_<;>simp only[tt,seval]
  exact⟨_,_,(by rw[hzs];simp [dK,cm,aQ,bt,dy,hnb,hq]),ak rfl⟩
 ·try simp only[tt,seval]
  refine dDrawn.intro [] (.take 0 (.take 1 (.take 2 (.take 3 (.take 4 (.take 5 (.br 6 (.take 7 (.take 8 (.br 9 (.take 10 .done) .nobr))) (.br 9 (.take 6 (.take 7 (.take 8 (.take 10 .done)))) .nobr)))))))) (by kernel_rfl) ?_
  simp only[tt,seval]
  by_cases h15:op=15
  case pos=>
   simp only[tt,seval,av h15]
   refine aa ?_ ?_<;>exact⟨_,_,(by rw[hzs];simp [dK,cm,aQ,h15]),ak rfl⟩
  simp only[tt,seval,au h15]
  refine aa ?_ ?_<;>exact⟨_,_,(by rw[hzs];simp [dK,cm,aQ,h15]),ak rfl⟩
 ·try simp only[tt,seval]
  refine dDrawn.intro [] (.take 0 (.take 1 (.take 2 (.take 3 (.take 4 (.take 5 (.br 6 (.take 7 (.take 8 (.br 9 (.take 10 .done) .nobr))) (.br 9 (.take 6 (.take 7 (.take 8 (.take 10 .done)))) .nobr)))))))) (by kernel_rfl) ?_
  simp only[tt,seval]
  by_cases h1:1<=op
  case neg=>
   simp only[tt,seval,au h1]
   refine aa ?_ ?_<;>exact⟨_,_,(by rw[hzs];simp [dK,cm,aQ,h1]),ak rfl⟩
  simp only[tt,seval,av h1]
  refine aa ?_ ?_<;>exact⟨_,_,(by rw[hzs];simp [dK,cm,aQ,h1]),ak rfl⟩
 ·try simp only[tt,seval]
  exact⟨_,_,(by rw[hzs];simp [dK,cm,aQ,]),ak rfl⟩
 ·try simp only[tt,seval]
  exact⟨_,_,(by rw[hzs];simp [dK,cm,aQ,]),ak rfl⟩
 ·try simp only[tt,seval]
  exact⟨_,_,(by rw[hzs];simp [dK,cm,aQ,]),ak rfl⟩
 ·try simp only[tt,seval]
  exact⟨_,_,(by rw[hzs];simp [dK,cm,aQ,]),ak rfl⟩
 ·try simp only[tt,seval]
  exact⟨_,_,(by rw[hzs];simp [dK,cm,aQ,]),ak rfl⟩
 ·have n1:¬kind=1:=by omega
  have n2:¬kind=2:=by omega
  have n3:¬kind=3:=by omega
  have n4:¬kind=4:=by omega
  have n5:¬kind=5:=by omega
  have n6:¬kind=6:=by omega
  have n7:¬kind=7:=by omega
  have n8:¬kind=8:=by omega
  have n9:¬kind=9:=by omega
  simp only[tt,seval,n1,n2,n3,n4,n5,n6,n7,n8,n9]
  exact⟨_,_,(by rw[hzs];simp [dK,cm,aQ,n1,n2,n3,n4,n5,n6,n7,n8,n9];omega),ak rfl⟩
theorem bM:ByteArray.empty=⟨#[]⟩:=rfl
theorem gP {α:Type} {g:α->Bool} {l:List α} {x:α} (h:x∈l) (hx:g x=false):l.all g=false:=by
 cases h':l.all g with
 |false=>rfl
 |true=>have:=List.all_eq_true.1 h' x h;rw[hx] at this;cases this
theorem kP {α:Type} {g:α->Bool} {l:List α} (h:∀j (hj:j<l.length),g l[j]=true):l.all g=true:=List.all_eq_true.2 fun x hx=>by
 obtain⟨j,hj,rfl⟩:=List.mem_iff_getElem.1 hx
 exact h j hj
def nl:Expr->Bool | .mk kind op not val qual name kids sub=>dQ kind op not val qual name kids.length sub.length
def oN:Item->Bool | .mk star qual e as_=>if star=true then (dy qual&&(decide (as_=⟨#[]⟩)&&nl e)) else (decide (qual=⟨#[]⟩)&&dy as_)
def oO (i:Nat):Source->Bool | .mk table as_ on=>bt table&&(dy as_&&(decide (on.length<=1)&&(decide (¬i=0)||decide (on.length=0))))
def BJ (l:List Source):Bool:=(List.range l.length).all fun i=>match l[i]? with|some s=>oO i s|none=>true
def hdB:Query->Bool | .mk _ items from_ where_ order limit=>decide (1<=items.length/\items.length<=12)&&(decide (1<=from_.length/\from_.length<=3)&&(decide (where_.length<=1)&&(decide (order.length<=12)&&(decide (-1<=limit)&&(items.all oN&&BJ from_)))))
theorem BK {l:List Source} {i:Nat} (h:i<l.length) (hb:oO i l[i]=false):BJ l=false:=by
 refine gP (x:=i) (List.mem_range.2 h) ?_
 rw[az h];exact hb
theorem yd {l:List Source} (h:∀j (hj:j<l.length),oO j l[j]=true):BJ l=true:=List.all_eq_true.2 fun j hj=>by
 have hj:=List.mem_range.1 hj
 rw[az hj];exact h j hj
def eO (g:Expr->Bool) (q:Query):Bool:=hdB q&&(exprsQ q).all g
def vL (g:Expr->Bool):Expr->Bool | .mk kind op not val qual name kids sub=>aA kind op not val qual name kids.length sub.length&&(kids.all g&&sub.all (eO g))
noncomputable def fmE:Expr->Bool:=f9 vL
theorem BL (l:List Expr) (g:Expr->Bool) (h:∀x∈l,Cl Tryz.prog 272 [.ag (ar x.row)] [] fun r _=>r=vb (!g x)):Cl Tryz.prog 316 [.c (.sl l.length (l.flatMap Expr.row) none),.c (.fn 272 [] [])] [] fun r _=>∃n:Int,r=vi n/\decide (0<=n) = !(l.all g):=by
 refine ah ab false Tryz.func316 rfl (by kernel_rfl) ?_
 simp only[Tryz.f316,tt,seval]
 refine fun _=>?_
 refine dLoop.intro (fun f L p=>∃i:Nat,f 8=vi i/\i<=l.length/\(∀j (hj:j<l.length),j<i->g l[j]=true)/\L=[]/\p=none) (fun f _ _=>(l.length-bq (f 8)).toNat) [] none ⟨al _,an _,?_⟩ ?_
 ·simp only[tt,seval]
  exact⟨0,rfl,by omega,fun j _ h=>absurd h (Nat.not_lt_zero _)⟩
 ·rintro g' L p ⟨i,hix,hi,hall,rfl,rfl⟩
  simp only[tt,seval] at hix
  simp only[tt,seval,hix,Int.ofNat_lt]
  refine aa (fun hlt=>?_) (fun hge=>?_)
  ·refine⟨by omega,by omega,_,aE aJ (az hlt),Expr.ne _ _,?_⟩
   simp only[seval,Expr.tk,aJ]
   refine cZ (h l[i] (aK hlt)) ?_ ?_<;>simp only[tt,seval,hix]
   refine aa (fun hb=>?_) (fun hb=>?_)
   ·have hb:g l[i]=false:=by simpa only[Bool.not_eq_true'] using hb
    refine⟨vi i,[],⟨i,rfl,?_⟩,ak rfl⟩
    rw[av (by omega),gP (aK hlt) hb];rfl
   ·have hb:g l[i]=true:=by simpa only[Bool.not_eq_false'] using hb
    try rw[f5 i (by omega)]
    exact⟨_,none,al _,an _,⟨i+1,rfl,by omega,fun j hj hji=>by
     by_cases e:j=i
     ·subst e;exact hb
     ·exact hall j hj (by omega),rfl,rfl⟩,by simp only[bq];omega⟩
  ·refine⟨vi (-1),[],⟨-1,rfl,?_⟩,ak rfl⟩
   rw[kP fun j hj=>hall j hj (by omega)];rfl
theorem vo (l:List Expr) (g:Expr->Bool) (h:∀x∈l,Cl Tryz.prog 272 [.ag (ar x.row)] [] fun r _=>r=vb (!g x)):Cl Tryz.prog 271 [.c (.sl l.length (l.flatMap Expr.row) none),.c (.fn 272 [] [])] [] fun r _=>r=vb (!(l.all g)):=by
 refine ah ab false Tryz.func271 rfl (by kernel_rfl) ?_
 simp only[Tryz.f271,tt,seval]
 refine eb (BL l g h) ?_ ?_ ?_
 ·decide
 ·simp only[tt,seval]
 rintro r ⟨n,rfl,hn⟩
 simp only[tt,seval]
 exact⟨_,_,aF hn,ak rfl⟩
theorem BM (l:List Query) (g:Query->Bool) (h:∀x∈l,Cl Tryz.prog 180 [.ag (ar x.row)] [] fun r _=>r=vb (!g x)):Cl Tryz.prog 273 [.c (.sl l.length (l.flatMap Query.row) none),.c (.fn 180 [] [])] [] fun r _=>∃n:Int,r=vi n/\decide (0<=n) = !(l.all g):=by
 refine ah ab false Tryz.func273 rfl (by kernel_rfl) ?_
 simp only[Tryz.f273,tt,seval]
 refine fun _=>?_
 refine dLoop.intro (fun f L p=>∃i:Nat,f 8=vi i/\i<=l.length/\(∀j (hj:j<l.length),j<i->g l[j]=true)/\L=[]/\p=none) (fun f _ _=>(l.length-bq (f 8)).toNat) [] none ⟨al _,an _,?_⟩ ?_
 ·simp only[tt,seval]
  exact⟨0,rfl,by omega,fun j _ h=>absurd h (Nat.not_lt_zero _)⟩
 ·rintro g' L p ⟨i,hix,hi,hall,rfl,rfl⟩
  simp only[tt,seval] at hix
  simp only[tt,seval,hix,Int.ofNat_lt]
  refine aa (fun hlt=>?_) (fun hge=>?_)
  ·refine⟨by omega,by omega,_,aE Query.row_len (az hlt),Query.ne _ _,?_⟩
   simp only[seval,Query.tk,Query.row_len]
   refine cZ (h l[i] (aK hlt)) ?_ ?_<;>simp only[tt,seval,hix]
   refine aa (fun hb=>?_) (fun hb=>?_)
   ·have hb:g l[i]=false:=by simpa only[Bool.not_eq_true'] using hb
    refine⟨vi i,[],⟨i,rfl,?_⟩,ak rfl⟩
    rw[av (by omega),gP (aK hlt) hb];rfl
   ·have hb:g l[i]=true:=by simpa only[Bool.not_eq_false'] using hb
    try rw[f5 i (by omega)]
    exact⟨_,none,al _,an _,⟨i+1,rfl,by omega,fun j hj hji=>by
     by_cases e:j=i
     ·subst e;exact hb
     ·exact hall j hj (by omega),rfl,rfl⟩,by simp only[bq];omega⟩
  ·refine⟨vi (-1),[],⟨-1,rfl,?_⟩,ak rfl⟩
   rw[kP fun j hj=>hall j hj (by omega)];rfl
theorem dd (l:List Query) (g:Query->Bool) (h:∀x∈l,Cl Tryz.prog 180 [.ag (ar x.row)] [] fun r _=>r=vb (!g x)):Cl Tryz.prog 179 [.c (.sl l.length (l.flatMap Query.row) none),.c (.fn 180 [] [])] [] fun r _=>r=vb (!(l.all g)):=by
 refine ah ab false Tryz.func179 rfl (by kernel_rfl) ?_
 simp only[Tryz.f179,tt,seval]
 refine eb (BM l g h) ?_ ?_ ?_
 ·decide
 ·simp only[tt,seval]
 rintro r ⟨n,rfl,hn⟩
 simp only[tt,seval]
 exact⟨_,_,aF hn,ak rfl⟩
theorem EM (e:Expr) (b:Bool) (h:Cl Tryz.prog 90 [.ag (ar e.row)] [] fun r _=>r=vb b):Cl Tryz.prog 272 [.ag (ar e.row)] [] fun r _=>r=vb (!b):=by
 obtain⟨kind,op,not,val,qual,name,kids,sub⟩:=e
 rw[ae] at h ⊢
 refine ah ab false Tryz.func272 rfl (by kernel_rfl) ?_
 simp only[Tryz.f272,tt,seval]
 refine cZ (h) ?_ ?_<;>simp only[tt,seval]
 exact⟨_,_,rfl,ak rfl⟩
theorem np (e:Query) (b:Bool) (h:Cl Tryz.prog 146 [.ag (ar e.row)] [] fun r _=>r=vb b):Cl Tryz.prog 180 [.ag (ar e.row)] [] fun r _=>r=vb (!b):=by
 obtain⟨distinct,items,from_,where_,order,limit⟩:=e
 rw[ay] at h ⊢
 refine ah ab false Tryz.func180 rfl (by kernel_rfl) ?_
 simp only[Tryz.f180,tt,seval]
 refine cZ (h) ?_ ?_<;>simp only[tt,seval]
 exact⟨_,_,rfl,ak rfl⟩
theorem cQ (l:List Expr) (g:Expr->Bool) (h:∀x∈l,Cl Tryz.prog 90 [.ag (ar x.row)] [] fun r _=>r=vb (g x)):Cl Tryz.prog 178 [.c (.sl l.length (l.flatMap Expr.row) none)] [] fun r _=>r=vb (l.all g):=by
 refine ah ab false Tryz.func178 rfl (by kernel_rfl) ?_
 simp only[Tryz.f178,tt,seval]
 refine cZ (vo l g (fun x hx=>EM x (g x) (h x hx))) ?_ ?_<;>simp only[tt,seval]
 exact⟨_,_,aF (Bool.not_not _),ak rfl⟩
theorem D8 (e:Expr):Cl Tryz.prog 243 [.ag (ar e.row)] [] fun r _=>r=vb (nl e):=by
 obtain⟨kind,op,not,val,qual,name,kids,sub⟩:=e
 rw[ae]
 refine ah ab false Tryz.func243 rfl (by kernel_rfl) ?_
 simp only[Tryz.f243,tt,seval]
 refine cZ (BI kind op not val qual name kids sub) ?_ ?_<;>simp only[tt,seval,ae,bM]
 exact⟨_,_,rfl,ak rfl⟩
set_option maxHeartbeats 4000000 in
theorem rd (kind op:Int) (not:Bool) (val:Val) (qual name:ByteArray) (kids:List Expr) (sub:List Query) (g:Expr->Bool) (hkids:∀x∈kids,Cl Tryz.prog 90 [.ag (ar x.row)] [] fun r _=>r=vb (g x)) (hsub:∀q∈sub,Cl Tryz.prog 146 [.ag (ar q.row)] [] fun r _=>r=vb (eO g q)) (hkl:kids.length<=1048576) (hsl:sub.length<=1048576):Cl Tryz.prog 90 [.ag (ar (Expr.mk kind op not val qual name kids sub).row)] [] fun r _=>r=vb (vL g (Expr.mk kind op not val qual name kids sub)):=by
 obtain⟨zb,hzb⟩:∃zb,zb=vL g (Expr.mk kind op not val qual name kids sub):=⟨_,rfl⟩
 rw[<-hzb,ae]
 refine ah ab false Tryz.func90 rfl (by kernel_rfl) ?_
 simp only[Tryz.f90,tt,seval]
 obtain⟨nk,hnk⟩:∃nk:Int,nk=kids.length:=⟨_,rfl⟩
 obtain⟨ns,hns⟩:∃ns:Int,ns=sub.length:=⟨_,rfl⟩
 rw[vL,aA,<-hnk,<-hns] at hzb
 rcases (show kind=1∨kind=2∨kind=3∨kind=4∨kind=5∨kind=6∨kind=7∨kind=8∨kind=9∨(kind<1∨9<kind) by omega) with rfl|rfl|rfl|rfl|rfl|rfl|rfl|rfl|rfl|hk
 ·try simp only[tt,seval]
  refine cZ (eN 1 op not val qual name kids sub) ?_ ?_<;>simp only[tt,seval,ae,dK,aQ]
  generalize cm 1 op val qual name=okv at *
  cases hok:okv
  case false=>
   simp only[tt,seval]
   exact⟨_,_,aF (by rw[hzb];simp [aQ,hok];try omega),ak rfl⟩
  simp only[tt,seval]
  by_cases ho:op=0
  case neg=>
   simp only[tt,seval,ho]
   exact⟨_,_,aF (by rw[hzb];simp [aQ,hok,ho];try omega),ak rfl⟩
  simp only[tt,seval,ho]
  cases not
  case true=>
   simp only[tt,seval]
   exact⟨_,_,aF (by rw[hzb];simp [aQ,hok,ho];try omega),ak rfl⟩
  simp only[tt,seval]
  by_cases hq:qual=⟨#[]⟩
  case neg=>
   simp only[tt,seval,hq]
   exact⟨_,_,aF (by rw[hzb];simp [aQ,hok,ho,hq];try omega),ak rfl⟩
  simp only[tt,seval,hq]
  by_cases hn:name=⟨#[]⟩
  case neg=>
   simp only[tt,seval,hn]
   exact⟨_,_,aF (by rw[hzb];simp [aQ,hok,ho,hq,hn];try omega),ak rfl⟩
  simp only[tt,seval,hn]
  refine fun _=>?_
  rw[<-hnk]
  by_cases hlo:nk<0
  case pos=>
   simp only[tt,seval,hlo]
   exact⟨_,_,aF (by rw[hzb];simp [aQ,hok,ho,hq,hn];try omega),ak rfl⟩
  simp only[tt,seval,hlo]
  refine fun _=>?_
  try rw[<-hnk]
  by_cases hhi:0<nk
  case pos=>
   simp only[tt,seval,hhi]
   exact⟨_,_,aF (by rw[hzb];simp [aQ,hok,ho,hq,hn];try omega),ak rfl⟩
  simp only[tt,seval,hhi]
  refine fun _=>?_
  try rw[<-hns]
  by_cases hns0:ns=0
  case neg=>
   simp only[tt,seval,hns0]
   exact⟨_,_,aF (by rw[hzb];simp [aQ,hok,ho,hq,hn,hns0];try omega),ak rfl⟩
  simp only[tt,seval,hns0]
  refine cZ (cQ kids g hkids) ?_ ?_<;>simp only[tt,seval]
  cases hka:kids.all g
  case false=>
   simp only[tt,seval]
   exact⟨_,_,aF (by rw[hzb];simp [aQ,hok,ho,hq,hn,hns0,hka];try omega),ak rfl⟩
  simp only[tt,seval]
  refine cZ (dd sub (eO g) (fun q hq=>np q (eO g q) (hsub q hq))) ?_ ?_<;>simp only[tt,seval]
  cases hsa:sub.all (eO g)
  case false=>
   simp only[tt,seval]
   exact⟨_,_,aF (by rw[hzb];simp [aQ,hok,ho,hq,hn,hns0,hka,hsa];try omega),ak rfl⟩
  simp only[tt,seval]
  exact⟨_,_,aF (by rw[hzb];simp [aQ,hok,ho,hq,hn,hns0,hka,hsa];try omega),ak rfl⟩
 ·try simp only[tt,seval]
  refine cZ (eN 2 op not val qual name kids sub) ?_ ?_<;>simp only[tt,seval,ae,dK,aQ]
  generalize cm 2 op val qual name=okv at *
  cases hok:okv
  case false=>
   simp only[tt,seval]
   exact⟨_,_,aF (by rw[hzb];simp [aQ,hok];try omega),ak rfl⟩
  simp only[tt,seval]
  by_cases ho:op=0
  case neg=>
   simp only[tt,seval,ho]
   exact⟨_,_,aF (by rw[hzb];simp [aQ,hok,ho];try omega),ak rfl⟩
  simp only[tt,seval,ho]
  cases not
  case true=>
   simp only[tt,seval]
   exact⟨_,_,aF (by rw[hzb];simp [aQ,hok,ho];try omega),ak rfl⟩
  simp only[tt,seval]
  rw[bS (by kernel_rfl) (et val)]
  simp only[tt,seval]
  cases hv:zV val
  case false=>
   simp only[tt,seval]
   exact⟨_,_,aF (by rw[hzb];simp [aQ,hok,ho,hv];try omega),ak rfl⟩
  simp only[tt,seval]
  refine fun _=>?_
  rw[<-hnk]
  by_cases hlo:nk<0
  case pos=>
   simp only[tt,seval,hlo]
   exact⟨_,_,aF (by rw[hzb];simp [aQ,hok,ho,hv];try omega),ak rfl⟩
  simp only[tt,seval,hlo]
  refine fun _=>?_
  try rw[<-hnk]
  by_cases hhi:0<nk
  case pos=>
   simp only[tt,seval,hhi]
   exact⟨_,_,aF (by rw[hzb];simp [aQ,hok,ho,hv];try omega),ak rfl⟩
  simp only[tt,seval,hhi]
  refine fun _=>?_
  try rw[<-hns]
  by_cases hns0:ns=0
  case neg=>
   simp only[tt,seval,hns0]
   exact⟨_,_,aF (by rw[hzb];simp [aQ,hok,ho,hv,hns0];try omega),ak rfl⟩
  simp only[tt,seval,hns0]
  refine cZ (cQ kids g hkids) ?_ ?_<;>simp only[tt,seval]
  cases hka:kids.all g
  case false=>
   simp only[tt,seval]
   exact⟨_,_,aF (by rw[hzb];simp [aQ,hok,ho,hv,hns0,hka];try omega),ak rfl⟩
  simp only[tt,seval]
  refine cZ (dd sub (eO g) (fun q hq=>np q (eO g q) (hsub q hq))) ?_ ?_<;>simp only[tt,seval]
  cases hsa:sub.all (eO g)
  case false=>
   simp only[tt,seval]
   exact⟨_,_,aF (by rw[hzb];simp [aQ,hok,ho,hv,hns0,hka,hsa];try omega),ak rfl⟩
  simp only[tt,seval]
  exact⟨_,_,aF (by rw[hzb];simp [aQ,hok,ho,hv,hns0,hka,hsa];try omega),ak rfl⟩
 ·try simp only[tt,seval]
  refine cZ (eN 3 op not val qual name kids sub) ?_ ?_<;>simp only[tt,seval,ae,dK,aQ]
  generalize cm 3 op val qual name=okv at *
  cases hok:okv
  case false=>
   simp only[tt,seval]
   exact⟨_,_,aF (by rw[hzb];simp [aQ,hok];try omega),ak rfl⟩
  simp only[tt,seval]
  cases not
  case true=>
   simp only[tt,seval]
   exact⟨_,_,aF (by rw[hzb];simp [aQ,hok];try omega),ak rfl⟩
  simp only[tt,seval]
  rw[bS (by kernel_rfl) (et val)]
  simp only[tt,seval]
  cases hv:zV val
  case false=>
   simp only[tt,seval]
   exact⟨_,_,aF (by rw[hzb];simp [aQ,hok,hv];try omega),ak rfl⟩
  simp only[tt,seval]
  by_cases hq:qual=⟨#[]⟩
  case neg=>
   simp only[tt,seval,hq]
   exact⟨_,_,aF (by rw[hzb];simp [aQ,hok,hv,hq];try omega),ak rfl⟩
  simp only[tt,seval,hq]
  by_cases hn:name=⟨#[]⟩
  case neg=>
   simp only[tt,seval,hn]
   exact⟨_,_,aF (by rw[hzb];simp [aQ,hok,hv,hq,hn];try omega),ak rfl⟩
  simp only[tt,seval,hn]
  refine fun _=>?_
  rw[<-hnk]
  by_cases hlo:nk<1
  case pos=>
   simp only[tt,seval,hlo]
   exact⟨_,_,aF (by rw[hzb];simp [aQ,hok,hv,hq,hn];try omega),ak rfl⟩
  simp only[tt,seval,hlo]
  refine fun _=>?_
  try rw[<-hnk]
  by_cases hhi:1<nk
  case pos=>
   simp only[tt,seval,hhi]
   exact⟨_,_,aF (by rw[hzb];simp [aQ,hok,hv,hq,hn];try omega),ak rfl⟩
  simp only[tt,seval,hhi]
  refine fun _=>?_
  try rw[<-hns]
  by_cases hns0:ns=0
  case neg=>
   simp only[tt,seval,hns0]
   exact⟨_,_,aF (by rw[hzb];simp [aQ,hok,hv,hq,hn,hns0];try omega),ak rfl⟩
  simp only[tt,seval,hns0]
  refine cZ (cQ kids g hkids) ?_ ?_<;>simp only[tt,seval]
  cases hka:kids.all g
  case false=>
   simp only[tt,seval]
   exact⟨_,_,aF (by rw[hzb];simp [aQ,hok,hv,hq,hn,hns0,hka];try omega),ak rfl⟩
  simp only[tt,seval]
  refine cZ (dd sub (eO g) (fun q hq=>np q (eO g q) (hsub q hq))) ?_ ?_<;>simp only[tt,seval]
  cases hsa:sub.all (eO g)
  case false=>
   simp only[tt,seval]
   exact⟨_,_,aF (by rw[hzb];simp [aQ,hok,hv,hq,hn,hns0,hka,hsa];try omega),ak rfl⟩
  simp only[tt,seval]
  exact⟨_,_,aF (by rw[hzb];simp [aQ,hok,hv,hq,hn,hns0,hka,hsa];try omega),ak rfl⟩
 ·try simp only[tt,seval]
  refine cZ (eN 4 op not val qual name kids sub) ?_ ?_<;>simp only[tt,seval,ae,dK,aQ]
  generalize cm 4 op val qual name=okv at *
  cases hok:okv
  case false=>
   simp only[tt,seval]
   exact⟨_,_,aF (by rw[hzb];simp [aQ,hok];try omega),ak rfl⟩
  simp only[tt,seval]
  cases not
  case true=>
   simp only[tt,seval]
   exact⟨_,_,aF (by rw[hzb];simp [aQ,hok];try omega),ak rfl⟩
  simp only[tt,seval]
  rw[bS (by kernel_rfl) (et val)]
  simp only[tt,seval]
  cases hv:zV val
  case false=>
   simp only[tt,seval]
   exact⟨_,_,aF (by rw[hzb];simp [aQ,hok,hv];try omega),ak rfl⟩
  simp only[tt,seval]
  by_cases hq:qual=⟨#[]⟩
  case neg=>
   simp only[tt,seval,hq]
   exact⟨_,_,aF (by rw[hzb];simp [aQ,hok,hv,hq];try omega),ak rfl⟩
  simp only[tt,seval,hq]
  by_cases hn:name=⟨#[]⟩
  case neg=>
   simp only[tt,seval,hn]
   exact⟨_,_,aF (by rw[hzb];simp [aQ,hok,hv,hq,hn];try omega),ak rfl⟩
  simp only[tt,seval,hn]
  refine fun _=>?_
  rw[<-hnk]
  by_cases hlo:nk<2
  case pos=>
   simp only[tt,seval,hlo]
   exact⟨_,_,aF (by rw[hzb];simp [aQ,hok,hv,hq,hn];try omega),ak rfl⟩
  simp only[tt,seval,hlo]
  refine fun _=>?_
  try rw[<-hnk]
  by_cases hhi:2<nk
  case pos=>
   simp only[tt,seval,hhi]
   exact⟨_,_,aF (by rw[hzb];simp [aQ,hok,hv,hq,hn];try omega),ak rfl⟩
  simp only[tt,seval,hhi]
  refine fun _=>?_
  try rw[<-hns]
  by_cases hns0:ns=0
  case neg=>
   simp only[tt,seval,hns0]
   exact⟨_,_,aF (by rw[hzb];simp [aQ,hok,hv,hq,hn,hns0];try omega),ak rfl⟩
  simp only[tt,seval,hns0]
  refine cZ (cQ kids g hkids) ?_ ?_<;>simp only[tt,seval]
  cases hka:kids.all g
  case false=>
   simp only[tt,seval]
   exact⟨_,_,aF (by rw[hzb];simp [aQ,hok,hv,hq,hn,hns0,hka];try omega),ak rfl⟩
  simp only[tt,seval]
  refine cZ (dd sub (eO g) (fun q hq=>np q (eO g q) (hsub q hq))) ?_ ?_<;>simp only[tt,seval]
  cases hsa:sub.all (eO g)
  case false=>
   simp only[tt,seval]
   exact⟨_,_,aF (by rw[hzb];simp [aQ,hok,hv,hq,hn,hns0,hka,hsa];try omega),ak rfl⟩
  simp only[tt,seval]
  exact⟨_,_,aF (by rw[hzb];simp [aQ,hok,hv,hq,hn,hns0,hka,hsa];try omega),ak rfl⟩
 ·try simp only[tt,seval]
  refine cZ (eN 5 op not val qual name kids sub) ?_ ?_<;>simp only[tt,seval,ae,dK,aQ]
  generalize cm 5 op val qual name=okv at *
  cases hok:okv
  case false=>
   simp only[tt,seval]
   exact⟨_,_,aF (by rw[hzb];simp [aQ,hok];try omega),ak rfl⟩
  simp only[tt,seval]
  by_cases ho:op=0
  case neg=>
   simp only[tt,seval,ho]
   exact⟨_,_,aF (by rw[hzb];simp [aQ,hok,ho];try omega),ak rfl⟩
  simp only[tt,seval,ho]
  rw[bS (by kernel_rfl) (et val)]
  simp only[tt,seval]
  cases hv:zV val
  case false=>
   simp only[tt,seval]
   exact⟨_,_,aF (by rw[hzb];simp [aQ,hok,ho,hv];try omega),ak rfl⟩
  simp only[tt,seval]
  by_cases hq:qual=⟨#[]⟩
  case neg=>
   simp only[tt,seval,hq]
   exact⟨_,_,aF (by rw[hzb];simp [aQ,hok,ho,hv,hq];try omega),ak rfl⟩
  simp only[tt,seval,hq]
  by_cases hn:name=⟨#[]⟩
  case neg=>
   simp only[tt,seval,hn]
   exact⟨_,_,aF (by rw[hzb];simp [aQ,hok,ho,hv,hq,hn];try omega),ak rfl⟩
  simp only[tt,seval,hn]
  refine fun _=>?_
  rw[<-hnk]
  by_cases hlo:nk<1
  case pos=>
   simp only[tt,seval,hlo]
   exact⟨_,_,aF (by rw[hzb];simp [aQ,hok,ho,hv,hq,hn];try omega),ak rfl⟩
  simp only[tt,seval,hlo]
  refine fun _=>?_
  try rw[<-hnk]
  by_cases hhi:1<nk
  case pos=>
   simp only[tt,seval,hhi]
   exact⟨_,_,aF (by rw[hzb];simp [aQ,hok,ho,hv,hq,hn];try omega),ak rfl⟩
  simp only[tt,seval,hhi]
  refine fun _=>?_
  try rw[<-hns]
  by_cases hns0:ns=0
  case neg=>
   simp only[tt,seval,hns0]
   exact⟨_,_,aF (by rw[hzb];simp [aQ,hok,ho,hv,hq,hn,hns0];try omega),ak rfl⟩
  simp only[tt,seval,hns0]
  refine cZ (cQ kids g hkids) ?_ ?_<;>simp only[tt,seval]
  cases hka:kids.all g
  case false=>
   simp only[tt,seval]
   exact⟨_,_,aF (by rw[hzb];simp [aQ,hok,ho,hv,hq,hn,hns0,hka];try omega),ak rfl⟩
  simp only[tt,seval]
  refine cZ (dd sub (eO g) (fun q hq=>np q (eO g q) (hsub q hq))) ?_ ?_<;>simp only[tt,seval]
  cases hsa:sub.all (eO g)
  case false=>
   simp only[tt,seval]
   exact⟨_,_,aF (by rw[hzb];simp [aQ,hok,ho,hv,hq,hn,hns0,hka,hsa];try omega),ak rfl⟩
  simp only[tt,seval]
  exact⟨_,_,aF (by rw[hzb];simp [aQ,hok,ho,hv,hq,hn,hns0,hka,hsa];try omega),ak rfl⟩
 ·try simp only[tt,seval]
  refine cZ (eN 6 op not val qual name kids sub) ?_ ?_<;>simp only[tt,seval,ae,dK,aQ]
  generalize cm 6 op val qual name=okv at *
  cases hok:okv
  case false=>
   simp only[tt,seval]
   exact⟨_,_,aF (by rw[hzb];simp [aQ,hok];try omega),ak rfl⟩
  simp only[tt,seval]
  by_cases ho:op=0
  case neg=>
   simp only[tt,seval,ho]
   exact⟨_,_,aF (by rw[hzb];simp [aQ,hok,ho];try omega),ak rfl⟩
  simp only[tt,seval,ho]
  rw[bS (by kernel_rfl) (et val)]
  simp only[tt,seval]
  cases hv:zV val
  case false=>
   simp only[tt,seval]
   exact⟨_,_,aF (by rw[hzb];simp [aQ,hok,ho,hv];try omega),ak rfl⟩
  simp only[tt,seval]
  by_cases hq:qual=⟨#[]⟩
  case neg=>
   simp only[tt,seval,hq]
   exact⟨_,_,aF (by rw[hzb];simp [aQ,hok,ho,hv,hq];try omega),ak rfl⟩
  simp only[tt,seval,hq]
  by_cases hn:name=⟨#[]⟩
  case neg=>
   simp only[tt,seval,hn]
   exact⟨_,_,aF (by rw[hzb];simp [aQ,hok,ho,hv,hq,hn];try omega),ak rfl⟩
  simp only[tt,seval,hn]
  refine fun _=>?_
  rw[<-hnk]
  by_cases hlo:nk<3
  case pos=>
   simp only[tt,seval,hlo]
   exact⟨_,_,aF (by rw[hzb];simp [aQ,hok,ho,hv,hq,hn];try omega),ak rfl⟩
  simp only[tt,seval,hlo]
  refine fun _=>?_
  try rw[<-hnk]
  by_cases hhi:3<nk
  case pos=>
   simp only[tt,seval,hhi]
   exact⟨_,_,aF (by rw[hzb];simp [aQ,hok,ho,hv,hq,hn];try omega),ak rfl⟩
  simp only[tt,seval,hhi]
  refine fun _=>?_
  try rw[<-hns]
  by_cases hns0:ns=0
  case neg=>
   simp only[tt,seval,hns0]
   exact⟨_,_,aF (by rw[hzb];simp [aQ,hok,ho,hv,hq,hn,hns0];try omega),ak rfl⟩
  simp only[tt,seval,hns0]
  refine cZ (cQ kids g hkids) ?_ ?_<;>simp only[tt,seval]
  cases hka:kids.all g
  case false=>
   simp only[tt,seval]
   exact⟨_,_,aF (by rw[hzb];simp [aQ,hok,ho,hv,hq,hn,hns0,hka];try omega),ak rfl⟩
  simp only[tt,seval]
  refine cZ (dd sub (eO g) (fun q hq=>np q (eO g q) (hsub q hq))) ?_ ?_<;>simp only[tt,seval]
  cases hsa:sub.all (eO g)
  case false=>
   simp only[tt,seval]
   exact⟨_,_,aF (by rw[hzb];simp [aQ,hok,ho,hv,hq,hn,hns0,hka,hsa];try omega),ak rfl⟩
  simp only[tt,seval]
  exact⟨_,_,aF (by rw[hzb];simp [aQ,hok,ho,hv,hq,hn,hns0,hka,hsa];try omega),ak rfl⟩
 ·try simp only[tt,seval]
  refine cZ (eN 7 op not val qual name kids sub) ?_ ?_<;>simp only[tt,seval,ae,dK,aQ]
  generalize cm 7 op val qual name=okv at *
  cases hok:okv
  case false=>
   simp only[tt,seval]
   exact⟨_,_,aF (by rw[hzb];simp [aQ,hok];try omega),ak rfl⟩
  simp only[tt,seval]
  by_cases ho:op=0
  case neg=>
   simp only[tt,seval,ho]
   exact⟨_,_,aF (by rw[hzb];simp [aQ,hok,ho];try omega),ak rfl⟩
  simp only[tt,seval,ho]
  rw[bS (by kernel_rfl) (et val)]
  simp only[tt,seval]
  cases hv:zV val
  case false=>
   simp only[tt,seval]
   exact⟨_,_,aF (by rw[hzb];simp [aQ,hok,ho,hv];try omega),ak rfl⟩
  simp only[tt,seval]
  by_cases hq:qual=⟨#[]⟩
  case neg=>
   simp only[tt,seval,hq]
   exact⟨_,_,aF (by rw[hzb];simp [aQ,hok,ho,hv,hq];try omega),ak rfl⟩
  simp only[tt,seval,hq]
  by_cases hn:name=⟨#[]⟩
  case neg=>
   simp only[tt,seval,hn]
   exact⟨_,_,aF (by rw[hzb];simp [aQ,hok,ho,hv,hq,hn];try omega),ak rfl⟩
  simp only[tt,seval,hn]
  refine fun _=>?_
  rw[<-hnk]
  by_cases hlo:nk<2
  case pos=>
   simp only[tt,seval,hlo]
   exact⟨_,_,aF (by rw[hzb];simp [aQ,hok,ho,hv,hq,hn];try omega),ak rfl⟩
  simp only[tt,seval,hlo]
  refine fun _=>?_
  try rw[<-hnk]
  by_cases hhi:9<nk
  case pos=>
   simp only[tt,seval,hhi]
   exact⟨_,_,aF (by rw[hzb];simp [aQ,hok,ho,hv,hq,hn];try omega),ak rfl⟩
  simp only[tt,seval,hhi]
  refine fun _=>?_
  try rw[<-hns]
  by_cases hns0:ns=0
  case neg=>
   simp only[tt,seval,hns0]
   exact⟨_,_,aF (by rw[hzb];simp [aQ,hok,ho,hv,hq,hn,hns0];try omega),ak rfl⟩
  simp only[tt,seval,hns0]
  refine cZ (cQ kids g hkids) ?_ ?_<;>simp only[tt,seval]
  cases hka:kids.all g
  case false=>
   simp only[tt,seval]
   exact⟨_,_,aF (by rw[hzb];simp [aQ,hok,ho,hv,hq,hn,hns0,hka];try omega),ak rfl⟩
  simp only[tt,seval]
  refine cZ (dd sub (eO g) (fun q hq=>np q (eO g q) (hsub q hq))) ?_ ?_<;>simp only[tt,seval]
  cases hsa:sub.all (eO g)
  case false=>
   simp only[tt,seval]
   exact⟨_,_,aF (by rw[hzb];simp [aQ,hok,ho,hv,hq,hn,hns0,hka,hsa];try omega),ak rfl⟩
  simp only[tt,seval]
  exact⟨_,_,aF (by rw[hzb];simp [aQ,hok,ho,hv,hq,hn,hns0,hka,hsa];try omega),ak rfl⟩
 ·try simp only[tt,seval]
  refine cZ (eN 8 op not val qual name kids sub) ?_ ?_<;>simp only[tt,seval,ae,dK,aQ]
  generalize cm 8 op val qual name=okv at *
  cases hok:okv
  case false=>
   simp only[tt,seval]
   exact⟨_,_,aF (by rw[hzb];simp [aQ,hok];try omega),ak rfl⟩
  simp only[tt,seval]
  by_cases ho:op=0
  case neg=>
   simp only[tt,seval,ho]
   exact⟨_,_,aF (by rw[hzb];simp [aQ,hok,ho];try omega),ak rfl⟩
  simp only[tt,seval,ho]
  rw[bS (by kernel_rfl) (et val)]
  simp only[tt,seval]
  cases hv:zV val
  case false=>
   simp only[tt,seval]
   exact⟨_,_,aF (by rw[hzb];simp [aQ,hok,ho,hv];try omega),ak rfl⟩
  simp only[tt,seval]
  by_cases hq:qual=⟨#[]⟩
  case neg=>
   simp only[tt,seval,hq]
   exact⟨_,_,aF (by rw[hzb];simp [aQ,hok,ho,hv,hq];try omega),ak rfl⟩
  simp only[tt,seval,hq]
  by_cases hn:name=⟨#[]⟩
  case neg=>
   simp only[tt,seval,hn]
   exact⟨_,_,aF (by rw[hzb];simp [aQ,hok,ho,hv,hq,hn];try omega),ak rfl⟩
  simp only[tt,seval,hn]
  refine fun _=>?_
  rw[<-hnk]
  by_cases hlo:nk<1
  case pos=>
   simp only[tt,seval,hlo]
   exact⟨_,_,aF (by rw[hzb];simp [aQ,hok,ho,hv,hq,hn];try omega),ak rfl⟩
  simp only[tt,seval,hlo]
  refine fun _=>?_
  try rw[<-hnk]
  by_cases hhi:1<nk
  case pos=>
   simp only[tt,seval,hhi]
   exact⟨_,_,aF (by rw[hzb];simp [aQ,hok,ho,hv,hq,hn];try omega),ak rfl⟩
  simp only[tt,seval,hhi]
  refine fun _=>?_
  try rw[<-hns]
  by_cases hns0:ns=1
  case neg=>
   simp only[tt,seval,hns0]
   exact⟨_,_,aF (by rw[hzb];simp [aQ,hok,ho,hv,hq,hn,hns0];try omega),ak rfl⟩
  simp only[tt,seval,hns0]
  refine cZ (cQ kids g hkids) ?_ ?_<;>simp only[tt,seval]
  cases hka:kids.all g
  case false=>
   simp only[tt,seval]
   exact⟨_,_,aF (by rw[hzb];simp [aQ,hok,ho,hv,hq,hn,hns0,hka];try omega),ak rfl⟩
  simp only[tt,seval]
  refine cZ (dd sub (eO g) (fun q hq=>np q (eO g q) (hsub q hq))) ?_ ?_<;>simp only[tt,seval]
  cases hsa:sub.all (eO g)
  case false=>
   simp only[tt,seval]
   exact⟨_,_,aF (by rw[hzb];simp [aQ,hok,ho,hv,hq,hn,hns0,hka,hsa];try omega),ak rfl⟩
  simp only[tt,seval]
  exact⟨_,_,aF (by rw[hzb];simp [aQ,hok,ho,hv,hq,hn,hns0,hka,hsa];try omega),ak rfl⟩
 ·try simp only[tt,seval]
  refine cZ (eN 9 op not val qual name kids sub) ?_ ?_<;>simp only[tt,seval,ae,dK,aQ]
  generalize cm 9 op val qual name=okv at *
  cases hok:okv
  case false=>
   simp only[tt,seval]
   exact⟨_,_,aF (by rw[hzb];simp [aQ,hok];try omega),ak rfl⟩
  simp only[tt,seval]
  by_cases ho:op=0
  case neg=>
   simp only[tt,seval,ho]
   exact⟨_,_,aF (by rw[hzb];simp [aQ,hok,ho];try omega),ak rfl⟩
  simp only[tt,seval,ho]
  cases not
  case true=>
   simp only[tt,seval]
   exact⟨_,_,aF (by rw[hzb];simp [aQ,hok,ho];try omega),ak rfl⟩
  simp only[tt,seval]
  rw[bS (by kernel_rfl) (et val)]
  simp only[tt,seval]
  cases hv:zV val
  case false=>
   simp only[tt,seval]
   exact⟨_,_,aF (by rw[hzb];simp [aQ,hok,ho,hv];try omega),ak rfl⟩
  simp only[tt,seval]
  by_cases hq:qual=⟨#[]⟩
  case neg=>
   simp only[tt,seval,hq]
   exact⟨_,_,aF (by rw[hzb];simp [aQ,hok,ho,hv,hq];try omega),ak rfl⟩
  simp only[tt,seval,hq]
  by_cases hn:name=⟨#[]⟩
  case neg=>
   simp only[tt,seval,hn]
   exact⟨_,_,aF (by rw[hzb];simp [aQ,hok,ho,hv,hq,hn];try omega),ak rfl⟩
  simp only[tt,seval,hn]
  refine fun _=>?_
  rw[<-hnk]
  by_cases hlo:nk<0
  case pos=>
   simp only[tt,seval,hlo]
   exact⟨_,_,aF (by rw[hzb];simp [aQ,hok,ho,hv,hq,hn];try omega),ak rfl⟩
  simp only[tt,seval,hlo]
  refine fun _=>?_
  try rw[<-hnk]
  by_cases hhi:0<nk
  case pos=>
   simp only[tt,seval,hhi]
   exact⟨_,_,aF (by rw[hzb];simp [aQ,hok,ho,hv,hq,hn];try omega),ak rfl⟩
  simp only[tt,seval,hhi]
  refine fun _=>?_
  try rw[<-hns]
  by_cases hns0:ns=1
  case neg=>
   simp only[tt,seval,hns0]
   exact⟨_,_,aF (by rw[hzb];simp [aQ,hok,ho,hv,hq,hn,hns0];try omega),ak rfl⟩
  simp only[tt,seval,hns0]
  refine cZ (cQ kids g hkids) ?_ ?_<;>simp only[tt,seval]
  cases hka:kids.all g
  case false=>
   simp only[tt,seval]
   exact⟨_,_,aF (by rw[hzb];simp [aQ,hok,ho,hv,hq,hn,hns0,hka];try omega),ak rfl⟩
  simp only[tt,seval]
  refine cZ (dd sub (eO g) (fun q hq=>np q (eO g q) (hsub q hq))) ?_ ?_<;>simp only[tt,seval]
  cases hsa:sub.all (eO g)
  case false=>
   simp only[tt,seval]
   exact⟨_,_,aF (by rw[hzb];simp [aQ,hok,ho,hv,hq,hn,hns0,hka,hsa];try omega),ak rfl⟩
  simp only[tt,seval]
  exact⟨_,_,aF (by rw[hzb];simp [aQ,hok,ho,hv,hq,hn,hns0,hka,hsa];try omega),ak rfl⟩
 ·have n1:¬kind=1:=by omega
  have n2:¬kind=2:=by omega
  have n3:¬kind=3:=by omega
  have n4:¬kind=4:=by omega
  have n5:¬kind=5:=by omega
  have n6:¬kind=6:=by omega
  have n7:¬kind=7:=by omega
  have n8:¬kind=8:=by omega
  have n9:¬kind=9:=by omega
  have hokf:cm kind op val qual name=false:=by simp [cm,n1,n2,n3,n4];omega
  refine cZ (eN kind op not val qual name kids sub) ?_ ?_<;>simp only[tt,seval,ae,dK,hokf]
  exact⟨_,_,aF (by rw[hzb];simp [hokf]),ak rfl⟩
theorem tA (distinct:Bool) (items:List Item) (from_:List Source) (where_:List Expr) (order:List SortKey) (limit:Int) (g:Expr->Bool) (h:¬(1<=items.length/\items.length<=12)):eO g (Query.mk distinct items from_ where_ order limit)=false:=by simp only[eO,hdB,au h,Bool.false_and]
theorem wI (distinct:Bool) (items:List Item) (from_:List Source) (where_:List Expr) (order:List SortKey) (limit:Int) (g:Expr->Bool) (h:¬(1<=from_.length/\from_.length<=3)):eO g (Query.mk distinct items from_ where_ order limit)=false:=by simp only[eO,hdB,au h,Bool.false_and,Bool.and_false]
theorem yf (distinct:Bool) (items:List Item) (from_:List Source) (where_:List Expr) (order:List SortKey) (limit:Int) (g:Expr->Bool) (h:¬where_.length<=1):eO g (Query.mk distinct items from_ where_ order limit)=false:=by simp only[eO,hdB,au h,Bool.false_and,Bool.and_false]
theorem yg (distinct:Bool) (items:List Item) (from_:List Source) (where_:List Expr) (order:List SortKey) (limit:Int) (g:Expr->Bool) (h:¬order.length<=12):eO g (Query.mk distinct items from_ where_ order limit)=false:=by simp only[eO,hdB,au h,Bool.false_and,Bool.and_false]
theorem yh (distinct:Bool) (items:List Item) (from_:List Source) (where_:List Expr) (order:List SortKey) (limit:Int) (g:Expr->Bool) (h:¬ -1<=limit):eO g (Query.mk distinct items from_ where_ order limit)=false:=by simp only[eO,hdB,au h,Bool.false_and,Bool.and_false]
theorem re (distinct:Bool) (items:List Item) (from_:List Source) (where_:List Expr) (order:List SortKey) (limit:Int) (g:Expr->Bool) {x:Item} (hm:x∈items) (h:oN x=false):eO g (Query.mk distinct items from_ where_ order limit)=false:=by simp only[eO,hdB,gP hm h,Bool.false_and,Bool.and_false]
theorem vp (distinct:Bool) (items:List Item) (from_:List Source) (where_:List Expr) (order:List SortKey) (limit:Int) (g:Expr->Bool) {i:Nat} (hm:i<from_.length) (h:oO i from_[i]=false):eO g (Query.mk distinct items from_ where_ order limit)=false:=by simp only[eO,hdB,BK hm h,Bool.false_and,Bool.and_false]
theorem EN (distinct:Bool) (items:List Item) (from_:List Source) (where_:List Expr) (order:List SortKey) (limit:Int) (g:Expr->Bool) (h1:1<=items.length/\items.length<=12) (h2:1<=from_.length/\from_.length<=3) (h3:where_.length<=1) (h4:order.length<=12) (h5 : -1<=limit) (h6:∀j (hj:j<items.length),oN items[j]=true) (h7:∀j (hj:j<from_.length),oO j from_[j]=true) :
 eO g (Query.mk distinct items from_ where_ order limit)=(exprsQ (Query.mk distinct items from_ where_ order limit)).all g:=by simp only[eO,hdB,av h1,av h2,av h3,av h4,av h5,kP h6,yd h7,Bool.true_and]
set_option maxHeartbeats 1000000 in
theorem pc (q:Query) (g:Expr->Bool) (h:∀x∈exprsQ q,Cl Tryz.prog 90 [.ag (ar x.row)] [] fun r _=>r=vb (g x)) (hsz:szQuery q<=1048576):Cl Tryz.prog 146 [.ag (ar q.row)] [] fun r _=>r=vb (eO g q):=by
 obtain⟨distinct,items,from_,where_,order,limit⟩:=q
 obtain⟨zb,hzb⟩:∃zb,zb=eO g (Query.mk distinct items from_ where_ order limit):=⟨_,rfl⟩
 rw[<-hzb,ay]
 refine ah ab false Tryz.func146 rfl (by kernel_rfl) ?_
 simp only[Tryz.f146,tt,seval]
 refine fun _=>?_
 by_cases c1:(items.length:Int)<1
 case pos=>
  simp only[tt,seval,av c1]
  exact⟨_,_,aF (by rw[hzb];exact (tA distinct items from_ where_ order limit g (by omega)).symm),ak rfl⟩
 simp only[tt,seval,au c1]
 refine fun _=>?_
 by_cases c2:(12:Int)<items.length
 case pos=>
  simp only[tt,seval,av c2]
  exact⟨_,_,aF (by rw[hzb];exact (tA distinct items from_ where_ order limit g (by omega)).symm),ak rfl⟩
 simp only[tt,seval,au c2]
 refine fun _=>?_
 by_cases c3:(from_.length:Int)<1
 case pos=>
  simp only[tt,seval,av c3]
  exact⟨_,_,aF (by rw[hzb];exact (wI distinct items from_ where_ order limit g (by omega)).symm),ak rfl⟩
 simp only[tt,seval,au c3]
 refine fun _=>?_
 by_cases c4:(3:Int)<from_.length
 case pos=>
  simp only[tt,seval,av c4]
  exact⟨_,_,aF (by rw[hzb];exact (wI distinct items from_ where_ order limit g (by omega)).symm),ak rfl⟩
 simp only[tt,seval,au c4]
 refine fun _=>?_
 by_cases c5:(1:Int)<where_.length
 case pos=>
  simp only[tt,seval,av c5]
  exact⟨_,_,aF (by rw[hzb];exact (yf distinct items from_ where_ order limit g (by omega)).symm),ak rfl⟩
 simp only[tt,seval,au c5]
 refine fun _=>?_
 by_cases c6:(12:Int)<order.length
 case pos=>
  simp only[tt,seval,av c6]
  exact⟨_,_,aF (by rw[hzb];exact (yg distinct items from_ where_ order limit g (by omega)).symm),ak rfl⟩
 simp only[tt,seval,au c6]
 refine aa (fun c7=>?_) (fun c7=>?_)
 ·exact⟨_,_,aF (by rw[hzb];exact (yh distinct items from_ where_ order limit g (by omega)).symm),ak rfl⟩
 ·try simp only[tt,seval]
  refine fun _=>?_
  refine dLoop.intro (fun f L p=>∃i:Nat,f 49=vi i/\i<=items.length/\(∀j (hj:j<items.length),j<i->oN items[j]=true)/\L=[(1,.str [.v (.bool distinct),.sl items.length (items.flatMap Item.row) none,.sl from_.length (from_.flatMap Source.row) none,.sl where_.length (where_.flatMap Expr.row) none,.sl order.length (order.flatMap SortKey.row) none,.v (.int .i64 limit)])]/\p=none) (fun f _ _=>(items.length-bq (f 49)).toNat) [(1,.str [.v (.bool distinct),.sl items.length (items.flatMap Item.row) none,.sl from_.length (from_.flatMap Source.row) none,.sl where_.length (where_.flatMap Expr.row) none,.sl order.length (order.flatMap SortKey.row) none,.v (.int .i64 limit)])] none ⟨ac rfl (al _),an _,?_⟩ ?_
  ·simp only[tt,seval]
   exact⟨0,rfl,by omega,fun j _ h=>absurd h (Nat.not_lt_zero _)⟩
  ·rintro g' L p ⟨i,ix,hi,hall,rfl,rfl⟩
   simp only[tt,seval] at ix
   simp only[tt,seval,ix,Int.ofNat_lt]
   refine aa (fun hlt=>?_) (fun hge=>?_)
   ·have hlt:i<items.length:=by omega
    obtain⟨it,bD⟩:∃it,it=items[i]:=⟨_,rfl⟩
    refine⟨by omega,by omega,_,aE Item.row_len (az hlt),Item.ne _ _,?_⟩
    obtain⟨star,qual,⟨k,o,n,v,q,m,ks,ss⟩,as_⟩:=it
    rw[<-bD,Item.row_mk,ae]
    simp only[tt,seval]
    cases star
    case true=>
     simp only[tt,seval]
     refine cZ (wH qual) ?_ ?_<;>simp only[tt,seval]
     cases hm:dy qual
     case false=>
      simp only[tt,seval]
      exact⟨_,_,aF (by rw[hzb];exact (re distinct items from_ where_ order limit g (bD▸aK hlt) (by simp [oN,hm])).symm),ak rfl⟩
     simp only[tt,seval]
     by_cases ha:as_=⟨#[]⟩
     case neg=>
      simp only[tt,seval,au ha]
      exact⟨_,_,aF (by rw[hzb];exact (re distinct items from_ where_ order limit g (bD▸aK hlt) (by simp [oN,hm,ha])).symm),ak rfl⟩
     simp only[tt,seval,av ha]
     refine cZ (D8 (Expr.mk k o n v q m ks ss)) ?_ ?_<;>simp only[tt,seval,ae]
     cases hz:dQ k o n v q m ks.length ss.length
     case false=>
      simp only[tt,seval,nl,hz]
      exact⟨_,_,aF (by rw[hzb];exact (re distinct items from_ where_ order limit g (bD▸aK hlt) (by simp [oN,hm,ha,nl,hz])).symm),ak rfl⟩
     simp only[tt,seval,nl,hz,ix]
     try rw[f5 i (by omega)]
     exact⟨_,none,ac rfl (al _),an _,⟨i+1,rfl,by omega,fun j hj hji=>by
      by_cases e:j=i
      ·subst e;rw[<-bD];simp [oN,hm,ha,nl,hz]
      ·exact hall j hj (by omega),rfl,rfl⟩,by simp only[bq];omega⟩
    case false=>
     simp only[tt,seval]
     by_cases hq:qual=⟨#[]⟩
     case neg=>
      simp only[tt,seval,au hq]
      exact⟨_,_,aF (by rw[hzb];exact (re distinct items from_ where_ order limit g (bD▸aK hlt) (by simp [oN,hq])).symm),ak rfl⟩
     simp only[tt,seval,av hq]
     refine cZ (wH as_) ?_ ?_<;>simp only[tt,seval,ix]
     cases hm:dy as_
     case false=>
      simp only[tt,seval]
      exact⟨_,_,aF (by rw[hzb];exact (re distinct items from_ where_ order limit g (bD▸aK hlt) (by simp [oN,hm])).symm),ak rfl⟩
     simp only[tt,seval]
     try rw[f5 i (by omega)]
     exact⟨_,none,ac rfl (al _),an _,⟨i+1,rfl,by omega,fun j hj hji=>by
      by_cases e:j=i
      ·subst e;rw[<-bD];simp [oN,hm,hq]
      ·exact hall j hj (by omega),rfl,rfl⟩,by simp only[bq];omega⟩
   ·have hall:=fun j hj=>hall j hj (by omega)
    have hall1:=hall
    clear hall
    refine fun _=>?_
    refine dLoop.intro (fun f L p=>∃i:Nat,f 92=vi i/\i<=from_.length/\(∀j (hj:j<from_.length),j<i->oO j from_[j]=true)/\L=[(1,.str [.v (.bool distinct),.sl items.length (items.flatMap Item.row) none,.sl from_.length (from_.flatMap Source.row) none,.sl where_.length (where_.flatMap Expr.row) none,.sl order.length (order.flatMap SortKey.row) none,.v (.int .i64 limit)])]/\p=none) (fun f _ _=>(from_.length-bq (f 92)).toNat) [(1,.str [.v (.bool distinct),.sl items.length (items.flatMap Item.row) none,.sl from_.length (from_.flatMap Source.row) none,.sl where_.length (where_.flatMap Expr.row) none,.sl order.length (order.flatMap SortKey.row) none,.v (.int .i64 limit)])] none ⟨ac rfl (al _),an _,?_⟩ ?_
    ·simp only[tt,seval]
     exact⟨0,rfl,by omega,fun j _ h=>absurd h (Nat.not_lt_zero _)⟩
    ·rintro g' L p ⟨i,ix,hi,hall,rfl,rfl⟩
     simp only[tt,seval] at ix
     simp only[tt,seval,ix,Int.ofNat_lt]
     refine aa (fun hlt=>?_) (fun hge=>?_)
     ·have hlt:i<from_.length:=by omega
      obtain⟨it,bD⟩:∃it,it=from_[i]:=⟨_,rfl⟩
      refine⟨by omega,by omega,_,aE Source.row_len (az hlt),Source.ne _ _,?_⟩
      obtain⟨table,as_,on⟩:=it
      rw[<-bD,Source.row_mk]
      simp only[tt,seval]
      refine cZ (j8 table) ?_ ?_<;>simp only[tt,seval]
      cases hnb:decide (1<=table.size/\table.size<=20)
      case false=>
       simp only[tt,seval]
       exact⟨_,_,aF (by rw[hzb];exact (vp distinct items from_ where_ order limit g hlt (by rw[<-bD];simp [oO,bt,hnb])).symm),ak rfl⟩
      simp only[tt,seval]
      refine cZ (wH as_) ?_ ?_<;>simp only[tt,seval]
      cases hm:dy as_
      case false=>
       simp only[tt,seval]
       exact⟨_,_,aF (by rw[hzb];exact (vp distinct items from_ where_ order limit g hlt (by rw[<-bD];simp [oO,bt,hnb,hm])).symm),ak rfl⟩
      simp only[tt,seval]
      refine fun _=>?_
      by_cases c8:(1:Int)<on.length
      case pos=>
       simp only[tt,seval,av c8]
       exact⟨_,_,aF (by rw[hzb];exact (vp distinct items from_ where_ order limit g hlt (by rw[<-bD];simp only[oO,au (show ¬on.length<=1 by omega),Bool.false_and,Bool.and_false])).symm),ak rfl⟩
      simp only[tt,seval,au c8]
      by_cases c9:(i:Int)=0
      case neg=>
       simp only[tt,seval,c9,ix]
       try rw[f5 i (by omega)]
       exact⟨_,none,ac rfl (al _),an _,⟨i+1,rfl,by omega,fun j hj hji=>by
        by_cases e:j=i
        ·subst e;rw[<-bD];simp only[oO,bt,hnb,hm,av (show on.length<=1 by omega),av (show ¬j=0 by omega),Bool.true_and,Bool.true_or]
        ·exact hall j hj (by omega),rfl,rfl⟩,by simp only[bq];omega⟩
      simp only[tt,seval,av c9,ix]
      refine fun _=>?_
      refine aa (fun c10=>?_) (fun c10=>?_)
      ·exact⟨_,_,aF (by rw[hzb];exact (vp distinct items from_ where_ order limit g hlt (by rw[<-bD];simp only[oO,au (show ¬ ¬i=0 by omega),au (show ¬on.length=0 by omega),Bool.or_false,Bool.and_false])).symm),ak rfl⟩
      ·have hi0:i=0:=by omega
       try rw[f5 i (by omega)]
       exact⟨_,none,ac rfl (al _),an _,⟨i+1,rfl,by omega,fun j hj hji=>by
        by_cases e:j=i
        ·subst e;rw[<-bD];simp only[oO,bt,hnb,hm,av (show on.length<=1 by omega),av (show on.length=0 by omega),Bool.true_and,Bool.or_true]
        ·exact hall j hj (by omega),rfl,rfl⟩,by simp only[bq];omega⟩
     ·have hall:=fun j hj=>hall j hj (by omega)
      refine cZ (qy distinct items from_ where_ order limit hsz) ?_ ?_<;>simp only[tt,seval,ay]
      refine cZ (cQ (exprsQ (Query.mk distinct items from_ where_ order limit)) g h) ?_ ?_<;>simp only[tt,seval]
      exact⟨_,_,aF (by rw[hzb,EN distinct items from_ where_ order limit g ⟨by omega,by omega⟩ ⟨by omega,by omega⟩ (by omega) (by omega) (by omega) hall1 hall]),ak rfl⟩
set_option maxHeartbeats 1000000 in
theorem qA (q:Query) (g:Expr->Bool) (h:∀x∈exprsQ q,Cl Tryz.prog 85 [.ag (ar x.row)] [] fun r _=>r=vb (g x)) (hsz:szQuery q<=1048576):Cl Tryz.prog 98 [.ag (ar q.row)] [] fun r _=>r=vb (eO g q):=by
 obtain⟨distinct,items,from_,where_,order,limit⟩:=q
 obtain⟨zb,hzb⟩:∃zb,zb=eO g (Query.mk distinct items from_ where_ order limit):=⟨_,rfl⟩
 rw[<-hzb,ay]
 refine ah ab false Tryz.func98 rfl (by kernel_rfl) ?_
 simp only[Tryz.f98,tt,seval]
 refine fun _=>?_
 refine cZ (dh items.length 1 12) ?_ ?_<;>simp only[tt,seval]
 by_cases c1:(1:Int)<=items.length/\(items.length:Int)<=12
 case neg=>
  simp only[tt,seval,au c1]
  exact⟨_,_,aF (by rw[hzb];exact (tA distinct items from_ where_ order limit g (by omega)).symm),ak rfl⟩
 simp only[tt,seval,av c1]
 refine fun _=>?_
 refine cZ (dh from_.length 1 3) ?_ ?_<;>simp only[tt,seval]
 by_cases c2:(1:Int)<=from_.length/\(from_.length:Int)<=3
 case neg=>
  simp only[tt,seval,au c2]
  exact⟨_,_,aF (by rw[hzb];exact (wI distinct items from_ where_ order limit g (by omega)).symm),ak rfl⟩
 simp only[tt,seval,av c2]
 refine fun _=>?_
 by_cases c5:(1:Int)<where_.length
 case pos=>
  simp only[tt,seval,av c5]
  exact⟨_,_,aF (by rw[hzb];exact (yf distinct items from_ where_ order limit g (by omega)).symm),ak rfl⟩
 simp only[tt,seval,au c5]
 refine fun _=>?_
 by_cases c6:(12:Int)<order.length
 case pos=>
  simp only[tt,seval,av c6]
  exact⟨_,_,aF (by rw[hzb];exact (yg distinct items from_ where_ order limit g (by omega)).symm),ak rfl⟩
 simp only[tt,seval,au c6]
 refine aa (fun c7=>?_) (fun c7=>?_)
 ·exact⟨_,_,aF (by rw[hzb];exact (yh distinct items from_ where_ order limit g (by omega)).symm),ak rfl⟩
 ·try simp only[tt,seval]
  refine dLoop.intro (fun f L p=>∃i:Nat,f 3=vi i/\i<=items.length/\(∀j (hj:j<items.length),j<i->oN items[j]=true)/\L=[(1,.str [.v (.bool distinct),.sl items.length (items.flatMap Item.row) none,.sl from_.length (from_.flatMap Source.row) none,.sl where_.length (where_.flatMap Expr.row) none,.sl order.length (order.flatMap SortKey.row) none,.v (.int .i64 limit)])]/\p=none) (fun f _ _=>(items.length-bq (f 3)).toNat) [(1,.str [.v (.bool distinct),.sl items.length (items.flatMap Item.row) none,.sl from_.length (from_.flatMap Source.row) none,.sl where_.length (where_.flatMap Expr.row) none,.sl order.length (order.flatMap SortKey.row) none,.v (.int .i64 limit)])] none ⟨ac rfl (al _),an _,?_⟩ ?_
  ·simp only[tt,seval]
   exact⟨0,rfl,by omega,fun j _ h=>absurd h (Nat.not_lt_zero _)⟩
  ·rintro g' L p ⟨i,ix,hi,hall,rfl,rfl⟩
   simp only[tt,seval] at ix
   simp only[tt,seval,ix,Int.ofNat_lt]
   refine fun _=>?_
   refine aa (fun hlt=>?_) (fun hge=>?_)
   ·have hlt:i<items.length:=by omega
    obtain⟨it,bD⟩:∃it,it=items[i]:=⟨_,rfl⟩
    refine⟨by omega,by omega,_,aE Item.row_len (az hlt),Item.ne _ _,?_⟩
    obtain⟨star,qual,⟨k,o,n,v,q,m,ks,ss⟩,as_⟩:=it
    rw[<-bD,Item.row_mk,ae]
    simp only[tt,seval]
    cases star
    case true=>
     simp only[tt,seval]
     refine cZ (lx qual) ?_ ?_<;>simp only[tt,seval]
     cases hm:dy qual
     case false=>
      simp only[tt,seval]
      exact⟨_,_,aF (by rw[hzb];exact (re distinct items from_ where_ order limit g (bD▸aK hlt) (by simp [oN,hm])).symm),ak rfl⟩
     simp only[tt,seval]
     by_cases ha:as_=⟨#[]⟩
     case neg=>
      simp only[tt,seval,au ha]
      exact⟨_,_,aF (by rw[hzb];exact (re distinct items from_ where_ order limit g (bD▸aK hlt) (by simp [oN,hm,ha])).symm),ak rfl⟩
     simp only[tt,seval,av ha]
     refine cZ (yc k o n v q m ks ss) ?_ ?_<;>simp only[tt,seval,ae,bM]
     cases hz:dQ k o n v q m ks.length ss.length
     case false=>
      simp only[tt,seval]
      exact⟨_,_,aF (by rw[hzb];exact (re distinct items from_ where_ order limit g (bD▸aK hlt) (by simp [oN,hm,ha,nl,hz])).symm),ak rfl⟩
     simp only[tt,seval,ix]
     try rw[f5 i (by omega)]
     exact⟨_,none,ac rfl (al _),an _,⟨i+1,rfl,by omega,fun j hj hji=>by
      by_cases e:j=i
      ·subst e;rw[<-bD];simp [oN,hm,ha,nl,hz]
      ·exact hall j hj (by omega),rfl,rfl⟩,by simp only[bq];omega⟩
    case false=>
     simp only[tt,seval]
     by_cases hq:qual=⟨#[]⟩
     case neg=>
      simp only[tt,seval,au hq]
      exact⟨_,_,aF (by rw[hzb];exact (re distinct items from_ where_ order limit g (bD▸aK hlt) (by simp [oN,hq])).symm),ak rfl⟩
     simp only[tt,seval,av hq]
     refine cZ (lx as_) ?_ ?_<;>simp only[tt,seval,ix]
     cases hm:dy as_
     case false=>
      simp only[tt,seval]
      exact⟨_,_,aF (by rw[hzb];exact (re distinct items from_ where_ order limit g (bD▸aK hlt) (by simp [oN,hm])).symm),ak rfl⟩
     simp only[tt,seval]
     try rw[f5 i (by omega)]
     exact⟨_,none,ac rfl (al _),an _,⟨i+1,rfl,by omega,fun j hj hji=>by
      by_cases e:j=i
      ·subst e;rw[<-bD];simp [oN,hm,hq]
      ·exact hall j hj (by omega),rfl,rfl⟩,by simp only[bq];omega⟩
   ·have hall:=fun j hj=>hall j hj (by omega)
    have hall1:=hall
    clear hall
    refine dLoop.intro (fun f L p=>∃i:Nat,f 5=vi i/\i<=from_.length/\(∀j (hj:j<from_.length),j<i->oO j from_[j]=true)/\L=[(1,.str [.v (.bool distinct),.sl items.length (items.flatMap Item.row) none,.sl from_.length (from_.flatMap Source.row) none,.sl where_.length (where_.flatMap Expr.row) none,.sl order.length (order.flatMap SortKey.row) none,.v (.int .i64 limit)])]/\p=none) (fun f _ _=>(from_.length-bq (f 5)).toNat) [(1,.str [.v (.bool distinct),.sl items.length (items.flatMap Item.row) none,.sl from_.length (from_.flatMap Source.row) none,.sl where_.length (where_.flatMap Expr.row) none,.sl order.length (order.flatMap SortKey.row) none,.v (.int .i64 limit)])] none ⟨ac rfl (al _),an _,?_⟩ ?_
    ·simp only[tt,seval]
     exact⟨0,rfl,by omega,fun j _ h=>absurd h (Nat.not_lt_zero _)⟩
    ·rintro g' L p ⟨i,ix,hi,hall,rfl,rfl⟩
     simp only[tt,seval] at ix
     simp only[tt,seval,ix,Int.ofNat_lt]
     refine fun _=>?_
     refine aa (fun hlt=>?_) (fun hge=>?_)
     ·have hlt:i<from_.length:=by omega
      obtain⟨it,bD⟩:∃it,it=from_[i]:=⟨_,rfl⟩
      refine⟨by omega,by omega,_,aE Source.row_len (az hlt),Source.ne _ _,?_⟩
      obtain⟨table,as_,on⟩:=it
      rw[<-bD,Source.row_mk]
      simp only[tt,seval]
      refine cZ (j7 table) ?_ ?_<;>simp only[tt,seval]
      cases hnb:decide (1<=table.size/\table.size<=20)
      case false=>
       simp only[tt,seval]
       exact⟨_,_,aF (by rw[hzb];exact (vp distinct items from_ where_ order limit g hlt (by rw[<-bD];simp [oO,bt,hnb])).symm),ak rfl⟩
      simp only[tt,seval]
      refine cZ (lx as_) ?_ ?_<;>simp only[tt,seval]
      cases hm:dy as_
      case false=>
       simp only[tt,seval]
       exact⟨_,_,aF (by rw[hzb];exact (vp distinct items from_ where_ order limit g hlt (by rw[<-bD];simp [oO,bt,hnb,hm])).symm),ak rfl⟩
      simp only[tt,seval]
      refine fun _=>?_
      by_cases c8:(1:Int)<on.length
      case pos=>
       simp only[tt,seval,av c8]
       exact⟨_,_,aF (by rw[hzb];exact (vp distinct items from_ where_ order limit g hlt (by rw[<-bD];simp only[oO,au (show ¬on.length<=1 by omega),Bool.false_and,Bool.and_false])).symm),ak rfl⟩
      simp only[tt,seval,au c8,ix]
      by_cases c9:(i:Int)=0
      case neg=>
       simp only[tt,seval,c9,ix]
       try rw[f5 i (by omega)]
       exact⟨_,none,ac rfl (al _),an _,⟨i+1,rfl,by omega,fun j hj hji=>by
        by_cases e:j=i
        ·subst e;rw[<-bD];simp only[oO,bt,hnb,hm,av (show on.length<=1 by omega),av (show ¬j=0 by omega),Bool.true_and,Bool.true_or]
        ·exact hall j hj (by omega),rfl,rfl⟩,by simp only[bq];omega⟩
      simp only[tt,seval,av c9,ix]
      refine fun _=>?_
      refine aa (fun c10=>?_) (fun c10=>?_)
      ·exact⟨_,_,aF (by rw[hzb];exact (vp distinct items from_ where_ order limit g hlt (by rw[<-bD];simp only[oO,au (show ¬ ¬i=0 by omega),au (show ¬on.length=0 by omega),Bool.or_false,Bool.and_false])).symm),ak rfl⟩
      ·have hi0:i=0:=by omega
       try rw[f5 i (by omega)]
       exact⟨_,none,ac rfl (al _),an _,⟨i+1,rfl,by omega,fun j hj hji=>by
        by_cases e:j=i
        ·subst e;rw[<-bD];simp only[oO,bt,hnb,hm,av (show on.length<=1 by omega),av (show on.length=0 by omega),Bool.true_and,Bool.or_true]
        ·exact hall j hj (by omega),rfl,rfl⟩,by simp only[bq];omega⟩
     ·have hall:=fun j hj=>hall j hj (by omega)
      have hq:=EN distinct items from_ where_ order limit g ⟨by omega,by omega⟩ ⟨by omega,by omega⟩ (by omega) (by omega) (by omega) hall1 hall
      have hql:=eV (Query.mk distinct items from_ where_ order limit)
      refine cZ (og distinct items from_ where_ order limit hsz) ?_ ?_<;>simp only[tt,seval,ay]
      rw[hq] at hzb
      generalize exprsQ (Query.mk distinct items from_ where_ order limit)=l at *
      refine dLoop.intro (fun f L p=>∃i:Nat,f 8=vi i/\i<=l.length/\(∀j (hj:j<l.length),j<i->g l[j]=true)/\L=[(1,.str [.v (.bool distinct),.sl items.length (items.flatMap Item.row) none,.sl from_.length (from_.flatMap Source.row) none,.sl where_.length (where_.flatMap Expr.row) none,.sl order.length (order.flatMap SortKey.row) none,.v (.int .i64 limit)])]/\p=none) (fun f _ _=>(l.length-bq (f 8)).toNat) [(1,.str [.v (.bool distinct),.sl items.length (items.flatMap Item.row) none,.sl from_.length (from_.flatMap Source.row) none,.sl where_.length (where_.flatMap Expr.row) none,.sl order.length (order.flatMap SortKey.row) none,.v (.int .i64 limit)])] none ⟨ac rfl (al _),an _,?_⟩ ?_
      ·simp only[tt,seval]
       exact⟨0,rfl,by omega,fun j _ h=>absurd h (Nat.not_lt_zero _)⟩
      ·rintro g' L p ⟨i,ix,hi,hal,rfl,rfl⟩
       simp only[tt,seval] at ix
       simp only[tt,seval,ix,Int.ofNat_lt]
       refine fun _=>aa (fun hlt=>?_) (fun hge=>?_)
       ·have hlt:i<l.length:=by omega
        refine⟨by omega,by omega,_,aE aJ (az hlt),Expr.ne _ _,?_⟩
        simp only[seval,Expr.tk,aJ]
        refine cZ (h l[i] (aK hlt)) ?_ ?_<;>simp only[tt,seval,ix]
        refine aa (fun hb=>?_) (fun hb=>?_)
        ·have hb:g l[i]=false:=by simpa only[Bool.not_eq_true'] using hb
         exact⟨_,_,aF (by rw[hzb];exact (gP (aK hlt) hb).symm),ak rfl⟩
        ·have hb:g l[i]=true:=by simpa only[Bool.not_eq_false'] using hb
         try rw[f5 i (by omega)]
         exact⟨_,none,ac rfl (al _),an _,⟨i+1,rfl,by omega,fun j hj hji=>by
          by_cases e:j=i
          ·subst e;exact hb
          ·exact hal j hj (by omega),rfl,rfl⟩,by simp only[bq];omega⟩
       ·exact⟨_,_,aF (by rw[hzb];exact (kP fun j hj=>hal j hj (by omega)).symm),ak rfl⟩
theorem jv {n:Nat} {l:List D} (h:l.length=n):eH n l=some l:=by
 have:=dw (r:=[]) h
 rwa[List.append_nil] at this
theorem BN {kind op:Int} {not:Bool} {val:Val} {qual name:ByteArray} {nk ns:Int} (h:aA kind op not val qual name nk ns=true):ns<=1:=by
 simp only[aA,Bool.and_eq_true,decide_eq_true_eq] at h
 have h:=h.2.2.2.2.2.2
 rw[h];unfold aQ;(repeat' split)<;>decide
theorem tB (kind op:Int) (not:Bool) (val:Val) (qual name:ByteArray) (kids:List Expr) (sub:List Query) (g:Expr->Bool) (hg:∀x,fq x (Expr.mk kind op not val qual name kids sub)->Cl Tryz.prog 85 [.ag (ar x.row)] [] fun r _=>r=vb (g x)) (hsz:szExpr (Expr.mk kind op not val qual name kids sub)<=1048576):Cl Tryz.prog 85 [.ag (ar (Expr.mk kind op not val qual name kids sub).row)] [] fun r _=>r=vb (vL g (Expr.mk kind op not val qual name kids sub)):=by
 have hks:=hsz
 rw[bQ,aC,bw] at hks
 obtain⟨zb,hzb⟩:∃zb,zb=vL g (Expr.mk kind op not val qual name kids sub):=⟨_,rfl⟩
 rw[<-hzb]
 have e:vL g (Expr.mk kind op not val qual name kids sub)=(aA kind op not val qual name kids.length sub.length&&(kids.all g&&sub.all (eO g))):=rfl
 rw[e] at hzb
 rw[ae]
 refine ah ab false Tryz.func85 rfl (by kernel_rfl) ?_
 simp only[Tryz.f85,tt,seval]
 refine cZ (zD kind op not val qual name kids sub (by omega) (by omega)) ?_ ?_<;>simp only[tt,seval,ae]
 cases hb:aA kind op not val qual name kids.length sub.length
 case false=>
  simp only[tt,seval]
  exact⟨_,_,aF (by rw[hzb,hb];rfl),ak rfl⟩
 have hns:=BN hb
 rw[hb,Bool.true_and] at hzb
 simp only[tt,seval]
 refine dLoop.intro (fun f L p=>∃i:Nat,f 3=vi i/\i<=kids.length/\(∀j (hj:j<kids.length),j<i->g kids[j]=true)/\L=[(1,.str [.v (.int .i64 kind),.v (.int .i64 op),.v (.bool not),.v (.int .i64 val.kind),.v (.int .i64 val.num),.v (.string val.text),.v (.string qual),.v (.string name),.sl kids.length (kids.flatMap Expr.row) none,.sl sub.length (sub.flatMap Query.row) none])]/\p=none) (fun f _ _=>(kids.length-bq (f 3)).toNat) [(1,.str [.v (.int .i64 kind),.v (.int .i64 op),.v (.bool not),.v (.int .i64 val.kind),.v (.int .i64 val.num),.v (.string val.text),.v (.string qual),.v (.string name),.sl kids.length (kids.flatMap Expr.row) none,.sl sub.length (sub.flatMap Query.row) none])] none ⟨ac rfl (al _),an _,?_⟩ ?_
 ·simp only[tt,seval]
  exact⟨0,rfl,by omega,fun j _ h=>absurd h (Nat.not_lt_zero _)⟩
 ·rintro g' L p ⟨i,ix,hi,hal,rfl,rfl⟩
  simp only[tt,seval] at ix
  simp only[tt,seval,ix,Int.ofNat_lt]
  refine fun _=>aa (fun hlt=>?_) (fun hge=>?_)
  ·have hlt:i<kids.length:=by omega
   refine⟨by omega,by omega,_,aE aJ (az hlt),Expr.ne _ _,?_⟩
   simp only[seval,Expr.tk,aJ]
   refine cZ (hg kids[i] (.inl (aK hlt))) ?_ ?_<;>simp only[tt,seval,ix]
   refine aa (fun hb=>?_) (fun hb=>?_)
   ·have hb:g kids[i]=false:=by simpa only[Bool.not_eq_true'] using hb
    exact⟨_,_,aF (by rw[hzb,gP (aK hlt) hb];rfl),ak rfl⟩
   ·have hb:g kids[i]=true:=by simpa only[Bool.not_eq_false'] using hb
    try rw[f5 i (by omega)]
    exact⟨_,none,ac rfl (al _),an _,⟨i+1,rfl,by omega,fun j hj hji=>by
     by_cases e:j=i
     ·subst e;exact hb
     ·exact hal j hj (by omega),rfl,rfl⟩,by simp only[bq];omega⟩
  ·rw[kP fun j hj=>hal j hj (by omega),Bool.true_and] at hzb
   refine fun _=>?_
   rcases sub with _|⟨q,_|⟨q2,rest⟩⟩
   ·simp only[tt,seval]
    exact⟨_,_,aF (by rw[hzb];rfl),ak rfl⟩
   ·simp only[tt,seval]
    refine⟨q.row++[],by simp,Query.ne _ _,?_⟩
    simp only[tt,seval,jv (Query.row_len q),Query.row_len]
    refine cZ (qA q g (fun x hx=>hg x (.inr ⟨q,by show q∈[q];simp,hx⟩)) (Nat.le_trans (lX (e:=(Expr.mk kind op not val qual name kids [q])) (by show q∈[q];simp)) hsz)) ?_ ?_<;>simp only[tt,seval]
    exact⟨_,_,aF (by rw[hzb];simp),ak rfl⟩
   ·simp only[List.length_cons] at hns;omega
theorem zE (e:Expr):szExpr e<=1048576->Cl Tryz.prog 85 [.ag (ar e.row)] [] fun r _=>r=vb (fmE e):=by
 refine gM (P:=fun e b=>szExpr e<=1048576->Cl Tryz.prog 85 [.ag (ar e.row)] [] fun r _=>r=vb b) (fun e g hg hsz=>?_) e
 obtain⟨kind,op,not,val,qual,name,kids,sub⟩:=e
 exact tB kind op not val qual name kids sub g (fun x hx=>hg x hx (Nat.le_trans (gY hx) hsz)) hsz
theorem wJ (e:Expr):szExpr e<=1048576->Cl Tryz.prog 90 [.ag (ar e.row)] [] fun r _=>r=vb (fmE e):=by
 refine gM (P:=fun e b=>szExpr e<=1048576->Cl Tryz.prog 90 [.ag (ar e.row)] [] fun r _=>r=vb b) (fun e g hg hsz=>?_) e
 obtain⟨kind,op,not,val,qual,name,kids,sub⟩:=e
 have hks:=hsz
 rw[bQ,aC,bw] at hks
 have hg:=fun x hx=>hg x hx (Nat.le_trans (gY hx) hsz)
 exact rd kind op not val qual name kids sub g (fun x hx=>hg x (.inl hx)) (fun q hq=>pc q g (fun x hx=>hg x (.inr ⟨q,hq,hx⟩)) (Nat.le_trans (lX (e:=(Expr.mk kind op not val qual name kids sub)) hq) hsz)) (by omega) (by omega)
noncomputable def oh (e:Expr):Bool:=decide (dpE e<=24)&&(decide (ndE e<=200)&&fmE e)
theorem zF (d n:Nat):Cl Tryz.prog 87 [vi d,vi n] [] fun r _=>r=vb (decide (d<=24)&&decide (n<=200)):=by
 refine ah ab false Tryz.func87 rfl (by kernel_rfl) ?_
 simp only[Tryz.f87,tt,seval]
 by_cases h1:(d:Int)<=24
 ·simp only[tt,seval,av h1]
  exact⟨_,_,aF (by rw[av (show d<=24 by omega),Bool.true_and];exact decide_eq_decide.2 (by omega)),ak rfl⟩
 ·simp only[tt,seval,au h1]
  exact⟨_,_,aF (by rw[au (show ¬d<=24 by omega)];rfl),ak rfl⟩
theorem s9 (e:Expr) (hsz:szExpr e<=1048576):Cl Tryz.prog 28 [.ag (ar e.row)] [] fun r _=>r=vb (oh e):=by
 obtain⟨zb,hzb⟩:∃zb,zb=oh e:=⟨_,rfl⟩
 rw[<-hzb]
 rw[oh] at hzb
 have c1:=(wE e).1 hsz
 have c2:=(BF e).1 hsz
 have c3:=wJ e hsz
 obtain⟨kind,op,not,val,qual,name,kids,sub⟩:=e
 generalize dpE (Expr.mk kind op not val qual name kids sub)=d at *
 generalize ndE (Expr.mk kind op not val qual name kids sub)=n at *
 generalize fmE (Expr.mk kind op not val qual name kids sub)=b at *
 rw[ae] at c1 c2 c3 ⊢
 refine ah ab false Tryz.func28 rfl (by kernel_rfl) ?_
 simp only[Tryz.f28,tt,seval]
 refine dDrawn.intro [] (iO [0,4,3,7,9,10,12,15,16,18]) (by kernel_rfl) ?_
 simp only[tt,seval]
 refine cZ (c1) ?_ ?_<;>simp only[tt,seval]
 refine cZ (c2) ?_ ?_<;>simp only[tt,seval]
 refine cZ (zF d n) ?_ ?_<;>simp only[tt,seval]
 cases hb:(decide (d<=24)&&decide (n<=200))
 ·simp only[tt,seval]
  exact⟨_,_,aF (by rw[hzb,<-Bool.and_assoc,hb];rfl),ak rfl⟩
 ·simp only[tt,seval]
  refine cZ (c3) ?_ ?_<;>simp only[tt,seval]
  exact⟨_,_,aF (by rw[hzb,<-Bool.and_assoc,hb];rfl),ak rfl⟩
theorem qB (e:Expr) (hsz:szExpr e<=1048576):Cl Tryz.prog 27 [.ag (ar e.row)] [] fun r _=>r=vb (oh e):=by
 obtain⟨zb,hzb⟩:∃zb,zb=oh e:=⟨_,rfl⟩
 rw[<-hzb]
 rw[oh] at hzb
 have c1:=(zA e).1 hsz
 have c2:=BH e hsz 200 (by omega) (by omega)
 have c3:=zE e hsz
 obtain⟨kind,op,not,val,qual,name,kids,sub⟩:=e
 generalize dpE (Expr.mk kind op not val qual name kids sub)=d at *
 generalize ndE (Expr.mk kind op not val qual name kids sub)=n at *
 generalize fmE (Expr.mk kind op not val qual name kids sub)=b at *
 rw[ae] at c1 c2 c3 ⊢
 refine ah ab false Tryz.func27 rfl (by kernel_rfl) ?_
 simp only[Tryz.f27,tt,seval]
 refine cZ (c2) ?_ ?_<;>simp only[tt,seval]
 by_cases h2:n<=200
 case neg=>
  have h0:cF 200 n<0:=by unfold cF;split<;>omega
  simp only[tt,seval,au (show ¬(0:Int)<=cF 200 n by omega)]
  exact⟨_,_,aF (by rw[hzb,au h2,Bool.false_and,Bool.and_false]),ak rfl⟩
 have h0:0<=cF 200 n:=by unfold cF;split<;>omega
 simp only[tt,seval,av h0]
 refine cZ (c3) ?_ ?_<;>simp only[tt,seval]
 cases b
 case false=>
  simp only[tt,seval]
  exact⟨_,_,aF (by rw[hzb,Bool.and_false,Bool.and_false]),ak rfl⟩
 simp only[tt,seval]
 refine cZ (c1) ?_ ?_<;>simp only[tt,seval]
 exact⟨_,_,aF (by rw[hzb,av h2,Bool.and_true,Bool.and_true];exact decide_eq_decide.2 (by omega)),ak rfl⟩
theorem ll:(∀a b:List Tok,(a++b).length=a.length+b.length)/\(∀(t:Tok) (a:List Tok),(t::a).length=a.length+1)/\([]:List Tok).length=0:=⟨fun _ _=>aB,fun _ _=>List.length_cons,rfl⟩
def kT (k:Nat):Tok:=⟨1,kw k,0⟩
def gT (s:ByteArray):Tok:=⟨5,s,0⟩
def nT (s:ByteArray):Tok:=⟨2,s,0⟩
def iT (n:Int):Tok:=⟨3,fo n,0⟩
def tC:Tok:=gT ⟨#[40]⟩
def tD:Tok:=gT ⟨#[41]⟩
def yi:Tok:=gT ⟨#[44]⟩
def FE:Tok:=gT ⟨#[46]⟩
def EO:Tok:=gT ⟨#[42]⟩
def kQ (v:Val):Tok:=if v.kind=1 then iT v.num else if v.kind=2 then ⟨4,v.text,0⟩ else if v.kind=3 then (if v.num=1 then kT 21 else kT 22) else kT 20
def eC (op:Int):Tok:=⟨if op=1∨op=2∨op=15 then 1 else 5,qW op,0⟩
def ke (q:ByteArray):List Tok:=if q=⟨#[]⟩ then [] else [nT q,FE]
def kf (a:ByteArray):List Tok:=if a=⟨#[]⟩ then [] else [kT 12,nT a]
def dR (b:Bool):List Tok:=if b=true then [kT 15] else []
def rf (w:Bool) (l:List Tok):List Tok:=if w=true then tC::(l++[tD]) else l
def DD:Expr:=.mk 0 0 false ⟨0,0,⟨#[]⟩⟩ ⟨#[]⟩ ⟨#[]⟩ [] []
def Ef (full:Bool) (kind op:Int) (kids:List Expr) (k:Nat):Bool:=ud kind op kids k||(full&&decide (Co (kids.getD k DD)<9))
def df (full:Bool) (g:Expr->List Tok) (kind op:Int) (kids:List Expr) (k:Nat):List Tok:=rf (Ef full kind op kids k) (g (kids.getD k DD))
def bJ (f:Nat->List Tok) (n:Nat):List Tok:=(List.range n).flatMap f
theorem dA (f:Nat->List Tok) (n:Nat):bJ f (n+1)=bJ f n++f n:=by
 unfold bJ
 rw[List.range_succ,List.flatMap_append];simp
theorem zG (f:Nat->List Tok) {k m:Nat} (h:k<=m):(bJ f k).length<=(bJ f m).length:=by
 induction m with
 |zero=>rw[Nat.le_zero.1 h];exact Nat.le_refl _
 |succ m ih=>
  by_cases e:k=m+1
  ·subst e;exact Nat.le_refl _
  ·rw[dA,aB];exact Nat.le_trans (ih (by omega)) (Nat.le_add_right _ _)
theorem iQ (f:Nat->List Tok) {k m:Nat} (h:k<m):(bJ f k).length+(f k).length<=(bJ f m).length:=by
 have:=zG f (show k+1<=m from h)
 rwa[dA,aB] at this
def vM {α:Type} (l:List α) (h:α->List Tok) (i:Nat):List Tok:=match l[i]? with|some x=>h x|none=>[]
theorem dP {α:Type} {l:List α} {h:α->List Tok} {i:Nat} (hi:i<l.length):vM l h i=h l[i]:=by rw[vM,az hi]
def oP (i:Nat):List Tok:=if 0<i then [yi] else []
def il (g:Expr->List Tok):Item->List Tok | .mk star qual e as_=>if star=true then ke qual++[EO] else g e++kf as_
def Ch (g:Expr->List Tok):List Expr->List Tok | []=>[]|e::_=>kT 5::g e
def vq (g:Expr->List Tok) (i:Nat):Source->List Tok | .mk table as_ on=>(if 0<i then (if 0<on.length then [kT 4] else [yi]) else [])++(nT table::(kf as_++Ch g on))
def vN (g:Expr->List Tok):List Expr->List Tok | []=>[]|e::_=>kT 6::g e
def BO (g:Expr->List Tok):SortKey->List Tok | .mk e desc=>g e++(if desc=true then [kT 10] else [])
def zH (n:Int):List Tok:=if 0<=n then [kT 11,iT n] else []
def lT (g:Expr->List Tok) (items:List Item) (i:Nat):List Tok:=oP i++vM items (il g) i
def lH (g:Expr->List Tok) (from_:List Source) (i:Nat):List Tok:=vM from_ (vq g i) i
def rh (g:Expr->List Tok) (order:List SortKey) (i:Nat):List Tok:=(if i=0 then [kT 7,kT 8] else [yi])++vM order (BO g) i
def qC (g:Expr->List Tok):Query->List Tok
 |.mk distinct items from_ where_ order limit=>
  kT 1::((if distinct=true then [kT 2] else [])++(bJ (lT g items) items.length++(kT 3::(bJ (lH g from_) from_.length++(vN g where_++(bJ (rh g order) order.length++zH limit))))))
def sb (g:Expr->List Tok):List Query->List Tok | []=>[]|q::_=>qC g q
def yj (full:Bool) (g:Expr->List Tok) (kind op:Int) (kids:List Expr) (j:Nat):List Tok:=oP j++df full g kind op kids (j+1)
def yl (full:Bool) (g:Expr->List Tok):Expr->List Tok
 |.mk kind op not val qual name kids sub=>
  if kind=1 then [kQ val] else if kind=2 then ke qual++[nT name] else if kind=3 then eC op::df full g kind op kids 0 else if kind=9 then kT 19::tC::(sb g sub++[tD]) else
  df full g kind op kids 0++(if kind=4 then eC op::df full g kind op kids 1 else if kind=5 then kT 16::(dR not++[kT 20]) else if kind=6 then dR not++(kT 18::(df full g kind op kids 1++(kT 13::df full g kind op kids 2))) else
   dR not++(kT 17::tC::((if kind=8 then sb g sub else bJ (yj full g kind op kids) (kids.length-1))++[tD])))
noncomputable def pd (full:Bool):Expr->List Tok:=f9 (yl full)
def Expr.not:Expr->Bool | .mk _ _ n _ _ _ _ _=>n
def Query.lim:Query->Int | .mk _ _ _ _ _ l=>l
inductive Rg:Expr->Prop
 |mk {kind op:Int} {not:Bool} {val:Val} {qual name:ByteArray} {kids:List Expr} {sub:List Query}:(-9223372036854775808<=val.num/\val.num<=9223372036854775807)->(∀k,k∈kids->Rg k)->(∀q,q∈sub->q.lim<=9223372036854775807)->(∀q,q∈sub->∀x,x∈exprsQ q->Rg x)->Rg (.mk kind op not val qual name kids sub)
def GZ (q:Query):Prop:=q.lim<=9223372036854775807/\∀x,x∈exprsQ q->Rg x
theorem Rg.num {kind op:Int} {not:Bool} {val:Val} {qual name:ByteArray} {kids:List Expr} {sub:List Query} (h:Rg (.mk kind op not val qual name kids sub)) : -9223372036854775808<=val.num/\val.num<=9223372036854775807:=by cases h;assumption
theorem ym {x e:Expr} (h:Rg e) (hb:fq x e):Rg x:=by
 cases h with
 |mk h1 h2 h3 h4=>
  rcases hb with hb|⟨q,hq,hb⟩
  ·exact h2 x hb
  ·exact h4 q hq x hb
theorem BP {q:Query} {e:Expr} (h:Rg e) (hq:q∈e.sub):GZ q:=by
 cases h with
 |mk h1 h2 h3 h4=>exact⟨h3 q hq,h4 q hq⟩
theorem qD {α β γ:Type} [Inhabited α] [Inhabited β] [Inhabited γ] {F1:(Expr->α)->Expr->α} {F2:(Expr->β)->Expr->β} {F3:(Expr->γ)->Expr->γ} {P:Expr->α->β->γ->Prop}
 (h:∀e g1 g2 g3,(∀x,fq x e->P x (g1 x) (g2 x) (g3 x))->P e (F1 g1 e) (F2 g2 e) (F3 g3 e)) (e:Expr):P e (f9 F1 e) (f9 F2 e) (f9 F3 e):=by
 suffices H:∀n:Nat,∀e:Expr,SizeOf.sizeOf e<n->P e (f9 F1 e) (f9 F2 e) (f9 F3 e) from H _ e (Nat.lt_succ_self _)
 intro n
 induction n with
 |zero=>exact fun _ h=>absurd h (Nat.not_lt_zero _)
 |succ n ih=>
  intro e he
  rw[f9,f9,f9]
  refine h e _ _ _ fun x hx=>?_
  have:=pI hx
  simp only[dif_pos this]
  exact ih x (by omega)
theorem BQ:∀k:Nat,(kw k).size<=40:=fun k=>by
 by_cases h:k<29
 ·exact (by decide:∀k:Fin 29,(kw k.1).size<=40) ⟨k,h⟩
 ·have:kw k=⟨#[]⟩:=by
   unfold kw
   rw[List.getD_eq_getElem?_getD,List.getElem?_eq_none (by show 29<=k;omega)];rfl
  rw[this];decide
theorem cg (k:Nat):(kT k).text.size<=40:=BQ k
theorem sc (op:Int):(qW op).size<=40:=by
 unfold qW
 split
 ·rename_i h
  have e:op.toNat<17:=by omega
  exact (by decide:∀k:Fin 17,(DO.getD k.1 ⟨#[]⟩).size<=40) ⟨op.toNat,e⟩
 ·decide
theorem kU {n:Int} (h0 : -9223372036854775808<=n) (h1:n<=9223372036854775807):(fo n).size<=40:=by
 have:=pA h0 h1
 show ((Lib.itoa n).toArray).size<=40
 rw[List.size_toArray];omega
def Sm (n:Nat) (l:List Tok):Prop:=l.length<=n/\∀t∈l,t.text.size<=40
theorem Sm.nil:Sm 0 []:=⟨Nat.le_refl _,fun t h=>by cases h⟩
theorem Sm.cons {n:Nat} {t:Tok} {l:List Tok} (h:t.text.size<=40) (hl:Sm n l):Sm (n+1) (t::l):=⟨by simp;exact hl.1,fun x hx=>by
 rcases List.mem_cons.1 hx with rfl|hx
 ·exact h
 ·exact hl.2 x hx⟩
theorem Sm.app {n m:Nat} {a b:List Tok} (h:Sm n a) (k:Sm m b):Sm (n+m) (a++b):=⟨by rw[aB];have:=h.1;have:=k.1;omega,fun x hx=>by
 rcases List.mem_append.1 hx with hx|hx
 ·exact h.2 x hx
 ·exact k.2 x hx⟩
theorem Sm.le {n m:Nat} {l:List Tok} (h:Sm n l) (k:n<=m):Sm m l:=⟨Nat.le_trans h.1 k,h.2⟩
theorem Sm.one {t:Tok} (h:t.text.size<=40):Sm 1 [t]:=Sm.cons h Sm.nil
theorem Sm.ite {c:Prop} [Decidable c] {n:Nat} {a b:List Tok} (h:Sm n a) (k:Sm n b):Sm n (if c then a else b):=by split<;>assumption
theorem Sm.seq {f:Nat->List Tok} {b:Nat->Nat} {n:Nat} (h:∀i,i<n->Sm (b i) (f i)):Sm (((List.range n).map b).sum) (bJ f n):=by
 induction n with
 |zero=>exact Sm.nil
 |succ n ih=>
  rw[dA,List.range_succ,List.map_append,List.sum_append,List.map_singleton,List.sum_singleton]
  exact (ih fun i hi=>h i (by omega)).app (h n (by omega))
def kV {α:Type} (d:α->Nat):Option α->Nat
 |some x=>d x
 |none=>0
theorem fU {α:Type} (l:List α) (c:Nat) (d:α->Nat):((List.range l.length).map fun i=>c+kV (fun x=>d x) l[i]?).sum=c*l.length+(l.map d).sum:=by
 have e:∀l:List α,(List.range l.length).map (fun i=>c+kV (fun x=>d x) l[i]?)=l.map fun x=>c+d x:=by
  intro l
  refine List.ext_getElem (by simp) fun i h1 h2=>?_
  simp only[List.length_map,List.length_range] at h1
  simp [h1,kV]
 rw[e]
 induction l with
 |nil=>simp
 |cons x r ih=>simp only[List.map_cons,List.sum_cons,List.length_cons,ih,Nat.mul_add];omega
theorem Eg {v:Val} (h:kN v=true) (hr : -9223372036854775808<=v.num/\v.num<=9223372036854775807):(kQ v).text.size<=40:=by
 simp only[kN,Bool.and_eq_true,decide_eq_true_eq] at h
 unfold kQ
 split
 ·exact kU hr.1 hr.2
 ·split
  ·exact h.2.2
  ·split
   ·split<;>exact cg _
   ·exact cg _
theorem yo {q:ByteArray} (h:dy q=true):Sm 2 (ke q):=by
 unfold ke
 split
 ·exact Sm.nil.le (by omega)
 ·rename_i hq
  simp only[dy,bt,Bool.or_eq_true,decide_eq_true_eq,hq,false_or] at h
  exact Sm.cons (by show q.size<=40;omega) (Sm.one (by decide))
theorem DE {q:ByteArray} (h:dy q=true):Sm 2 (kf q):=by
 unfold kf
 split
 ·exact Sm.nil.le (by omega)
 ·rename_i hq
  simp only[dy,bt,Bool.or_eq_true,decide_eq_true_eq,hq,false_or] at h
  exact Sm.cons (cg _) (Sm.one (by show q.size<=40;omega))
theorem tE (b:Bool):Sm 1 (dR b):=Sm.ite (Sm.one (cg _)) (Sm.nil.le (by omega))
theorem Eh {w:Bool} {n:Nat} {l:List Tok} (h:Sm n l):Sm (n+2) (rf w l):=Sm.ite ((Sm.cons (by decide) (h.app (Sm.one (by decide)))).le (by omega)) (h.le (by omega))
theorem vr {kind op:Int} {not:Bool} {val:Val} {qual name:ByteArray} {nk ns:Int} (h:aA kind op not val qual name nk ns=true) :
 cm kind op val qual name=true/\((aQ kind).2.2.2.2.1<=nk/\nk<=(aQ kind).2.2.2.2.2.1)/\ns=(aQ kind).2.2.2.2.2.2:=by
 simp only[aA,Bool.and_eq_true,decide_eq_true_eq] at h
 exact⟨h.1,h.2.2.2.2.2.1,h.2.2.2.2.2.2⟩
theorem oQ {kind op:Int} {not:Bool} {val:Val} {qual name:ByteArray} {nk ns:Int} (h:aA kind op not val qual name nk ns=true) :
 (kind=1/\kN val=true/\nk=0/\ns=0)∨(kind=2/\bt name=true/\dy qual=true/\nk=0/\ns=0)∨(kind=3/\(op=15∨op=16)/\nk=1/\ns=0)∨(kind=4/\(1<=op/\op<=14)/\nk=2/\ns=0)∨(kind=5/\nk=1/\ns=0)∨(kind=6/\nk=3/\ns=0)∨(kind=7/\(2<=nk/\nk<=9)/\ns=0)∨(kind=8/\nk=1/\ns=1)∨(kind=9/\nk=0/\ns=1):=by
 obtain⟨h1,h6,h7⟩:=vr h
 clear h
 by_cases k1:kind=1
 ·subst k1;exact .inl ⟨rfl,h1,by have:0<=nk/\nk<=0:=h6;omega,h7⟩
 by_cases k2:kind=2
 ·subst k2
  have h1:(bt name&&dy qual)=true:=h1
  simp only[Bool.and_eq_true] at h1
  exact .inr (.inl ⟨rfl,h1.1,h1.2,by have:0<=nk/\nk<=0:=h6;omega,h7⟩)
 by_cases k3:kind=3
 ·subst k3
  have h1:(decide (op=15)||decide (op=16))=true:=h1
  simp only[Bool.or_eq_true,decide_eq_true_eq] at h1
  exact .inr (.inr (.inl ⟨rfl,h1,by have:1<=nk/\nk<=1:=h6;omega,h7⟩))
 by_cases k4:kind=4
 ·subst k4
  have h1:decide (1<=op/\op<=14)=true:=h1
  simp only[decide_eq_true_eq] at h1
  exact .inr (.inr (.inr (.inl ⟨rfl,h1,by have:2<=nk/\nk<=2:=h6;omega,h7⟩)))
 simp only[cm,if_neg k1,if_neg k2,if_neg k3,if_neg k4,decide_eq_true_eq] at h1
 rcases (show kind=5∨kind=6∨kind=7∨kind=8∨kind=9 by omega) with rfl|rfl|rfl|rfl|rfl
 ·exact .inr (.inr (.inr (.inr (.inl ⟨rfl,by have:1<=nk/\nk<=1:=h6;omega,h7⟩))))
 ·exact .inr (.inr (.inr (.inr (.inr (.inl ⟨rfl,by have:3<=nk/\nk<=3:=h6;omega,h7⟩)))))
 ·exact .inr (.inr (.inr (.inr (.inr (.inr (.inl ⟨rfl,h6,h7⟩))))))
 ·exact .inr (.inr (.inr (.inr (.inr (.inr (.inr (.inl ⟨rfl,by have:1<=nk/\nk<=1:=h6;omega,h7⟩)))))))
 ·exact .inr (.inr (.inr (.inr (.inr (.inr (.inr (.inr ⟨rfl,by have:0<=nk/\nk<=0:=h6;omega,h7⟩)))))))
theorem qE {gf:Expr->Bool} {kind op:Int} {not:Bool} {val:Val} {qual name:ByteArray} {kids:List Expr} {sub:List Query} (h:vL gf (.mk kind op not val qual name kids sub)=true) :
 aA kind op not val qual name kids.length sub.length=true/\(∀x∈kids,gf x=true)/\∀q∈sub,eO gf q=true:=by
 simp only[vL,Bool.and_eq_true,List.all_eq_true] at h
 exact h
theorem jw {gf:Expr->Bool} {distinct:Bool} {items:List Item} {from_:List Source} {where_:List Expr} {order:List SortKey} {limit:Int} (h:eO gf (.mk distinct items from_ where_ order limit)=true) :
 (1<=items.length/\items.length<=12)/\(1<=from_.length/\from_.length<=3)/\where_.length<=1/\order.length<=12 /\ -1<=limit/\(∀x∈items,oN x=true)/\(∀i (hi:i<from_.length),oO i from_[i]=true)/\∀x∈exprsQ (.mk distinct items from_ where_ order limit),gf x=true:=by
 simp only[eO,hdB,Bool.and_eq_true,List.all_eq_true,decide_eq_true_eq] at h
 obtain⟨⟨h1,h2,h3,h4,h5,h6,h7⟩,h8⟩:=h
 refine⟨h1,h2,h3,h4,h5,h6,fun i hi=>?_,h8⟩
 have:=List.all_eq_true.1 h7 i (List.mem_range.2 hi)
 rwa[az hi] at this
theorem qF {α:Type} {l:List α} (h:(l.length:Int)=1):∃a,l=[a]:=by
 match l,h with
 | [a],_=>exact⟨a,rfl⟩
 | [],h=>simp at h
 |_::_::_,h=>simp at h;omega
theorem EP {α:Type} {l:List α} (h:(l.length:Int)=2):∃a b,l=[a,b]:=by
 match l,h with
 | [a,b],_=>exact⟨a,b,rfl⟩
 | [],h=>simp at h
 | [_],h=>simp at h
 |_::_::_::_,h=>simp at h;omega
theorem EQ {α:Type} {l:List α} (h:(l.length:Int)=3):∃a b c,l=[a,b,c]:=by
 match l,h with
 | [a,b,c],_=>exact⟨a,b,c,rfl⟩
 | [],h=>simp at h
 | [_],h=>simp at h
 | [_,_],h=>simp at h
 |_::_::_::_::_,h=>simp at h;omega
section
variable {gn:Expr->Nat} {g:Expr->List Tok}
def dI (gn:Expr->Nat) (x:Item):Nat:=if x.star=true then 0 else 150*gn x.e
theorem D9 {x:Item} (hx:oN x=true) (h:x.star=false->Sm (150*gn x.e) (g x.e)):Sm (3+dI gn x) (il g x):=by
 obtain⟨star,qual,e,as_⟩:=x
 cases star with
 |true=>
  simp only[oN,if_true,Bool.and_eq_true] at hx
  show Sm _ (ke qual++[EO])
  exact ((yo hx.1).app (Sm.one (by decide))).le (Nat.le_add_right _ _)
 |false=>
  simp only[oN,Bool.false_eq_true,if_false,Bool.and_eq_true] at hx
  show Sm (3+150*gn e) (g e++kf as_)
  exact ((h rfl).app (DE hx.2)).le (by show 150*gn e+2<=_;omega)
theorem BR:∀l:List Item,(l.map (dI gn)).sum=150*((bd l).map gn).sum
 | []=>rfl
 |.mk s q e a::r=>by
  have ih:=BR r
  cases s with
  |true=>
   have h:bd (.mk true q e a::r)=bd r:=rfl
   rw[h,<-ih,List.map_cons,List.sum_cons]
   show 0+_=_;omega
  |false=>
   have h:bd (.mk false q e a::r)=e::bd r:=rfl
   rw[h,List.map_cons,List.sum_cons,List.map_cons,List.sum_cons,Nat.mul_add,<-ih]
   rfl
theorem ER {l:List Expr} (h:∀x∈l,Sm (150*gn x) (g x)):Sm (1+150*(l.map gn).sum) (Ch g l):=by
 cases l with
 |nil=>exact Sm.nil.le (Nat.zero_le _)
 |cons e r=>exact (Sm.cons (cg _) (h e (by simp))).le (by rw[List.map_cons,List.sum_cons];omega)
theorem DF {l:List Expr} (h:∀x∈l,Sm (150*gn x) (g x)):Sm (1+150*(l.map gn).sum) (vN g l):=by
 cases l with
 |nil=>exact Sm.nil.le (Nat.zero_le _)
 |cons e r=>exact (Sm.cons (cg _) (h e (by simp))).le (by rw[List.map_cons,List.sum_cons];omega)
theorem Ei {x:Source} {i:Nat} (hx:oO i x=true) (h:∀y∈x.on,Sm (150*gn y) (g y)):Sm (5+150*(x.on.map gn).sum) (vq g i x):=by
 obtain⟨table,as_,on⟩:=x
 simp only[oO,Bool.and_eq_true,bt,decide_eq_true_eq] at hx
 show Sm (5+150*(on.map gn).sum) ((if 0<i then (if 0<on.length then [kT 4] else [yi]) else [])++(nT table::(kf as_++Ch g on)))
 exact ((Sm.ite (Sm.ite (Sm.one (cg _)) (Sm.one (by decide))) (Sm.nil.le (by omega):Sm 1 [])).app (Sm.cons (by show table.size<=40;omega) ((DE hx.2.1).app (ER (l:=on) h)))).le (by omega)
theorem Da {x:SortKey} (h:Sm (150*gn x.e) (g x.e)):Sm (1+150*gn x.e) (BO g x):=by
 obtain⟨e,desc⟩:=x
 exact (Sm.app h (Sm.ite (Sm.one (cg _)) (Sm.nil.le (by omega):Sm 1 []))).le (by show 150*gn e+1<=1+150*gn e;omega)
theorem Db (l:List Source):(l.map fun x=>150*(x.on.map gn).sum).sum=150*((l.flatMap Source.on).map gn).sum:=by
 induction l with
 |nil=>rfl
 |cons x r ih=>rw[List.map_cons,List.sum_cons,ih,List.flatMap_cons,List.map_append,List.sum_append,Nat.mul_add]
theorem pq {α:Type} (c:Nat) (f:α->Nat) (l:List α):(l.map fun x=>c*f x).sum=c*(l.map f).sum:=by
 induction l with
 |nil=>rfl
 |cons x r ih=>rw[List.map_cons,List.sum_cons,ih,List.map_cons,List.sum_cons,Nat.mul_add]
theorem ES {gf:Expr->Bool} {q:Query} (hq:eO gf q=true) (hl:q.lim<=9223372036854775807) (h:∀x∈exprsQ q,Sm (150*gn x) (g x)):Sm (105+150*((exprsQ q).map gn).sum) (qC g q):=by
 obtain⟨distinct,items,from_,where_,order,limit⟩:=q
 obtain⟨⟨_,a1⟩,⟨_,a2⟩,a3,a4,a5,a6,a7,_⟩:=jw hq
 have hl:limit<=9223372036854775807:=hl
 have e:exprsQ (.mk distinct items from_ where_ order limit)=bd items++from_.flatMap Source.on++where_++order.map SortKey.e:=rfl
 rw[e] at h ⊢
 have s1:Sm _ (bJ (lT g items) items.length):=Sm.seq (b:=fun i=>4+kV (fun x=>dI gn x) items[i]?) fun i hi=>by
  have hm:=aK hi
  have:=D9 (gn:=gn) (g:=g) (a6 _ hm) fun hs=>h _ (by
   simp only[List.mem_append,bd,List.mem_map,List.mem_filter]
   exact .inl (.inl (.inl ⟨_,⟨hm,by rw[hs];rfl⟩,rfl⟩)))
  show Sm _ (oP i++vM items (il g) i)
  rw[dP hi]
  simp only[az hi,kV]
  exact ((Sm.ite (Sm.one (by decide)) (Sm.nil.le (by omega):Sm 1 [])).app this).le (by omega)
 have s2:Sm _ (bJ (lH g from_) from_.length):=Sm.seq (b:=fun i=>5+kV (fun x=>150*(x.on.map gn).sum) from_[i]?) fun i hi=>by
  have hm:=aK hi
  have:=Ei (gn:=gn) (g:=g) (a7 _ hi) fun y hy=>h _ (by
   simp only[List.mem_append,List.mem_flatMap]
   exact .inl (.inl (.inr ⟨_,hm,hy⟩)))
  show Sm _ (vM from_ (vq g i) i)
  rw[dP hi]
  simp only[az hi,kV]
  exact this
 have s3:Sm _ (bJ (rh g order) order.length):=Sm.seq (b:=fun i=>3+kV (fun x=>150*gn x.e) order[i]?) fun i hi=>by
  have hm:=aK hi
  have:=Da (gn:=gn) (g:=g) (x:=order[i]) (h _ (by
   simp only[List.mem_append,List.mem_map]
   exact .inr ⟨_,hm,rfl⟩))
  show Sm _ ((if i=0 then [kT 7,kT 8] else [yi])++vM order (BO g) i)
  rw[dP hi]
  simp only[az hi,kV]
  exact ((Sm.ite (Sm.cons (cg _) (Sm.one (cg _))) ((Sm.one (by decide)).le (by omega))).app this).le (by omega)
 rw[fU items 4 (dI gn),BR] at s1
 rw[fU from_ 5 (fun x=>150*(x.on.map gn).sum),Db] at s2
 rw[fU order 3 (fun x=>150*gn x.e),show (fun x:SortKey=>150*gn x.e)=(fun x=>150*(fun y:SortKey=>gn y.e) x) from rfl,pq] at s3
 have s4:Sm (1+150*(where_.map gn).sum) (vN g where_):=DF fun x hx=>h x (by simp [hx])
 have s5:Sm 2 (zH limit):=by
  unfold zH
  split
  ·exact Sm.cons (cg _) (Sm.one (kU (by omega) hl))
  ·exact Sm.nil.le (by omega)
 have e2:((order.map SortKey.e).map gn).sum=(order.map fun y:SortKey=>gn y.e).sum:=by rw[List.map_map];rfl
 rw[List.map_append,List.map_append,List.map_append,List.sum_append,List.sum_append,List.sum_append,e2]
 exact (Sm.cons (cg _) ((Sm.ite (Sm.one (cg _)) (Sm.nil.le (by omega):Sm 1 [])).app (s1.app (Sm.cons (cg _) (s2.app (s4.app (s3.app s5))))))).le (by omega)
theorem Dc {full:Bool} {gf:Expr->Bool} {e:Expr} (hf:vL gf e=true) (hr:Rg e) (h:∀x,fq x e->gf x=true->Rg x->Sm (150*gn x) (g x)):Sm (150*A0 gn e) (yl full g e):=by
 have hb:∀x,fq x e->Rg x:=fun x hx=>ym hr hx
 have hsub:∀q∈e.sub,q.lim<=9223372036854775807:=fun q hq=>(BP hr hq).1
 obtain⟨kind,op,not,val,qual,name,kids,sub⟩:=e
 have hnum:=hr.num
 obtain⟨hs,hk,hq⟩:=qE hf
 have hkid:∀k (hk':k<kids.length),Sm (150*gn kids[k]+2) (df full g kind op kids k):=fun k hk'=>by
  have hm:=aK hk'
  rw[df,List.getD_eq_getElem?_getD,az hk']
  exact Eh (h _ (.inl hm) (hk _ hm) (hb _ (.inl hm)))
 have hqs:∀q∈sub,Sm (105+150*((exprsQ q).map gn).sum) (qC g q):=fun q hm=>ES (hq q hm) (hsub q hm) fun x hx=>by
  obtain⟨d,it,fr,wh,od,li⟩:=q
  exact h x (.inr ⟨_,hm,hx⟩) ((jw (hq _ hm)).2.2.2.2.2.2.2 x hx) (hb _ (.inr ⟨_,hm,hx⟩))
 have en:A0 gn (.mk kind op not val qual name kids sub)=1+(kids.map gn).sum+(sub.map fun q=>((exprsQ q).map gn).sum).sum:=rfl
 rw[en]
 rcases oQ hs with⟨rfl,hl,hk0,hs0⟩|⟨rfl,hn,hm,hk0,hs0⟩|⟨rfl,ho,hk0,hs0⟩|⟨rfl,ho,hk0,hs0⟩|⟨rfl,hk0,hs0⟩|⟨rfl,hk0,hs0⟩|⟨rfl,hk0,hs0⟩|⟨rfl,hk0,hs0⟩|⟨rfl,hk0,hs0⟩
 ·show Sm _ [kQ val]
  exact (Sm.one (Eg hl hnum)).le (by omega)
 ·show Sm _ (ke qual++[nT name])
  simp only[bt,decide_eq_true_eq] at hn
  exact ((yo hm).app (Sm.one (by show name.size<=40;omega))).le (by omega)
 ·obtain⟨a,rfl⟩:=qF hk0
  show Sm _ (eC op::df full g 3 op [a] 0)
  have k0:=hkid 0 (by simp)
  exact (Sm.cons (sc _) k0).le (by simp;omega)
 ·obtain⟨a,b,rfl⟩:=EP hk0
  show Sm _ (df full g 4 op [a,b] 0++(eC op::df full g 4 op [a,b] 1))
  have k0:=hkid 0 (by simp)
  have k1:=hkid 1 (by simp)
  exact (k0.app (Sm.cons (sc _) k1)).le (by simp;omega)
 ·obtain⟨a,rfl⟩:=qF hk0
  show Sm _ (df full g 5 op [a] 0++(kT 16::(dR not++[kT 20])))
  have k0:=hkid 0 (by simp)
  exact (k0.app (Sm.cons (cg _) ((tE _).app (Sm.one (cg _))))).le (by simp;omega)
 ·obtain⟨a,b,c,rfl⟩:=EQ hk0
  show Sm _ (df full g 6 op [a,b,c] 0++(dR not++(kT 18::(df full g 6 op [a,b,c] 1++(kT 13::df full g 6 op [a,b,c] 2)))))
  have k0:=hkid 0 (by simp)
  have k1:=hkid 1 (by simp)
  have k2:=hkid 2 (by simp)
  exact (k0.app ((tE _).app (Sm.cons (cg _) (k1.app (Sm.cons (cg _) k2))))).le (by simp;omega)
 ·obtain⟨a,r,rfl⟩:∃a r,kids=a::r:=by
   cases kids with
   |nil=>simp at hk0
   |cons a r=>exact⟨a,r,rfl⟩
  show Sm _ (df full g 7 op (a::r) 0++(dR not++(kT 17::tC::(bJ (yj full g 7 op (a::r)) r.length++[tD]))))
  have k0:=hkid 0 (by simp)
  have s1:Sm _ (bJ (yj full g 7 op (a::r)) r.length):=Sm.seq (b:=fun i=>3+kV (fun x=>150*gn x) r[i]?) fun i hi=>by
   have k1:=hkid (i+1) (by simpa using hi)
   simp only[az hi,kV]
   exact ((Sm.ite (Sm.one (by decide)) (Sm.nil.le (by omega):Sm 1 [])).app k1).le (by simp;omega)
  rw[fU r 3 (fun x=>150*gn x),pq] at s1
  have hr8:r.length<=8:=by simp at hk0;omega
  exact (k0.app ((tE _).app (Sm.cons (cg _) (Sm.cons (by decide) (s1.app (Sm.one (by decide))))))).le (by simp;omega)
 ·obtain⟨a,rfl⟩:=qF hk0
  obtain⟨q,rfl⟩:=qF hs0
  show Sm _ (df full g 8 op [a] 0++(dR not++(kT 17::tC::(qC g q++[tD]))))
  have k0:=hkid 0 (by simp)
  have s1:=hqs q (by simp)
  exact (k0.app ((tE _).app (Sm.cons (cg _) (Sm.cons (by decide) (s1.app (Sm.one (by decide))))))).le (by simp;omega)
 ·obtain⟨q,rfl⟩:=qF hs0
  show Sm _ (kT 19::tC::(qC g q++[tD]))
  have s1:=hqs q (by simp)
  exact (Sm.cons (cg _) (Sm.cons (by decide) (s1.app (Sm.one (by decide))))).le (by simp;omega)
end
theorem wK (full:Bool) (e:Expr):fmE e=true->Rg e->Sm (150*ndE e) (pd full e):=
 qD (F1:=vL) (F2:=A0) (F3:=yl full) (P:=fun e f n t=>f=true->Rg e->Sm (150*n) t) (fun e gf gn g hg hf hr=>Dc hf hr hg) e
theorem qG (c:UInt8) (s:ByteArray):(pC c s).size<=2*s.size+2:=by
 have:=pE c s.data.toList
 rw[aD] at this
 show ((c::(jC c s.data.toList++[c])).toArray).size<=_
 rw[List.size_toArray,List.length_cons,aB,List.length_singleton];omega
theorem yp {t:Tok} (h:t.text.size<=40):(gg t).size<=300:=by
 have h2:=qG 34 t.text
 have h3:=qG 39 t.text
 unfold gg rt
 (repeat' split)<;>first|omega|exact Nat.zero_le _
theorem Ej {l:List Tok} {n:Nat} (h:Sm n l) (i:Nat):(jn l i).length<=400:=by
 unfold jn
 split
 ·rename_i hi
  have:=yp (h.2 _ (aK hi))
  rw[aB,aD]
  split<;>simp<;>omega
 ·simp
theorem BS {l:List Tok} {n:Nat} (h:Sm n l) (hn:n<=100000):(gy l l.length).length<=50000000:=by
 suffices H:∀k,(gy l k).length<=400*k from Nat.le_trans (H _) (by have:=h.1;omega)
 intro k
 induction k with
 |zero=>exact Nat.zero_le _
 |succ k ih=>rw[eT,aB];have:=Ej h k;omega
end Go.Proofs.YtbodcedhmccenaaGreatDoor
