/-
  Trees in order.
  Conditions: none.
-/
import Derived.Test.YtdmomaomffhidaaGreatDoorQYB1
set_option linter.unusedVariables false
set_option linter.unusedSimpArgs false
set_option linter.unusedSectionVars false
set_option linter.unnecessarySimpa false
set_option maxRecDepth 8000
namespace Go.Proofs.YtdmomaomffhidaaGreatDoor
open Go Go.Dv
open Go.Vc (D dm dq cV bq)
theorem pH (distinct:Bool) (items:List Item) (from_:List Source) (where_:List Expr) (order:List SortKey) (limit:Int) (hsz:szQuery (Query.mk distinct items from_ where_ order limit)<=1048576):Cl Tryz.prog 97 [.ag (aw (Query.mk distinct items from_ where_ order limit).row)] [] fun r _=>r = .c (.sl (exprsQ (Query.mk distinct items from_ where_ order limit)).length ((exprsQ (Query.mk distinct items from_ where_ order limit)).flatMap Expr.row) none):=by
 have hlen:=fj (Query.mk distinct items from_ where_ order limit)
 have q0:exprsQ (Query.mk distinct items from_ where_ order limit)=aU items++from_.flatMap Source.on++where_++order.map SortKey.e:=rfl
 rw[q0] at hlen ⊢
 simp only[aD,List.length_map] at hlen
 have htot:=Nat.le_trans hlen hsz
 have hil:=eJ items
 rw[bU,dS,cX,aP,cK] at hsz
 rw[aG]
 refine ai ac false Tryz.func97 rfl ae ?_
 simp only[Tryz.f97,tt,seval]
 refine dLoop.gh [.ren 7 30] ⟨ah,ah,?_⟩
 refine dLoop0.intro (fun f L p=>∃(i:Nat) (es:List Expr),f 4=vi i/\f 3 = .c (.s 30 es.length)/\i<=items.length/\es=aU (items.take i)/\L=[(1,.str [.v (.bool distinct),.sl items.length (items.flatMap Item.row) none,.sl from_.length (from_.flatMap Source.row) none,.sl where_.length (where_.flatMap Expr.row) none,.sl order.length (order.flatMap SortKey.row) none,.v (.int .i64 limit)]),(30,.arr 46 es.length (es.flatMap Expr.row) none)]/\p=none) (fun f _ _=>(items.length-fH (f 4)).toNat) [(1,.str [.v (.bool distinct),.sl items.length (items.flatMap Item.row) none,.sl from_.length (from_.flatMap Source.row) none,.sl where_.length (where_.flatMap Expr.row) none,.sl order.length (order.flatMap SortKey.row) none,.v (.int .i64 limit)]),(30,.arr 46 0 [] none)] none ⟨ak rfl (ak rfl (ap _)),au _,?_⟩ ?_
 ·simp only[tt,seval]
  exact⟨0,[],rfl,rfl,aa,rfl,rfl⟩
 ·rintro g L p ⟨i,es,hi4,h3,hi,hes,rfl,rfl⟩
  simp only[tt,seval] at hi4 h3
  simp only[tt,seval,hi4,Int.ofNat_lt]
  refine fun _=>?_
  refine ab (fun hlt=>?_) (fun hge=>?_)
  ·have hlt:i<items.length:=by omega
   have hst:=pO hlt
   have hel:es.length<=items.length:=by rw[hes];exact Nat.le_trans (eJ _) (by rw[List.length_take];omega)
   have hei:es.length<=i:=by rw[hes];exact Nat.le_trans (eJ _) (by rw[List.length_take];omega)
   obtain⟨it,bu⟩:∃it,it=items[i]:=⟨_,rfl⟩
   rw[<-bu] at hst
   refine⟨aa,aa,_,aI Item.row_len (aC hlt),Item.ne _ _,?_⟩
   obtain⟨star,qual,⟨k,o,n,v,q,m,ks,ss⟩,as_⟩:=it
   rw[<-bu,Item.row_mk,am]
   simp only[tt,seval,hi4,h3,Int.ofNat_lt]
   refine ab (fun hs=>?_) (fun hs=>?_)
   ·have hs:star=false:=by simpa only[Bool.not_eq_true'] using hs
    refine⟨aa,aa,_,aI Item.row_len (aC hlt),Item.ne _ _,?_⟩
    rw[<-bu,Item.row_mk,am]
    simp only[tt,seval,hi4]
    refine qA ?_
    have e:es.flatMap Expr.row++[int k,int o,bool n,int v.kind,int v.num,str v.text,str q,str m,.sl ks.length (ks.flatMap Expr.row),.sl ss.length (ss.flatMap Query.row)]=(es++[Expr.mk k o n v q m ks ss]).flatMap Expr.row:=by rw[List.flatMap_append];simp [am]
    have e2:es.length+1=(es++[Expr.mk k o n v q m ks ss]).length:=by simp
    rw[e,e2]
    try rw[eR i aa]
    exact⟨_,none,ak rfl (ak rfl (ap _)),au _,⟨i+1,_,rfl,rfl,aa,by rw[hst,hes];subst hs;rfl,rfl,rfl⟩,az⟩
   ·have hs:star=true:=by simpa only[Bool.not_eq_false'] using hs
    try rw[eR i aa]
    exact⟨_,none,ak rfl (ak rfl (ap _)),au _,⟨i+1,es,rfl,rfl,aa,by rw[hst,hes];subst hs;simp [Item.star],rfl,rfl⟩,az⟩
  ·have hie:i=items.length:=by omega
   subst hie
   rw[List.take_length] at hes
   subst hes
   refine dLoop.gh [.ren 30 45] ⟨ah,ah,?_⟩
   refine dLoop0.intro (fun f L p=>∃(i:Nat) (es:List Expr),f 5=vi i/\f 3 = .c (.s 45 es.length)/\i<=from_.length/\es=aU items++(from_.take i).flatMap Source.on/\L=[(1,.str [.v (.bool distinct),.sl items.length (items.flatMap Item.row) none,.sl from_.length (from_.flatMap Source.row) none,.sl where_.length (where_.flatMap Expr.row) none,.sl order.length (order.flatMap SortKey.row) none,.v (.int .i64 limit)]),(45,.arr 46 es.length (es.flatMap Expr.row) none)]/\p=none) (fun f _ _=>(from_.length-fH (f 5)).toNat) [(1,.str [.v (.bool distinct),.sl items.length (items.flatMap Item.row) none,.sl from_.length (from_.flatMap Source.row) none,.sl where_.length (where_.flatMap Expr.row) none,.sl order.length (order.flatMap SortKey.row) none,.v (.int .i64 limit)]),(45,.arr 46 (aU items).length ((aU items).flatMap Expr.row) none)] none ⟨ak rfl (ak rfl (ap _)),au _,?_⟩ ?_
   ·simp only[tt,seval,h3]
    exact⟨0,aU items,rfl,rfl,aa,by simp,rfl⟩
   ·rintro g L p ⟨i,es,hi5,h3,hi,hes,rfl,rfl⟩
    simp only[tt,seval] at hi5 h3
    simp only[tt,seval,hi5,h3,Int.ofNat_lt]
    refine fun _=>?_
    refine ab (fun hlt=>?_) (fun hge=>?_)
    ·have hlt:i<from_.length:=by omega
     have hst:=zo hlt
     have hel:es.length<=(aU items).length+(from_.flatMap Source.on).length:=by have:=pQ from_ i;rw[hes,aD];omega
     obtain⟨it,bu⟩:∃it,it=from_[i]:=⟨_,rfl⟩
     rw[<-bu] at hst
     have hon:it.on.length<=1048576:=by
      have h1:=fP cF (aM hlt)
      rw[<-bu] at h1
      obtain⟨table,as_,on⟩:=it
      rw[cM,aP] at h1
      show on.length<=_
      omega
     refine⟨aa,aa,_,aI Source.row_len (aC hlt),Source.ne _ _,?_⟩
     obtain⟨table,as_,on⟩:=it
     have hon:on.length<=1048576:=hon
     rw[<-bu,Source.row_mk]
     simp only[tt,seval]
     refine⟨ae,by rw[bV aJ],⟨by simp only[maxLen];omega,aa⟩,?_⟩
     have e2:es.length+on.length=(es++on).length:=by simp
     rw[<-List.flatMap_append,e2]
     try rw[eR i aa]
     exact⟨_,none,ak rfl (ak rfl (ap _)),au _,⟨i+1,_,rfl,rfl,aa,by rw[hst,hes,aL];rfl,rfl,rfl⟩,az⟩
    ·have hie:i=from_.length:=by omega
     subst hie
     rw[List.take_length] at hes
     have hel:es.length=(aU items).length+(from_.flatMap Source.on).length:=by rw[hes,aD]
     refine⟨ae,by rw[bV aJ],⟨by simp only[maxLen];omega,aa⟩,?_⟩
     have e2:es.length+where_.length=(es++where_).length:=by simp
     rw[<-List.flatMap_append,e2]
     obtain⟨fs,hfs⟩:∃fs,fs=es++where_:=⟨_,rfl⟩
     have hfl:fs.length=(aU items).length+(from_.flatMap Source.on).length+where_.length:=by rw[hfs,aD,hel]
     have hfs':fs=aU items++from_.flatMap Source.on++where_:=by rw[hfs,hes]
     rw[<-hfs]
     refine dLoop.gh [.ren 49 65] ⟨ah,ah,?_⟩
     refine dLoop0.intro (fun f L p=>∃(i:Nat) (es:List Expr),f 6=vi i/\f 3 = .c (.s 65 es.length)/\i<=order.length/\es=fs++(order.take i).map SortKey.e/\L=[(1,.str [.v (.bool distinct),.sl items.length (items.flatMap Item.row) none,.sl from_.length (from_.flatMap Source.row) none,.sl where_.length (where_.flatMap Expr.row) none,.sl order.length (order.flatMap SortKey.row) none,.v (.int .i64 limit)]),(65,.arr 46 es.length (es.flatMap Expr.row) none)]/\p=none) (fun f _ _=>(order.length-fH (f 6)).toNat) [(1,.str [.v (.bool distinct),.sl items.length (items.flatMap Item.row) none,.sl from_.length (from_.flatMap Source.row) none,.sl where_.length (where_.flatMap Expr.row) none,.sl order.length (order.flatMap SortKey.row) none,.v (.int .i64 limit)]),(65,.arr 46 fs.length (fs.flatMap Expr.row) none)] none ⟨ak rfl (ak rfl (ap _)),au _,?_⟩ ?_
     ·simp only[tt,seval]
      exact⟨0,fs,rfl,rfl,aa,by simp,rfl⟩
     ·rintro g L p ⟨i,es,hi6,h3,hi,hes,rfl,rfl⟩
      simp only[tt,seval] at hi6 h3
      simp only[tt,seval,hi6,h3,Int.ofNat_lt]
      refine fun _=>?_
      refine ab (fun hlt=>?_) (fun hge=>?_)
      ·have hlt:i<order.length:=by omega
       have hst:=vM hlt
       have hel:es.length=fs.length+i:=by rw[hes,aD,List.length_map,List.length_take];omega
       obtain⟨it,bu⟩:∃it,it=order[i]:=⟨_,rfl⟩
       rw[<-bu] at hst
       refine⟨aa,aa,_,aI SortKey.row_len (aC hlt),SortKey.ne _ _,?_⟩
       obtain⟨⟨k,o,n,v,q,m,ks,ss⟩,desc⟩:=it
       rw[<-bu,SortKey.row_mk,am]
       simp only[tt,seval,hi6]
       refine qA ?_
       have e:es.flatMap Expr.row++[int k,int o,bool n,int v.kind,int v.num,str v.text,str q,str m,.sl ks.length (ks.flatMap Expr.row),.sl ss.length (ss.flatMap Query.row)]=(es++[Expr.mk k o n v q m ks ss]).flatMap Expr.row:=by rw[List.flatMap_append];simp [am]
       have e2:es.length+1=(es++[Expr.mk k o n v q m ks ss]).length:=by simp
       rw[e,e2]
       try rw[eR i aa]
       exact⟨_,none,ak rfl (ak rfl (ap _)),au _,⟨i+1,_,rfl,rfl,aa,by rw[hst,hes,aL];rfl,rfl,rfl⟩,az⟩
      ·have hie:i=order.length:=by omega
       subst hie
       rw[List.take_length] at hes
       refine⟨_,[],rfl,aq ?_⟩
       simp only[tt,seval]
       rw[hes,hfs']
       exact⟨rfl,rfl⟩
theorem rY (distinct:Bool) (items:List Item) (from_:List Source) (where_:List Expr) (order:List SortKey) (limit:Int) (hsz:szQuery (Query.mk distinct items from_ where_ order limit)<=1048576):Cl Tryz.prog 174 [.ag (aw (Query.mk distinct items from_ where_ order limit).row)] [] fun r _=>r = .c (.sl (exprsQ (Query.mk distinct items from_ where_ order limit)).length ((exprsQ (Query.mk distinct items from_ where_ order limit)).flatMap Expr.row) none):=by
 have hlen:=fj (Query.mk distinct items from_ where_ order limit)
 have q0:exprsQ (Query.mk distinct items from_ where_ order limit)=aU items++from_.flatMap Source.on++where_++order.map SortKey.e:=rfl
 rw[q0] at hlen ⊢
 simp only[aD,List.length_map] at hlen
 have htot:=Nat.le_trans hlen hsz
 have hil:=eJ items
 rw[bU,dS,cX,aP,cK] at hsz
 rw[aG]
 refine ai ac false Tryz.func174 rfl ae ?_
 simp only[Tryz.f174,tt,seval]
 refine fun _=>?_
 refine dLoop.gh [.ren 10 25] ⟨ah,ah,?_⟩
 refine dLoop0.intro (fun f L p=>∃(i:Nat) (es:List Expr),f 14=vi i/\f 3 = .c (.s 25 es.length)/\i<=items.length/\es=aU (items.take i)/\L=[(1,.str [.v (.bool distinct),.sl items.length (items.flatMap Item.row) none,.sl from_.length (from_.flatMap Source.row) none,.sl where_.length (where_.flatMap Expr.row) none,.sl order.length (order.flatMap SortKey.row) none,.v (.int .i64 limit)]),(25,.arr 46 es.length (es.flatMap Expr.row) none)]/\p=none) (fun f _ _=>(items.length-fH (f 14)).toNat) [(1,.str [.v (.bool distinct),.sl items.length (items.flatMap Item.row) none,.sl from_.length (from_.flatMap Source.row) none,.sl where_.length (where_.flatMap Expr.row) none,.sl order.length (order.flatMap SortKey.row) none,.v (.int .i64 limit)]),(25,.arr 46 0 [] none)] none ⟨ak rfl (ak rfl (ap _)),au _,?_⟩ ?_
 ·simp only[tt,seval]
  exact⟨0,[],rfl,rfl,aa,rfl,rfl⟩
 ·rintro g L p ⟨i,es,hi4,h3,hi,hes,rfl,rfl⟩
  simp only[tt,seval] at hi4 h3
  simp only[tt,seval,hi4,Int.ofNat_lt]
  refine ab (fun hlt=>?_) (fun hge=>?_)
  ·have hlt:i<items.length:=by omega
   have hst:=pO hlt
   have hel:es.length<=items.length:=by rw[hes];exact Nat.le_trans (eJ _) (by rw[List.length_take];omega)
   have hei:es.length<=i:=by rw[hes];exact Nat.le_trans (eJ _) (by rw[List.length_take];omega)
   obtain⟨it,bu⟩:∃it,it=items[i]:=⟨_,rfl⟩
   rw[<-bu] at hst
   refine⟨aa,aa,_,aI Item.row_len (aC hlt),Item.ne _ _,?_⟩
   obtain⟨star,qual,⟨k,o,n,v,q,m,ks,ss⟩,as_⟩:=it
   rw[<-bu,Item.row_mk,am]
   simp only[tt,seval,hi4,h3]
   refine ab (fun hs=>?_) (fun hs=>?_)
   ·have hs:star=false:=by simpa only[Bool.not_eq_true'] using hs
    refine qA ?_
    have e:es.flatMap Expr.row++[int k,int o,bool n,int v.kind,int v.num,str v.text,str q,str m,.sl ks.length (ks.flatMap Expr.row),.sl ss.length (ss.flatMap Query.row)]=(es++[Expr.mk k o n v q m ks ss]).flatMap Expr.row:=by rw[List.flatMap_append];simp [am]
    have e2:es.length+1=(es++[Expr.mk k o n v q m ks ss]).length:=by simp
    rw[e,e2]
    try rw[eR i aa]
    exact⟨_,none,ak rfl (ak rfl (ap _)),au _,⟨i+1,_,rfl,rfl,aa,by rw[hst,hes];subst hs;rfl,rfl,rfl⟩,az⟩
   ·have hs:star=true:=by simpa only[Bool.not_eq_false'] using hs
    try rw[eR i aa]
    exact⟨_,none,ak rfl (ak rfl (ap _)),au _,⟨i+1,es,rfl,rfl,aa,by rw[hst,hes];subst hs;simp [Item.star],rfl,rfl⟩,az⟩
  ·have hie:i=items.length:=by omega
   subst hie
   rw[List.take_length] at hes
   subst hes
   refine fun _=>?_
   refine dLoop.gh [.ren 25 37] ⟨ah,ah,?_⟩
   refine dLoop0.intro (fun f L p=>∃(i:Nat) (es:List Expr),f 30=vi i/\f 3 = .c (.s 37 es.length)/\i<=from_.length/\es=aU items++(from_.take i).flatMap Source.on/\L=[(1,.str [.v (.bool distinct),.sl items.length (items.flatMap Item.row) none,.sl from_.length (from_.flatMap Source.row) none,.sl where_.length (where_.flatMap Expr.row) none,.sl order.length (order.flatMap SortKey.row) none,.v (.int .i64 limit)]),(37,.arr 46 es.length (es.flatMap Expr.row) none)]/\p=none) (fun f _ _=>(from_.length-fH (f 30)).toNat) [(1,.str [.v (.bool distinct),.sl items.length (items.flatMap Item.row) none,.sl from_.length (from_.flatMap Source.row) none,.sl where_.length (where_.flatMap Expr.row) none,.sl order.length (order.flatMap SortKey.row) none,.v (.int .i64 limit)]),(37,.arr 46 (aU items).length ((aU items).flatMap Expr.row) none)] none ⟨ak rfl (ak rfl (ap _)),au _,?_⟩ ?_
   ·simp only[tt,seval,h3]
    exact⟨0,aU items,rfl,rfl,aa,by simp,rfl⟩
   ·rintro g L p ⟨i,es,hi5,h3,hi,hes,rfl,rfl⟩
    simp only[tt,seval] at hi5 h3
    simp only[tt,seval,hi5,h3,Int.ofNat_lt]
    refine ab (fun hlt=>?_) (fun hge=>?_)
    ·have hlt:i<from_.length:=by omega
     have hst:=zo hlt
     have hel:es.length<=(aU items).length+(from_.flatMap Source.on).length:=by have:=pQ from_ i;rw[hes,aD];omega
     obtain⟨it,bu⟩:∃it,it=from_[i]:=⟨_,rfl⟩
     rw[<-bu] at hst
     have hon:it.on.length<=1048576:=by
      have h1:=fP cF (aM hlt)
      rw[<-bu] at h1
      obtain⟨table,as_,on⟩:=it
      rw[cM,aP] at h1
      show on.length<=_
      omega
     refine⟨aa,aa,_,aI Source.row_len (aC hlt),Source.ne _ _,?_⟩
     obtain⟨table,as_,on⟩:=it
     have hon:on.length<=1048576:=hon
     rw[<-bu,Source.row_mk]
     simp only[tt,seval]
     refine⟨ae,by rw[bV aJ],⟨by simp only[maxLen];omega,aa⟩,?_⟩
     have e2:es.length+on.length=(es++on).length:=by simp
     rw[<-List.flatMap_append,e2]
     try rw[eR i aa]
     exact⟨_,none,ak rfl (ak rfl (ap _)),au _,⟨i+1,_,rfl,rfl,aa,by rw[hst,hes,aL];rfl,rfl,rfl⟩,az⟩
    ·have hie:i=from_.length:=by omega
     subst hie
     rw[List.take_length] at hes
     have hel:es.length=(aU items).length+(from_.flatMap Source.on).length:=by rw[hes,aD]
     refine⟨ae,by rw[bV aJ],⟨by simp only[maxLen];omega,aa⟩,?_⟩
     have e2:es.length+where_.length=(es++where_).length:=by simp
     rw[<-List.flatMap_append,e2]
     obtain⟨fs,hfs⟩:∃fs,fs=es++where_:=⟨_,rfl⟩
     have hfl:fs.length=(aU items).length+(from_.flatMap Source.on).length+where_.length:=by rw[hfs,aD,hel]
     have hfs':fs=aU items++from_.flatMap Source.on++where_:=by rw[hfs,hes]
     rw[<-hfs]
     refine fun _=>?_
     refine dLoop.gh [.ren 42 54] ⟨ah,ah,?_⟩
     refine dLoop0.intro (fun f L p=>∃(i:Nat) (es:List Expr),f 46=vi i/\f 3 = .c (.s 54 es.length)/\i<=order.length/\es=fs++(order.take i).map SortKey.e/\L=[(1,.str [.v (.bool distinct),.sl items.length (items.flatMap Item.row) none,.sl from_.length (from_.flatMap Source.row) none,.sl where_.length (where_.flatMap Expr.row) none,.sl order.length (order.flatMap SortKey.row) none,.v (.int .i64 limit)]),(54,.arr 46 es.length (es.flatMap Expr.row) none)]/\p=none) (fun f _ _=>(order.length-fH (f 46)).toNat) [(1,.str [.v (.bool distinct),.sl items.length (items.flatMap Item.row) none,.sl from_.length (from_.flatMap Source.row) none,.sl where_.length (where_.flatMap Expr.row) none,.sl order.length (order.flatMap SortKey.row) none,.v (.int .i64 limit)]),(54,.arr 46 fs.length (fs.flatMap Expr.row) none)] none ⟨ak rfl (ak rfl (ap _)),au _,?_⟩ ?_
     ·simp only[tt,seval]
      exact⟨0,fs,rfl,rfl,aa,by simp,rfl⟩
     ·rintro g L p ⟨i,es,hi6,h3,hi,hes,rfl,rfl⟩
      simp only[tt,seval] at hi6 h3
      simp only[tt,seval,hi6,h3,Int.ofNat_lt]
      refine ab (fun hlt=>?_) (fun hge=>?_)
      ·have hlt:i<order.length:=by omega
       have hst:=vM hlt
       have hel:es.length=fs.length+i:=by rw[hes,aD,List.length_map,List.length_take];omega
       obtain⟨it,bu⟩:∃it,it=order[i]:=⟨_,rfl⟩
       rw[<-bu] at hst
       refine⟨aa,aa,_,aI SortKey.row_len (aC hlt),SortKey.ne _ _,?_⟩
       obtain⟨⟨k,o,n,v,q,m,ks,ss⟩,desc⟩:=it
       rw[<-bu,SortKey.row_mk,am]
       simp only[tt,seval,hi6]
       refine qA ?_
       have e:es.flatMap Expr.row++[int k,int o,bool n,int v.kind,int v.num,str v.text,str q,str m,.sl ks.length (ks.flatMap Expr.row),.sl ss.length (ss.flatMap Query.row)]=(es++[Expr.mk k o n v q m ks ss]).flatMap Expr.row:=by rw[List.flatMap_append];simp [am]
       have e2:es.length+1=(es++[Expr.mk k o n v q m ks ss]).length:=by simp
       rw[e,e2]
       try rw[eR i aa]
       exact⟨_,none,ak rfl (ak rfl (ap _)),au _,⟨i+1,_,rfl,rfl,aa,by rw[hst,hes,aL];rfl,rfl,rfl⟩,az⟩
      ·have hie:i=order.length:=by omega
       subst hie
       rw[List.take_length] at hes
       refine⟨_,[],rfl,aq ?_⟩
       simp only[tt,seval]
       rw[hes,hfs']
       exact⟨rfl,rfl⟩
def bR (l:List Nat):Nat:=l.foldl max 0
theorem iI (l:List Nat) (x:Nat):bR (l++[x])=max (bR l) x:=by simp [bR]
theorem oL {l:List Nat} {b:Nat} (h:∀x∈l,x<=b):bR l<=b:=by
 unfold bR
 suffices H:∀(l:List Nat) (a:Nat),a<=b->(∀x∈l,x<=b)->l.foldl max a<=b from H l 0 (Nat.zero_le _) h
 intro l
 induction l with
 |nil=>exact fun a h _=>h
 |cons y r ih=>exact fun a h hx=>ih _ (Nat.max_le.2 ⟨h,hx y (by simp)⟩) fun x hm=>hx x (by simp [hm])
theorem eA {α:Type} (g:α->Nat) {l:List α} {i:Nat} (h:i<l.length):(l.take (i+1)).map g=(l.take i).map g++[g l[i]]:=by
 rw[List.take_succ_eq_append_getElem h,List.map_append];rfl
theorem Ic (a b:Nat):(if (b:Int)>(a:Int) then (b:Int) else (a:Int))=((max a b:Nat):Int):=by split<;>omega
theorem FI {x e:Expr} (h:x∈e.kids):szExpr x+1<=szExpr e:=by
 obtain⟨k,o,n,v,q,m,ks,ss⟩:=e
 have h:x∈ks:=h
 rw[bh,aP]
 have:=fP szExpr h
 have:=List.length_pos_of_mem h
 omega
theorem FJ {q:Query} {e:Expr} (h:q∈e.sub):szQuery q+1<=szExpr e:=by
 obtain⟨k,o,n,v,q',m,ks,ss⟩:=e
 have h:q∈ss:=h
 rw[bh,bO]
 have:=fP szQuery h
 have:=List.length_pos_of_mem h
 omega
theorem u5 {x e:Expr} (h:eX x e):szExpr x+1<=szExpr e:=by
 rcases h with h|⟨q,hq,h⟩
 ·exact FI h
 ·have:=FJ hq;have:=iE h;omega
def GU (g:Expr->Nat) (e:Expr):Nat:=1+bR (e.kids.map g++e.sub.map fun q=>bR ((exprsQ q).map g))
noncomputable def dpE:Expr->Nat:=dP GU
theorem Aa {e:Expr} {g:Expr->Nat} (h:∀x,eX x e->g x<=szExpr x+1):GU g e<=szExpr e+1:=by
 unfold GU
 have:bR (e.kids.map g++e.sub.map fun q=>bR ((exprsQ q).map g))<=szExpr e:=oL fun y hy=>by
  rcases List.mem_append.1 hy with hy|hy
  ·obtain⟨x,hx,rfl⟩:=List.mem_map.1 hy
   have:=h x (.inl hx);have:=u5 (.inl hx:eX x e);omega
  ·obtain⟨q,hq,rfl⟩:=List.mem_map.1 hy
   refine oL fun z hz=>?_
   obtain⟨x,hx,rfl⟩:=List.mem_map.1 hz
   have:=h x (.inr ⟨q,hq,hx⟩);have:=u5 (.inr ⟨q,hq,hx⟩:eX x e);omega
 omega
theorem vd (a b:Nat):Cl Tryz.prog 99 [vi a,vi b] [] fun r _=>r=vi (max a b:Nat):=by
 refine ai ac false Tryz.func99 rfl ae ?_
 simp only[Tryz.f99,tt,seval]
 refine ab (fun h=>?_) (fun h=>?_)
 ·exact⟨_,_,kX aa,ao rfl⟩
 ·exact⟨_,_,kX aa,ao rfl⟩
theorem x8 (l:List Expr) (g:Expr->Nat) (h:∀x∈l,Cl Tryz.prog 125 [.ag (aw x.row)] [] fun r _=>r=vi (g x:Nat)) (hl:l.length<=1048576):Cl Tryz.prog 173 [.c (.sl l.length (l.flatMap Expr.row) none)] [] fun r _=>r=vi (bR (l.map g):Nat):=by
 refine ai ac false Tryz.func173 rfl ae ?_
 simp only[Tryz.f173,tt,seval]
 refine fun _=>?_
 refine dLoop.intro (fun f L p=>∃i:Nat,f 8=vi i/\i<=l.length/\f 3=vi (bR ((l.take i).map g):Nat)/\L=[]/\p=none) (fun f _ _=>(l.length-fH (f 8)).toNat) [] none ⟨ap _,au _,?_⟩ ?_
 ·simp only[tt,seval]
  exact⟨0,rfl,aa,by simp [bR]⟩
 ·rintro g' L p ⟨i,hix,hi,hac,rfl,rfl⟩
  simp only[tt,seval] at hix hac
  simp only[tt,seval,hix,hac,Int.ofNat_lt]
  refine ab (fun hlt=>?_) (fun hge=>?_)
  ·have hlt:i<l.length:=by omega
   obtain⟨it,bu⟩:∃it,it=l[i]:=⟨_,rfl⟩
   have hmem:it∈l:=by rw[bu];exact aM hlt
   refine⟨aa,aa,_,aI aJ (aC hlt),Expr.ne _ _,?_⟩
   have hstep:bR ((l.take (i+1)).map g)=max (bR ((l.take i).map g)) (g l[i]):=by rw[eA g hlt,iI]
   rw[<-bu] at hstep
   obtain⟨k,o,n,v,q,m,ks,ss⟩:=it
   rw[<-bu,am]
   simp only[tt,seval]
   refine cZ (h _ hmem) ?_ ?_<;>simp only[tt,seval,hix,am]
   rw[Ic,aE (n:=(i:Int)+1) aa aa]
   exact⟨_,none,ap _,au _,⟨i+1,rfl,aa,kX (by rw[hstep]),rfl,rfl⟩,az⟩
  ·have hie:i=l.length:=by omega
   subst hie
   rw[List.take_length] at hac
   try rw[List.take_length]
   exact⟨_,_,rfl,ao rfl⟩
theorem u6 (q:Query) (g:Expr->Nat) (h:∀x∈exprsQ q,Cl Tryz.prog 125 [.ag (aw x.row)] [] fun r _=>r=vi (g x:Nat)) (hsz:szQuery q<=1048576):Cl Tryz.prog 82 [.ag (aw q.row)] [] fun r _=>r=vi (bR ((exprsQ q).map g):Nat):=by
 have hlen:=fj q
 obtain⟨distinct,items,from_,where_,order,limit⟩:=q
 rw[aG]
 refine ai ac false Tryz.func82 rfl ae ?_
 simp only[Tryz.f82,tt,seval]
 refine cZ (rY distinct items from_ where_ order limit hsz) ?_ ?_<;>simp only[tt,seval,aG]
 generalize exprsQ (Query.mk distinct items from_ where_ order limit)=l at *
 refine cZ (x8 l g h aa) ?_ ?_<;>simp only[tt,seval]
 exact⟨_,_,rfl,ao rfl⟩
theorem sT (kind op:Int) (not:Bool) (val:Val) (qual name:ByteArray) (kids:List Expr) (sub:List Query) (g:Expr->Nat) (hg:∀x,eX x (Expr.mk kind op not val qual name kids sub)->(Cl Tryz.prog 125 [.ag (aw x.row)] [] fun r _=>r=vi (g x:Nat))/\g x<=szExpr x+1) (hsz:szExpr (Expr.mk kind op not val qual name kids sub)<=1048576):Cl Tryz.prog 125 [.ag (aw (Expr.mk kind op not val qual name kids sub).row)] [] fun r _=>r=vi (GU g (Expr.mk kind op not val qual name kids sub):Nat):=by
 have hdl:=Aa (g:=g) (fun x hx=>(hg x hx).2)
 have e:GU g (Expr.mk kind op not val qual name kids sub)=1+bR (kids.map g++sub.map fun q=>bR ((exprsQ q).map g)):=rfl
 rw[e] at hdl ⊢
 rw[am]
 refine ai ac false Tryz.func125 rfl ae ?_
 simp only[Tryz.f125,tt,seval]
 refine fun _=>?_
 refine dLoop.intro (fun f L p=>∃i:Nat,f 11=vi i/\i<=kids.length/\f 3=vi (bR ((kids.take i).map g):Nat)/\L=[(1,.str [.v (.int .i64 kind),.v (.int .i64 op),.v (.bool not),.v (.int .i64 val.kind),.v (.int .i64 val.num),.v (.string val.text),.v (.string qual),.v (.string name),.sl kids.length (kids.flatMap Expr.row) none,.sl sub.length (sub.flatMap Query.row) none])]/\p=none) (fun f _ _=>(kids.length-fH (f 11)).toNat) [(1,.str [.v (.int .i64 kind),.v (.int .i64 op),.v (.bool not),.v (.int .i64 val.kind),.v (.int .i64 val.num),.v (.string val.text),.v (.string qual),.v (.string name),.sl kids.length (kids.flatMap Expr.row) none,.sl sub.length (sub.flatMap Query.row) none])] none ⟨ak rfl (ap _),au _,?_⟩ ?_
 ·simp only[tt,seval]
  exact⟨0,rfl,aa,by simp [bR]⟩
 ·rintro g' L p ⟨i,hix,hi,hac,rfl,rfl⟩
  simp only[tt,seval] at hix hac
  simp only[tt,seval,hix,hac,Int.ofNat_lt]
  refine ab (fun hlt=>?_) (fun hge=>?_)
  ·have hlt:i<kids.length:=by omega
   obtain⟨it,bu⟩:∃it,it=kids[i]:=⟨_,rfl⟩
   have hmem:it∈kids:=by rw[bu];exact aM hlt
   refine⟨aa,aa,_,aI aJ (aC hlt),Expr.ne _ _,?_⟩
   have hstep:bR ((kids.take (i+1)).map g)=max (bR ((kids.take i).map g)) (g kids[i]):=by rw[eA g hlt,iI]
   rw[<-bu] at hstep
   obtain⟨k,o,n,v,q,m,ks,ss⟩:=it
   rw[<-bu,am]
   simp only[tt,seval]
   refine cZ ((hg _ (.inl hmem)).1) ?_ ?_<;>simp only[tt,seval,hix,am]
   rw[Ic,aE (n:=(i:Int)+1) aa aa]
   exact⟨_,none,ak rfl (ap _),au _,⟨i+1,rfl,aa,kX (by rw[hstep]),rfl,rfl⟩,az⟩
  ·have hie:i=kids.length:=by omega
   subst hie
   rw[List.take_length] at hac
   refine fun _=>?_
   refine dLoop.intro (fun f L p=>∃i:Nat,f 23=vi i/\i<=sub.length/\f 3=vi (bR (kids.map g++(sub.take i).map fun q=>bR ((exprsQ q).map g)):Nat)/\L=[(1,.str [.v (.int .i64 kind),.v (.int .i64 op),.v (.bool not),.v (.int .i64 val.kind),.v (.int .i64 val.num),.v (.string val.text),.v (.string qual),.v (.string name),.sl kids.length (kids.flatMap Expr.row) none,.sl sub.length (sub.flatMap Query.row) none])]/\p=none) (fun f _ _=>(sub.length-fH (f 23)).toNat) [(1,.str [.v (.int .i64 kind),.v (.int .i64 op),.v (.bool not),.v (.int .i64 val.kind),.v (.int .i64 val.num),.v (.string val.text),.v (.string qual),.v (.string name),.sl kids.length (kids.flatMap Expr.row) none,.sl sub.length (sub.flatMap Query.row) none])] none ⟨ak rfl (ap _),au _,?_⟩ ?_
   ·simp only[tt,seval,hac]
    exact⟨0,rfl,aa,by simp [bR]⟩
   ·rintro g' L p ⟨i,hix,hi,hac,rfl,rfl⟩
    simp only[tt,seval] at hix hac
    simp only[tt,seval,hix,hac,Int.ofNat_lt]
    refine ab (fun hlt=>?_) (fun hge=>?_)
    ·have hlt:i<sub.length:=by omega
     obtain⟨it,bu⟩:∃it,it=sub[i]:=⟨_,rfl⟩
     have hmem:it∈sub:=by rw[bu];exact aM hlt
     refine⟨aa,aa,_,aI Query.row_len (aC hlt),Query.ne _ _,?_⟩
     have hstep:bR (kids.map g++(sub.take (i+1)).map fun q=>bR ((exprsQ q).map g))=max (bR (kids.map g++(sub.take i).map fun q=>bR ((exprsQ q).map g))) (bR ((exprsQ sub[i]).map g)):=by rw[eA _ hlt,<-aL,iI]
     rw[<-bu] at hstep
     obtain⟨ds,its,frs,whs,ods,lim⟩:=it
     rw[<-bu,aG]
     simp only[tt,seval]
     refine cZ (u6 (Query.mk ds its frs whs ods lim) g (fun x hx=>(hg x (.inr ⟨_,hmem,hx⟩)).1) (Nat.le_trans (lH (e:=(Expr.mk kind op not val qual name kids sub)) hmem) hsz)) ?_ ?_<;>simp only[tt,seval,hix,aG]
     rw[Ic,aE (n:=(i:Int)+1) aa aa]
     exact⟨_,none,ak rfl (ap _),au _,⟨i+1,rfl,aa,kX (by rw[hstep]),rfl,rfl⟩,az⟩
    ·have hie:i=sub.length:=by omega
     subst hie
     rw[List.take_length] at hac
     try rw[List.take_length]
     rw[aE aa aa]
     exact⟨_,_,kX aa,ao rfl⟩
theorem yJ (e:Expr):(szExpr e<=1048576->Cl Tryz.prog 125 [.ag (aw e.row)] [] fun r _=>r=vi (dpE e:Nat))/\dpE e<=szExpr e+1:=by
 refine iF (P:=fun e d=>(szExpr e<=1048576->Cl Tryz.prog 125 [.ag (aw e.row)] [] fun r _=>r=vi (d:Nat))/\d<=szExpr e+1) (fun e g hg=>⟨fun hsz=>?_,Aa fun x hx=>(hg x hx).2⟩) e
 obtain⟨kind,op,not,val,qual,name,kids,sub⟩:=e
 exact sT kind op not val qual name kids sub g (fun x hx=>⟨(hg x hx).1 (Nat.le_trans (gN hx) hsz),(hg x hx).2⟩) hsz
theorem xb (q:Query) (g:Expr->Nat) (h:∀x∈exprsQ q,Cl Tryz.prog 100 [.ag (aw x.row)] [] fun r _=>r=vi (g x:Nat)) (hsz:szQuery q<=1048576):Cl Tryz.prog 40 [.ag (aw q.row)] [] fun r _=>r=vi (bR ((exprsQ q).map g):Nat):=by
 have hlen:=fj q
 obtain⟨distinct,items,from_,where_,order,limit⟩:=q
 rw[aG]
 refine ai ac false Tryz.func40 rfl ae ?_
 simp only[Tryz.f40,tt,seval]
 refine cZ (pH distinct items from_ where_ order limit hsz) ?_ ?_<;>simp only[tt,seval,aG]
 generalize exprsQ (Query.mk distinct items from_ where_ order limit)=l at *
 refine dLoop.intro (fun f L p=>∃i:Nat,f 5=vi i/\i<=l.length/\f 3=vi (bR ((l.take i).map g):Nat)/\L=[(1,.str [.v (.bool distinct),.sl items.length (items.flatMap Item.row) none,.sl from_.length (from_.flatMap Source.row) none,.sl where_.length (where_.flatMap Expr.row) none,.sl order.length (order.flatMap SortKey.row) none,.v (.int .i64 limit)])]/\p=none) (fun f _ _=>(l.length-fH (f 5)).toNat) [(1,.str [.v (.bool distinct),.sl items.length (items.flatMap Item.row) none,.sl from_.length (from_.flatMap Source.row) none,.sl where_.length (where_.flatMap Expr.row) none,.sl order.length (order.flatMap SortKey.row) none,.v (.int .i64 limit)])] none ⟨ak rfl (ap _),au _,?_⟩ ?_
 ·simp only[tt,seval]
  exact⟨0,rfl,aa,by simp [bR]⟩
 ·rintro g' L p ⟨i,hix,hi,hac,rfl,rfl⟩
  simp only[tt,seval] at hix hac
  simp only[tt,seval,hix,hac,Int.ofNat_lt]
  refine fun _=>?_
  refine ab (fun hlt=>?_) (fun hge=>?_)
  ·have hlt:i<l.length:=by omega
   have hmem:l[i]∈l:=aM hlt
   refine⟨aa,aa,_,aI aJ (aC hlt),Expr.ne _ _,?_⟩
   simp only[seval,Expr.tk,aJ]
   refine cZ (h _ hmem) ?_ ?_<;>simp only[tt,seval]
   refine cZ (vd (bR ((l.take i).map g)) (g l[i])) ?_ ?_<;>simp only[tt,seval,hix]
   rw[eR i aa]
   have hstep:bR ((l.take (i+1)).map g)=max (bR ((l.take i).map g)) (g l[i]):=by rw[eA g hlt,iI]
   exact⟨_,none,ak rfl (ap _),au _,⟨i+1,rfl,aa,kX (by rw[hstep]),rfl,rfl⟩,az⟩
  ·have hie:i=l.length:=by omega
   subst hie
   rw[List.take_length] at hac
   try rw[List.take_length]
   exact⟨_,_,rfl,ao rfl⟩
theorem ve (kind op:Int) (not:Bool) (val:Val) (qual name:ByteArray) (kids:List Expr) (sub:List Query) (g:Expr->Nat) (hg:∀x,eX x (Expr.mk kind op not val qual name kids sub)->(Cl Tryz.prog 100 [.ag (aw x.row)] [] fun r _=>r=vi (g x:Nat))/\g x<=szExpr x+1) (hsz:szExpr (Expr.mk kind op not val qual name kids sub)<=1048576):Cl Tryz.prog 100 [.ag (aw (Expr.mk kind op not val qual name kids sub).row)] [] fun r _=>r=vi (GU g (Expr.mk kind op not val qual name kids sub):Nat):=by
 have hdl:=Aa (g:=g) (fun x hx=>(hg x hx).2)
 have e:GU g (Expr.mk kind op not val qual name kids sub)=1+bR (kids.map g++sub.map fun q=>bR ((exprsQ q).map g)):=rfl
 rw[e] at hdl ⊢
 rw[am]
 refine ai ac false Tryz.func100 rfl ae ?_
 simp only[Tryz.f100,tt,seval]
 refine dLoop.intro (fun f L p=>∃i:Nat,f 4=vi i/\i<=kids.length/\f 3=vi (bR ((kids.take i).map g):Nat)/\L=[(1,.str [.v (.int .i64 kind),.v (.int .i64 op),.v (.bool not),.v (.int .i64 val.kind),.v (.int .i64 val.num),.v (.string val.text),.v (.string qual),.v (.string name),.sl kids.length (kids.flatMap Expr.row) none,.sl sub.length (sub.flatMap Query.row) none])]/\p=none) (fun f _ _=>(kids.length-fH (f 4)).toNat) [(1,.str [.v (.int .i64 kind),.v (.int .i64 op),.v (.bool not),.v (.int .i64 val.kind),.v (.int .i64 val.num),.v (.string val.text),.v (.string qual),.v (.string name),.sl kids.length (kids.flatMap Expr.row) none,.sl sub.length (sub.flatMap Query.row) none])] none ⟨ak rfl (ap _),au _,?_⟩ ?_
 ·simp only[tt,seval]
  exact⟨0,rfl,aa,by simp [bR]⟩
 ·rintro g' L p ⟨i,hix,hi,hac,rfl,rfl⟩
  simp only[tt,seval] at hix hac
  simp only[tt,seval,hix,hac,Int.ofNat_lt]
  refine fun _=>?_
  refine ab (fun hlt=>?_) (fun hge=>?_)
  ·have hlt:i<kids.length:=by omega
   have hmem:kids[i]∈kids:=aM hlt
   refine⟨aa,aa,_,aI aJ (aC hlt),Expr.ne _ _,?_⟩
   simp only[seval,Expr.tk,aJ]
   refine cZ ((hg _ (.inl hmem)).1) ?_ ?_<;>simp only[tt,seval]
   refine cZ (vd (bR ((kids.take i).map g)) (g kids[i])) ?_ ?_<;>simp only[tt,seval,hix]
   rw[eR i aa]
   have hstep:bR ((kids.take (i+1)).map g)=max (bR ((kids.take i).map g)) (g kids[i]):=by rw[eA g hlt,iI]
   exact⟨_,none,ak rfl (ap _),au _,⟨i+1,rfl,aa,kX (by rw[hstep]),rfl,rfl⟩,az⟩
  ·have hie:i=kids.length:=by omega
   subst hie
   rw[List.take_length] at hac
   refine dLoop.intro (fun f L p=>∃i:Nat,f 5=vi i/\i<=sub.length/\f 3=vi (bR (kids.map g++(sub.take i).map fun q=>bR ((exprsQ q).map g)):Nat)/\L=[(1,.str [.v (.int .i64 kind),.v (.int .i64 op),.v (.bool not),.v (.int .i64 val.kind),.v (.int .i64 val.num),.v (.string val.text),.v (.string qual),.v (.string name),.sl kids.length (kids.flatMap Expr.row) none,.sl sub.length (sub.flatMap Query.row) none])]/\p=none) (fun f _ _=>(sub.length-fH (f 5)).toNat) [(1,.str [.v (.int .i64 kind),.v (.int .i64 op),.v (.bool not),.v (.int .i64 val.kind),.v (.int .i64 val.num),.v (.string val.text),.v (.string qual),.v (.string name),.sl kids.length (kids.flatMap Expr.row) none,.sl sub.length (sub.flatMap Query.row) none])] none ⟨ak rfl (ap _),au _,?_⟩ ?_
   ·simp only[tt,seval,hac]
    exact⟨0,rfl,aa,by simp [bR]⟩
   ·rintro g' L p ⟨i,hix,hi,hac,rfl,rfl⟩
    simp only[tt,seval] at hix hac
    simp only[tt,seval,hix,hac,Int.ofNat_lt]
    refine fun _=>?_
    refine ab (fun hlt=>?_) (fun hge=>?_)
    ·have hlt:i<sub.length:=by omega
     have hmem:sub[i]∈sub:=aM hlt
     refine⟨aa,aa,_,aI Query.row_len (aC hlt),Query.ne _ _,?_⟩
     simp only[seval,Query.tk,Query.row_len]
     refine cZ (xb (sub[i]) g (fun x hx=>(hg x (.inr ⟨_,hmem,hx⟩)).1) (Nat.le_trans (lH (e:=(Expr.mk kind op not val qual name kids sub)) hmem) hsz)) ?_ ?_<;>simp only[tt,seval]
     refine cZ (vd (bR (kids.map g++(sub.take i).map fun q=>bR ((exprsQ q).map g))) (bR ((exprsQ sub[i]).map g))) ?_ ?_<;>simp only[tt,seval,hix]
     rw[eR i aa]
     have hstep:bR (kids.map g++(sub.take (i+1)).map fun q=>bR ((exprsQ q).map g))=max (bR (kids.map g++(sub.take i).map fun q=>bR ((exprsQ q).map g))) (bR ((exprsQ sub[i]).map g)):=by rw[eA _ hlt,<-aL,iI]
     exact⟨_,none,ak rfl (ap _),au _,⟨i+1,rfl,aa,kX (by rw[hstep]),rfl,rfl⟩,az⟩
    ·have hie:i=sub.length:=by omega
     subst hie
     rw[List.take_length] at hac
     try rw[List.take_length]
     rw[aE aa aa]
     exact⟨_,_,kX aa,ao rfl⟩
theorem Bo (e:Expr):(szExpr e<=1048576->Cl Tryz.prog 100 [.ag (aw e.row)] [] fun r _=>r=vi (dpE e:Nat))/\dpE e<=szExpr e+1:=by
 refine iF (P:=fun e d=>(szExpr e<=1048576->Cl Tryz.prog 100 [.ag (aw e.row)] [] fun r _=>r=vi (d:Nat))/\d<=szExpr e+1) (fun e g hg=>⟨fun hsz=>?_,Aa fun x hx=>(hg x hx).2⟩) e
 obtain⟨kind,op,not,val,qual,name,kids,sub⟩:=e
 exact ve kind op not val qual name kids sub g (fun x hx=>⟨(hg x hx).1 (Nat.le_trans (gN hx) hsz),(hg x hx).2⟩) hsz
def Ab (g:Expr->Nat) (e:Expr):Nat:=1+(e.kids.map g).sum+(e.sub.map fun q=>((exprsQ q).map g).sum).sum
noncomputable def ndE:Expr->Nat:=dP Ab
theorem md {α:Type} (g:α->Nat) {l:List α} {i:Nat} (h:i<l.length):((l.take (i+1)).map g).sum=((l.take i).map g).sum+g l[i]:=sL g h
theorem pI {α:Type} {f g:α->Nat}:∀ {l:List α},(∀x∈l,f x<=g x)->(l.map f).sum<=(l.map g).sum
 | [],_=>Nat.le_refl _
 |x::r,h=>by
  have h1:=h x (by simp)
  have h2:=pI (l:=r) fun y hy=>h y (by simp [hy])
  simp only[List.map_cons,List.sum_cons];omega
theorem oM {α:Type} (f:α->Nat):∀l:List α,(l.map fun x=>f x+1).sum=l.length+(l.map f).sum
 | []=>rfl
 |x::r=>by simp only[List.map_cons,List.sum_cons,oM f r,List.length_cons];omega
theorem rZ:∀l:List Item,((aU l).map fun x=>szExpr x+1).sum<=fN l
 | []=>by simp [aU]
 |.mk s q e a::r=>by
  have:=rZ r
  rw[fN,iD]
  cases s with
  |true=>
   have h:aU (.mk true q e a::r)=aU r:=rfl
   rw[h];omega
  |false=>
   have h:aU (.mk false q e a::r)=e::aU r:=rfl
   rw[h,List.map_cons,List.sum_cons];omega
theorem Dx:∀l:List Source,((l.flatMap Source.on).map fun x=>szExpr x+1).sum<=cB l
 | []=>by simp
 |.mk t a o::r=>by
  have:=Dx r
  rw[cB,cM,List.flatMap_cons,List.map_append,List.sum_append,aP]
  have h:(Source.mk t a o).on=o:=rfl
  rw[h,oM];omega
theorem Ac:∀l:List SortKey,((l.map SortKey.e).map fun x=>szExpr x+1).sum<=dR l
 | []=>by simp
 |.mk e d::r=>by
  have:=Ac r
  rw[dR,iq,List.map_cons,List.map_cons,List.sum_cons]
  have h:(SortKey.mk e d).e=e:=rfl
  rw[h];omega
theorem nL (q:Query):((exprsQ q).map fun x=>szExpr x+1).sum<=szQuery q:=by
 obtain⟨d,it,fr,wh,or,li⟩:=q
 have h1:=rZ it
 have h2:=Dx fr
 have h3:=Ac or
 rw[bU,aP]
 have e:exprsQ (.mk d it fr wh or li)=aU it++fr.flatMap Source.on++wh++or.map SortKey.e:=rfl
 rw[e,List.map_append,List.map_append,List.map_append,List.sum_append,List.sum_append,List.sum_append,oM szExpr wh]
 omega
theorem Ad {e:Expr} {g:Expr->Nat} (h:∀x,eX x e->g x<=szExpr x+1):Ab g e<=szExpr e+1:=by
 obtain⟨k,o,n,v,q,m,ks,ss⟩:=e
 have e1:Ab g (.mk k o n v q m ks ss)=1+(ks.map g).sum+(ss.map fun q=>((exprsQ q).map g).sum).sum:=rfl
 rw[e1,bh,aP,bO]
 have h1:=pI (l:=ks) (f:=g) (g:=fun x=>szExpr x+1) fun x hx=>h x (.inl hx)
 have h2:=pI (l:=ss) (f:=fun q=>((exprsQ q).map g).sum) (g:=szQuery) fun q hq=>Nat.le_trans (pI fun x hx=>h x (.inr ⟨q,hq,hx⟩)) (nL q)
 rw[oM] at h1
 omega
theorem qb (l:List Expr) (g:Expr->Nat) (h:∀x∈l,Cl Tryz.prog 126 [.ag (aw x.row)] [] fun r _=>r=vi (g x:Nat)) (hl:l.length<=1048576) (hs:(l.map g).sum<=2097152):Cl Tryz.prog 175 [.c (.sl l.length (l.flatMap Expr.row) none)] [] fun r _=>r=vi ((l.map g).sum:Nat):=by
 refine ai ac false Tryz.func175 rfl ae ?_
 simp only[Tryz.f175,tt,seval]
 refine fun _=>?_
 refine dLoop.intro (fun f L p=>∃i:Nat,f 8=vi i/\i<=l.length/\f 3=vi (((l.take i).map g).sum:Nat)/\L=[]/\p=none) (fun f _ _=>(l.length-fH (f 8)).toNat) [] none ⟨ap _,au _,?_⟩ ?_
 ·simp only[tt,seval]
  exact⟨0,rfl,aa,by simp []⟩
 ·rintro g' L p ⟨i,hix,hi,hac,rfl,rfl⟩
  simp only[tt,seval] at hix hac
  simp only[tt,seval,hix,hac,Int.ofNat_lt]
  refine ab (fun hlt=>?_) (fun hge=>?_)
  ·have hlt:i<l.length:=by omega
   obtain⟨it,bu⟩:∃it,it=l[i]:=⟨_,rfl⟩
   have hmem:it∈l:=by rw[bu];exact aM hlt
   refine⟨aa,aa,_,aI aJ (aC hlt),Expr.ne _ _,?_⟩
   have hstep:((l.take (i+1)).map g).sum=((l.take i).map g).sum+g l[i]:=md g hlt
   rw[<-bu] at hstep
   obtain⟨k,o,n,v,q,m,ks,ss⟩:=it
   rw[<-bu,am]
   simp only[tt,seval]
   refine cZ (h _ hmem) ?_ ?_<;>simp only[tt,seval,hix,am]
   obtain⟨rst,hrst⟩:=gK g l (i+1)
   rw[eR i aa]
   rw[aE aa aa]
   exact⟨_,none,ap _,au _,⟨i+1,rfl,aa,kX (by rw[hstep];omega),rfl,rfl⟩,az⟩
  ·have hie:i=l.length:=by omega
   subst hie
   rw[List.take_length] at hac
   try rw[List.take_length]
   exact⟨_,_,rfl,ao rfl⟩
theorem qc (q:Query) (g:Expr->Nat) (h:∀x∈exprsQ q,Cl Tryz.prog 126 [.ag (aw x.row)] [] fun r _=>r=vi (g x:Nat)) (hsz:szQuery q<=1048576) (hs:((exprsQ q).map g).sum<=2097152):Cl Tryz.prog 83 [.ag (aw q.row)] [] fun r _=>r=vi (((exprsQ q).map g).sum:Nat):=by
 have hlen:=fj q
 obtain⟨distinct,items,from_,where_,order,limit⟩:=q
 rw[aG]
 refine ai ac false Tryz.func83 rfl ae ?_
 simp only[Tryz.f83,tt,seval]
 refine cZ (rY distinct items from_ where_ order limit hsz) ?_ ?_<;>simp only[tt,seval,aG]
 generalize exprsQ (Query.mk distinct items from_ where_ order limit)=l at *
 refine cZ (qb l g h aa hs) ?_ ?_<;>simp only[tt,seval]
 exact⟨_,_,rfl,ao rfl⟩
theorem xd (kind op:Int) (not:Bool) (val:Val) (qual name:ByteArray) (kids:List Expr) (sub:List Query) (g:Expr->Nat) (hg:∀x,eX x (Expr.mk kind op not val qual name kids sub)->(Cl Tryz.prog 126 [.ag (aw x.row)] [] fun r _=>r=vi (g x:Nat))/\g x<=szExpr x+1) (hsz:szExpr (Expr.mk kind op not val qual name kids sub)<=1048576):Cl Tryz.prog 126 [.ag (aw (Expr.mk kind op not val qual name kids sub).row)] [] fun r _=>r=vi (Ab g (Expr.mk kind op not val qual name kids sub):Nat):=by
 have hdl:=Ad (g:=g) (fun x hx=>(hg x hx).2)
 have hks:=hsz
 rw[bh,aP,bO] at hks
 have e:Ab g (Expr.mk kind op not val qual name kids sub)=1+(kids.map g).sum+(sub.map fun q=>((exprsQ q).map g).sum).sum:=rfl
 rw[e] at hdl ⊢
 rw[am]
 refine ai ac false Tryz.func126 rfl ae ?_
 simp only[Tryz.f126,tt,seval]
 refine cZ (qb kids g (fun x hx=>(hg x (.inl hx)).1) aa aa) ?_ ?_<;>simp only[tt,seval]
 rw[aE aa aa]
 refine fun _=>?_
 refine dLoop.intro (fun f L p=>∃i:Nat,f 13=vi i/\i<=sub.length/\f 3=vi ((1+(kids.map g).sum+((sub.take i).map fun q=>((exprsQ q).map g).sum).sum):Nat)/\L=[(1,.str [.v (.int .i64 kind),.v (.int .i64 op),.v (.bool not),.v (.int .i64 val.kind),.v (.int .i64 val.num),.v (.string val.text),.v (.string qual),.v (.string name),.sl kids.length (kids.flatMap Expr.row) none,.sl sub.length (sub.flatMap Query.row) none])]/\p=none) (fun f _ _=>(sub.length-fH (f 13)).toNat) [(1,.str [.v (.int .i64 kind),.v (.int .i64 op),.v (.bool not),.v (.int .i64 val.kind),.v (.int .i64 val.num),.v (.string val.text),.v (.string qual),.v (.string name),.sl kids.length (kids.flatMap Expr.row) none,.sl sub.length (sub.flatMap Query.row) none])] none ⟨ak rfl (ap _),au _,?_⟩ ?_
 ·simp only[tt,seval]
  exact⟨0,rfl,aa,by simp⟩
 ·rintro g' L p ⟨i,hix,hi,hac,rfl,rfl⟩
  simp only[tt,seval] at hix hac
  simp only[tt,seval,hix,hac,Int.ofNat_lt]
  refine ab (fun hlt=>?_) (fun hge=>?_)
  ·have hlt:i<sub.length:=by omega
   obtain⟨it,bu⟩:∃it,it=sub[i]:=⟨_,rfl⟩
   have hmem:it∈sub:=by rw[bu];exact aM hlt
   refine⟨aa,aa,_,aI Query.row_len (aC hlt),Query.ne _ _,?_⟩
   have hstep:((sub.take (i+1)).map fun q=>((exprsQ q).map g).sum).sum=((sub.take i).map fun q=>((exprsQ q).map g).sum).sum+((exprsQ sub[i]).map g).sum:=md _ hlt
   rw[<-bu] at hstep
   obtain⟨ds,its,frs,whs,ods,lim⟩:=it
   rw[<-bu,aG]
   simp only[tt,seval]
   obtain⟨rst,hrst⟩:=gK (fun q=>((exprsQ q).map g).sum) sub (i+1)
   refine cZ (qc (Query.mk ds its frs whs ods lim) g (fun x hx=>(hg x (.inr ⟨_,hmem,hx⟩)).1) (Nat.le_trans (lH (e:=(Expr.mk kind op not val qual name kids sub)) hmem) hsz) aa) ?_ ?_<;>simp only[tt,seval,hix,aG]
   rw[eR i aa]
   rw[aE aa aa]
   exact⟨_,none,ak rfl (ap _),au _,⟨i+1,rfl,aa,kX (by rw[hstep];omega),rfl,rfl⟩,az⟩
  ·have hie:i=sub.length:=by omega
   subst hie
   rw[List.take_length] at hac
   try rw[List.take_length]
   exact⟨_,_,rfl,ao rfl⟩
theorem s9 (e:Expr):(szExpr e<=1048576->Cl Tryz.prog 126 [.ag (aw e.row)] [] fun r _=>r=vi (ndE e:Nat))/\ndE e<=szExpr e+1:=by
 refine iF (P:=fun e d=>(szExpr e<=1048576->Cl Tryz.prog 126 [.ag (aw e.row)] [] fun r _=>r=vi (d:Nat))/\d<=szExpr e+1) (fun e g hg=>⟨fun hsz=>?_,Ad fun x hx=>(hg x hx).2⟩) e
 obtain⟨kind,op,not,val,qual,name,kids,sub⟩:=e
 exact xd kind op not val qual name kids sub g (fun x hx=>⟨(hg x hx).1 (Nat.le_trans (gN hx) hsz),(hg x hx).2⟩) hsz
theorem Kw:((true==false)=false)/\((false==true)=false)/\((false==false)=true)/\((true==true)=true):=⟨rfl,rfl,rfl,rfl⟩
def zV (v:Val):Bool:=decide (v.kind=0)&&(decide (v.num=0)&&decide (v.text=⟨#[]⟩))
def eg (kind op:Int) (not:Bool) (val:Val) (qual name:ByteArray) (nk ns:Nat):Bool:=
 decide (kind=0)&&(decide (op=0)&&(decide (not=false)&&(zV val&&(decide (qual=⟨#[]⟩)&&(decide (name=⟨#[]⟩)&&(decide (nk=0)&&decide (ns=0)))))))
theorem yK (v:Val) (w:World):(Op.equalIn 10000 43 (.agg [.int .i64 v.kind,.int .i64 v.num,.string v.text].toArray) (.agg [.int .i64 0,.int .i64 0,.string ⟨#[]⟩].toArray)).run Tryz.prog w = .ok (zV v) w:=by
 refine Go.Vc.equalIn_fk (ks:=[(0,.int),(1,.int),(2,.str)]) ae ae ae ?_ w
 simp only[Go.Vc.eqFK,List.getElem?_cons_zero,List.getElem?_cons_succ,zV]
 by_cases h1:v.kind=0<;>by_cases h2:v.num=0<;>by_cases h3:v.text=⟨#[]⟩<;>simp [h1,h2,h3]
def jH (v:Val):Bool:=dC v&&((decide (¬v.kind=1)||decide (0<=v.num))&&decide (v.text.size<=40))
def bJ (s:ByteArray):Bool:=decide (1<=s.size/\s.size<=20)
def dc (s:ByteArray):Bool:=decide (s=⟨#[]⟩)||bJ s
theorem FL (v:Val):Cl Tryz.prog 228 [.ag (aw v.row)] [] fun r _=>r=vb (jH v):=by
 obtain⟨zb,hzb⟩:∃zb,zb=jH v:=⟨_,rfl⟩
 rw[<-hzb,Val.row]
 refine ai ac false Tryz.func228 rfl ae ?_
 simp only[Tryz.f228,tt,seval]
 refine cZ (AB v) ?_ ?_<;>simp only[tt,seval,Val.row]
 cases hv:dC v<;>by_cases h1:v.kind=1<;>by_cases h2:0<=v.num
 all_goals try simp only[tt,seval,h1,h2]
 all_goals try refine fun _=>?_
 all_goals exact⟨_,_,aT (by rw[hzb];simp [jH,hv,h1,h2];try omega),ao rfl⟩
theorem FM (v:Val):Cl Tryz.prog 249 [.ag (aw v.row)] [] fun r _=>r=vb (jH v):=by
 obtain⟨zb,hzb⟩:∃zb,zb=jH v:=⟨_,rfl⟩
 rw[<-hzb,Val.row]
 refine ai ac false Tryz.func249 rfl ae ?_
 simp only[Tryz.f249,tt,seval]
 refine cZ (qX v) ?_ ?_<;>simp only[tt,seval,Val.row]
 cases hv:dC v<;>by_cases h1:v.kind=1<;>by_cases h2:0<=v.num
 all_goals try simp only[tt,seval,h1,h2]
 all_goals try refine fun _=>?_
 all_goals exact⟨_,_,aT (by rw[hzb];simp [jH,hv,h1,h2];try omega),ao rfl⟩
theorem mH (s:ByteArray):Cl Tryz.prog 95 [vs s] [] fun r _=>r=vb (dc s):=by
 refine ai ac false Tryz.func95 rfl ae ?_
 simp only[Tryz.f95,tt,seval]
 by_cases h:s=⟨#[]⟩
 ·simp only[tt,seval,ax h]
  exact⟨_,_,aT (by simp [dc,h]),ao rfl⟩
 ·simp only[tt,seval,aB h]
  refine cZ (jK s) ?_ ?_<;>simp only[tt,seval]
  exact⟨_,_,aT (by simp [dc,h,bJ]),ao rfl⟩
theorem yL (s:ByteArray):Cl Tryz.prog 176 [vs s] [] fun r _=>r=vb (dc s):=by
 refine ai ac false Tryz.func176 rfl ae ?_
 simp only[Tryz.f176,tt,seval]
 by_cases h:s=⟨#[]⟩
 ·simp only[tt,seval,ax h]
  exact⟨_,_,aT (by simp [dc,h]),ao rfl⟩
 ·simp only[tt,seval,aB h]
  refine cZ (jL s) ?_ ?_<;>simp only[tt,seval]
  exact⟨_,_,aT (by simp [dc,h,bJ]),ao rfl⟩
theorem Id (l:List Expr) (fg:FuncId):Cl Tryz.prog 128 [.c (.sl l.length (l.flatMap Expr.row) none),.c (.sl 0 [] none),.c (.fn fg [] [])] [] fun r _=>r=vb (decide (l.length=0)):=by
 refine ai ac false Tryz.func128 rfl ae ?_
 simp only[Tryz.f128,tt,seval]
 refine fun _=>?_
 by_cases h:l.length=0
 case neg=>
  simp only[tt,seval,aB (show ¬(l.length:Int)=0 by omega)]
  exact⟨_,_,aT (aB h).symm,ao rfl⟩
 have hs:l=[]:=List.eq_nil_of_length_eq_zero h
 subst hs
 simp only[tt,seval]
 refine dLoop.intro (fun f L p=>f 17=vi 0/\L=[]/\p=none) (fun _ _ _=>0) [] none ⟨ap _,au _,?_⟩ ?_
 ·simp only[tt,seval]
 ·rintro g L p ⟨h5',rfl,rfl⟩
  simp only[tt,seval] at h5'
  simp only[tt,seval,h5']
  exact⟨_,_,rfl,ao rfl⟩
theorem Ie (l:List Query) (fg:FuncId):Cl Tryz.prog 56 [.c (.sl l.length (l.flatMap Query.row) none),.c (.sl 0 [] none),.c (.fn fg [] [])] [] fun r _=>r=vb (decide (l.length=0)):=by
 refine ai ac false Tryz.func56 rfl ae ?_
 simp only[Tryz.f56,tt,seval]
 refine fun _=>?_
 by_cases h:l.length=0
 case neg=>
  simp only[tt,seval,aB (show ¬(l.length:Int)=0 by omega)]
  exact⟨_,_,aT (aB h).symm,ao rfl⟩
 have hs:l=[]:=List.eq_nil_of_length_eq_zero h
 subst hs
 simp only[tt,seval]
 refine dLoop.intro (fun f L p=>f 17=vi 0/\L=[]/\p=none) (fun _ _ _=>0) [] none ⟨ap _,au _,?_⟩ ?_
 ·simp only[tt,seval]
 ·rintro g L p ⟨h5',rfl,rfl⟩
  simp only[tt,seval] at h5'
  simp only[tt,seval,h5']
  exact⟨_,_,rfl,ao rfl⟩
theorem Bp (l:List Expr):Cl Tryz.prog 44 [.c (.sl l.length (l.flatMap Expr.row) none),.c (.sl 0 [] none)] [] fun r _=>r=vb (decide (l.length=0)):=by
 refine ai ac false Tryz.func44 rfl ae ?_
 simp only[Tryz.f44,tt,seval]
 refine fun _=>?_
 by_cases h:l.length=0
 case neg=>
  simp only[tt,seval,aB (show ¬(l.length:Int)=0 by omega)]
  exact⟨_,_,aT (aB h).symm,ao rfl⟩
 have hs:l=[]:=List.eq_nil_of_length_eq_zero h
 subst hs
 simp only[tt,seval]
 refine dLoop.intro (fun f L p=>f 5=vi 0/\L=[]/\p=none) (fun _ _ _=>0) [] none ⟨ap _,au _,?_⟩ ?_
 ·simp only[tt,seval]
 ·rintro g L p ⟨h5',rfl,rfl⟩
  simp only[tt,seval] at h5'
  simp only[tt,seval,h5']
  exact⟨_,_,rfl,ao rfl⟩
theorem vf (l:List Expr):Cl Tryz.prog 55 [.c (.sl l.length (l.flatMap Expr.row) none),.c (.sl 0 [] none)] [] fun r _=>r=vb (decide (l.length=0)):=by
 refine ai ac false Tryz.func55 rfl ae ?_
 simp only[Tryz.f55,tt,seval]
 refine cZ (Id l 20) ?_ ?_<;>simp only[tt,seval]
 exact⟨_,_,rfl,ao rfl⟩
theorem Dy (kind op:Int) (not:Bool) (val:Val) (qual name:ByteArray) (kids:List Expr) (sub:List Query):Cl Tryz.prog 20 [.ag (aw (Expr.mk kind op not val qual name kids sub).row),.ag (aw (Expr.mk 0 0 false ⟨0,0,⟨#[]⟩⟩ ⟨#[]⟩ ⟨#[]⟩ [] []).row)] [] fun r _=>r=vb (eg kind op not val qual name kids.length sub.length):=by
 obtain⟨zb,hzb⟩:∃zb,zb=eg kind op not val qual name kids.length sub.length:=⟨_,rfl⟩
 rw[<-hzb,am,am]
 refine ai ac false Tryz.func20 rfl ae ?_
 simp only[Tryz.f20,tt,seval]
 by_cases h1:kind=0
 case neg=>
  simp only[tt,seval,h1]
  exact⟨_,_,aT (by rw[hzb];simp [eg,h1]),ao rfl⟩
 simp only[tt,seval,h1]
 by_cases h2:op=0
 case neg=>
  simp only[tt,seval,h2]
  exact⟨_,_,aT (by rw[hzb];simp [eg,h1,h2]),ao rfl⟩
 simp only[tt,seval,h2]
 by_cases h3:not=false
 case neg=>
  simp only[tt,seval,(Bool.not_eq_false _▸h3:not=true),Kw]
  exact⟨_,_,aT (by rw[hzb];simp [eg,h1,h2,h3]),ao rfl⟩
 simp only[tt,seval,h3]
 rw[rQ ae (yK val)]
 simp only[tt,seval]
 by_cases h4:zV val=true
 case neg=>
  simp only[tt,seval,(Bool.not_eq_true _▸h4:zV val=false)]
  exact⟨_,_,aT (by rw[hzb];simp [eg,h1,h2,h3,h4]),ao rfl⟩
 simp only[tt,seval,h4]
 by_cases h5:qual=⟨#[]⟩
 case neg=>
  simp only[tt,seval,h5]
  exact⟨_,_,aT (by rw[hzb];simp [eg,h1,h2,h3,h4,h5]),ao rfl⟩
 simp only[tt,seval,h5]
 by_cases h6:name=⟨#[]⟩
 case neg=>
  simp only[tt,seval,h6]
  exact⟨_,_,aT (by rw[hzb];simp [eg,h1,h2,h3,h4,h5,h6]),ao rfl⟩
 simp only[tt,seval,h6]
 refine cZ (vf kids) ?_ ?_<;>simp only[tt,seval]
 by_cases h7:kids.length=0
 case neg=>
  simp only[tt,seval,h7]
  exact⟨_,_,aT (by rw[hzb];simp [eg,h1,h2,h3,h4,h5,h6,h7]),ao rfl⟩
 simp only[tt,seval,ax h7]
 refine cZ (Ie sub 57) ?_ ?_<;>simp only[tt,seval]
 exact⟨_,_,aT (by rw[hzb];simp [eg,h1,h2,h3,h4,h5,h6,h7]),ao rfl⟩
theorem FN (kind op:Int) (not:Bool) (val:Val) (qual name:ByteArray) (kids:List Expr) (sub:List Query):Cl Tryz.prog 21 [.ag (aw (Expr.mk kind op not val qual name kids sub).row),.ag (aw (Expr.mk 0 0 false ⟨0,0,⟨#[]⟩⟩ ⟨#[]⟩ ⟨#[]⟩ [] []).row)] [] fun r _=>r=vb (eg kind op not val qual name kids.length sub.length):=by
 obtain⟨zb,hzb⟩:∃zb,zb=eg kind op not val qual name kids.length sub.length:=⟨_,rfl⟩
 rw[<-hzb,am,am]
 refine ai ac false Tryz.func21 rfl ae ?_
 simp only[Tryz.f21,tt,seval]
 by_cases h1:kind=0
 case neg=>
  simp only[tt,seval,h1]
  exact⟨_,_,aT (by rw[hzb];simp [eg,h1]),ao rfl⟩
 simp only[tt,seval,h1]
 by_cases h2:op=0
 case neg=>
  simp only[tt,seval,h2]
  exact⟨_,_,aT (by rw[hzb];simp [eg,h1,h2]),ao rfl⟩
 simp only[tt,seval,h2]
 by_cases h3:not=false
 case neg=>
  simp only[tt,seval,(Bool.not_eq_false _▸h3:not=true),Kw]
  exact⟨_,_,aT (by rw[hzb];simp [eg,h1,h2,h3]),ao rfl⟩
 simp only[tt,seval,h3]
 rw[ee ae (yK val)]
 simp only[tt,seval]
 by_cases h4:zV val=true
 case neg=>
  simp only[tt,seval,(Bool.not_eq_true _▸h4:zV val=false)]
  exact⟨_,_,aT (by rw[hzb];simp [eg,h1,h2,h3,h4]),ao rfl⟩
 simp only[tt,seval,h4]
 by_cases h5:qual=⟨#[]⟩
 case neg=>
  simp only[tt,seval,h5]
  exact⟨_,_,aT (by rw[hzb];simp [eg,h1,h2,h3,h4,h5]),ao rfl⟩
 simp only[tt,seval,h5]
 by_cases h6:name=⟨#[]⟩
 case neg=>
  simp only[tt,seval,h6]
  exact⟨_,_,aT (by rw[hzb];simp [eg,h1,h2,h3,h4,h5,h6]),ao rfl⟩
 simp only[tt,seval,h6]
 refine fun _=>?_
 by_cases h8:sub.length=0
 case neg=>
  simp only[tt,seval,aB (show ¬(sub.length:Int)=0 by omega)]
  exact⟨_,_,aT (by rw[hzb];simp [eg,h1,h2,h3,h4,h5,h6,h8]),ao rfl⟩
 simp only[tt,seval,show (sub.length:Int)=0 from by omega]
 refine cZ (Bp kids) ?_ ?_<;>simp only[tt,seval]
 by_cases h7:kids.length=0
 case neg=>
  simp only[tt,seval,h7]
  exact⟨_,_,aT (by rw[hzb];simp [eg,h1,h2,h3,h4,h5,h6,h7]),ao rfl⟩
 simp only[tt,seval,ax h7]
 have hs:sub=[]:=List.eq_nil_of_length_eq_zero h8
 subst hs
 refine dLoop.intro (fun f L p=>f 5=vi 0/\L=[(2,.str [.v (.int .i64 0),.v (.int .i64 0),.v (.bool false),.v (.int .i64 val.kind),.v (.int .i64 val.num),.v (.string val.text),.v (.string ⟨#[]⟩),.v (.string ⟨#[]⟩),.sl kids.length (kids.flatMap Expr.row) none,.sl 0 [] none])]/\p=none) (fun _ _ _=>0) [(2,.str [.v (.int .i64 0),.v (.int .i64 0),.v (.bool false),.v (.int .i64 val.kind),.v (.int .i64 val.num),.v (.string val.text),.v (.string ⟨#[]⟩),.v (.string ⟨#[]⟩),.sl kids.length (kids.flatMap Expr.row) none,.sl 0 [] none])] none ⟨ak rfl (ap _),au _,?_⟩ ?_
 ·simp only[tt,seval]
 ·rintro g L p ⟨h5',rfl,rfl⟩
  simp only[tt,seval] at h5'
  simp only[tt,seval,h5']
  exact⟨_,_,aT (by rw[hzb];simp [eg,h1,h2,h3,h4,h5,h6,h7]),ao rfl⟩
theorem jI (v:Val) (w:World):(Op.equalIn 10000 43 (.agg [.int .i64 v.kind,.int .i64 v.num,.string v.text].toArray) (.agg [.int .i64 0,.int .i64 0,.string ByteArray.empty].toArray)).run Tryz.prog w = .ok (zV v) w:=yK v w
def bQ (kind:Int):Bool×Bool×Bool×Bool×Int×Int×Int:=
 if kind=1 then (false,false,true,false,0,0,0) else if kind=2 then (false,false,false,true,0,0,0) else if kind=3 then (true,false,false,false,1,1,0) else if kind=4 then (true,false,false,false,2,2,0)
 else if kind=5 then (false,true,false,false,1,1,0) else if kind=6 then (false,true,false,false,3,3,0) else if kind=7 then (false,true,false,false,2,9,0) else if kind=8 then (false,true,false,false,1,1,1)
 else if kind=9 then (false,false,false,false,0,0,1) else (false,false,false,false,0,0,0)
def cO (kind op:Int) (val:Val) (qual name:ByteArray):Bool:=
 if kind=1 then jH val else if kind=2 then (bJ name&&dc qual) else if kind=3 then (decide (op=15)||decide (op=16)) else if kind=4 then decide (1<=op/\op<=14) else decide (5<=kind/\kind<=9)
def aF (kind op:Int) (not:Bool) (val:Val) (qual name:ByteArray) (nk ns:Int):Bool:=
 cO kind op val qual name&&(((bQ kind).1||decide (op=0))&&(((bQ kind).2.1 || !not)&&(((bQ kind).2.2.1||zV val)&&(((bQ kind).2.2.2.1||(decide (qual=⟨#[]⟩)&&decide (name=⟨#[]⟩))) &&
  (decide ((bQ kind).2.2.2.2.1<=nk/\nk<=(bQ kind).2.2.2.2.2.1)&&decide (ns=(bQ kind).2.2.2.2.2.2))))))
set_option maxHeartbeats 4000000 in
theorem Bq (kind op:Int) (not:Bool) (val:Val) (qual name:ByteArray) (kids:List Expr) (sub:List Query) (hkl:kids.length<=1048576) (hsl:sub.length<=1048576):Cl Tryz.prog 180 [.ag (aw (Expr.mk kind op not val qual name kids sub).row)] [] fun r _=>r=vb (aF kind op not val qual name kids.length sub.length):=by
 obtain⟨zb,hzb⟩:∃zb,zb=aF kind op not val qual name kids.length sub.length:=⟨_,rfl⟩
 rw[<-hzb,am]
 refine ai ac false Tryz.func180 rfl ae ?_
 simp only[Tryz.f180,tt,seval]
 refine fun _ _=>?_
 have hk0:0<=(kids.length:Int)/\(kids.length:Int)<=1048576:=by omega
 have hs0:0<=(sub.length:Int)/\(sub.length:Int)<=1048576:=by omega
 generalize (kids.length:Int)=nk at *
 generalize (sub.length:Int)=ns at *
 rcases (show kind=1∨kind=2∨kind=3∨kind=4∨kind=5∨kind=6∨kind=7∨kind=8∨kind=9∨(kind<1∨9<kind) by omega) with rfl|rfl|rfl|rfl|rfl|rfl|rfl|rfl|rfl|hk
 ·try simp only[tt,seval]
  by_cases hq:qual=⟨#[]⟩
  case neg=>
   simp only[tt,seval,hq]
   exact⟨_,_,aT (by rw[hzb];simp [aF,cO,bQ,hq];try omega),ao rfl⟩
  simp only[tt,seval,hq]
  by_cases hn:name=⟨#[]⟩
  case neg=>
   simp only[tt,seval,hn]
   exact⟨_,_,aT (by rw[hzb];simp [aF,cO,bQ,hq,hn];try omega),ao rfl⟩
  simp only[tt,seval,hn]
  by_cases ho:op=0
  case neg=>
   simp only[tt,seval,ho]
   exact⟨_,_,aT (by rw[hzb];simp [aF,cO,bQ,hq,hn,ho];try omega),ao rfl⟩
  simp only[tt,seval,ho]
  cases not
  case true=>
   simp only[tt,seval]
   refine cZ (dv 1 5 8) ?_ ?_<;>simp only[tt,seval]
   exact⟨_,_,aT (by rw[hzb];simp [aF,cO,bQ,hq,hn,ho];try omega),ao rfl⟩
  simp only[tt,seval]
  refine cZ (FL val) ?_ ?_<;>simp only[tt,seval,Val.row]
  cases hl:jH val
  case false=>
   simp only[tt,seval]
   exact⟨_,_,aT (by rw[hzb];simp [aF,cO,bQ,hq,hn,ho,hl];try omega),ao rfl⟩
  simp only[tt,seval]
  rw[aE aa aa]
  by_cases hz:nk+ns=0
  case neg=>
   simp only[tt,seval,hz]
   exact⟨_,_,aT (by rw[hzb];simp [aF,cO,bQ,hq,hn,ho,hl];try omega),ao rfl⟩
  simp only[tt,seval,hz]
  exact⟨_,_,aT (by rw[hzb];simp [aF,cO,bQ,hq,hn,ho,hl];try omega),ao rfl⟩
 ·try simp only[tt,seval]
  rw[ee ae (jI val)]
  simp only[tt,seval]
  cases hv:zV val
  case false=>
   simp only[tt,seval]
   exact⟨_,_,aT (by rw[hzb];simp [aF,cO,bQ,bJ,hv];try omega),ao rfl⟩
  simp only[tt,seval]
  by_cases ho:op=0
  case neg=>
   simp only[tt,seval,ho]
   exact⟨_,_,aT (by rw[hzb];simp [aF,cO,bQ,bJ,hv,ho];try omega),ao rfl⟩
  simp only[tt,seval,ho]
  cases not
  case true=>
   simp only[tt,seval]
   refine cZ (dv 2 5 8) ?_ ?_<;>simp only[tt,seval]
   exact⟨_,_,aT (by rw[hzb];simp [aF,cO,bQ,bJ,hv,ho];try omega),ao rfl⟩
  simp only[tt,seval]
  refine cZ (jK name) ?_ ?_<;>simp only[tt,seval]
  cases hnb:decide (1<=name.size/\name.size<=20)
  case false=>
   simp only[tt,seval]
   exact⟨_,_,aT (by rw[hzb];simp [aF,cO,bQ,bJ,hv,ho,hnb];try omega),ao rfl⟩
  simp only[tt,seval]
  refine cZ (mH qual) ?_ ?_<;>simp only[tt,seval]
  cases hmb:dc qual
  case false=>
   simp only[tt,seval]
   exact⟨_,_,aT (by rw[hzb];simp [aF,cO,bQ,bJ,hv,ho,hnb,hmb];try omega),ao rfl⟩
  simp only[tt,seval]
  rw[aE aa aa]
  by_cases hz:nk+ns=0
  case neg=>
   simp only[tt,seval,hz]
   exact⟨_,_,aT (by rw[hzb];simp [aF,cO,bQ,bJ,hv,ho,hnb,hmb];try omega),ao rfl⟩
  simp only[tt,seval,hz]
  exact⟨_,_,aT (by rw[hzb];simp [aF,cO,bQ,bJ,hv,ho,hnb,hmb];try omega),ao rfl⟩
 ·try simp only[tt,seval]
  by_cases hq:qual=⟨#[]⟩
  case neg=>
   simp only[tt,seval,hq]
   exact⟨_,_,aT (by rw[hzb];simp [aF,cO,bQ,hq];try omega),ao rfl⟩
  simp only[tt,seval,hq]
  by_cases hn:name=⟨#[]⟩
  case neg=>
   simp only[tt,seval,hn]
   exact⟨_,_,aT (by rw[hzb];simp [aF,cO,bQ,hq,hn];try omega),ao rfl⟩
  simp only[tt,seval,hn]
  rw[ee ae (jI val)]
  simp only[tt,seval]
  cases hv:zV val
  case false=>
   simp only[tt,seval]
   exact⟨_,_,aT (by rw[hzb];simp [aF,cO,bQ,hq,hn,hv];try omega),ao rfl⟩
  simp only[tt,seval]
  cases not
  case true=>
   simp only[tt,seval]
   refine cZ (dv 3 5 8) ?_ ?_<;>simp only[tt,seval]
   exact⟨_,_,aT (by rw[hzb];simp [aF,cO,bQ,hq,hn,hv];try omega),ao rfl⟩
  simp only[tt,seval]
  by_cases ho15:op=15
  case' neg=>
   simp only[tt,seval,ho15]
   by_cases ho16:op=16
   case neg=>
    simp only[tt,seval,ho16]
    exact⟨_,_,aT (by rw[hzb];simp [aF,cO,bQ,hq,hn,hv,ho15,ho16];try omega),ao rfl⟩
   simp only[tt,seval,ho16]
  case' pos=>try simp only[tt,seval,ho15]
  all_goals
   by_cases hk1:nk=1
   case neg=>
    simp only[tt,seval,hk1]
    exact⟨_,_,aT (by rw[hzb];simp [aF,cO,bQ, *];try omega),ao rfl⟩
   simp only[tt,seval,hk1]
   by_cases hs0:ns=0
   case neg=>
    simp only[tt,seval,hs0]
    exact⟨_,_,aT (by rw[hzb];simp [aF,cO,bQ, *];try omega),ao rfl⟩
   simp only[tt,seval,hs0]
   exact⟨_,_,aT (by rw[hzb];simp [aF,cO,bQ, *];try omega),ao rfl⟩
 ·try simp only[tt,seval]
  by_cases hq:qual=⟨#[]⟩
  case neg=>
   simp only[tt,seval,hq]
   exact⟨_,_,aT (by rw[hzb];simp [aF,cO,bQ,hq];try omega),ao rfl⟩
  simp only[tt,seval,hq]
  by_cases hn:name=⟨#[]⟩
  case neg=>
   simp only[tt,seval,hn]
   exact⟨_,_,aT (by rw[hzb];simp [aF,cO,bQ,hq,hn];try omega),ao rfl⟩
  simp only[tt,seval,hn]
  rw[ee ae (jI val)]
  simp only[tt,seval]
  cases hv:zV val
  case false=>
   simp only[tt,seval]
   exact⟨_,_,aT (by rw[hzb];simp [aF,cO,bQ,hq,hn,hv];try omega),ao rfl⟩
  simp only[tt,seval]
  cases not
  case true=>
   simp only[tt,seval]
   refine cZ (dv 4 5 8) ?_ ?_<;>simp only[tt,seval]
   exact⟨_,_,aT (by rw[hzb];simp [aF,cO,bQ,hq,hn,hv];try omega),ao rfl⟩
  simp only[tt,seval]
  refine cZ (dv op 1 14) ?_ ?_<;>simp only[tt,seval]
  cases hop:decide ((1:Int)<=op/\op<=14)
  case false=>
   simp only[tt,seval]
   exact⟨_,_,aT (by rw[hzb];simp [aF,cO,bQ,hq,hn,hv,hop];try omega),ao rfl⟩
  simp only[tt,seval]
  by_cases hk2:nk=2
  case neg=>
   simp only[tt,seval,hk2]
   exact⟨_,_,aT (by rw[hzb];simp [aF,cO,bQ,hq,hn,hv,hop];try omega),ao rfl⟩
  simp only[tt,seval,hk2]
  by_cases hs0:ns=0
  case neg=>
   simp only[tt,seval,hs0]
   exact⟨_,_,aT (by rw[hzb];simp [aF,cO,bQ,hq,hn,hv,hop,hk2,hs0];try omega),ao rfl⟩
  simp only[tt,seval,hs0]
  exact⟨_,_,aT (by rw[hzb];simp [aF,cO,bQ,hq,hn,hv,hop,hk2,hs0];try omega),ao rfl⟩
 ·try simp only[tt,seval]
  by_cases hq:qual=⟨#[]⟩
  case neg=>
   simp only[tt,seval,hq]
   exact⟨_,_,aT (by rw[hzb];simp [aF,cO,bQ,hq];try omega),ao rfl⟩
  simp only[tt,seval,hq]
  by_cases hn:name=⟨#[]⟩
  case neg=>
   simp only[tt,seval,hn]
   exact⟨_,_,aT (by rw[hzb];simp [aF,cO,bQ,hq,hn];try omega),ao rfl⟩
  simp only[tt,seval,hn]
  rw[ee ae (jI val)]
  simp only[tt,seval]
  cases hv:zV val
  case false=>
   simp only[tt,seval]
   exact⟨_,_,aT (by rw[hzb];simp [aF,cO,bQ,hq,hn,hv];try omega),ao rfl⟩
  simp only[tt,seval]
  by_cases ho:op=0
  case neg=>
   simp only[tt,seval,ho]
   exact⟨_,_,aT (by rw[hzb];simp [aF,cO,bQ,hq,hn,hv,ho];try omega),ao rfl⟩
  simp only[tt,seval,ho]
  cases not
  case' true=>
   simp only[tt,seval]
   refine cZ (dv 5 5 8) ?_ ?_<;>simp only[tt,seval]
  case' false=>try simp only[tt,seval]
  all_goals
   by_cases hk1:nk=1
   case neg=>
    simp only[tt,seval,hk1]
    exact⟨_,_,aT (by rw[hzb];simp [aF,cO,bQ,hq,hn,hv,ho];try omega),ao rfl⟩
   simp only[tt,seval,hk1]
   by_cases hs0:ns=0
   case neg=>
    simp only[tt,seval,hs0]
    exact⟨_,_,aT (by rw[hzb];simp [aF,cO,bQ,hq,hn,hv,ho,hk1,hs0];try omega),ao rfl⟩
   simp only[tt,seval,hs0]
   exact⟨_,_,aT (by rw[hzb];simp [aF,cO,bQ,hq,hn,hv,ho,hk1,hs0];try omega),ao rfl⟩
 ·try simp only[tt,seval]
  by_cases hq:qual=⟨#[]⟩
  case neg=>
   simp only[tt,seval,hq]
   exact⟨_,_,aT (by rw[hzb];simp [aF,cO,bQ,hq];try omega),ao rfl⟩
  simp only[tt,seval,hq]
  by_cases hn:name=⟨#[]⟩
  case neg=>
   simp only[tt,seval,hn]
   exact⟨_,_,aT (by rw[hzb];simp [aF,cO,bQ,hq,hn];try omega),ao rfl⟩
  simp only[tt,seval,hn]
  rw[ee ae (jI val)]
  simp only[tt,seval]
  cases hv:zV val
  case false=>
   simp only[tt,seval]
   exact⟨_,_,aT (by rw[hzb];simp [aF,cO,bQ,hq,hn,hv];try omega),ao rfl⟩
  simp only[tt,seval]
  by_cases ho:op=0
  case neg=>
   simp only[tt,seval,ho]
   exact⟨_,_,aT (by rw[hzb];simp [aF,cO,bQ,hq,hn,hv,ho];try omega),ao rfl⟩
  simp only[tt,seval,ho]
  cases not
  case' true=>
   simp only[tt,seval]
   refine cZ (dv 6 5 8) ?_ ?_<;>simp only[tt,seval]
  case' false=>try simp only[tt,seval]
  all_goals
   by_cases hk3:nk=3
   case neg=>
    simp only[tt,seval,hk3]
    exact⟨_,_,aT (by rw[hzb];simp [aF,cO,bQ,hq,hn,hv,ho];try omega),ao rfl⟩
   simp only[tt,seval,hk3]
   by_cases hs0:ns=0
   case neg=>
    simp only[tt,seval,hs0]
    exact⟨_,_,aT (by rw[hzb];simp [aF,cO,bQ,hq,hn,hv,ho,hk3,hs0];try omega),ao rfl⟩
   simp only[tt,seval,hs0]
   exact⟨_,_,aT (by rw[hzb];simp [aF,cO,bQ,hq,hn,hv,ho,hk3,hs0];try omega),ao rfl⟩
 ·try simp only[tt,seval]
  by_cases hq:qual=⟨#[]⟩
  case neg=>
   simp only[tt,seval,hq]
   exact⟨_,_,aT (by rw[hzb];simp [aF,cO,bQ,hq];try omega),ao rfl⟩
  simp only[tt,seval,hq]
  by_cases hn:name=⟨#[]⟩
  case neg=>
   simp only[tt,seval,hn]
   exact⟨_,_,aT (by rw[hzb];simp [aF,cO,bQ,hq,hn];try omega),ao rfl⟩
  simp only[tt,seval,hn]
  rw[ee ae (jI val)]
  simp only[tt,seval]
  cases hv:zV val
  case false=>
   simp only[tt,seval]
   exact⟨_,_,aT (by rw[hzb];simp [aF,cO,bQ,hq,hn,hv];try omega),ao rfl⟩
  simp only[tt,seval]
  by_cases ho:op=0
  case neg=>
   simp only[tt,seval,ho]
   exact⟨_,_,aT (by rw[hzb];simp [aF,cO,bQ,hq,hn,hv,ho];try omega),ao rfl⟩
  simp only[tt,seval,ho]
  cases not
  case' true=>
   simp only[tt,seval]
   refine cZ (dv 7 5 8) ?_ ?_<;>simp only[tt,seval]
  case' false=>try simp only[tt,seval]
  all_goals
   refine cZ (dv nk 2 9) ?_ ?_<;>simp only[tt,seval]
   cases hkr:decide ((2:Int)<=nk/\nk<=9)
   case false=>
    simp only[tt,seval]
    exact⟨_,_,aT (by rw[hzb];simp [aF,cO,bQ,hq,hn,hv,ho,hkr];try omega),ao rfl⟩
   simp only[tt,seval]
   by_cases hs0:ns=0
   case neg=>
    simp only[tt,seval,hs0]
    exact⟨_,_,aT (by rw[hzb];simp [aF,cO,bQ,hq,hn,hv,ho,hkr,hs0];try omega),ao rfl⟩
   simp only[tt,seval,hs0]
   exact⟨_,_,aT (by rw[hzb];simp [aF,cO,bQ,hq,hn,hv,ho,hkr,hs0];try omega),ao rfl⟩
 ·try simp only[tt,seval]
  by_cases hq:qual=⟨#[]⟩
  case neg=>
   simp only[tt,seval,hq]
   exact⟨_,_,aT (by rw[hzb];simp [aF,cO,bQ,hq];try omega),ao rfl⟩
  simp only[tt,seval,hq]
  by_cases hn:name=⟨#[]⟩
  case neg=>
   simp only[tt,seval,hn]
   exact⟨_,_,aT (by rw[hzb];simp [aF,cO,bQ,hq,hn];try omega),ao rfl⟩
  simp only[tt,seval,hn]
  rw[ee ae (jI val)]
  simp only[tt,seval]
  cases hv:zV val
  case false=>
   simp only[tt,seval]
   exact⟨_,_,aT (by rw[hzb];simp [aF,cO,bQ,hq,hn,hv];try omega),ao rfl⟩
  simp only[tt,seval]
  by_cases ho:op=0
  case neg=>
   simp only[tt,seval,ho]
   exact⟨_,_,aT (by rw[hzb];simp [aF,cO,bQ,hq,hn,hv,ho];try omega),ao rfl⟩
  simp only[tt,seval,ho]
  cases not
  case' true=>
   simp only[tt,seval]
   refine cZ (dv 8 5 8) ?_ ?_<;>simp only[tt,seval]
  case' false=>try simp only[tt,seval]
  all_goals
   by_cases hk1:nk=1
   case neg=>
    simp only[tt,seval,hk1]
    exact⟨_,_,aT (by rw[hzb];simp [aF,cO,bQ,hq,hn,hv,ho];try omega),ao rfl⟩
   simp only[tt,seval,hk1]
   by_cases hs1:ns=1
   case neg=>
    simp only[tt,seval,hs1]
    exact⟨_,_,aT (by rw[hzb];simp [aF,cO,bQ,hq,hn,hv,ho,hk1,hs1];try omega),ao rfl⟩
   simp only[tt,seval,hs1]
   exact⟨_,_,aT (by rw[hzb];simp [aF,cO,bQ,hq,hn,hv,ho,hk1,hs1];try omega),ao rfl⟩
 ·try simp only[tt,seval]
  by_cases hq:qual=⟨#[]⟩
  case neg=>
   simp only[tt,seval,hq]
   exact⟨_,_,aT (by rw[hzb];simp [aF,cO,bQ,hq];try omega),ao rfl⟩
  simp only[tt,seval,hq]
  by_cases hn:name=⟨#[]⟩
  case neg=>
   simp only[tt,seval,hn]
   exact⟨_,_,aT (by rw[hzb];simp [aF,cO,bQ,hq,hn];try omega),ao rfl⟩
  simp only[tt,seval,hn]
  rw[ee ae (jI val)]
  simp only[tt,seval]
  cases hv:zV val
  case false=>
   simp only[tt,seval]
   exact⟨_,_,aT (by rw[hzb];simp [aF,cO,bQ,hq,hn,hv];try omega),ao rfl⟩
  simp only[tt,seval]
  by_cases ho:op=0
  case neg=>
   simp only[tt,seval,ho]
   exact⟨_,_,aT (by rw[hzb];simp [aF,cO,bQ,hq,hn,hv,ho];try omega),ao rfl⟩
  simp only[tt,seval,ho]
  cases not
  case true=>
   simp only[tt,seval]
   refine cZ (dv 9 5 8) ?_ ?_<;>simp only[tt,seval]
   exact⟨_,_,aT (by rw[hzb];simp [aF,cO,bQ,hq,hn,hv,ho];try omega),ao rfl⟩
  simp only[tt,seval]
  by_cases hk0:nk=0
  case neg=>
   simp only[tt,seval,hk0]
   exact⟨_,_,aT (by rw[hzb];simp [aF,cO,bQ,hq,hn,hv,ho];try omega),ao rfl⟩
  simp only[tt,seval,hk0]
  by_cases hs1:ns=1
  case neg=>
   simp only[tt,seval,hs1]
   exact⟨_,_,aT (by rw[hzb];simp [aF,cO,bQ,hq,hn,hv,ho,hk0,hs1];try omega),ao rfl⟩
  simp only[tt,seval,hs1]
  exact⟨_,_,aT (by rw[hzb];simp [aF,cO,bQ,hq,hn,hv,ho,hk0,hs1];try omega),ao rfl⟩
 ·have n1:¬kind=1:=by omega
  have n2:¬kind=2:=by omega
  have n3:¬kind=3:=by omega
  have n4:¬kind=4:=by omega
  have n5:¬kind=5:=by omega
  have n6:¬kind=6:=by omega
  have n7:¬kind=7:=by omega
  have n8:¬kind=8:=by omega
  have n9:¬kind=9:=by omega
  have hk58:decide ((5:Int)<=kind/\kind<=8)=false:=aB aa
  simp only[tt,seval,n2]
  by_cases hq:qual=⟨#[]⟩
  case neg=>
   simp only[tt,seval,hq,n3,n4]
   exact⟨_,_,aT (by rw[hzb];simp [aF,cO,bQ,n1,n2,n3,n4,n5,n6,n7,n8,n9,hq];try omega),ao rfl⟩
  simp only[tt,seval,hq]
  by_cases hn:name=⟨#[]⟩
  case neg=>
   simp only[tt,seval,hn,n3,n4]
   exact⟨_,_,aT (by rw[hzb];simp [aF,cO,bQ,n1,n2,n3,n4,n5,n6,n7,n8,n9,hq,hn];try omega),ao rfl⟩
  simp only[tt,seval,hn,n1]
  rw[ee ae (jI val)]
  simp only[tt,seval,n3,n4]
  cases hv:zV val
  case false=>
   simp only[tt,seval]
   exact⟨_,_,aT (by rw[hzb];simp [aF,cO,bQ,n1,n2,n3,n4,n5,n6,n7,n8,n9,hq,hn,hv];try omega),ao rfl⟩
  simp only[tt,seval]
  by_cases ho:op=0
  case neg=>
   simp only[tt,seval,ho,n1,n2,n3,n4,n5,n6,n7,n8,n9]
   exact⟨_,_,aT (by rw[hzb];simp [aF,cO,bQ,n1,n2,n3,n4,n5,n6,n7,n8,n9,hq,hn,hv,ho];try omega),ao rfl⟩
  simp only[tt,seval,ho]
  cases not
  case true=>
   simp only[tt,seval]
   refine cZ (dv kind 5 8) ?_ ?_<;>simp only[tt,seval]
   simp only[tt,seval,hk58]
   exact⟨_,_,aT (by rw[hzb];simp [aF,cO,bQ,n1,n2,n3,n4,n5,n6,n7,n8,n9];try omega),ao rfl⟩
  case false=>
   simp only[tt,seval,n1,n2,n3,n4,n5,n6,n7,n8,n9]
   exact⟨_,_,aT (by rw[hzb];simp [aF,cO,bQ,n1,n2,n3,n4,n5,n6,n7,n8,n9];try omega),ao rfl⟩
def ge (kind op:Int) (val:Val) (qual name:ByteArray):S:=.tu [([.v (.bool (bQ kind).1),.v (.bool (bQ kind).2.1),.v (.bool (bQ kind).2.2.1),.v (.bool (bQ kind).2.2.2.1),.v (.int .i64 (bQ kind).2.2.2.2.1),.v (.int .i64 (bQ kind).2.2.2.2.2.1),.v (.int .i64 (bQ kind).2.2.2.2.2.2)],false),([.v (.bool (cO kind op val qual name))],true)]
set_option maxHeartbeats 2000000 in
theorem xe (kind op:Int) (not:Bool) (val:Val) (qual name:ByteArray) (kids:List Expr) (sub:List Query):Cl Tryz.prog 208 [.ag (aw (Expr.mk kind op not val qual name kids sub).row)] [] fun r _=>r=ge kind op val qual name:=by
 obtain⟨zs,hzs⟩:∃zs,zs=ge kind op val qual name:=⟨_,rfl⟩
 rw[<-hzs,am]
 refine ai ac false Tryz.func208 rfl ae ?_
 simp only[Tryz.f208,tt,seval]
 rcases (show kind=1∨kind=2∨kind=3∨kind=4∨kind=5∨kind=6∨kind=7∨kind=8∨kind=9∨(kind<1∨9<kind) by omega) with rfl|rfl|rfl|rfl|rfl|rfl|rfl|rfl|rfl|hk
 ·try simp only[tt,seval]
  refine cZ (FM val) ?_ ?_<;>simp only[tt,seval,Val.row]
  exact⟨_,_,(by rw[hzs];simp [ge,cO,bQ,]),ao rfl⟩
 ·try simp only[tt,seval]
  refine cZ (jL name) ?_ ?_<;>simp only[tt,seval]
  cases hnb:decide (1<=name.size/\name.size<=20)
  case false=>
   simp only[tt,seval]
   exact⟨_,_,(by rw[hzs];simp [ge,cO,bQ,bJ,dc,hnb]),ao rfl⟩
  simp only[tt,seval]
  by_cases hq:qual=⟨#[]⟩
  case pos=>
   simp only[tt,seval,hq]
   exact⟨_,_,(by rw[hzs];simp [ge,cO,bQ,bJ,dc,hnb,hq]),ao rfl⟩
  simp only[tt,seval,hq]
  refine cZ (jL qual) ?_ ?_<;>simp only[tt,seval]
  exact⟨_,_,(by rw[hzs];simp [ge,cO,bQ,bJ,dc,hnb,hq]),ao rfl⟩
 ·try simp only[tt,seval]
  refine dDrawn.intro [] (.take 0 (.take 1 (.take 2 (.take 3 (.take 4 (.take 5 (.br 6 (.take 7 (.take 8 (.br 9 (.take 10 .done) .nobr))) (.br 9 (.take 6 (.take 7 (.take 8 (.take 10 .done)))) .nobr)))))))) ae ?_
  simp only[tt,seval]
  by_cases h15:op=15
  case pos=>
   simp only[tt,seval,ax h15]
   refine ab ?_ ?_<;>exact⟨_,_,(by rw[hzs];simp [ge,cO,bQ,h15]),ao rfl⟩
  simp only[tt,seval,aB h15]
  refine ab ?_ ?_<;>exact⟨_,_,(by rw[hzs];simp [ge,cO,bQ,h15]),ao rfl⟩
 ·try simp only[tt,seval]
  refine dDrawn.intro [] (.take 0 (.take 1 (.take 2 (.take 3 (.take 4 (.take 5 (.br 6 (.take 7 (.take 8 (.br 9 (.take 10 .done) .nobr))) (.br 9 (.take 6 (.take 7 (.take 8 (.take 10 .done)))) .nobr)))))))) ae ?_
  simp only[tt,seval]
  by_cases h1:1<=op
  case neg=>
   simp only[tt,seval,aB h1]
   refine ab ?_ ?_<;>exact⟨_,_,(by rw[hzs];simp [ge,cO,bQ,h1]),ao rfl⟩
  simp only[tt,seval,ax h1]
  refine ab ?_ ?_<;>exact⟨_,_,(by rw[hzs];simp [ge,cO,bQ,h1]),ao rfl⟩
 ·try simp only[tt,seval]
  exact⟨_,_,(by rw[hzs];simp [ge,cO,bQ,]),ao rfl⟩
 ·try simp only[tt,seval]
  exact⟨_,_,(by rw[hzs];simp [ge,cO,bQ,]),ao rfl⟩
 ·try simp only[tt,seval]
  exact⟨_,_,(by rw[hzs];simp [ge,cO,bQ,]),ao rfl⟩
 ·try simp only[tt,seval]
  exact⟨_,_,(by rw[hzs];simp [ge,cO,bQ,]),ao rfl⟩
 ·try simp only[tt,seval]
  exact⟨_,_,(by rw[hzs];simp [ge,cO,bQ,]),ao rfl⟩
 ·have n1:¬kind=1:=by omega
  have n2:¬kind=2:=by omega
  have n3:¬kind=3:=by omega
  have n4:¬kind=4:=by omega
  have n5:¬kind=5:=by omega
  have n6:¬kind=6:=by omega
  have n7:¬kind=7:=by omega
  have n8:¬kind=8:=by omega
  have n9:¬kind=9:=by omega
  simp only[tt,seval,n1,n2,n3,n4,n5,n6,n7,n8,n9]
  exact⟨_,_,(by rw[hzs];simp [ge,cO,bQ,n1,n2,n3,n4,n5,n6,n7,n8,n9];omega),ao rfl⟩
theorem fw:ByteArray.empty=⟨#[]⟩:=rfl
theorem iJ {α:Type} {g:α->Bool} {l:List α} {x:α} (h:x∈l) (hx:g x=false):l.all g=false:=by
 cases h':l.all g with
 |false=>rfl
 |true=>have:=List.all_eq_true.1 h' x h;rw[hx] at this;cases this
theorem me {α:Type} {g:α->Bool} {l:List α} (h:∀j (hj:j<l.length),g l[j]=true):l.all g=true:=List.all_eq_true.2 fun x hx=>by
 obtain⟨j,hj,rfl⟩:=List.mem_iff_getElem.1 hx
 exact h j hj
def mf:Expr->Bool | .mk kind op not val qual name kids sub=>eg kind op not val qual name kids.length sub.length
def nM:Item->Bool | .mk star qual e as_=>if star=true then (dc qual&&(decide (as_=⟨#[]⟩)&&mf e)) else (decide (qual=⟨#[]⟩)&&dc as_)
def nN (i:Nat):Source->Bool | .mk table as_ on=>bJ table&&(dc as_&&(decide (on.length<=1)&&(decide (¬i=0)||decide (on.length=0))))
def Dz (l:List Source):Bool:=(List.range l.length).all fun i=>match l[i]? with|some s=>nN i s|none=>true
def hdB:Query->Bool | .mk _ items from_ where_ order limit=>decide (1<=items.length/\items.length<=12)&&(decide (1<=from_.length/\from_.length<=3)&&(decide (where_.length<=1)&&(decide (order.length<=12)&&(decide (-1<=limit)&&(items.all nM&&Dz from_)))))
theorem DA {l:List Source} {i:Nat} (h:i<l.length) (hb:nN i l[i]=false):Dz l=false:=by
 refine iJ (x:=i) (List.mem_range.2 h) ?_
 rw[aC h];exact hb
theorem Ae {l:List Source} (h:∀j (hj:j<l.length),nN j l[j]=true):Dz l=true:=List.all_eq_true.2 fun j hj=>by
 have hj:=List.mem_range.1 hj
 rw[aC hj];exact h j hj
def iK (g:Expr->Bool) (q:Query):Bool:=hdB q&&(exprsQ q).all g
def u7 (g:Expr->Bool):Expr->Bool | .mk kind op not val qual name kids sub=>aF kind op not val qual name kids.length sub.length&&(kids.all g&&sub.all (iK g))
noncomputable def fmE:Expr->Bool:=dP u7
theorem DB (l:List Expr) (g:Expr->Bool) (h:∀x∈l,Cl Tryz.prog 219 [.ag (aw x.row)] [] fun r _=>r=vb (!g x)):Cl Tryz.prog 255 [.c (.sl l.length (l.flatMap Expr.row) none),.c (.fn 219 [] [])] [] fun r _=>∃n:Int,r=vi n/\decide (0<=n) = !(l.all g):=by
 refine ai ac false Tryz.func255 rfl ae ?_
 simp only[Tryz.f255,tt,seval]
 refine fun _=>?_
 refine dLoop.intro (fun f L p=>∃i:Nat,f 8=vi i/\i<=l.length/\(∀j (hj:j<l.length),j<i->g l[j]=true)/\L=[]/\p=none) (fun f _ _=>(l.length-fH (f 8)).toNat) [] none ⟨ap _,au _,?_⟩ ?_
 ·simp only[tt,seval]
  exact⟨0,rfl,aa,fun j _ h=>absurd h (Nat.not_lt_zero _)⟩
 ·rintro g' L p ⟨i,hix,hi,hall,rfl,rfl⟩
  simp only[tt,seval] at hix
  simp only[tt,seval,hix,Int.ofNat_lt]
  refine ab (fun hlt=>?_) (fun hge=>?_)
  ·refine⟨aa,aa,_,aI aJ (aC hlt),Expr.ne _ _,?_⟩
   simp only[seval,Expr.tk,aJ]
   refine cZ (h l[i] (aM hlt)) ?_ ?_<;>simp only[tt,seval,hix]
   refine ab (fun hb=>?_) (fun hb=>?_)
   ·have hb:g l[i]=false:=by simpa only[Bool.not_eq_true'] using hb
    refine⟨vi i,[],⟨i,rfl,?_⟩,ao rfl⟩
    rw[ax aa,iJ (aM hlt) hb];rfl
   ·have hb:g l[i]=true:=by simpa only[Bool.not_eq_false'] using hb
    try rw[eR i aa]
    exact⟨_,none,ap _,au _,⟨i+1,rfl,aa,fun j hj hji=>by
     by_cases e:j=i
     ·subst e;exact hb
     ·exact hall j hj aa,rfl,rfl⟩,az⟩
  ·refine⟨vi (-1),[],⟨-1,rfl,?_⟩,ao rfl⟩
   rw[me fun j hj=>hall j hj aa];rfl
theorem xg (l:List Expr) (g:Expr->Bool) (h:∀x∈l,Cl Tryz.prog 219 [.ag (aw x.row)] [] fun r _=>r=vb (!g x)):Cl Tryz.prog 218 [.c (.sl l.length (l.flatMap Expr.row) none),.c (.fn 219 [] [])] [] fun r _=>r=vb (!(l.all g)):=by
 refine ai ac false Tryz.func218 rfl ae ?_
 simp only[Tryz.f218,tt,seval]
 refine iZ (DB l g h) ?_ ?_ ?_
 ·decide
 ·simp only[tt,seval]
 rintro r ⟨n,rfl,hn⟩
 simp only[tt,seval]
 exact⟨_,_,aT hn,ao rfl⟩
theorem DC (l:List Query) (g:Query->Bool) (h:∀x∈l,Cl Tryz.prog 210 [.ag (aw x.row)] [] fun r _=>r=vb (!g x)):Cl Tryz.prog 250 [.c (.sl l.length (l.flatMap Query.row) none),.c (.fn 210 [] [])] [] fun r _=>∃n:Int,r=vi n/\decide (0<=n) = !(l.all g):=by
 refine ai ac false Tryz.func250 rfl ae ?_
 simp only[Tryz.f250,tt,seval]
 refine fun _=>?_
 refine dLoop.intro (fun f L p=>∃i:Nat,f 8=vi i/\i<=l.length/\(∀j (hj:j<l.length),j<i->g l[j]=true)/\L=[]/\p=none) (fun f _ _=>(l.length-fH (f 8)).toNat) [] none ⟨ap _,au _,?_⟩ ?_
 ·simp only[tt,seval]
  exact⟨0,rfl,aa,fun j _ h=>absurd h (Nat.not_lt_zero _)⟩
 ·rintro g' L p ⟨i,hix,hi,hall,rfl,rfl⟩
  simp only[tt,seval] at hix
  simp only[tt,seval,hix,Int.ofNat_lt]
  refine ab (fun hlt=>?_) (fun hge=>?_)
  ·refine⟨aa,aa,_,aI Query.row_len (aC hlt),Query.ne _ _,?_⟩
   simp only[seval,Query.tk,Query.row_len]
   refine cZ (h l[i] (aM hlt)) ?_ ?_<;>simp only[tt,seval,hix]
   refine ab (fun hb=>?_) (fun hb=>?_)
   ·have hb:g l[i]=false:=by simpa only[Bool.not_eq_true'] using hb
    refine⟨vi i,[],⟨i,rfl,?_⟩,ao rfl⟩
    rw[ax aa,iJ (aM hlt) hb];rfl
   ·have hb:g l[i]=true:=by simpa only[Bool.not_eq_false'] using hb
    try rw[eR i aa]
    exact⟨_,none,ap _,au _,⟨i+1,rfl,aa,fun j hj hji=>by
     by_cases e:j=i
     ·subst e;exact hb
     ·exact hall j hj aa,rfl,rfl⟩,az⟩
  ·refine⟨vi (-1),[],⟨-1,rfl,?_⟩,ao rfl⟩
   rw[me fun j hj=>hall j hj aa];rfl
theorem xh (l:List Query) (g:Query->Bool) (h:∀x∈l,Cl Tryz.prog 210 [.ag (aw x.row)] [] fun r _=>r=vb (!g x)):Cl Tryz.prog 209 [.c (.sl l.length (l.flatMap Query.row) none),.c (.fn 210 [] [])] [] fun r _=>r=vb (!(l.all g)):=by
 refine ai ac false Tryz.func209 rfl ae ?_
 simp only[Tryz.f209,tt,seval]
 refine iZ (DC l g h) ?_ ?_ ?_
 ·decide
 ·simp only[tt,seval]
 rintro r ⟨n,rfl,hn⟩
 simp only[tt,seval]
 exact⟨_,_,aT hn,ao rfl⟩
theorem Jn (e:Expr) (b:Bool) (h:Cl Tryz.prog 127 [.ag (aw e.row)] [] fun r _=>r=vb b):Cl Tryz.prog 219 [.ag (aw e.row)] [] fun r _=>r=vb (!b):=by
 obtain⟨kind,op,not,val,qual,name,kids,sub⟩:=e
 rw[am] at h ⊢
 refine ai ac false Tryz.func219 rfl ae ?_
 simp only[Tryz.f219,tt,seval]
 refine cZ (h) ?_ ?_<;>simp only[tt,seval]
 exact⟨_,_,rfl,ao rfl⟩
theorem Jo (e:Query) (b:Bool) (h:Cl Tryz.prog 84 [.ag (aw e.row)] [] fun r _=>r=vb b):Cl Tryz.prog 210 [.ag (aw e.row)] [] fun r _=>r=vb (!b):=by
 obtain⟨distinct,items,from_,where_,order,limit⟩:=e
 rw[aG] at h ⊢
 refine ai ac false Tryz.func210 rfl ae ?_
 simp only[Tryz.f210,tt,seval]
 refine cZ (h) ?_ ?_<;>simp only[tt,seval]
 exact⟨_,_,rfl,ao rfl⟩
theorem qe (l:List Expr) (g:Expr->Bool) (h:∀x∈l,Cl Tryz.prog 127 [.ag (aw x.row)] [] fun r _=>r=vb (g x)):Cl Tryz.prog 151 [.c (.sl l.length (l.flatMap Expr.row) none)] [] fun r _=>r=vb (l.all g):=by
 refine ai ac false Tryz.func151 rfl ae ?_
 simp only[Tryz.f151,tt,seval]
 refine cZ (xg l g (fun x hx=>Jn x (g x) (h x hx))) ?_ ?_<;>simp only[tt,seval]
 exact⟨_,_,aT (Bool.not_not _),ao rfl⟩
theorem FO (e:Expr):Cl Tryz.prog 177 [.ag (aw e.row)] [] fun r _=>r=vb (mf e):=by
 obtain⟨kind,op,not,val,qual,name,kids,sub⟩:=e
 rw[am]
 refine ai ac false Tryz.func177 rfl ae ?_
 simp only[Tryz.f177,tt,seval]
 refine cZ (Dy kind op not val qual name kids sub) ?_ ?_<;>simp only[tt,seval,am,fw]
 exact⟨_,_,rfl,ao rfl⟩
set_option maxHeartbeats 4000000 in
theorem sU (kind op:Int) (not:Bool) (val:Val) (qual name:ByteArray) (kids:List Expr) (sub:List Query) (g:Expr->Bool) (hkids:∀x∈kids,Cl Tryz.prog 127 [.ag (aw x.row)] [] fun r _=>r=vb (g x)) (hsub:∀q∈sub,Cl Tryz.prog 84 [.ag (aw q.row)] [] fun r _=>r=vb (iK g q)) (hkl:kids.length<=1048576) (hsl:sub.length<=1048576):Cl Tryz.prog 127 [.ag (aw (Expr.mk kind op not val qual name kids sub).row)] [] fun r _=>r=vb (u7 g (Expr.mk kind op not val qual name kids sub)):=by
 obtain⟨zb,hzb⟩:∃zb,zb=u7 g (Expr.mk kind op not val qual name kids sub):=⟨_,rfl⟩
 rw[<-hzb,am]
 refine ai ac false Tryz.func127 rfl ae ?_
 simp only[Tryz.f127,tt,seval]
 obtain⟨nk,hnk⟩:∃nk:Int,nk=kids.length:=⟨_,rfl⟩
 obtain⟨ns,hns⟩:∃ns:Int,ns=sub.length:=⟨_,rfl⟩
 rw[u7,aF,<-hnk,<-hns] at hzb
 by_cases hk:1<=kind/\kind<=9
 case neg=>
  have hokf:cO kind op val qual name=false:=by simp only[cO];(repeat' split)<;>first|omega|(exact aB aa)
  refine cZ (xe kind op not val qual name kids sub) ?_ ?_<;>simp only[tt,seval,am,ge,hokf]
  exact⟨_,_,aT (by rw[hzb,hokf];rfl),ao rfl⟩
 have fo:=xe kind op not val qual name kids sub
 unfold ge at fo
 generalize cO kind op val qual name=okv at fo hzb
 rcases (show kind=1∨kind=2∨kind=3∨kind=4∨kind=5∨kind=6∨kind=7∨kind=8∨kind=9 by omega) with rfl|rfl|rfl|rfl|rfl|rfl|rfl|rfl|rfl
 all_goals
  refine cZ (fo) ?_ ?_<;>simp only[tt,seval,am,bQ]
  cases hok:okv
  case false=>(try simp only[tt,seval]);exact⟨_,_,aT (by clear hnk hns;rw[hzb];simp [bQ, *];try omega),ao rfl⟩
  simp only[tt,seval]
  first
   |((by_cases ho:op=0;case neg=>(try simp only[tt,seval,ho]);exact⟨_,_,aT (by clear hnk hns;rw[hzb];simp [bQ, *];try omega),ao rfl⟩);try simp only[tt,seval,ho])
   |skip
  first
   |(cases hno:not;case true=>(try simp only[tt,seval]);exact⟨_,_,aT (by clear hnk hns;rw[hzb];simp [bQ, *];try omega),ao rfl⟩);(try simp only[tt,seval])
   |skip
  first
   |(rw[ee ae (jI val)];(try simp only[tt,seval]);cases hv:zV val;case false=>(try simp only[tt,seval]);exact⟨_,_,aT (by clear hnk hns;rw[hzb];simp [bQ, *];try omega),ao rfl⟩);(try simp only[tt,seval])
   |skip
  first
   |((by_cases hq:qual=⟨#[]⟩;case neg=>(try simp only[tt,seval,hq]);exact⟨_,_,aT (by clear hnk hns;rw[hzb];simp [bQ, *];try omega),ao rfl⟩);try simp only[tt,seval,hq];(by_cases hn:name=⟨#[]⟩;case neg=>(try simp only[tt,seval,hn]);exact⟨_,_,aT (by clear hnk hns;rw[hzb];simp [bQ, *];try omega),ao rfl⟩);try simp only[tt,seval,hn])
   |skip
  refine fun _=>?_
  rw[<-hnk]
  first
   |((by_cases hlo:nk<0;case pos=>(try simp only[tt,seval,hlo]);exact⟨_,_,aT (by clear hnk hns;rw[hzb];simp [bQ, *];try omega),ao rfl⟩);try simp only[tt,seval,hlo])
   |((by_cases hlo:nk<1;case pos=>(try simp only[tt,seval,hlo]);exact⟨_,_,aT (by clear hnk hns;rw[hzb];simp [bQ, *];try omega),ao rfl⟩);try simp only[tt,seval,hlo])
   |((by_cases hlo:nk<2;case pos=>(try simp only[tt,seval,hlo]);exact⟨_,_,aT (by clear hnk hns;rw[hzb];simp [bQ, *];try omega),ao rfl⟩);try simp only[tt,seval,hlo])
   |((by_cases hlo:nk<3;case pos=>(try simp only[tt,seval,hlo]);exact⟨_,_,aT (by clear hnk hns;rw[hzb];simp [bQ, *];try omega),ao rfl⟩);try simp only[tt,seval,hlo])
  refine fun _=>?_
  try rw[<-hnk]
  first
   |((by_cases hhi:0<nk;case pos=>(try simp only[tt,seval,hhi]);exact⟨_,_,aT (by clear hnk hns;rw[hzb];simp [bQ, *];try omega),ao rfl⟩);try simp only[tt,seval,hhi])
   |((by_cases hhi:1<nk;case pos=>(try simp only[tt,seval,hhi]);exact⟨_,_,aT (by clear hnk hns;rw[hzb];simp [bQ, *];try omega),ao rfl⟩);try simp only[tt,seval,hhi])
   |((by_cases hhi:2<nk;case pos=>(try simp only[tt,seval,hhi]);exact⟨_,_,aT (by clear hnk hns;rw[hzb];simp [bQ, *];try omega),ao rfl⟩);try simp only[tt,seval,hhi])
   |((by_cases hhi:3<nk;case pos=>(try simp only[tt,seval,hhi]);exact⟨_,_,aT (by clear hnk hns;rw[hzb];simp [bQ, *];try omega),ao rfl⟩);try simp only[tt,seval,hhi])
   |((by_cases hhi:9<nk;case pos=>(try simp only[tt,seval,hhi]);exact⟨_,_,aT (by clear hnk hns;rw[hzb];simp [bQ, *];try omega),ao rfl⟩);try simp only[tt,seval,hhi])
  refine fun _=>?_
  try rw[<-hns]
  first
   |((by_cases hns0:ns=0;case neg=>(try simp only[tt,seval,hns0]);exact⟨_,_,aT (by clear hnk hns;rw[hzb];simp [bQ, *];try omega),ao rfl⟩);try simp only[tt,seval,hns0])
   |((by_cases hns0:ns=1;case neg=>(try simp only[tt,seval,hns0]);exact⟨_,_,aT (by clear hnk hns;rw[hzb];simp [bQ, *];try omega),ao rfl⟩);try simp only[tt,seval,hns0])
  refine cZ (qe kids g hkids) ?_ ?_<;>simp only[tt,seval]
  cases hka:kids.all g
  case false=>(try simp only[tt,seval]);exact⟨_,_,aT (by clear hnk hns;rw[hzb];simp [bQ, *];try omega),ao rfl⟩
  simp only[tt,seval]
  refine cZ (xh sub (iK g) (fun q hq=>Jo q (iK g q) (hsub q hq))) ?_ ?_<;>simp only[tt,seval]
  cases hsa:sub.all (iK g)
  case false=>(try simp only[tt,seval]);exact⟨_,_,aT (by clear hnk hns;rw[hzb];simp [bQ, *];try omega),ao rfl⟩
  simp only[tt,seval]
  exact⟨_,_,aT (by clear hnk hns;rw[hzb];simp [bQ, *];try omega),ao rfl⟩
theorem vg (distinct:Bool) (items:List Item) (from_:List Source) (where_:List Expr) (order:List SortKey) (limit:Int) (g:Expr->Bool) (h:¬(1<=items.length/\items.length<=12)):iK g (Query.mk distinct items from_ where_ order limit)=false:=by simp only[iK,hdB,aB h,Bool.false_and]
theorem yM (distinct:Bool) (items:List Item) (from_:List Source) (where_:List Expr) (order:List SortKey) (limit:Int) (g:Expr->Bool) (h:¬(1<=from_.length/\from_.length<=3)):iK g (Query.mk distinct items from_ where_ order limit)=false:=by simp only[iK,hdB,aB h,Bool.false_and,Bool.and_false]
theorem Af (distinct:Bool) (items:List Item) (from_:List Source) (where_:List Expr) (order:List SortKey) (limit:Int) (g:Expr->Bool) (h:¬where_.length<=1):iK g (Query.mk distinct items from_ where_ order limit)=false:=by simp only[iK,hdB,aB h,Bool.false_and,Bool.and_false]
theorem Ah (distinct:Bool) (items:List Item) (from_:List Source) (where_:List Expr) (order:List SortKey) (limit:Int) (g:Expr->Bool) (h:¬order.length<=12):iK g (Query.mk distinct items from_ where_ order limit)=false:=by simp only[iK,hdB,aB h,Bool.false_and,Bool.and_false]
theorem Ai (distinct:Bool) (items:List Item) (from_:List Source) (where_:List Expr) (order:List SortKey) (limit:Int) (g:Expr->Bool) (h:¬ -1<=limit):iK g (Query.mk distinct items from_ where_ order limit)=false:=by simp only[iK,hdB,aB h,Bool.false_and,Bool.and_false]
theorem sV (distinct:Bool) (items:List Item) (from_:List Source) (where_:List Expr) (order:List SortKey) (limit:Int) (g:Expr->Bool) {x:Item} (hm:x∈items) (h:nM x=false):iK g (Query.mk distinct items from_ where_ order limit)=false:=by simp only[iK,hdB,iJ hm h,Bool.false_and,Bool.and_false]
theorem xj (distinct:Bool) (items:List Item) (from_:List Source) (where_:List Expr) (order:List SortKey) (limit:Int) (g:Expr->Bool) {i:Nat} (hm:i<from_.length) (h:nN i from_[i]=false):iK g (Query.mk distinct items from_ where_ order limit)=false:=by simp only[iK,hdB,DA hm h,Bool.false_and,Bool.and_false]
theorem Jp (distinct:Bool) (items:List Item) (from_:List Source) (where_:List Expr) (order:List SortKey) (limit:Int) (g:Expr->Bool) (h1:1<=items.length/\items.length<=12) (h2:1<=from_.length/\from_.length<=3) (h3:where_.length<=1) (h4:order.length<=12) (h5 : -1<=limit) (h6:∀j (hj:j<items.length),nM items[j]=true) (h7:∀j (hj:j<from_.length),nN j from_[j]=true) :
 iK g (Query.mk distinct items from_ where_ order limit)=(exprsQ (Query.mk distinct items from_ where_ order limit)).all g:=by simp only[iK,hdB,ax h1,ax h2,ax h3,ax h4,ax h5,me h6,Ae h7,Bool.true_and]
set_option maxHeartbeats 1000000 in
theorem ld (q:Query) (g:Expr->Bool) (h:∀x∈exprsQ q,Cl Tryz.prog 127 [.ag (aw x.row)] [] fun r _=>r=vb (g x)) (hsz:szQuery q<=1048576):Cl Tryz.prog 84 [.ag (aw q.row)] [] fun r _=>r=vb (iK g q):=by
 obtain⟨distinct,items,from_,where_,order,limit⟩:=q
 obtain⟨zb,hzb⟩:∃zb,zb=iK g (Query.mk distinct items from_ where_ order limit):=⟨_,rfl⟩
 rw[<-hzb,aG]
 refine ai ac false Tryz.func84 rfl ae ?_
 simp only[Tryz.f84,tt,seval]
 refine fun _=>?_
 by_cases c1:(items.length:Int)<1
 case pos=>
  simp only[tt,seval,ax c1]
  exact⟨_,_,aT (by rw[hzb];exact (vg distinct items from_ where_ order limit g aa).symm),ao rfl⟩
 simp only[tt,seval,aB c1]
 refine fun _=>?_
 by_cases c2:(12:Int)<items.length
 case pos=>
  simp only[tt,seval,ax c2]
  exact⟨_,_,aT (by rw[hzb];exact (vg distinct items from_ where_ order limit g aa).symm),ao rfl⟩
 simp only[tt,seval,aB c2]
 refine fun _=>?_
 by_cases c3:(from_.length:Int)<1
 case pos=>
  simp only[tt,seval,ax c3]
  exact⟨_,_,aT (by rw[hzb];exact (yM distinct items from_ where_ order limit g aa).symm),ao rfl⟩
 simp only[tt,seval,aB c3]
 refine fun _=>?_
 by_cases c4:(3:Int)<from_.length
 case pos=>
  simp only[tt,seval,ax c4]
  exact⟨_,_,aT (by rw[hzb];exact (yM distinct items from_ where_ order limit g aa).symm),ao rfl⟩
 simp only[tt,seval,aB c4]
 refine fun _=>?_
 by_cases c5:(1:Int)<where_.length
 case pos=>
  simp only[tt,seval,ax c5]
  exact⟨_,_,aT (by rw[hzb];exact (Af distinct items from_ where_ order limit g aa).symm),ao rfl⟩
 simp only[tt,seval,aB c5]
 refine fun _=>?_
 by_cases c6:(12:Int)<order.length
 case pos=>
  simp only[tt,seval,ax c6]
  exact⟨_,_,aT (by rw[hzb];exact (Ah distinct items from_ where_ order limit g aa).symm),ao rfl⟩
 simp only[tt,seval,aB c6]
 refine ab (fun c7=>?_) (fun c7=>?_)
 ·exact⟨_,_,aT (by rw[hzb];exact (Ai distinct items from_ where_ order limit g aa).symm),ao rfl⟩
 ·try simp only[tt,seval]
  refine fun _=>?_
  refine dLoop.intro (fun f L p=>∃i:Nat,f 49=vi i/\i<=items.length/\(∀j (hj:j<items.length),j<i->nM items[j]=true)/\L=[(1,.str [.v (.bool distinct),.sl items.length (items.flatMap Item.row) none,.sl from_.length (from_.flatMap Source.row) none,.sl where_.length (where_.flatMap Expr.row) none,.sl order.length (order.flatMap SortKey.row) none,.v (.int .i64 limit)])]/\p=none) (fun f _ _=>(items.length-fH (f 49)).toNat) [(1,.str [.v (.bool distinct),.sl items.length (items.flatMap Item.row) none,.sl from_.length (from_.flatMap Source.row) none,.sl where_.length (where_.flatMap Expr.row) none,.sl order.length (order.flatMap SortKey.row) none,.v (.int .i64 limit)])] none ⟨ak rfl (ap _),au _,?_⟩ ?_
  ·simp only[tt,seval]
   exact⟨0,rfl,aa,fun j _ h=>absurd h (Nat.not_lt_zero _)⟩
  ·rintro g' L p ⟨i,ix,hi,hall,rfl,rfl⟩
   simp only[tt,seval] at ix
   simp only[tt,seval,ix,Int.ofNat_lt]
   refine ab (fun hlt=>?_) (fun hge=>?_)
   ·have hlt:i<items.length:=by omega
    obtain⟨it,bu⟩:∃it,it=items[i]:=⟨_,rfl⟩
    refine⟨aa,aa,_,aI Item.row_len (aC hlt),Item.ne _ _,?_⟩
    obtain⟨star,qual,⟨k,o,n,v,q,m,ks,ss⟩,as_⟩:=it
    rw[<-bu,Item.row_mk,am]
    simp only[tt,seval]
    cases star
    case true=>
     simp only[tt,seval]
     refine cZ (yL qual) ?_ ?_<;>simp only[tt,seval]
     cases hm:dc qual
     case false=>
      simp only[tt,seval]
      exact⟨_,_,aT (by rw[hzb];exact (sV distinct items from_ where_ order limit g (bu▸aM hlt) (by simp [nM,hm])).symm),ao rfl⟩
     simp only[tt,seval]
     by_cases ha:as_=⟨#[]⟩
     case neg=>
      simp only[tt,seval,aB ha]
      exact⟨_,_,aT (by rw[hzb];exact (sV distinct items from_ where_ order limit g (bu▸aM hlt) (by simp [nM,hm,ha])).symm),ao rfl⟩
     simp only[tt,seval,ax ha]
     refine cZ (FO (Expr.mk k o n v q m ks ss)) ?_ ?_<;>simp only[tt,seval,am]
     cases hz:eg k o n v q m ks.length ss.length
     case false=>
      simp only[tt,seval,mf,hz]
      exact⟨_,_,aT (by rw[hzb];exact (sV distinct items from_ where_ order limit g (bu▸aM hlt) (by simp [nM,hm,ha,mf,hz])).symm),ao rfl⟩
     simp only[tt,seval,mf,hz,ix]
     try rw[eR i aa]
     exact⟨_,none,ak rfl (ap _),au _,⟨i+1,rfl,aa,fun j hj hji=>by
      by_cases e:j=i
      ·subst e;rw[<-bu];simp [nM,hm,ha,mf,hz]
      ·exact hall j hj aa,rfl,rfl⟩,az⟩
    case false=>
     simp only[tt,seval]
     by_cases hq:qual=⟨#[]⟩
     case neg=>
      simp only[tt,seval,aB hq]
      exact⟨_,_,aT (by rw[hzb];exact (sV distinct items from_ where_ order limit g (bu▸aM hlt) (by simp [nM,hq])).symm),ao rfl⟩
     simp only[tt,seval,ax hq]
     refine cZ (yL as_) ?_ ?_<;>simp only[tt,seval,ix]
     cases hm:dc as_
     case false=>
      simp only[tt,seval]
      exact⟨_,_,aT (by rw[hzb];exact (sV distinct items from_ where_ order limit g (bu▸aM hlt) (by simp [nM,hm])).symm),ao rfl⟩
     simp only[tt,seval]
     try rw[eR i aa]
     exact⟨_,none,ak rfl (ap _),au _,⟨i+1,rfl,aa,fun j hj hji=>by
      by_cases e:j=i
      ·subst e;rw[<-bu];simp [nM,hm,hq]
      ·exact hall j hj aa,rfl,rfl⟩,az⟩
   ·have hall:=fun j hj=>hall j hj aa
    have hall1:=hall
    clear hall
    refine fun _=>?_
    refine dLoop.intro (fun f L p=>∃i:Nat,f 92=vi i/\i<=from_.length/\(∀j (hj:j<from_.length),j<i->nN j from_[j]=true)/\L=[(1,.str [.v (.bool distinct),.sl items.length (items.flatMap Item.row) none,.sl from_.length (from_.flatMap Source.row) none,.sl where_.length (where_.flatMap Expr.row) none,.sl order.length (order.flatMap SortKey.row) none,.v (.int .i64 limit)])]/\p=none) (fun f _ _=>(from_.length-fH (f 92)).toNat) [(1,.str [.v (.bool distinct),.sl items.length (items.flatMap Item.row) none,.sl from_.length (from_.flatMap Source.row) none,.sl where_.length (where_.flatMap Expr.row) none,.sl order.length (order.flatMap SortKey.row) none,.v (.int .i64 limit)])] none ⟨ak rfl (ap _),au _,?_⟩ ?_
    ·simp only[tt,seval]
     exact⟨0,rfl,aa,fun j _ h=>absurd h (Nat.not_lt_zero _)⟩
    ·rintro g' L p ⟨i,ix,hi,hall,rfl,rfl⟩
     simp only[tt,seval] at ix
     simp only[tt,seval,ix,Int.ofNat_lt]
     refine ab (fun hlt=>?_) (fun hge=>?_)
     ·have hlt:i<from_.length:=by omega
      obtain⟨it,bu⟩:∃it,it=from_[i]:=⟨_,rfl⟩
      refine⟨aa,aa,_,aI Source.row_len (aC hlt),Source.ne _ _,?_⟩
      obtain⟨table,as_,on⟩:=it
      rw[<-bu,Source.row_mk]
      simp only[tt,seval]
      refine cZ (jL table) ?_ ?_<;>simp only[tt,seval]
      cases hnb:decide (1<=table.size/\table.size<=20)
      case false=>
       simp only[tt,seval]
       exact⟨_,_,aT (by rw[hzb];exact (xj distinct items from_ where_ order limit g hlt (by rw[<-bu];simp [nN,bJ,hnb])).symm),ao rfl⟩
      simp only[tt,seval]
      refine cZ (yL as_) ?_ ?_<;>simp only[tt,seval]
      cases hm:dc as_
      case false=>
       simp only[tt,seval]
       exact⟨_,_,aT (by rw[hzb];exact (xj distinct items from_ where_ order limit g hlt (by rw[<-bu];simp [nN,bJ,hnb,hm])).symm),ao rfl⟩
      simp only[tt,seval]
      refine fun _=>?_
      by_cases c8:(1:Int)<on.length
      case pos=>
       simp only[tt,seval,ax c8]
       exact⟨_,_,aT (by rw[hzb];exact (xj distinct items from_ where_ order limit g hlt (by rw[<-bu];simp only[nN,aB (show ¬on.length<=1 by omega),Bool.false_and,Bool.and_false])).symm),ao rfl⟩
      simp only[tt,seval,aB c8]
      by_cases c9:(i:Int)=0
      case neg=>
       simp only[tt,seval,c9,ix]
       try rw[eR i aa]
       exact⟨_,none,ak rfl (ap _),au _,⟨i+1,rfl,aa,fun j hj hji=>by
        by_cases e:j=i
        ·subst e;rw[<-bu];simp only[nN,bJ,hnb,hm,ax (show on.length<=1 by omega),ax (show ¬j=0 by omega),Bool.true_and,Bool.true_or]
        ·exact hall j hj aa,rfl,rfl⟩,az⟩
      simp only[tt,seval,ax c9,ix]
      refine fun _=>?_
      refine ab (fun Jl=>?_) (fun Jl=>?_)
      ·exact⟨_,_,aT (by rw[hzb];exact (xj distinct items from_ where_ order limit g hlt (by rw[<-bu];simp only[nN,aB (show ¬ ¬i=0 by omega),aB (show ¬on.length=0 by omega),Bool.or_false,Bool.and_false])).symm),ao rfl⟩
      ·have hi0:i=0:=by omega
       try rw[eR i aa]
       exact⟨_,none,ak rfl (ap _),au _,⟨i+1,rfl,aa,fun j hj hji=>by
        by_cases e:j=i
        ·subst e;rw[<-bu];simp only[nN,bJ,hnb,hm,ax (show on.length<=1 by omega),ax (show on.length=0 by omega),Bool.true_and,Bool.or_true]
        ·exact hall j hj aa,rfl,rfl⟩,az⟩
     ·have hall:=fun j hj=>hall j hj aa
      refine cZ (rY distinct items from_ where_ order limit hsz) ?_ ?_<;>simp only[tt,seval,aG]
      refine cZ (qe (exprsQ (Query.mk distinct items from_ where_ order limit)) g h) ?_ ?_<;>simp only[tt,seval]
      exact⟨_,_,aT (by rw[hzb,Jp distinct items from_ where_ order limit g ⟨aa,aa⟩ ⟨aa,aa⟩ aa aa aa hall1 hall]),ao rfl⟩
set_option maxHeartbeats 1000000 in
theorem mh (q:Query) (g:Expr->Bool) (h:∀x∈exprsQ q,Cl Tryz.prog 98 [.ag (aw x.row)] [] fun r _=>r=vb (g x)) (hsz:szQuery q<=1048576):Cl Tryz.prog 39 [.ag (aw q.row)] [] fun r _=>r=vb (iK g q):=by
 obtain⟨distinct,items,from_,where_,order,limit⟩:=q
 obtain⟨zb,hzb⟩:∃zb,zb=iK g (Query.mk distinct items from_ where_ order limit):=⟨_,rfl⟩
 rw[<-hzb,aG]
 refine ai ac false Tryz.func39 rfl ae ?_
 simp only[Tryz.f39,tt,seval]
 refine fun _=>?_
 refine cZ (dv items.length 1 12) ?_ ?_<;>simp only[tt,seval]
 by_cases c1:(1:Int)<=items.length/\(items.length:Int)<=12
 case neg=>
  simp only[tt,seval,aB c1]
  exact⟨_,_,aT (by rw[hzb];exact (vg distinct items from_ where_ order limit g aa).symm),ao rfl⟩
 simp only[tt,seval,ax c1]
 refine fun _=>?_
 refine cZ (dv from_.length 1 3) ?_ ?_<;>simp only[tt,seval]
 by_cases c2:(1:Int)<=from_.length/\(from_.length:Int)<=3
 case neg=>
  simp only[tt,seval,aB c2]
  exact⟨_,_,aT (by rw[hzb];exact (yM distinct items from_ where_ order limit g aa).symm),ao rfl⟩
 simp only[tt,seval,ax c2]
 refine fun _=>?_
 by_cases c5:(1:Int)<where_.length
 case pos=>
  simp only[tt,seval,ax c5]
  exact⟨_,_,aT (by rw[hzb];exact (Af distinct items from_ where_ order limit g aa).symm),ao rfl⟩
 simp only[tt,seval,aB c5]
 refine fun _=>?_
 by_cases c6:(12:Int)<order.length
 case pos=>
  simp only[tt,seval,ax c6]
  exact⟨_,_,aT (by rw[hzb];exact (Ah distinct items from_ where_ order limit g aa).symm),ao rfl⟩
 simp only[tt,seval,aB c6]
 refine ab (fun c7=>?_) (fun c7=>?_)
 ·exact⟨_,_,aT (by rw[hzb];exact (Ai distinct items from_ where_ order limit g aa).symm),ao rfl⟩
 ·try simp only[tt,seval]
  refine dLoop.intro (fun f L p=>∃i:Nat,f 3=vi i/\i<=items.length/\(∀j (hj:j<items.length),j<i->nM items[j]=true)/\L=[(1,.str [.v (.bool distinct),.sl items.length (items.flatMap Item.row) none,.sl from_.length (from_.flatMap Source.row) none,.sl where_.length (where_.flatMap Expr.row) none,.sl order.length (order.flatMap SortKey.row) none,.v (.int .i64 limit)])]/\p=none) (fun f _ _=>(items.length-fH (f 3)).toNat) [(1,.str [.v (.bool distinct),.sl items.length (items.flatMap Item.row) none,.sl from_.length (from_.flatMap Source.row) none,.sl where_.length (where_.flatMap Expr.row) none,.sl order.length (order.flatMap SortKey.row) none,.v (.int .i64 limit)])] none ⟨ak rfl (ap _),au _,?_⟩ ?_
  ·simp only[tt,seval]
   exact⟨0,rfl,aa,fun j _ h=>absurd h (Nat.not_lt_zero _)⟩
  ·rintro g' L p ⟨i,ix,hi,hall,rfl,rfl⟩
   simp only[tt,seval] at ix
   simp only[tt,seval,ix,Int.ofNat_lt]
   refine fun _=>?_
   refine ab (fun hlt=>?_) (fun hge=>?_)
   ·have hlt:i<items.length:=by omega
    obtain⟨it,bu⟩:∃it,it=items[i]:=⟨_,rfl⟩
    refine⟨aa,aa,_,aI Item.row_len (aC hlt),Item.ne _ _,?_⟩
    obtain⟨star,qual,⟨k,o,n,v,q,m,ks,ss⟩,as_⟩:=it
    rw[<-bu,Item.row_mk,am]
    simp only[tt,seval]
    cases star
    case true=>
     simp only[tt,seval]
     refine cZ (mH qual) ?_ ?_<;>simp only[tt,seval]
     cases hm:dc qual
     case false=>
      simp only[tt,seval]
      exact⟨_,_,aT (by rw[hzb];exact (sV distinct items from_ where_ order limit g (bu▸aM hlt) (by simp [nM,hm])).symm),ao rfl⟩
     simp only[tt,seval]
     by_cases ha:as_=⟨#[]⟩
     case neg=>
      simp only[tt,seval,aB ha]
      exact⟨_,_,aT (by rw[hzb];exact (sV distinct items from_ where_ order limit g (bu▸aM hlt) (by simp [nM,hm,ha])).symm),ao rfl⟩
     simp only[tt,seval,ax ha]
     refine cZ (FN k o n v q m ks ss) ?_ ?_<;>simp only[tt,seval,am,fw]
     cases hz:eg k o n v q m ks.length ss.length
     case false=>
      simp only[tt,seval]
      exact⟨_,_,aT (by rw[hzb];exact (sV distinct items from_ where_ order limit g (bu▸aM hlt) (by simp [nM,hm,ha,mf,hz])).symm),ao rfl⟩
     simp only[tt,seval,ix]
     try rw[eR i aa]
     exact⟨_,none,ak rfl (ap _),au _,⟨i+1,rfl,aa,fun j hj hji=>by
      by_cases e:j=i
      ·subst e;rw[<-bu];simp [nM,hm,ha,mf,hz]
      ·exact hall j hj aa,rfl,rfl⟩,az⟩
    case false=>
     simp only[tt,seval]
     by_cases hq:qual=⟨#[]⟩
     case neg=>
      simp only[tt,seval,aB hq]
      exact⟨_,_,aT (by rw[hzb];exact (sV distinct items from_ where_ order limit g (bu▸aM hlt) (by simp [nM,hq])).symm),ao rfl⟩
     simp only[tt,seval,ax hq]
     refine cZ (mH as_) ?_ ?_<;>simp only[tt,seval,ix]
     cases hm:dc as_
     case false=>
      simp only[tt,seval]
      exact⟨_,_,aT (by rw[hzb];exact (sV distinct items from_ where_ order limit g (bu▸aM hlt) (by simp [nM,hm])).symm),ao rfl⟩
     simp only[tt,seval]
     try rw[eR i aa]
     exact⟨_,none,ak rfl (ap _),au _,⟨i+1,rfl,aa,fun j hj hji=>by
      by_cases e:j=i
      ·subst e;rw[<-bu];simp [nM,hm,hq]
      ·exact hall j hj aa,rfl,rfl⟩,az⟩
   ·have hall:=fun j hj=>hall j hj aa
    have hall1:=hall
    clear hall
    refine dLoop.intro (fun f L p=>∃i:Nat,f 5=vi i/\i<=from_.length/\(∀j (hj:j<from_.length),j<i->nN j from_[j]=true)/\L=[(1,.str [.v (.bool distinct),.sl items.length (items.flatMap Item.row) none,.sl from_.length (from_.flatMap Source.row) none,.sl where_.length (where_.flatMap Expr.row) none,.sl order.length (order.flatMap SortKey.row) none,.v (.int .i64 limit)])]/\p=none) (fun f _ _=>(from_.length-fH (f 5)).toNat) [(1,.str [.v (.bool distinct),.sl items.length (items.flatMap Item.row) none,.sl from_.length (from_.flatMap Source.row) none,.sl where_.length (where_.flatMap Expr.row) none,.sl order.length (order.flatMap SortKey.row) none,.v (.int .i64 limit)])] none ⟨ak rfl (ap _),au _,?_⟩ ?_
    ·simp only[tt,seval]
     exact⟨0,rfl,aa,fun j _ h=>absurd h (Nat.not_lt_zero _)⟩
    ·rintro g' L p ⟨i,ix,hi,hall,rfl,rfl⟩
     simp only[tt,seval] at ix
     simp only[tt,seval,ix,Int.ofNat_lt]
     refine fun _=>?_
     refine ab (fun hlt=>?_) (fun hge=>?_)
     ·have hlt:i<from_.length:=by omega
      obtain⟨it,bu⟩:∃it,it=from_[i]:=⟨_,rfl⟩
      refine⟨aa,aa,_,aI Source.row_len (aC hlt),Source.ne _ _,?_⟩
      obtain⟨table,as_,on⟩:=it
      rw[<-bu,Source.row_mk]
      simp only[tt,seval]
      refine cZ (jK table) ?_ ?_<;>simp only[tt,seval]
      cases hnb:decide (1<=table.size/\table.size<=20)
      case false=>
       simp only[tt,seval]
       exact⟨_,_,aT (by rw[hzb];exact (xj distinct items from_ where_ order limit g hlt (by rw[<-bu];simp [nN,bJ,hnb])).symm),ao rfl⟩
      simp only[tt,seval]
      refine cZ (mH as_) ?_ ?_<;>simp only[tt,seval]
      cases hm:dc as_
      case false=>
       simp only[tt,seval]
       exact⟨_,_,aT (by rw[hzb];exact (xj distinct items from_ where_ order limit g hlt (by rw[<-bu];simp [nN,bJ,hnb,hm])).symm),ao rfl⟩
      simp only[tt,seval]
      refine fun _=>?_
      by_cases c8:(1:Int)<on.length
      case pos=>
       simp only[tt,seval,ax c8]
       exact⟨_,_,aT (by rw[hzb];exact (xj distinct items from_ where_ order limit g hlt (by rw[<-bu];simp only[nN,aB (show ¬on.length<=1 by omega),Bool.false_and,Bool.and_false])).symm),ao rfl⟩
      simp only[tt,seval,aB c8,ix]
      by_cases c9:(i:Int)=0
      case neg=>
       simp only[tt,seval,c9,ix]
       try rw[eR i aa]
       exact⟨_,none,ak rfl (ap _),au _,⟨i+1,rfl,aa,fun j hj hji=>by
        by_cases e:j=i
        ·subst e;rw[<-bu];simp only[nN,bJ,hnb,hm,ax (show on.length<=1 by omega),ax (show ¬j=0 by omega),Bool.true_and,Bool.true_or]
        ·exact hall j hj aa,rfl,rfl⟩,az⟩
      simp only[tt,seval,ax c9,ix]
      refine fun _=>?_
      refine ab (fun Jl=>?_) (fun Jl=>?_)
      ·exact⟨_,_,aT (by rw[hzb];exact (xj distinct items from_ where_ order limit g hlt (by rw[<-bu];simp only[nN,aB (show ¬ ¬i=0 by omega),aB (show ¬on.length=0 by omega),Bool.or_false,Bool.and_false])).symm),ao rfl⟩
      ·have hi0:i=0:=by omega
       try rw[eR i aa]
       exact⟨_,none,ak rfl (ap _),au _,⟨i+1,rfl,aa,fun j hj hji=>by
        by_cases e:j=i
        ·subst e;rw[<-bu];simp only[nN,bJ,hnb,hm,ax (show on.length<=1 by omega),ax (show on.length=0 by omega),Bool.true_and,Bool.or_true]
        ·exact hall j hj aa,rfl,rfl⟩,az⟩
     ·have hall:=fun j hj=>hall j hj aa
      have hq:=Jp distinct items from_ where_ order limit g ⟨aa,aa⟩ ⟨aa,aa⟩ aa aa aa hall1 hall
      have hql:=fj (Query.mk distinct items from_ where_ order limit)
      refine cZ (pH distinct items from_ where_ order limit hsz) ?_ ?_<;>simp only[tt,seval,aG]
      rw[hq] at hzb
      generalize exprsQ (Query.mk distinct items from_ where_ order limit)=l at *
      refine dLoop.intro (fun f L p=>∃i:Nat,f 8=vi i/\i<=l.length/\(∀j (hj:j<l.length),j<i->g l[j]=true)/\L=[(1,.str [.v (.bool distinct),.sl items.length (items.flatMap Item.row) none,.sl from_.length (from_.flatMap Source.row) none,.sl where_.length (where_.flatMap Expr.row) none,.sl order.length (order.flatMap SortKey.row) none,.v (.int .i64 limit)])]/\p=none) (fun f _ _=>(l.length-fH (f 8)).toNat) [(1,.str [.v (.bool distinct),.sl items.length (items.flatMap Item.row) none,.sl from_.length (from_.flatMap Source.row) none,.sl where_.length (where_.flatMap Expr.row) none,.sl order.length (order.flatMap SortKey.row) none,.v (.int .i64 limit)])] none ⟨ak rfl (ap _),au _,?_⟩ ?_
      ·simp only[tt,seval]
       exact⟨0,rfl,aa,fun j _ h=>absurd h (Nat.not_lt_zero _)⟩
      ·rintro g' L p ⟨i,ix,hi,hal,rfl,rfl⟩
       simp only[tt,seval] at ix
       simp only[tt,seval,ix,Int.ofNat_lt]
       refine fun _=>ab (fun hlt=>?_) (fun hge=>?_)
       ·have hlt:i<l.length:=by omega
        refine⟨aa,aa,_,aI aJ (aC hlt),Expr.ne _ _,?_⟩
        simp only[seval,Expr.tk,aJ]
        refine cZ (h l[i] (aM hlt)) ?_ ?_<;>simp only[tt,seval,ix]
        refine ab (fun hb=>?_) (fun hb=>?_)
        ·have hb:g l[i]=false:=by simpa only[Bool.not_eq_true'] using hb
         exact⟨_,_,aT (by rw[hzb];exact (iJ (aM hlt) hb).symm),ao rfl⟩
        ·have hb:g l[i]=true:=by simpa only[Bool.not_eq_false'] using hb
         try rw[eR i aa]
         exact⟨_,none,ak rfl (ap _),au _,⟨i+1,rfl,aa,fun j hj hji=>by
          by_cases e:j=i
          ·subst e;exact hb
          ·exact hal j hj aa,rfl,rfl⟩,az⟩
       ·exact⟨_,_,aT (by rw[hzb];exact (me fun j hj=>hal j hj aa).symm),ao rfl⟩
theorem gE {n:Nat} {l:List D} (h:l.length=n):fQ n l=some l:=by
 have:=cT (r:=[]) h
 rwa[List.append_nil] at this
theorem DD {kind op:Int} {not:Bool} {val:Val} {qual name:ByteArray} {nk ns:Int} (h:aF kind op not val qual name nk ns=true):ns<=1:=by
 simp only[aF,Bool.and_eq_true,decide_eq_true_eq] at h
 have h:=h.2.2.2.2.2.2
 rw[h];unfold bQ;(repeat' split)<;>decide
theorem vh (kind op:Int) (not:Bool) (val:Val) (qual name:ByteArray) (kids:List Expr) (sub:List Query) (g:Expr->Bool) (hg:∀x,eX x (Expr.mk kind op not val qual name kids sub)->Cl Tryz.prog 98 [.ag (aw x.row)] [] fun r _=>r=vb (g x)) (hsz:szExpr (Expr.mk kind op not val qual name kids sub)<=1048576):Cl Tryz.prog 98 [.ag (aw (Expr.mk kind op not val qual name kids sub).row)] [] fun r _=>r=vb (u7 g (Expr.mk kind op not val qual name kids sub)):=by
 have hks:=hsz
 rw[bh,aP,bO] at hks
 obtain⟨zb,hzb⟩:∃zb,zb=u7 g (Expr.mk kind op not val qual name kids sub):=⟨_,rfl⟩
 rw[<-hzb]
 have e:u7 g (Expr.mk kind op not val qual name kids sub)=(aF kind op not val qual name kids.length sub.length&&(kids.all g&&sub.all (iK g))):=rfl
 rw[e] at hzb
 rw[am]
 refine ai ac false Tryz.func98 rfl ae ?_
 simp only[Tryz.f98,tt,seval]
 refine cZ (Bq kind op not val qual name kids sub aa aa) ?_ ?_<;>simp only[tt,seval,am]
 cases hb:aF kind op not val qual name kids.length sub.length
 case false=>
  simp only[tt,seval]
  exact⟨_,_,aT (by rw[hzb,hb];rfl),ao rfl⟩
 have hns:=DD hb
 rw[hb,Bool.true_and] at hzb
 simp only[tt,seval]
 refine dLoop.intro (fun f L p=>∃i:Nat,f 3=vi i/\i<=kids.length/\(∀j (hj:j<kids.length),j<i->g kids[j]=true)/\L=[(1,.str [.v (.int .i64 kind),.v (.int .i64 op),.v (.bool not),.v (.int .i64 val.kind),.v (.int .i64 val.num),.v (.string val.text),.v (.string qual),.v (.string name),.sl kids.length (kids.flatMap Expr.row) none,.sl sub.length (sub.flatMap Query.row) none])]/\p=none) (fun f _ _=>(kids.length-fH (f 3)).toNat) [(1,.str [.v (.int .i64 kind),.v (.int .i64 op),.v (.bool not),.v (.int .i64 val.kind),.v (.int .i64 val.num),.v (.string val.text),.v (.string qual),.v (.string name),.sl kids.length (kids.flatMap Expr.row) none,.sl sub.length (sub.flatMap Query.row) none])] none ⟨ak rfl (ap _),au _,?_⟩ ?_
 ·simp only[tt,seval]
  exact⟨0,rfl,aa,fun j _ h=>absurd h (Nat.not_lt_zero _)⟩
 ·rintro g' L p ⟨i,ix,hi,hal,rfl,rfl⟩
  simp only[tt,seval] at ix
  simp only[tt,seval,ix,Int.ofNat_lt]
  refine fun _=>ab (fun hlt=>?_) (fun hge=>?_)
  ·have hlt:i<kids.length:=by omega
   refine⟨aa,aa,_,aI aJ (aC hlt),Expr.ne _ _,?_⟩
   simp only[seval,Expr.tk,aJ]
   refine cZ (hg kids[i] (.inl (aM hlt))) ?_ ?_<;>simp only[tt,seval,ix]
   refine ab (fun hb=>?_) (fun hb=>?_)
   ·have hb:g kids[i]=false:=by simpa only[Bool.not_eq_true'] using hb
    exact⟨_,_,aT (by rw[hzb,iJ (aM hlt) hb];rfl),ao rfl⟩
   ·have hb:g kids[i]=true:=by simpa only[Bool.not_eq_false'] using hb
    try rw[eR i aa]
    exact⟨_,none,ak rfl (ap _),au _,⟨i+1,rfl,aa,fun j hj hji=>by
     by_cases e:j=i
     ·subst e;exact hb
     ·exact hal j hj aa,rfl,rfl⟩,az⟩
  ·rw[me fun j hj=>hal j hj aa,Bool.true_and] at hzb
   refine fun _=>?_
   rcases sub with _|⟨q,_|⟨q2,rest⟩⟩
   ·simp only[tt,seval]
    exact⟨_,_,aT (by rw[hzb];rfl),ao rfl⟩
   ·simp only[tt,seval]
    refine⟨q.row++[],by simp,Query.ne _ _,?_⟩
    simp only[tt,seval,gE (Query.row_len q),Query.row_len]
    refine cZ (mh q g (fun x hx=>hg x (.inr ⟨q,by show q∈[q];simp,hx⟩)) (Nat.le_trans (lH (e:=(Expr.mk kind op not val qual name kids [q])) (by show q∈[q];simp)) hsz)) ?_ ?_<;>simp only[tt,seval]
    exact⟨_,_,aT (by rw[hzb];simp),ao rfl⟩
   ·simp only[List.length_cons] at hns;omega
theorem Br (e:Expr):szExpr e<=1048576->Cl Tryz.prog 98 [.ag (aw e.row)] [] fun r _=>r=vb (fmE e):=by
 refine iF (P:=fun e b=>szExpr e<=1048576->Cl Tryz.prog 98 [.ag (aw e.row)] [] fun r _=>r=vb b) (fun e g hg hsz=>?_) e
 obtain⟨kind,op,not,val,qual,name,kids,sub⟩:=e
 exact vh kind op not val qual name kids sub g (fun x hx=>hg x hx (Nat.le_trans (gN hx) hsz)) hsz
theorem yN (e:Expr):szExpr e<=1048576->Cl Tryz.prog 127 [.ag (aw e.row)] [] fun r _=>r=vb (fmE e):=by
 refine iF (P:=fun e b=>szExpr e<=1048576->Cl Tryz.prog 127 [.ag (aw e.row)] [] fun r _=>r=vb b) (fun e g hg hsz=>?_) e
 obtain⟨kind,op,not,val,qual,name,kids,sub⟩:=e
 have hks:=hsz
 rw[bh,aP,bO] at hks
 have hg:=fun x hx=>hg x hx (Nat.le_trans (gN hx) hsz)
 exact sU kind op not val qual name kids sub g (fun x hx=>hg x (.inl hx)) (fun q hq=>ld q g (fun x hx=>hg x (.inr ⟨q,hq,hx⟩)) (Nat.le_trans (lH (e:=(Expr.mk kind op not val qual name kids sub)) hq) hsz)) aa aa
theorem Bt (d n:Nat):Cl Tryz.prog 81 [vi d,vi n] [] fun r _=>r=vb (decide (d<=24)&&decide (n<=200)):=by
 refine ai ac false Tryz.func81 rfl ae ?_
 simp only[Tryz.f81,tt,seval]
 by_cases h1:(d:Int)<=24
 ·simp only[tt,seval,ax h1]
  exact⟨_,_,aT (by rw[ax (show d<=24 by omega),Bool.true_and];exact decide_eq_decide.2 aa),ao rfl⟩
 ·simp only[tt,seval,aB h1]
  exact⟨_,_,aT (by rw[aB (show ¬d<=24 by omega)];rfl),ao rfl⟩
theorem ll:(∀a b:List Tok,(a++b).length=a.length+b.length)/\(∀(t:Tok) (a:List Tok),(t::a).length=a.length+1)/\([]:List Tok).length=0:=⟨fun _ _=>aD,fun _ _=>List.length_cons,rfl⟩
def kT (k:Nat):Tok:=⟨1,kw k,0⟩
def gT (s:ByteArray):Tok:=⟨5,s,0⟩
def nT (s:ByteArray):Tok:=⟨2,s,0⟩
def iT (n:Int):Tok:=⟨3,df n,0⟩
def jb:Tok:=gT ⟨#[40]⟩
def je:Tok:=gT ⟨#[41]⟩
def dM:Tok:=gT ⟨#[44]⟩
def IU:Tok:=gT ⟨#[46]⟩
def DE:Tok:=gT ⟨#[42]⟩
def eP (v:Val):Tok:=if v.kind=1 then iT v.num else if v.kind=2 then ⟨4,v.text,0⟩ else if v.kind=3 then (if v.num=1 then kT 21 else kT 22) else kT 20
def cE (op:Int):Tok:=⟨if op=1∨op=2∨op=15 then 1 else 5,j8 op,0⟩
def cA (q:ByteArray):List Tok:=if q=⟨#[]⟩ then [] else [nT q,IU]
def cP (a:ByteArray):List Tok:=if a=⟨#[]⟩ then [] else [kT 12,nT a]
def bA (b:Bool):List Tok:=if b=true then [kT 15] else []
def kf (w:Bool) (l:List Tok):List Tok:=if w=true then jb::(l++[je]) else l
def zeroX:Expr:=.mk 0 0 false ⟨0,0,⟨#[]⟩⟩ ⟨#[]⟩ ⟨#[]⟩ [] []
def Bu (full:Bool) (kind op:Int) (kids:List Expr) (k:Nat):Bool:=l4 kind op kids k||(full&&decide (lC (kids.getD k zeroX)<9))
def aO (full:Bool) (g:Expr->List Tok) (kind op:Int) (kids:List Expr) (k:Nat):List Tok:=kf (Bu full kind op kids k) (g (kids.getD k zeroX))
def bf (f:Nat->List Tok) (n:Nat):List Tok:=(List.range n).flatMap f
theorem dd (f:Nat->List Tok) (n:Nat):bf f (n+1)=bf f n++f n:=by
 unfold bf
 rw[List.range_succ,List.flatMap_append];simp
theorem Bv (f:Nat->List Tok) {k m:Nat} (h:k<=m):(bf f k).length<=(bf f m).length:=by
 induction m with
 |zero=>rw[Nat.le_zero.1 h];exact Nat.le_refl _
 |succ m ih=>
  by_cases e:k=m+1
  ·subst e;exact Nat.le_refl _
  ·rw[dd,aD];exact Nat.le_trans (ih aa) (Nat.le_add_right _ _)
theorem jv (f:Nat->List Tok) {k m:Nat} (h:k<m):(bf f k).length+(f k).length<=(bf f m).length:=by
 have:=Bv f (show k+1<=m from h)
 rwa[dd,aD] at this
def qz {α:Type} (l:List α) (h:α->List Tok) (i:Nat):List Tok:=match l[i]? with|some x=>h x|none=>[]
theorem dX {α:Type} {l:List α} {h:α->List Tok} {i:Nat} (hi:i<l.length):qz l h i=h l[i]:=by rw[qz,aC hi]
def kg (i:Nat):List Tok:=if 0<i then [dM] else []
def cH (g:Expr->List Tok):Item->List Tok | .mk star qual e as_=>if star=true then cA qual++[DE] else g e++cP as_
def sc (g:Expr->List Tok):List Expr->List Tok | []=>[]|e::_=>kT 5::g e
def fK (g:Expr->List Tok) (i:Nat):Source->List Tok | .mk table as_ on=>(if 0<i then (if 0<on.length then [kT 4] else [dM]) else [])++(nT table::(cP as_++sc g on))
def nS (g:Expr->List Tok):List Expr->List Tok | []=>[]|e::_=>kT 6::g e
def j3 (g:Expr->List Tok):SortKey->List Tok | .mk e desc=>g e++(if desc=true then [kT 10] else [])
def jg (n:Int):List Tok:=if 0<=n then [kT 11,iT n] else []
def dk (g:Expr->List Tok) (items:List Item) (i:Nat):List Tok:=kg i++qz items (cH g) i
def dO (g:Expr->List Tok) (from_:List Source) (i:Nat):List Tok:=qz from_ (fK g i) i
def eU (g:Expr->List Tok) (order:List SortKey) (i:Nat):List Tok:=(if i=0 then [kT 7,kT 8] else [dM])++qz order (j3 g) i
def dL (g:Expr->List Tok):Query->List Tok
 |.mk distinct items from_ where_ order limit=>
  kT 1::((if distinct=true then [kT 2] else [])++(bf (dk g items) items.length++(kT 3::(bf (dO g from_) from_.length++(nS g where_++(bf (eU g order) order.length++jg limit))))))
def lf (g:Expr->List Tok):List Query->List Tok | []=>[]|q::_=>dL g q
def oX (full:Bool) (g:Expr->List Tok) (kind op:Int) (kids:List Expr) (j:Nat):List Tok:=kg j++aO full g kind op kids (j+1)
def jc (full:Bool) (g:Expr->List Tok):Expr->List Tok
 |.mk kind op not val qual name kids sub=>
  if kind=1 then [eP val] else if kind=2 then cA qual++[nT name] else if kind=3 then cE op::aO full g kind op kids 0 else if kind=9 then kT 19::jb::(lf g sub++[je]) else
  aO full g kind op kids 0++(if kind=4 then cE op::aO full g kind op kids 1 else if kind=5 then kT 16::(bA not++[kT 20]) else if kind=6 then bA not++(kT 18::(aO full g kind op kids 1++(kT 13::aO full g kind op kids 2))) else
   bA not++(kT 17::jb::((if kind=8 then lf g sub else bf (oX full g kind op kids) (kids.length-1))++[je])))
noncomputable def dG (full:Bool):Expr->List Tok:=dP (jc full)
def Expr.not:Expr->Bool | .mk _ _ n _ _ _ _ _=>n
def Query.lim:Query->Int | .mk _ _ _ _ _ l=>l
inductive Rg:Expr->Prop
 |mk {kind op:Int} {not:Bool} {val:Val} {qual name:ByteArray} {kids:List Expr} {sub:List Query}:(-9223372036854775808<=val.num/\val.num<=9223372036854775807)->(∀k,k∈kids->Rg k)->(∀q,q∈sub->q.lim<=9223372036854775807)->(∀q,q∈sub->∀x,x∈exprsQ q->Rg x)->Rg (.mk kind op not val qual name kids sub)
def xO (q:Query):Prop:=q.lim<=9223372036854775807/\∀x,x∈exprsQ q->Rg x
theorem Rg.num {kind op:Int} {not:Bool} {val:Val} {qual name:ByteArray} {kids:List Expr} {sub:List Query} (h:Rg (.mk kind op not val qual name kids sub)) : -9223372036854775808<=val.num/\val.num<=9223372036854775807:=by cases h;assumption
theorem qL {x e:Expr} (h:Rg e) (hb:eX x e):Rg x:=by
 cases h with
 |mk h1 h2 h3 h4=>
  rcases hb with hb|⟨q,hq,hb⟩
  ·exact h2 x hb
  ·exact h4 q hq x hb
theorem vj {q:Query} {e:Expr} (h:Rg e) (hq:q∈e.sub):xO q:=by
 cases h with
 |mk h1 h2 h3 h4=>exact⟨h3 q hq,h4 q hq⟩
theorem kQ {α β γ:Type} [Inhabited α] [Inhabited β] [Inhabited γ] {F1:(Expr->α)->Expr->α} {F2:(Expr->β)->Expr->β} {F3:(Expr->γ)->Expr->γ} {P:Expr->α->β->γ->Prop}
 (h:∀e g1 g2 g3,(∀x,eX x e->P x (g1 x) (g2 x) (g3 x))->P e (F1 g1 e) (F2 g2 e) (F3 g3 e)) (e:Expr):P e (dP F1 e) (dP F2 e) (dP F3 e):=by
 suffices H:∀n:Nat,∀e:Expr,SizeOf.sizeOf e<n->P e (dP F1 e) (dP F2 e) (dP F3 e) from H _ e (Nat.lt_succ_self _)
 intro n
 induction n with
 |zero=>exact fun _ h=>absurd h (Nat.not_lt_zero _)
 |succ n ih=>
  intro e he
  rw[dP,dP,dP]
  refine h e _ _ _ fun x hx=>?_
  have:=lG hx
  simp only[dif_pos this]
  exact ih x aa
theorem xk:∀k:Nat,(kw k).size<=40:=fun k=>by
 by_cases h:k<29
 ·exact (by decide:∀k:Fin 29,(kw k.1).size<=40) ⟨k,h⟩
 ·have:kw k=⟨#[]⟩:=by
   unfold kw
   rw[List.getD_eq_getElem?_getD,List.getElem?_eq_none (by show 29<=k;omega)];rfl
  rw[this];decide
theorem dz (k:Nat):(kT k).text.size<=40:=xk k
theorem ua (op:Int):(j8 op).size<=40:=by
 unfold j8
 split
 ·rename_i h
  have e:op.toNat<17:=by omega
  exact (by decide:∀k:Fin 17,(Hb.getD k.1 ⟨#[]⟩).size<=40) ⟨op.toNat,e⟩
 ·decide
theorem qg {n:Int} (h0 : -9223372036854775808<=n) (h1:n<=9223372036854775807):(df n).size<=40:=by
 have:=qT h0 h1
 show ((Lib.itoa n).toArray).size<=40
 rw[List.size_toArray];omega
def Sm (n:Nat) (l:List Tok):Prop:=l.length<=n/\∀t∈l,t.text.size<=40
theorem Sm.nil:Sm 0 []:=⟨Nat.le_refl _,fun t h=>by cases h⟩
theorem Sm.cons {n:Nat} {t:Tok} {l:List Tok} (h:t.text.size<=40) (hl:Sm n l):Sm (n+1) (t::l):=⟨by simp;exact hl.1,fun x hx=>by
 rcases List.mem_cons.1 hx with rfl|hx
 ·exact h
 ·exact hl.2 x hx⟩
theorem Sm.app {n m:Nat} {a b:List Tok} (h:Sm n a) (k:Sm m b):Sm (n+m) (a++b):=⟨by rw[aD];have:=h.1;have:=k.1;omega,fun x hx=>by
 rcases List.mem_append.1 hx with hx|hx
 ·exact h.2 x hx
 ·exact k.2 x hx⟩
theorem Sm.le {n m:Nat} {l:List Tok} (h:Sm n l) (k:n<=m):Sm m l:=⟨Nat.le_trans h.1 k,h.2⟩
theorem Sm.one {t:Tok} (h:t.text.size<=40):Sm 1 [t]:=Sm.cons h Sm.nil
theorem Sm.ite {c:Prop} [Decidable c] {n:Nat} {a b:List Tok} (h:Sm n a) (k:Sm n b):Sm n (if c then a else b):=by split<;>assumption
theorem Sm.seq {f:Nat->List Tok} {b:Nat->Nat} {n:Nat} (h:∀i,i<n->Sm (b i) (f i)):Sm (((List.range n).map b).sum) (bf f n):=by
 induction n with
 |zero=>exact Sm.nil
 |succ n ih=>
  rw[dd,List.range_succ,List.map_append,List.sum_append,List.map_singleton,List.sum_singleton]
  exact (ih fun i hi=>h i aa).app (h n aa)
def se {α:Type} (d:α->Nat):Option α->Nat
 |some x=>d x
 |none=>0
theorem mI {α:Type} (l:List α) (c:Nat) (d:α->Nat):((List.range l.length).map fun i=>c+se (fun x=>d x) l[i]?).sum=c*l.length+(l.map d).sum:=by
 have e:∀l:List α,(List.range l.length).map (fun i=>c+se (fun x=>d x) l[i]?)=l.map fun x=>c+d x:=by
  intro l
  refine List.ext_getElem (by simp) fun i h1 h2=>?_
  simp only[List.length_map,List.length_range] at h1
  simp [h1,se]
 rw[e]
 induction l with
 |nil=>simp
 |cons x r ih=>simp only[List.map_cons,List.sum_cons,List.length_cons,ih,Nat.mul_add];omega
theorem Ig {v:Val} (h:jH v=true) (hr : -9223372036854775808<=v.num/\v.num<=9223372036854775807):(eP v).text.size<=40:=by
 simp only[jH,Bool.and_eq_true,decide_eq_true_eq] at h
 unfold eP
 split
 ·exact qg hr.1 hr.2
 ·split
  ·exact h.2.2
  ·split
   ·split<;>exact dz _
   ·exact dz _
theorem Aj {q:ByteArray} (h:dc q=true):Sm 2 (cA q):=by
 unfold cA
 split
 ·exact Sm.nil.le aa
 ·rename_i hq
  simp only[dc,bJ,Bool.or_eq_true,decide_eq_true_eq,hq,false_or] at h
  exact Sm.cons (by show q.size<=40;omega) (Sm.one ah)
theorem GV {q:ByteArray} (h:dc q=true):Sm 2 (cP q):=by
 unfold cP
 split
 ·exact Sm.nil.le aa
 ·rename_i hq
  simp only[dc,bJ,Bool.or_eq_true,decide_eq_true_eq,hq,false_or] at h
  exact Sm.cons (dz _) (Sm.one (by show q.size<=40;omega))
theorem vk (b:Bool):Sm 1 (bA b):=Sm.ite (Sm.one (dz _)) (Sm.nil.le aa)
theorem Ih {w:Bool} {n:Nat} {l:List Tok} (h:Sm n l):Sm (n+2) (kf w l):=Sm.ite ((Sm.cons ah (h.app (Sm.one ah))).le aa) (h.le aa)
theorem xm {kind op:Int} {not:Bool} {val:Val} {qual name:ByteArray} {nk ns:Int} (h:aF kind op not val qual name nk ns=true) :
 cO kind op val qual name=true/\((bQ kind).2.2.2.2.1<=nk/\nk<=(bQ kind).2.2.2.2.2.1)/\ns=(bQ kind).2.2.2.2.2.2:=by
 simp only[aF,Bool.and_eq_true,decide_eq_true_eq] at h
 exact⟨h.1,h.2.2.2.2.2.1,h.2.2.2.2.2.2⟩
theorem jw {kind op:Int} {not:Bool} {val:Val} {qual name:ByteArray} {nk ns:Int} (h:aF kind op not val qual name nk ns=true) :
 (kind=1/\jH val=true/\nk=0/\ns=0)∨(kind=2/\bJ name=true/\dc qual=true/\nk=0/\ns=0)∨(kind=3/\(op=15∨op=16)/\nk=1/\ns=0)∨(kind=4/\(1<=op/\op<=14)/\nk=2/\ns=0)∨(kind=5/\nk=1/\ns=0)∨(kind=6/\nk=3/\ns=0)∨(kind=7/\(2<=nk/\nk<=9)/\ns=0)∨(kind=8/\nk=1/\ns=1)∨(kind=9/\nk=0/\ns=1):=by
 obtain⟨h1,h6,h7⟩:=xm h
 clear h
 by_cases k1:kind=1
 ·subst k1;exact .inl ⟨rfl,h1,by have:0<=nk/\nk<=0:=h6;omega,h7⟩
 by_cases k2:kind=2
 ·subst k2
  have h1:(bJ name&&dc qual)=true:=h1
  simp only[Bool.and_eq_true] at h1
  exact .inr (.inl ⟨rfl,h1.1,h1.2,by have:0<=nk/\nk<=0:=h6;omega,h7⟩)
 by_cases k3:kind=3
 ·subst k3
  have h1:(decide (op=15)||decide (op=16))=true:=h1
  simp only[Bool.or_eq_true,decide_eq_true_eq] at h1
  exact .inr (.inr (.inl ⟨rfl,h1,by have:1<=nk/\nk<=1:=h6;omega,h7⟩))
 by_cases k4:kind=4
 ·subst k4
  have h1:decide (1<=op/\op<=14)=true:=h1
  simp only[decide_eq_true_eq] at h1
  exact .inr (.inr (.inr (.inl ⟨rfl,h1,by have:2<=nk/\nk<=2:=h6;omega,h7⟩)))
 simp only[cO,if_neg k1,if_neg k2,if_neg k3,if_neg k4,decide_eq_true_eq] at h1
 rcases (show kind=5∨kind=6∨kind=7∨kind=8∨kind=9 by omega) with rfl|rfl|rfl|rfl|rfl
 ·exact .inr (.inr (.inr (.inr (.inl ⟨rfl,by have:1<=nk/\nk<=1:=h6;omega,h7⟩))))
 ·exact .inr (.inr (.inr (.inr (.inr (.inl ⟨rfl,by have:3<=nk/\nk<=3:=h6;omega,h7⟩)))))
 ·exact .inr (.inr (.inr (.inr (.inr (.inr (.inl ⟨rfl,h6,h7⟩))))))
 ·exact .inr (.inr (.inr (.inr (.inr (.inr (.inr (.inl ⟨rfl,by have:1<=nk/\nk<=1:=h6;omega,h7⟩)))))))
 ·exact .inr (.inr (.inr (.inr (.inr (.inr (.inr (.inr ⟨rfl,by have:0<=nk/\nk<=0:=h6;omega,h7⟩)))))))
theorem kh {gf:Expr->Bool} {kind op:Int} {not:Bool} {val:Val} {qual name:ByteArray} {kids:List Expr} {sub:List Query} (h:u7 gf (.mk kind op not val qual name kids sub)=true) :
 aF kind op not val qual name kids.length sub.length=true/\(∀x∈kids,gf x=true)/\∀q∈sub,iK gf q=true:=by
 simp only[u7,Bool.and_eq_true,List.all_eq_true] at h
 exact h
theorem eQ {gf:Expr->Bool} {distinct:Bool} {items:List Item} {from_:List Source} {where_:List Expr} {order:List SortKey} {limit:Int} (h:iK gf (.mk distinct items from_ where_ order limit)=true) :
 (1<=items.length/\items.length<=12)/\(1<=from_.length/\from_.length<=3)/\where_.length<=1/\order.length<=12 /\ -1<=limit/\(∀x∈items,nM x=true)/\(∀i (hi:i<from_.length),nN i from_[i]=true)/\∀x∈exprsQ (.mk distinct items from_ where_ order limit),gf x=true:=by
 simp only[iK,hdB,Bool.and_eq_true,List.all_eq_true,decide_eq_true_eq] at h
 obtain⟨⟨h1,h2,h3,h4,h5,h6,h7⟩,h8⟩:=h
 refine⟨h1,h2,h3,h4,h5,h6,fun i hi=>?_,h8⟩
 have:=List.all_eq_true.1 h7 i (List.mem_range.2 hi)
 rwa[aC hi] at this
theorem jx {α:Type} {l:List α} (h:(l.length:Int)=1):∃a,l=[a]:=by
 match l,h with
 | [a],_=>exact⟨a,rfl⟩
 | [],h=>simp at h
 |_::_::_,h=>simp at h;omega
theorem mT {α:Type} {l:List α} (h:(l.length:Int)=0):l=[]:=List.eq_nil_of_length_eq_zero aa
theorem GX {α:Type} {l:List α} (h:(l.length:Int)=2):∃a b,l=[a,b]:=by
 match l,h with
 | [a,b],_=>exact⟨a,b,rfl⟩
 | [],h=>simp at h
 | [_],h=>simp at h
 |_::_::_::_,h=>simp at h;omega
theorem GY {α:Type} {l:List α} (h:(l.length:Int)=3):∃a b c,l=[a,b,c]:=by
 match l,h with
 | [a,b,c],_=>exact⟨a,b,c,rfl⟩
 | [],h=>simp at h
 | [_],h=>simp at h
 | [_,_],h=>simp at h
 |_::_::_::_::_,h=>simp at h;omega
section
variable {gn:Expr->Nat} {g:Expr->List Tok}
def dI (gn:Expr->Nat) (x:Item):Nat:=if x.star=true then 0 else 150*gn x.e
theorem FP {x:Item} (hx:nM x=true) (h:x.star=false->Sm (150*gn x.e) (g x.e)):Sm (3+dI gn x) (cH g x):=by
 obtain⟨star,qual,e,as_⟩:=x
 cases star with
 |true=>
  simp only[nM,if_true,Bool.and_eq_true] at hx
  show Sm _ (cA qual++[DE])
  exact ((Aj hx.1).app (Sm.one ah)).le (Nat.le_add_right _ _)
 |false=>
  simp only[nM,Bool.false_eq_true,if_false,Bool.and_eq_true] at hx
  show Sm (3+150*gn e) (g e++cP as_)
  exact ((h rfl).app (GV hx.2)).le (by show 150*gn e+2<=_;omega)
theorem DF:∀l:List Item,(l.map (dI gn)).sum=150*((aU l).map gn).sum
 | []=>rfl
 |.mk s q e a::r=>by
  have ih:=DF r
  cases s with
  |true=>
   have h:aU (.mk true q e a::r)=aU r:=rfl
   rw[h,<-ih,List.map_cons,List.sum_cons]
   show 0+_=_;omega
  |false=>
   have h:aU (.mk false q e a::r)=e::aU r:=rfl
   rw[h,List.map_cons,List.sum_cons,List.map_cons,List.sum_cons,Nat.mul_add,<-ih]
   rfl
theorem Jq {l:List Expr} (h:∀x∈l,Sm (150*gn x) (g x)):Sm (1+150*(l.map gn).sum) (sc g l):=by
 cases l with
 |nil=>exact Sm.nil.le (Nat.zero_le _)
 |cons e r=>exact (Sm.cons (dz _) (h e (by simp))).le (by rw[List.map_cons,List.sum_cons];omega)
theorem Jr {l:List Expr} (h:∀x∈l,Sm (150*gn x) (g x)):Sm (1+150*(l.map gn).sum) (nS g l):=by
 cases l with
 |nil=>exact Sm.nil.le (Nat.zero_le _)
 |cons e r=>exact (Sm.cons (dz _) (h e (by simp))).le (by rw[List.map_cons,List.sum_cons];omega)
theorem Ii {x:Source} {i:Nat} (hx:nN i x=true) (h:∀y∈x.on,Sm (150*gn y) (g y)):Sm (5+150*(x.on.map gn).sum) (fK g i x):=by
 obtain⟨table,as_,on⟩:=x
 simp only[nN,Bool.and_eq_true,bJ,decide_eq_true_eq] at hx
 show Sm (5+150*(on.map gn).sum) ((if 0<i then (if 0<on.length then [kT 4] else [dM]) else [])++(nT table::(cP as_++sc g on)))
 exact ((Sm.ite (Sm.ite (Sm.one (dz _)) (Sm.one ah)) (Sm.nil.le aa:Sm 1 [])).app (Sm.cons (by show table.size<=40;omega) ((GV hx.2.1).app (Jq (l:=on) h)))).le aa
theorem FQ {x:SortKey} (h:Sm (150*gn x.e) (g x.e)):Sm (1+150*gn x.e) (j3 g x):=by
 obtain⟨e,desc⟩:=x
 exact (Sm.app h (Sm.ite (Sm.one (dz _)) (Sm.nil.le aa:Sm 1 []))).le (by show 150*gn e+1<=1+150*gn e;omega)
theorem FR (l:List Source):(l.map fun x=>150*(x.on.map gn).sum).sum=150*((l.flatMap Source.on).map gn).sum:=by
 induction l with
 |nil=>rfl
 |cons x r ih=>rw[List.map_cons,List.sum_cons,ih,List.flatMap_cons,List.map_append,List.sum_append,Nat.mul_add]
theorem Al {α:Type} (c:Nat) (f:α->Nat) (l:List α):(l.map fun x=>c*f x).sum=c*(l.map f).sum:=by
 induction l with
 |nil=>rfl
 |cons x r ih=>rw[List.map_cons,List.sum_cons,ih,List.map_cons,List.sum_cons,Nat.mul_add]
theorem Ij {gf:Expr->Bool} {q:Query} (hq:iK gf q=true) (hl:q.lim<=9223372036854775807) (h:∀x∈exprsQ q,Sm (150*gn x) (g x)):Sm (105+150*((exprsQ q).map gn).sum) (dL g q):=by
 obtain⟨distinct,items,from_,where_,order,limit⟩:=q
 obtain⟨⟨_,a1⟩,⟨_,a2⟩,a3,a4,a5,a6,a7,_⟩:=eQ hq
 have hl:limit<=9223372036854775807:=hl
 have e:exprsQ (.mk distinct items from_ where_ order limit)=aU items++from_.flatMap Source.on++where_++order.map SortKey.e:=rfl
 rw[e] at h ⊢
 have s1:Sm _ (bf (dk g items) items.length):=Sm.seq (b:=fun i=>4+se (fun x=>dI gn x) items[i]?) fun i hi=>by
  have hm:=aM hi
  have:=FP (gn:=gn) (g:=g) (a6 _ hm) fun hs=>h _ (by
   simp only[List.mem_append,aU,List.mem_map,List.mem_filter]
   exact .inl (.inl (.inl ⟨_,⟨hm,by rw[hs];rfl⟩,rfl⟩)))
  show Sm _ (kg i++qz items (cH g) i)
  rw[dX hi]
  simp only[aC hi,se]
  exact ((Sm.ite (Sm.one ah) (Sm.nil.le aa:Sm 1 [])).app this).le aa
 have s2:Sm _ (bf (dO g from_) from_.length):=Sm.seq (b:=fun i=>5+se (fun x=>150*(x.on.map gn).sum) from_[i]?) fun i hi=>by
  have hm:=aM hi
  have:=Ii (gn:=gn) (g:=g) (a7 _ hi) fun y hy=>h _ (by
   simp only[List.mem_append,List.mem_flatMap]
   exact .inl (.inl (.inr ⟨_,hm,hy⟩)))
  show Sm _ (qz from_ (fK g i) i)
  rw[dX hi]
  simp only[aC hi,se]
  exact this
 have s3:Sm _ (bf (eU g order) order.length):=Sm.seq (b:=fun i=>3+se (fun x=>150*gn x.e) order[i]?) fun i hi=>by
  have hm:=aM hi
  have:=FQ (gn:=gn) (g:=g) (x:=order[i]) (h _ (by
   simp only[List.mem_append,List.mem_map]
   exact .inr ⟨_,hm,rfl⟩))
  show Sm _ ((if i=0 then [kT 7,kT 8] else [dM])++qz order (j3 g) i)
  rw[dX hi]
  simp only[aC hi,se]
  exact ((Sm.ite (Sm.cons (dz _) (Sm.one (dz _))) ((Sm.one ah).le aa)).app this).le aa
 rw[mI items 4 (dI gn),DF] at s1
 rw[mI from_ 5 (fun x=>150*(x.on.map gn).sum),FR] at s2
 rw[mI order 3 (fun x=>150*gn x.e),show (fun x:SortKey=>150*gn x.e)=(fun x=>150*(fun y:SortKey=>gn y.e) x) from rfl,Al] at s3
 have s4:Sm (1+150*(where_.map gn).sum) (nS g where_):=Jr fun x hx=>h x (by simp [hx])
 have s5:Sm 2 (jg limit):=by
  unfold jg
  split
  ·exact Sm.cons (dz _) (Sm.one (qg aa hl))
  ·exact Sm.nil.le aa
 have e2:((order.map SortKey.e).map gn).sum=(order.map fun y:SortKey=>gn y.e).sum:=by rw[List.map_map];rfl
 rw[List.map_append,List.map_append,List.map_append,List.sum_append,List.sum_append,List.sum_append,e2]
 exact (Sm.cons (dz _) ((Sm.ite (Sm.one (dz _)) (Sm.nil.le aa:Sm 1 [])).app (s1.app (Sm.cons (dz _) (s2.app (s4.app (s3.app s5))))))).le aa
theorem FT {full:Bool} {gf:Expr->Bool} {e:Expr} (hf:u7 gf e=true) (hr:Rg e) (h:∀x,eX x e->gf x=true->Rg x->Sm (150*gn x) (g x)):Sm (150*Ab gn e) (jc full g e):=by
 have hb:∀x,eX x e->Rg x:=fun x hx=>qL hr hx
 have hsub:∀q∈e.sub,q.lim<=9223372036854775807:=fun q hq=>(vj hr hq).1
 obtain⟨kind,op,not,val,qual,name,kids,sub⟩:=e
 have hnum:=hr.num
 obtain⟨hs,hk,hq⟩:=kh hf
 have hkid:∀k (hk':k<kids.length),Sm (150*gn kids[k]+2) (aO full g kind op kids k):=fun k hk'=>by
  have hm:=aM hk'
  rw[aO,List.getD_eq_getElem?_getD,aC hk']
  exact Ih (h _ (.inl hm) (hk _ hm) (hb _ (.inl hm)))
 have hqs:∀q∈sub,Sm (105+150*((exprsQ q).map gn).sum) (dL g q):=fun q hm=>Ij (hq q hm) (hsub q hm) fun x hx=>by
  obtain⟨d,it,fr,wh,od,li⟩:=q
  exact h x (.inr ⟨_,hm,hx⟩) ((eQ (hq _ hm)).2.2.2.2.2.2.2 x hx) (hb _ (.inr ⟨_,hm,hx⟩))
 have en:Ab gn (.mk kind op not val qual name kids sub)=1+(kids.map gn).sum+(sub.map fun q=>((exprsQ q).map gn).sum).sum:=rfl
 rw[en]
 rcases jw hs with⟨rfl,hl,hk0,hs0⟩|⟨rfl,hn,hm,hk0,hs0⟩|⟨rfl,ho,hk0,hs0⟩|⟨rfl,ho,hk0,hs0⟩|⟨rfl,hk0,hs0⟩|⟨rfl,hk0,hs0⟩|⟨rfl,hk0,hs0⟩|⟨rfl,hk0,hs0⟩|⟨rfl,hk0,hs0⟩
 ·show Sm _ [eP val]
  exact (Sm.one (Ig hl hnum)).le aa
 ·show Sm _ (cA qual++[nT name])
  simp only[bJ,decide_eq_true_eq] at hn
  exact ((Aj hm).app (Sm.one (by show name.size<=40;omega))).le aa
 ·obtain⟨a,rfl⟩:=jx hk0
  show Sm _ (cE op::aO full g 3 op [a] 0)
  have k0:=hkid 0 (by simp)
  exact (Sm.cons (ua _) k0).le (by simp;omega)
 ·obtain⟨a,b,rfl⟩:=GX hk0
  show Sm _ (aO full g 4 op [a,b] 0++(cE op::aO full g 4 op [a,b] 1))
  have k0:=hkid 0 (by simp)
  have k1:=hkid 1 (by simp)
  exact (k0.app (Sm.cons (ua _) k1)).le (by simp;omega)
 ·obtain⟨a,rfl⟩:=jx hk0
  show Sm _ (aO full g 5 op [a] 0++(kT 16::(bA not++[kT 20])))
  have k0:=hkid 0 (by simp)
  exact (k0.app (Sm.cons (dz _) ((vk _).app (Sm.one (dz _))))).le (by simp;omega)
 ·obtain⟨a,b,c,rfl⟩:=GY hk0
  show Sm _ (aO full g 6 op [a,b,c] 0++(bA not++(kT 18::(aO full g 6 op [a,b,c] 1++(kT 13::aO full g 6 op [a,b,c] 2)))))
  have k0:=hkid 0 (by simp)
  have k1:=hkid 1 (by simp)
  have k2:=hkid 2 (by simp)
  exact (k0.app ((vk _).app (Sm.cons (dz _) (k1.app (Sm.cons (dz _) k2))))).le (by simp;omega)
 ·obtain⟨a,r,rfl⟩:∃a r,kids=a::r:=by
   cases kids with
   |nil=>simp at hk0
   |cons a r=>exact⟨a,r,rfl⟩
  show Sm _ (aO full g 7 op (a::r) 0++(bA not++(kT 17::jb::(bf (oX full g 7 op (a::r)) r.length++[je]))))
  have k0:=hkid 0 (by simp)
  have s1:Sm _ (bf (oX full g 7 op (a::r)) r.length):=Sm.seq (b:=fun i=>3+se (fun x=>150*gn x) r[i]?) fun i hi=>by
   have k1:=hkid (i+1) (by simpa using hi)
   simp only[aC hi,se]
   exact ((Sm.ite (Sm.one ah) (Sm.nil.le aa:Sm 1 [])).app k1).le (by simp;omega)
  rw[mI r 3 (fun x=>150*gn x),Al] at s1
  have hr8:r.length<=8:=by simp at hk0;omega
  exact (k0.app ((vk _).app (Sm.cons (dz _) (Sm.cons ah (s1.app (Sm.one ah)))))).le (by simp;omega)
 ·obtain⟨a,rfl⟩:=jx hk0
  obtain⟨q,rfl⟩:=jx hs0
  show Sm _ (aO full g 8 op [a] 0++(bA not++(kT 17::jb::(dL g q++[je]))))
  have k0:=hkid 0 (by simp)
  have s1:=hqs q (by simp)
  exact (k0.app ((vk _).app (Sm.cons (dz _) (Sm.cons ah (s1.app (Sm.one ah)))))).le (by simp;omega)
 ·obtain⟨q,rfl⟩:=jx hs0
  show Sm _ (kT 19::jb::(dL g q++[je]))
  have s1:=hqs q (by simp)
  exact (Sm.cons (dz _) (Sm.cons ah (s1.app (Sm.one ah)))).le (by simp;omega)
end
theorem DH (full:Bool) (e:Expr):fmE e=true->Rg e->Sm (150*ndE e) (dG full e):=
 kQ (F1:=u7) (F2:=Ab) (F3:=jc full) (P:=fun e f n t=>f=true->Rg e->Sm (150*n) t) (fun e gf gn g hg hf hr=>FT hf hr hg) e
theorem sf (c:UInt8) (s:ByteArray):(kz c s).size<=2*s.size+2:=by
 have:=kA c s.data.toList
 rw[aK] at this
 show ((c::(bL c s.data.toList++[c])).toArray).size<=_
 rw[List.size_toArray,List.length_cons,aD,List.length_singleton];omega
theorem FU {t:Tok} (h:t.text.size<=40):(eZ t).size<=300:=by
 have h2:=sf 34 t.text
 have h3:=sf 39 t.text
 unfold eZ mO
 (repeat' split)<;>first|omega|exact Nat.zero_le _
theorem Ik {l:List Tok} {n:Nat} (h:Sm n l) (i:Nat):(jn l i).length<=400:=by
 unfold jn
 split
 ·rename_i hi
  have:=FU (h.2 _ (aM hi))
  rw[aD,aK]
  split<;>simp<;>omega
 ·simp
theorem DI {l:List Tok} {n:Nat} (h:Sm n l) (hn:n<=100000):(fZ l l.length).length<=50000000:=by
 suffices H:∀k,(fZ l k).length<=400*k from Nat.le_trans (H _) (by have:=h.1;omega)
 intro k
 induction k with
 |zero=>exact Nat.zero_le _
 |succ k ih=>rw[fh,aD];have:=Ik h k;omega
theorem jh {A B C E:Prop} (k:E) (a:A:=by kernel_rfl) (b:B:=by simp only[maxLen];(try simp only[ll] at *);omega) (c:C:=by (try simp only[ll] at *);omega):A/\(B/\C)/\E:=⟨a,⟨b,c⟩,k⟩
theorem ar {p:Prop} (h:p:=by (try simp only[ll] at *);omega):p:=h
end Go.Proofs.YtdmomaomffhidaaGreatDoor
