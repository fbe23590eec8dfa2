/-
  Statements in order.
  Conditions: none.
-/
import Derived.Test.YteffjmaadkkmeaaGreatDoorRPF2
set_option linter.unusedVariables false
set_option linter.unusedSimpArgs false
set_option linter.unusedSectionVars false
set_option maxRecDepth 8000
namespace Go.Proofs.YteffjmaadkkmeaaGreatDoor
open Go Go.Dv
open Go.Vc (D cY d3 cN bk)
def Stmt.query:Stmt->Query | .mk _ q _ _ _ _ _=>q
def aT:Stmt->List Expr | .mk _ q _ rows _ sets w=>exprsQ q++rows.flatMap ERow.l++sets++w
theorem rP {α β:Type} (f:α->List β) {l:List α} {i:Nat} (h:i<l.length):(l.take (i+1)).flatMap f=(l.take i).flatMap f++f l[i]:=by
 rw[List.take_succ_eq_append_getElem h,List.flatMap_append];simp
theorem lX {α β:Type} (f:α->List β) (l:List α) (i:Nat):((l.take i).flatMap f).length<=(l.flatMap f).length:=by
 conv=>rhs;rw[<-List.take_append_drop i l]
 rw[List.flatMap_append,aA];omega
theorem kV (l:List ERow):(l.flatMap ERow.l).length+l.length<=gD l:=by
 rw[ee]
 induction l with
 |nil=>simp
 |cons x r ih=>
  rw[List.flatMap_cons,aA,List.length_cons,List.map_cons,List.sum_cons,fJ,az]
  omega
theorem yR (distinct:Bool) (items:List Item) (from_:List Source) (where_:List Expr) (order:List SortKey) (limit:Int) (hsz:aP (Query.mk distinct items from_ where_ order limit)<=1048576):Cl Tryz.prog 182 [.ag (av (Query.mk distinct items from_ where_ order limit).row)] [] fun r _=>r = .c (.ow 29 (exprsQ (Query.mk distinct items from_ where_ order limit)).length ((exprsQ (Query.mk distinct items from_ where_ order limit)).flatMap Expr.row) none):=by
 have hlen:=cA (Query.mk distinct items from_ where_ order limit)
 have q0:exprsQ (Query.mk distinct items from_ where_ order limit)=aN items++from_.flatMap Source.on++where_++order.map SortKey.e:=rfl
 rw[q0] at hlen ⊢
 simp only[aA,List.length_map] at hlen
 have htot:=Nat.le_trans hlen hsz
 have hil:=bY items
 rw[dc,db,cc,az,bK] at hsz
 rw[ar]
 refine ae ab false Tryz.func182 rfl (by kernel_rfl) ?_
 simp only[Tryz.f182,tt,seval]
 refine dLoop.gh [.ren 7 30] ⟨by decide,by decide,?_⟩
 refine dLoop0.intro (fun f L p=>∃(i:Nat) (es:List Expr),f 4=vi i/\f 3 = .c (.s 30 es.length)/\i<=items.length/\es=aN (items.take i)/\L=[(1,.str [.v (.bool distinct),.sl items.length (items.flatMap Item.row) none,.sl from_.length (from_.flatMap Source.row) none,.sl where_.length (where_.flatMap Expr.row) none,.sl order.length (order.flatMap SortKey.row) none,.v (.int .i64 limit)]),(30,.arr 29 es.length (es.flatMap Expr.row) none)]/\p=none) (fun f _ _=>(items.length-aU (f 4)).toNat) [(1,.str [.v (.bool distinct),.sl items.length (items.flatMap Item.row) none,.sl from_.length (from_.flatMap Source.row) none,.sl where_.length (where_.flatMap Expr.row) none,.sl order.length (order.flatMap SortKey.row) none,.v (.int .i64 limit)]),(30,.arr 29 0 [] none)] none ⟨ac rfl (ac rfl (ak _)),al _,?_⟩ ?_
 ·simp only[tt,seval]
  exact⟨0,[],rfl,rfl,by omega,rfl,rfl⟩
 ·rintro g L p ⟨i,es,hi4,h3,hi,hes,rfl,rfl⟩
  simp only[tt,seval] at hi4 h3
  simp only[tt,seval,hi4,Int.ofNat_lt]
  refine fun _=>?_
  refine aa (fun hlt=>?_) (fun hge=>?_)
  ·have hlt:i<items.length:=by omega
   have hst:=im hlt
   have hel:es.length<=items.length:=by rw[hes];exact Nat.le_trans (bY _) (by rw[List.length_take];omega)
   have hei:es.length<=i:=by rw[hes];exact Nat.le_trans (bY _) (by rw[List.length_take];omega)
   obtain⟨it,b5⟩:∃it,it=items[i]:=⟨_,rfl⟩
   rw[<-b5] at hst
   refine⟨by omega,by omega,_,aF Item.row_len (ay hlt),Item.ne _ _,?_⟩
   obtain⟨star,qual,⟨k,o,n,v,q,m,ks,ss⟩,as_⟩:=it
   rw[<-b5,Item.row_mk,ah]
   simp only[tt,seval,hi4,h3,Int.ofNat_lt]
   refine aa (fun hs=>?_) (fun hs=>?_)
   ·have hs:star=false:=by simpa only[Bool.not_eq_true'] using hs
    refine⟨by omega,by omega,_,aF Item.row_len (ay hlt),Item.ne _ _,?_⟩
    rw[<-b5,Item.row_mk,ah]
    simp only[tt,seval,hi4]
    refine⟨by kernel_rfl,⟨by simp only[maxLen];omega,by omega⟩,?_⟩
    have e:es.flatMap Expr.row++[int k,int o,bool n,int v.kind,int v.num,str v.text,str q,str m,.sl ks.length (ks.flatMap Expr.row),.sl ss.length (ss.flatMap Query.row)]=(es++[Expr.mk k o n v q m ks ss]).flatMap Expr.row:=by rw[List.flatMap_append];simp [ah]
    have e2:es.length+1=(es++[Expr.mk k o n v q m ks ss]).length:=by simp
    rw[e,e2]
    try rw[dk i (by omega)]
    exact⟨_,none,ac rfl (ac rfl (ak _)),al _,⟨i+1,_,rfl,rfl,by omega,by rw[hst,hes];subst hs;rfl,rfl,rfl⟩,by simp only[aU];omega⟩
   ·have hs:star=true:=by simpa only[Bool.not_eq_false'] using hs
    try rw[dk i (by omega)]
    exact⟨_,none,ac rfl (ac rfl (ak _)),al _,⟨i+1,es,rfl,rfl,by omega,by rw[hst,hes];subst hs;simp [Item.star],rfl,rfl⟩,by simp only[aU];omega⟩
  ·have hie:i=items.length:=by omega
   subst hie
   rw[List.take_length] at hes
   subst hes
   refine dLoop.gh [.ren 30 45] ⟨by decide,by decide,?_⟩
   refine dLoop0.intro (fun f L p=>∃(i:Nat) (es:List Expr),f 5=vi i/\f 3 = .c (.s 45 es.length)/\i<=from_.length/\es=aN items++(from_.take i).flatMap Source.on/\L=[(1,.str [.v (.bool distinct),.sl items.length (items.flatMap Item.row) none,.sl from_.length (from_.flatMap Source.row) none,.sl where_.length (where_.flatMap Expr.row) none,.sl order.length (order.flatMap SortKey.row) none,.v (.int .i64 limit)]),(45,.arr 29 es.length (es.flatMap Expr.row) none)]/\p=none) (fun f _ _=>(from_.length-aU (f 5)).toNat) [(1,.str [.v (.bool distinct),.sl items.length (items.flatMap Item.row) none,.sl from_.length (from_.flatMap Source.row) none,.sl where_.length (where_.flatMap Expr.row) none,.sl order.length (order.flatMap SortKey.row) none,.v (.int .i64 limit)]),(45,.arr 29 (aN items).length ((aN items).flatMap Expr.row) none)] none ⟨ac rfl (ac rfl (ak _)),al _,?_⟩ ?_
   ·simp only[tt,seval,h3]
    exact⟨0,aN items,rfl,rfl,by omega,by simp,rfl⟩
   ·rintro g L p ⟨i,es,hi5,h3,hi,hes,rfl,rfl⟩
    simp only[tt,seval] at hi5 h3
    simp only[tt,seval,hi5,h3,Int.ofNat_lt]
    refine fun _=>?_
    refine aa (fun hlt=>?_) (fun hge=>?_)
    ·have hlt:i<from_.length:=by omega
     have hst:=ph hlt
     have hel:es.length<=(aN items).length+(from_.flatMap Source.on).length:=by have:=io from_ i;rw[hes,aA];omega
     obtain⟨it,b5⟩:∃it,it=from_[i]:=⟨_,rfl⟩
     rw[<-b5] at hst
     have hon:it.on.length<=1048576:=by
      have h1:=bZ bW (aI hlt)
      rw[<-b5] at h1
      obtain⟨table,as_,on⟩:=it
      rw[cI,az] at h1
      show on.length<=_
      omega
     refine⟨by omega,by omega,_,aF Source.row_len (ay hlt),Source.ne _ _,?_⟩
     obtain⟨table,as_,on⟩:=it
     have hon:on.length<=1048576:=hon
     rw[<-b5,Source.row_mk]
     simp only[tt,seval]
     refine⟨by kernel_rfl,by rw[bn aC],⟨by simp only[maxLen];omega,by omega⟩,?_⟩
     have e2:es.length+on.length=(es++on).length:=by simp
     rw[<-List.flatMap_append,e2]
     try rw[dk i (by omega)]
     exact⟨_,none,ac rfl (ac rfl (ak _)),al _,⟨i+1,_,rfl,rfl,by omega,by rw[hst,hes,aJ];rfl,rfl,rfl⟩,by simp only[aU];omega⟩
    ·have hie:i=from_.length:=by omega
     subst hie
     rw[List.take_length] at hes
     have hel:es.length=(aN items).length+(from_.flatMap Source.on).length:=by rw[hes,aA]
     refine⟨by kernel_rfl,by rw[bn aC],⟨by simp only[maxLen];omega,by omega⟩,?_⟩
     have e2:es.length+where_.length=(es++where_).length:=by simp
     rw[<-List.flatMap_append,e2]
     obtain⟨fs,hfs⟩:∃fs,fs=es++where_:=⟨_,rfl⟩
     have hfl:fs.length=(aN items).length+(from_.flatMap Source.on).length+where_.length:=by rw[hfs,aA,hel]
     have hfs':fs=aN items++from_.flatMap Source.on++where_:=by rw[hfs,hes]
     rw[<-hfs]
     refine dLoop.gh [.ren 49 65] ⟨by decide,by decide,?_⟩
     refine dLoop0.intro (fun f L p=>∃(i:Nat) (es:List Expr),f 6=vi i/\f 3 = .c (.s 65 es.length)/\i<=order.length/\es=fs++(order.take i).map SortKey.e/\L=[(1,.str [.v (.bool distinct),.sl items.length (items.flatMap Item.row) none,.sl from_.length (from_.flatMap Source.row) none,.sl where_.length (where_.flatMap Expr.row) none,.sl order.length (order.flatMap SortKey.row) none,.v (.int .i64 limit)]),(65,.arr 29 es.length (es.flatMap Expr.row) none)]/\p=none) (fun f _ _=>(order.length-aU (f 6)).toNat) [(1,.str [.v (.bool distinct),.sl items.length (items.flatMap Item.row) none,.sl from_.length (from_.flatMap Source.row) none,.sl where_.length (where_.flatMap Expr.row) none,.sl order.length (order.flatMap SortKey.row) none,.v (.int .i64 limit)]),(65,.arr 29 fs.length (fs.flatMap Expr.row) none)] none ⟨ac rfl (ac rfl (ak _)),al _,?_⟩ ?_
     ·simp only[tt,seval]
      exact⟨0,fs,rfl,rfl,by omega,by simp,rfl⟩
     ·rintro g L p ⟨i,es,hi6,h3,hi,hes,rfl,rfl⟩
      simp only[tt,seval] at hi6 h3
      simp only[tt,seval,hi6,h3,Int.ofNat_lt]
      refine fun _=>?_
      refine aa (fun hlt=>?_) (fun hge=>?_)
      ·have hlt:i<order.length:=by omega
       have hst:=mS hlt
       have hel:es.length=fs.length+i:=by rw[hes,aA,List.length_map,List.length_take];omega
       obtain⟨it,b5⟩:∃it,it=order[i]:=⟨_,rfl⟩
       rw[<-b5] at hst
       refine⟨by omega,by omega,_,aF SortKey.row_len (ay hlt),SortKey.ne _ _,?_⟩
       obtain⟨⟨k,o,n,v,q,m,ks,ss⟩,desc⟩:=it
       rw[<-b5,SortKey.row_mk,ah]
       simp only[tt,seval,hi6]
       refine⟨by kernel_rfl,⟨by simp only[maxLen];omega,by omega⟩,?_⟩
       have e:es.flatMap Expr.row++[int k,int o,bool n,int v.kind,int v.num,str v.text,str q,str m,.sl ks.length (ks.flatMap Expr.row),.sl ss.length (ss.flatMap Query.row)]=(es++[Expr.mk k o n v q m ks ss]).flatMap Expr.row:=by rw[List.flatMap_append];simp [ah]
       have e2:es.length+1=(es++[Expr.mk k o n v q m ks ss]).length:=by simp
       rw[e,e2]
       try rw[dk i (by omega)]
       exact⟨_,none,ac rfl (ac rfl (ak _)),al _,⟨i+1,_,rfl,rfl,by omega,by rw[hst,hes,aJ];rfl,rfl,rfl⟩,by simp only[aU];omega⟩
      ·have hie:i=order.length:=by omega
       subst hie
       rw[List.take_length] at hes
       refine⟨_,[],rfl,am ?_⟩
       simp only[tt,seval]
       rw[hes,hfs']
       exact⟨rfl,rfl,rfl⟩
theorem Bj (distinct:Bool) (items:List Item) (from_:List Source) (where_:List Expr) (order:List SortKey) (limit:Int) (hsz:aP (Query.mk distinct items from_ where_ order limit)<=1048576):Cl Tryz.prog 197 [.ag (av (Query.mk distinct items from_ where_ order limit).row)] [] fun r _=>r = .c (.ow 29 (exprsQ (Query.mk distinct items from_ where_ order limit)).length ((exprsQ (Query.mk distinct items from_ where_ order limit)).flatMap Expr.row) none):=by
 have hlen:=cA (Query.mk distinct items from_ where_ order limit)
 have q0:exprsQ (Query.mk distinct items from_ where_ order limit)=aN items++from_.flatMap Source.on++where_++order.map SortKey.e:=rfl
 rw[q0] at hlen ⊢
 simp only[aA,List.length_map] at hlen
 have htot:=Nat.le_trans hlen hsz
 have hil:=bY items
 rw[dc,db,cc,az,bK] at hsz
 rw[ar]
 refine ae ab false Tryz.func197 rfl (by kernel_rfl) ?_
 simp only[Tryz.f197,tt,seval]
 refine fun _=>?_
 refine dLoop.gh [.ren 10 25] ⟨by decide,by decide,?_⟩
 refine dLoop0.intro (fun f L p=>∃(i:Nat) (es:List Expr),f 14=vi i/\f 3 = .c (.s 25 es.length)/\i<=items.length/\es=aN (items.take i)/\L=[(1,.str [.v (.bool distinct),.sl items.length (items.flatMap Item.row) none,.sl from_.length (from_.flatMap Source.row) none,.sl where_.length (where_.flatMap Expr.row) none,.sl order.length (order.flatMap SortKey.row) none,.v (.int .i64 limit)]),(25,.arr 29 es.length (es.flatMap Expr.row) none)]/\p=none) (fun f _ _=>(items.length-aU (f 14)).toNat) [(1,.str [.v (.bool distinct),.sl items.length (items.flatMap Item.row) none,.sl from_.length (from_.flatMap Source.row) none,.sl where_.length (where_.flatMap Expr.row) none,.sl order.length (order.flatMap SortKey.row) none,.v (.int .i64 limit)]),(25,.arr 29 0 [] none)] none ⟨ac rfl (ac rfl (ak _)),al _,?_⟩ ?_
 ·simp only[tt,seval]
  exact⟨0,[],rfl,rfl,by omega,rfl,rfl⟩
 ·rintro g L p ⟨i,es,hi4,h3,hi,hes,rfl,rfl⟩
  simp only[tt,seval] at hi4 h3
  simp only[tt,seval,hi4,Int.ofNat_lt]
  refine aa (fun hlt=>?_) (fun hge=>?_)
  ·have hlt:i<items.length:=by omega
   have hst:=im hlt
   have hel:es.length<=items.length:=by rw[hes];exact Nat.le_trans (bY _) (by rw[List.length_take];omega)
   have hei:es.length<=i:=by rw[hes];exact Nat.le_trans (bY _) (by rw[List.length_take];omega)
   obtain⟨it,b5⟩:∃it,it=items[i]:=⟨_,rfl⟩
   rw[<-b5] at hst
   refine⟨by omega,by omega,_,aF Item.row_len (ay hlt),Item.ne _ _,?_⟩
   obtain⟨star,qual,⟨k,o,n,v,q,m,ks,ss⟩,as_⟩:=it
   rw[<-b5,Item.row_mk,ah]
   simp only[tt,seval,hi4,h3]
   refine aa (fun hs=>?_) (fun hs=>?_)
   ·have hs:star=false:=by simpa only[Bool.not_eq_true'] using hs
    refine⟨by kernel_rfl,⟨by simp only[maxLen];omega,by omega⟩,?_⟩
    have e:es.flatMap Expr.row++[int k,int o,bool n,int v.kind,int v.num,str v.text,str q,str m,.sl ks.length (ks.flatMap Expr.row),.sl ss.length (ss.flatMap Query.row)]=(es++[Expr.mk k o n v q m ks ss]).flatMap Expr.row:=by rw[List.flatMap_append];simp [ah]
    have e2:es.length+1=(es++[Expr.mk k o n v q m ks ss]).length:=by simp
    rw[e,e2]
    try rw[dk i (by omega)]
    exact⟨_,none,ac rfl (ac rfl (ak _)),al _,⟨i+1,_,rfl,rfl,by omega,by rw[hst,hes];subst hs;rfl,rfl,rfl⟩,by simp only[aU];omega⟩
   ·have hs:star=true:=by simpa only[Bool.not_eq_false'] using hs
    try rw[dk i (by omega)]
    exact⟨_,none,ac rfl (ac rfl (ak _)),al _,⟨i+1,es,rfl,rfl,by omega,by rw[hst,hes];subst hs;simp [Item.star],rfl,rfl⟩,by simp only[aU];omega⟩
  ·have hie:i=items.length:=by omega
   subst hie
   rw[List.take_length] at hes
   subst hes
   refine fun _=>?_
   refine dLoop.gh [.ren 25 37] ⟨by decide,by decide,?_⟩
   refine dLoop0.intro (fun f L p=>∃(i:Nat) (es:List Expr),f 30=vi i/\f 3 = .c (.s 37 es.length)/\i<=from_.length/\es=aN items++(from_.take i).flatMap Source.on/\L=[(1,.str [.v (.bool distinct),.sl items.length (items.flatMap Item.row) none,.sl from_.length (from_.flatMap Source.row) none,.sl where_.length (where_.flatMap Expr.row) none,.sl order.length (order.flatMap SortKey.row) none,.v (.int .i64 limit)]),(37,.arr 29 es.length (es.flatMap Expr.row) none)]/\p=none) (fun f _ _=>(from_.length-aU (f 30)).toNat) [(1,.str [.v (.bool distinct),.sl items.length (items.flatMap Item.row) none,.sl from_.length (from_.flatMap Source.row) none,.sl where_.length (where_.flatMap Expr.row) none,.sl order.length (order.flatMap SortKey.row) none,.v (.int .i64 limit)]),(37,.arr 29 (aN items).length ((aN items).flatMap Expr.row) none)] none ⟨ac rfl (ac rfl (ak _)),al _,?_⟩ ?_
   ·simp only[tt,seval,h3]
    exact⟨0,aN items,rfl,rfl,by omega,by simp,rfl⟩
   ·rintro g L p ⟨i,es,hi5,h3,hi,hes,rfl,rfl⟩
    simp only[tt,seval] at hi5 h3
    simp only[tt,seval,hi5,h3,Int.ofNat_lt]
    refine aa (fun hlt=>?_) (fun hge=>?_)
    ·have hlt:i<from_.length:=by omega
     have hst:=ph hlt
     have hel:es.length<=(aN items).length+(from_.flatMap Source.on).length:=by have:=io from_ i;rw[hes,aA];omega
     obtain⟨it,b5⟩:∃it,it=from_[i]:=⟨_,rfl⟩
     rw[<-b5] at hst
     have hon:it.on.length<=1048576:=by
      have h1:=bZ bW (aI hlt)
      rw[<-b5] at h1
      obtain⟨table,as_,on⟩:=it
      rw[cI,az] at h1
      show on.length<=_
      omega
     refine⟨by omega,by omega,_,aF Source.row_len (ay hlt),Source.ne _ _,?_⟩
     obtain⟨table,as_,on⟩:=it
     have hon:on.length<=1048576:=hon
     rw[<-b5,Source.row_mk]
     simp only[tt,seval]
     refine⟨by kernel_rfl,by rw[bn aC],⟨by simp only[maxLen];omega,by omega⟩,?_⟩
     have e2:es.length+on.length=(es++on).length:=by simp
     rw[<-List.flatMap_append,e2]
     try rw[dk i (by omega)]
     exact⟨_,none,ac rfl (ac rfl (ak _)),al _,⟨i+1,_,rfl,rfl,by omega,by rw[hst,hes,aJ];rfl,rfl,rfl⟩,by simp only[aU];omega⟩
    ·have hie:i=from_.length:=by omega
     subst hie
     rw[List.take_length] at hes
     have hel:es.length=(aN items).length+(from_.flatMap Source.on).length:=by rw[hes,aA]
     refine⟨by kernel_rfl,by rw[bn aC],⟨by simp only[maxLen];omega,by omega⟩,?_⟩
     have e2:es.length+where_.length=(es++where_).length:=by simp
     rw[<-List.flatMap_append,e2]
     obtain⟨fs,hfs⟩:∃fs,fs=es++where_:=⟨_,rfl⟩
     have hfl:fs.length=(aN items).length+(from_.flatMap Source.on).length+where_.length:=by rw[hfs,aA,hel]
     have hfs':fs=aN items++from_.flatMap Source.on++where_:=by rw[hfs,hes]
     rw[<-hfs]
     refine fun _=>?_
     refine dLoop.gh [.ren 42 54] ⟨by decide,by decide,?_⟩
     refine dLoop0.intro (fun f L p=>∃(i:Nat) (es:List Expr),f 46=vi i/\f 3 = .c (.s 54 es.length)/\i<=order.length/\es=fs++(order.take i).map SortKey.e/\L=[(1,.str [.v (.bool distinct),.sl items.length (items.flatMap Item.row) none,.sl from_.length (from_.flatMap Source.row) none,.sl where_.length (where_.flatMap Expr.row) none,.sl order.length (order.flatMap SortKey.row) none,.v (.int .i64 limit)]),(54,.arr 29 es.length (es.flatMap Expr.row) none)]/\p=none) (fun f _ _=>(order.length-aU (f 46)).toNat) [(1,.str [.v (.bool distinct),.sl items.length (items.flatMap Item.row) none,.sl from_.length (from_.flatMap Source.row) none,.sl where_.length (where_.flatMap Expr.row) none,.sl order.length (order.flatMap SortKey.row) none,.v (.int .i64 limit)]),(54,.arr 29 fs.length (fs.flatMap Expr.row) none)] none ⟨ac rfl (ac rfl (ak _)),al _,?_⟩ ?_
     ·simp only[tt,seval]
      exact⟨0,fs,rfl,rfl,by omega,by simp,rfl⟩
     ·rintro g L p ⟨i,es,hi6,h3,hi,hes,rfl,rfl⟩
      simp only[tt,seval] at hi6 h3
      simp only[tt,seval,hi6,h3,Int.ofNat_lt]
      refine aa (fun hlt=>?_) (fun hge=>?_)
      ·have hlt:i<order.length:=by omega
       have hst:=mS hlt
       have hel:es.length=fs.length+i:=by rw[hes,aA,List.length_map,List.length_take];omega
       obtain⟨it,b5⟩:∃it,it=order[i]:=⟨_,rfl⟩
       rw[<-b5] at hst
       refine⟨by omega,by omega,_,aF SortKey.row_len (ay hlt),SortKey.ne _ _,?_⟩
       obtain⟨⟨k,o,n,v,q,m,ks,ss⟩,desc⟩:=it
       rw[<-b5,SortKey.row_mk,ah]
       simp only[tt,seval,hi6]
       refine⟨by kernel_rfl,⟨by simp only[maxLen];omega,by omega⟩,?_⟩
       have e:es.flatMap Expr.row++[int k,int o,bool n,int v.kind,int v.num,str v.text,str q,str m,.sl ks.length (ks.flatMap Expr.row),.sl ss.length (ss.flatMap Query.row)]=(es++[Expr.mk k o n v q m ks ss]).flatMap Expr.row:=by rw[List.flatMap_append];simp [ah]
       have e2:es.length+1=(es++[Expr.mk k o n v q m ks ss]).length:=by simp
       rw[e,e2]
       try rw[dk i (by omega)]
       exact⟨_,none,ac rfl (ac rfl (ak _)),al _,⟨i+1,_,rfl,rfl,by omega,by rw[hst,hes,aJ];rfl,rfl,rfl⟩,by simp only[aU];omega⟩
      ·have hie:i=order.length:=by omega
       subst hie
       rw[List.take_length] at hes
       refine⟨_,[],rfl,am ?_⟩
       simp only[tt,seval]
       rw[hes,hfs']
       exact⟨rfl,rfl,rfl⟩
theorem rQ (kind:Int) (distinct:Bool) (items:List Item) (from_:List Source) (where_:List Expr) (order:List SortKey) (limit:Int) (table:ByteArray) (rows:List ERow) (cols:List ByteArray) (sets where2:List Expr) (hsz:bR (Stmt.mk kind (Query.mk distinct items from_ where_ order limit) table rows cols sets where2)<=1048576):Cl Tryz.prog 202 [.ag (av (Stmt.mk kind (Query.mk distinct items from_ where_ order limit) table rows cols sets where2).row)] [] fun r _=>r = .c (.sl (aT (Stmt.mk kind (Query.mk distinct items from_ where_ order limit) table rows cols sets where2)).length ((aT (Stmt.mk kind (Query.mk distinct items from_ where_ order limit) table rows cols sets where2)).flatMap Expr.row) none):=by
 have hql:=cA (Query.mk distinct items from_ where_ order limit)
 have hrl:=kV rows
 have q0:aT (Stmt.mk kind (Query.mk distinct items from_ where_ order limit) table rows cols sets where2)=exprsQ (Query.mk distinct items from_ where_ order limit)++rows.flatMap ERow.l++sets++where2:=rfl
 rw[q0]
 rw[ey] at hsz
 have hqs:aP (Query.mk distinct items from_ where_ order limit)<=1048576:=by omega
 have hs1:sets.length+where2.length+(rows.flatMap ERow.l).length+(exprsQ (Query.mk distinct items from_ where_ order limit)).length<=1048576:=by
  rw[az,az] at hsz;omega
 have hrn:rows.length<=1048576:=by omega
 have hqc:=yR distinct items from_ where_ order limit hqs
 rw[ar] at hqc
 generalize exprsQ (Query.mk distinct items from_ where_ order limit)=lq at *
 rw[Stmt.row_mk,ar]
 simp only[lc]
 refine ae ab false Tryz.func202 rfl (by kernel_rfl) ?_
 simp only[Tryz.f202,tt,seval]
 refine cZ (hqc) ?_ ?_<;>simp only[tt,seval]
 refine dLoop.gh [.ren 10007 21] ⟨by decide,by decide,?_⟩
 refine dLoop0.intro (fun f L p=>∃(i:Nat) (es:List Expr),f 4=vi i/\f 3 = .c (.s 21 es.length)/\i<=rows.length/\es=lq++(rows.take i).flatMap ERow.l/\L=[(21,.arr 29 es.length (es.flatMap Expr.row) none),(1,.str [.v (.int .i64 kind),.v (.bool distinct),.sl items.length (items.flatMap Item.row) none,.sl from_.length (from_.flatMap Source.row) none,.sl where_.length (where_.flatMap Expr.row) none,.sl order.length (order.flatMap SortKey.row) none,.v (.int .i64 limit),.v (.string table),.sl rows.length (rows.flatMap ERow.row) none,.sl cols.length (cols.flatMap srow) none,.sl sets.length (sets.flatMap Expr.row) none,.sl where2.length (where2.flatMap Expr.row) none])]/\p=none) (fun f _ _=>(rows.length-aU (f 4)).toNat) [(21,.arr 29 lq.length (lq.flatMap Expr.row) none),(1,.str [.v (.int .i64 kind),.v (.bool distinct),.sl items.length (items.flatMap Item.row) none,.sl from_.length (from_.flatMap Source.row) none,.sl where_.length (where_.flatMap Expr.row) none,.sl order.length (order.flatMap SortKey.row) none,.v (.int .i64 limit),.v (.string table),.sl rows.length (rows.flatMap ERow.row) none,.sl cols.length (cols.flatMap srow) none,.sl sets.length (sets.flatMap Expr.row) none,.sl where2.length (where2.flatMap Expr.row) none])] none ⟨ac rfl (ac rfl (ak _)),al _,?_⟩ ?_
 ·simp only[tt,seval]
  exact⟨0,lq,rfl,rfl,by omega,by simp,rfl⟩
 ·rintro g L p ⟨i,es,h4,h3,hi,hes,rfl,rfl⟩
  simp only[tt,seval] at h4 h3
  simp only[tt,seval,h4,h3,Int.ofNat_lt]
  refine fun _=>?_
  refine aa (fun hlt=>?_) (fun hge=>?_)
  ·have hlt:i<rows.length:=by omega
   have hstp:=rP ERow.l hlt
   have hel:es.length+rows[i].l.length<=lq.length+(rows.flatMap ERow.l).length:=by
    have:=lX ERow.l rows (i+1)
    rw[hstp,aA] at this
    rw[hes,aA];omega
   obtain⟨it,b5⟩:∃it,it=rows[i]:=⟨_,rfl⟩
   rw[<-b5] at hstp hel
   refine⟨by omega,by omega,_,aF ERow.row_len (ay hlt),ERow.ne _ _,?_⟩
   rw[<-b5,lM]
   simp only[tt,seval]
   refine⟨by kernel_rfl,by rw[bn aC],⟨by simp only[maxLen];omega,by omega⟩,?_⟩
   have e2:es.length+it.l.length=(es++it.l).length:=by simp
   rw[<-List.flatMap_append,e2]
   try rw[dk i (by omega)]
   exact⟨_,none,ac rfl (ac rfl (ak _)),al _,⟨i+1,_,rfl,rfl,by omega,by rw[hstp,hes,aJ],rfl,rfl⟩,by simp only[aU];omega⟩
  ·have hie:i=rows.length:=by omega
   subst hie
   rw[List.take_length] at hes
   have hel:es.length=lq.length+(rows.flatMap ERow.l).length:=by rw[hes,aA]
   rw[<-hes]
   refine⟨by kernel_rfl,by rw[bn aC],⟨by simp only[maxLen];omega,by omega⟩,?_⟩
   have e2:es.length+sets.length=(es++sets).length:=by simp
   rw[<-List.flatMap_append,e2]
   refine⟨by kernel_rfl,by rw[bn aC],⟨by simp only[maxLen,aA];omega,by simp only[aA];omega⟩,?_⟩
   have e3:(es++sets).length+where2.length=(es++sets++where2).length:=by simp [Nat.add_assoc]
   rw[<-List.flatMap_append,e3]
   refine⟨_,[],rfl,am ?_⟩
   simp only[tt,seval]
theorem ox (kind:Int) (distinct:Bool) (items:List Item) (from_:List Source) (where_:List Expr) (order:List SortKey) (limit:Int) (table:ByteArray) (rows:List ERow) (cols:List ByteArray) (sets where2:List Expr) (hsz:bR (Stmt.mk kind (Query.mk distinct items from_ where_ order limit) table rows cols sets where2)<=1048576):Cl Tryz.prog 142 [.ag (av (Stmt.mk kind (Query.mk distinct items from_ where_ order limit) table rows cols sets where2).row)] [] fun r _=>r = .c (.sl (aT (Stmt.mk kind (Query.mk distinct items from_ where_ order limit) table rows cols sets where2)).length ((aT (Stmt.mk kind (Query.mk distinct items from_ where_ order limit) table rows cols sets where2)).flatMap Expr.row) none):=by
 have hql:=cA (Query.mk distinct items from_ where_ order limit)
 have hrl:=kV rows
 have q0:aT (Stmt.mk kind (Query.mk distinct items from_ where_ order limit) table rows cols sets where2)=exprsQ (Query.mk distinct items from_ where_ order limit)++rows.flatMap ERow.l++sets++where2:=rfl
 rw[q0]
 rw[ey] at hsz
 have hqs:aP (Query.mk distinct items from_ where_ order limit)<=1048576:=by omega
 have hs1:sets.length+where2.length+(rows.flatMap ERow.l).length+(exprsQ (Query.mk distinct items from_ where_ order limit)).length<=1048576:=by
  rw[az,az] at hsz;omega
 have hrn:rows.length<=1048576:=by omega
 have hqc:=Bj distinct items from_ where_ order limit hqs
 rw[ar] at hqc
 generalize exprsQ (Query.mk distinct items from_ where_ order limit)=lq at *
 rw[Stmt.row_mk,ar]
 simp only[lc]
 refine ae ab false Tryz.func142 rfl (by kernel_rfl) ?_
 simp only[Tryz.f142,tt,seval]
 refine cZ (hqc) ?_ ?_<;>simp only[tt,seval]
 refine fun _=>?_
 refine dLoop.gh [.ren 10008 18] ⟨by decide,by decide,?_⟩
 refine dLoop0.intro (fun f L p=>∃(i:Nat) (es:List Expr),f 12=vi i/\f 3 = .c (.s 18 es.length)/\i<=rows.length/\es=lq++(rows.take i).flatMap ERow.l/\L=[(18,.arr 29 es.length (es.flatMap Expr.row) none),(1,.str [.v (.int .i64 kind),.v (.bool distinct),.sl items.length (items.flatMap Item.row) none,.sl from_.length (from_.flatMap Source.row) none,.sl where_.length (where_.flatMap Expr.row) none,.sl order.length (order.flatMap SortKey.row) none,.v (.int .i64 limit),.v (.string table),.sl rows.length (rows.flatMap ERow.row) none,.sl cols.length (cols.flatMap srow) none,.sl sets.length (sets.flatMap Expr.row) none,.sl where2.length (where2.flatMap Expr.row) none])]/\p=none) (fun f _ _=>(rows.length-aU (f 12)).toNat) [(18,.arr 29 lq.length (lq.flatMap Expr.row) none),(1,.str [.v (.int .i64 kind),.v (.bool distinct),.sl items.length (items.flatMap Item.row) none,.sl from_.length (from_.flatMap Source.row) none,.sl where_.length (where_.flatMap Expr.row) none,.sl order.length (order.flatMap SortKey.row) none,.v (.int .i64 limit),.v (.string table),.sl rows.length (rows.flatMap ERow.row) none,.sl cols.length (cols.flatMap srow) none,.sl sets.length (sets.flatMap Expr.row) none,.sl where2.length (where2.flatMap Expr.row) none])] none ⟨ac rfl (ac rfl (ak _)),al _,?_⟩ ?_
 ·simp only[tt,seval]
  exact⟨0,lq,rfl,rfl,by omega,by simp,rfl⟩
 ·rintro g L p ⟨i,es,h4,h3,hi,hes,rfl,rfl⟩
  simp only[tt,seval] at h4 h3
  simp only[tt,seval,h4,h3,Int.ofNat_lt]
  refine aa (fun hlt=>?_) (fun hge=>?_)
  ·have hlt:i<rows.length:=by omega
   have hstp:=rP ERow.l hlt
   have hel:es.length+rows[i].l.length<=lq.length+(rows.flatMap ERow.l).length:=by
    have:=lX ERow.l rows (i+1)
    rw[hstp,aA] at this
    rw[hes,aA];omega
   obtain⟨it,b5⟩:∃it,it=rows[i]:=⟨_,rfl⟩
   rw[<-b5] at hstp hel
   refine⟨by omega,by omega,_,aF ERow.row_len (ay hlt),ERow.ne _ _,?_⟩
   rw[<-b5,lM]
   simp only[tt,seval]
   refine⟨by kernel_rfl,by rw[bn aC],⟨by simp only[maxLen];omega,by omega⟩,?_⟩
   have e2:es.length+it.l.length=(es++it.l).length:=by simp
   rw[<-List.flatMap_append,e2]
   try rw[dk i (by omega)]
   exact⟨_,none,ac rfl (ac rfl (ak _)),al _,⟨i+1,_,rfl,rfl,by omega,by rw[hstp,hes,aJ],rfl,rfl⟩,by simp only[aU];omega⟩
  ·have hie:i=rows.length:=by omega
   subst hie
   rw[List.take_length] at hes
   have hel:es.length=lq.length+(rows.flatMap ERow.l).length:=by rw[hes,aA]
   rw[<-hes]
   refine⟨by kernel_rfl,by rw[bn aC],⟨by simp only[maxLen];omega,by omega⟩,?_⟩
   have e2:es.length+sets.length=(es++sets).length:=by simp
   rw[<-List.flatMap_append,e2]
   refine⟨by kernel_rfl,by rw[bn aC],⟨by simp only[maxLen,aA];omega,by simp only[aA];omega⟩,?_⟩
   have e3:(es++sets).length+where2.length=(es++sets++where2).length:=by simp [Nat.add_assoc]
   rw[<-List.flatMap_append,e3]
   refine⟨_,[],rfl,am ?_⟩
   simp only[tt,seval]
theorem CW (l:List ERow) {x:Expr} (h:x∈l.flatMap ERow.l):aw x<=gD l:=by
 obtain⟨y,hy,hx⟩:=List.mem_flatMap.1 h
 have h1:=bZ f7 hy
 have h2:=bZ aw hx
 rw[fJ,az] at h1
 rw[ee];omega
theorem Bl (l:List ERow):((l.flatMap ERow.l).map fun x=>aw x+1).sum<=gD l:=by
 rw[ee]
 induction l with
 |nil=>simp
 |cons x r ih=>
  rw[List.flatMap_cons,List.map_append,List.sum_append,gp,List.map_cons,List.sum_cons,List.length_cons,fJ,az]
  omega
theorem ep {s:Stmt} {x:Expr} (h:x∈aT s):aw x<=bR s:=by
 obtain⟨kind,q,table,rows,cols,sets,where2⟩:=s
 rw[ey,az,az]
 simp only[aT,List.mem_append] at h
 rcases h with ((h|h)|h)|h
 ·have:=iW h;omega
 ·have:=CW rows h;omega
 ·have:=bZ aw h;omega
 ·have:=bZ aw h;omega
theorem gr (s:Stmt):((aT s).map fun x=>aw x+1).sum<=bR s:=by
 obtain⟨kind,q,table,rows,cols,sets,where2⟩:=s
 rw[ey,az,az]
 have h1:=mv q
 have h2:=Bl rows
 simp only[aT,List.map_append,List.sum_append,gp aw sets,gp aw where2]
 omega
theorem iy (s:Stmt):(aT s).length<=bR s:=by
 have h:=gr s
 rw[gp] at h;omega
theorem lY (q:Query) (g:Expr->Nat) (h:∀x∈exprsQ q,Cl Tryz.prog 195 [.ag (av x.row)] [] fun r _=>r=vi (g x:Nat)) (hsz:aP q<=1048576) (hs:((exprsQ q).map g).sum<=2097152):Cl Tryz.prog 130 [.ag (av q.row)] [] fun r _=>r=vi (((exprsQ q).map g).sum:Nat):=by
 have hlen:=cA q
 obtain⟨distinct,items,from_,where_,order,limit⟩:=q
 rw[ar]
 refine ae ab false Tryz.func130 rfl (by kernel_rfl) ?_
 simp only[Tryz.f130,tt,seval]
 refine cZ (lr distinct items from_ where_ order limit hsz) ?_ ?_<;>simp only[tt,seval,ar]
 generalize exprsQ (Query.mk distinct items from_ where_ order limit)=l at *
 refine dLoop.intro (fun f L p=>∃i:Nat,f 5=vi i/\i<=l.length/\f 3=vi (((l.take i).map g).sum:Nat)/\L=[(1,.str [.v (.bool distinct),.sl items.length (items.flatMap Item.row) none,.sl from_.length (from_.flatMap Source.row) none,.sl where_.length (where_.flatMap Expr.row) none,.sl order.length (order.flatMap SortKey.row) none,.v (.int .i64 limit)])]/\p=none) (fun f _ _=>(l.length-aU (f 5)).toNat) [(1,.str [.v (.bool distinct),.sl items.length (items.flatMap Item.row) none,.sl from_.length (from_.flatMap Source.row) none,.sl where_.length (where_.flatMap Expr.row) none,.sl order.length (order.flatMap SortKey.row) none,.v (.int .i64 limit)])] none ⟨ac rfl (ak _),al _,?_⟩ ?_
 ·simp only[tt,seval]
  exact⟨0,rfl,by omega,by simp⟩
 ·rintro g' L p ⟨i,hix,hi,hac,rfl,rfl⟩
  simp only[tt,seval] at hix hac
  simp only[tt,seval,hix,hac,Int.ofNat_lt]
  refine fun _=>?_
  refine aa (fun hlt=>?_) (fun hge=>?_)
  ·have hlt:i<l.length:=by omega
   have hmem:l[i]∈l:=aI hlt
   refine⟨by omega,by omega,_,aF aC (ay hlt),Expr.ne _ _,?_⟩
   simp only[seval,Expr.tk,aC]
   refine cZ (h _ hmem) ?_ ?_<;>simp only[tt,seval,hix]
   obtain⟨rst,hrst⟩:=d4 g l (i+1)
   rw[dk i (by omega)]
   have hstep:((l.take (i+1)).map g).sum=((l.take i).map g).sum+g l[i]:=ft g hlt
   rw[ax (by omega) (by omega)]
   skip
   exact⟨_,none,ac rfl (ak _),al _,⟨i+1,rfl,by omega,gB (by rw[hstep];omega),rfl,rfl⟩,by simp only[aU];omega⟩
  ·have hie:i=l.length:=by omega
   subst hie
   rw[List.take_length] at hac
   try rw[List.take_length]
   exact⟨_,_,rfl,ai rfl⟩
theorem r6 (kind op:Int) (not:Bool) (val:Val) (qual name:ByteArray) (kids:List Expr) (sub:List Query) (g:Expr->Nat) (hg:∀x,eW x (Expr.mk kind op not val qual name kids sub)->(Cl Tryz.prog 195 [.ag (av x.row)] [] fun r _=>r=vi (g x:Nat))/\g x<=aw x+1) (hsz:aw (Expr.mk kind op not val qual name kids sub)<=1048576):Cl Tryz.prog 195 [.ag (av (Expr.mk kind op not val qual name kids sub).row)] [] fun r _=>r=vi (xR g (Expr.mk kind op not val qual name kids sub):Nat):=by
 have hdl:=xT (g:=g) (fun x hx=>(hg x hx).2)
 have hks:=hsz
 rw[dq,az,cg] at hks
 have e:xR g (Expr.mk kind op not val qual name kids sub)=1+(kids.map g).sum+(sub.map fun q=>((exprsQ q).map g).sum).sum:=rfl
 rw[e] at hdl ⊢
 rw[ah]
 refine ae ab false Tryz.func195 rfl (by kernel_rfl) ?_
 simp only[Tryz.f195,tt,seval]
 refine dLoop.intro (fun f L p=>∃i:Nat,f 4=vi i/\i<=kids.length/\f 3=vi ((1+((kids.take i).map g).sum):Nat)/\L=[(1,.str [.v (.int .i64 kind),.v (.int .i64 op),.v (.bool not),.v (.int .i64 val.kind),.v (.int .i64 val.num),.v (.string val.text),.v (.string qual),.v (.string name),.sl kids.length (kids.flatMap Expr.row) none,.sl sub.length (sub.flatMap Query.row) none])]/\p=none) (fun f _ _=>(kids.length-aU (f 4)).toNat) [(1,.str [.v (.int .i64 kind),.v (.int .i64 op),.v (.bool not),.v (.int .i64 val.kind),.v (.int .i64 val.num),.v (.string val.text),.v (.string qual),.v (.string name),.sl kids.length (kids.flatMap Expr.row) none,.sl sub.length (sub.flatMap Query.row) none])] none ⟨ac rfl (ak _),al _,?_⟩ ?_
 ·simp only[tt,seval]
  exact⟨0,rfl,by omega,by simp⟩
 ·rintro g' L p ⟨i,hix,hi,hac,rfl,rfl⟩
  simp only[tt,seval] at hix hac
  simp only[tt,seval,hix,hac,Int.ofNat_lt]
  refine fun _=>?_
  refine aa (fun hlt=>?_) (fun hge=>?_)
  ·have hlt:i<kids.length:=by omega
   have hmem:kids[i]∈kids:=aI hlt
   refine⟨by omega,by omega,_,aF aC (ay hlt),Expr.ne _ _,?_⟩
   simp only[seval,Expr.tk,aC]
   refine cZ ((hg _ (.inl hmem)).1) ?_ ?_<;>simp only[tt,seval,hix]
   obtain⟨rst,hrst⟩:=d4 g kids (i+1)
   rw[dk i (by omega)]
   have hstep:((kids.take (i+1)).map g).sum=((kids.take i).map g).sum+g kids[i]:=ft g hlt
   rw[ax (by omega) (by omega)]
   skip
   exact⟨_,none,ac rfl (ak _),al _,⟨i+1,rfl,by omega,gB (by rw[hstep];omega),rfl,rfl⟩,by simp only[aU];omega⟩
  ·have hie:i=kids.length:=by omega
   subst hie
   rw[List.take_length] at hac
   refine dLoop.intro (fun f L p=>∃i:Nat,f 5=vi i/\i<=sub.length/\f 3=vi ((1+(kids.map g).sum+((sub.take i).map fun q=>((exprsQ q).map g).sum).sum):Nat)/\L=[(1,.str [.v (.int .i64 kind),.v (.int .i64 op),.v (.bool not),.v (.int .i64 val.kind),.v (.int .i64 val.num),.v (.string val.text),.v (.string qual),.v (.string name),.sl kids.length (kids.flatMap Expr.row) none,.sl sub.length (sub.flatMap Query.row) none])]/\p=none) (fun f _ _=>(sub.length-aU (f 5)).toNat) [(1,.str [.v (.int .i64 kind),.v (.int .i64 op),.v (.bool not),.v (.int .i64 val.kind),.v (.int .i64 val.num),.v (.string val.text),.v (.string qual),.v (.string name),.sl kids.length (kids.flatMap Expr.row) none,.sl sub.length (sub.flatMap Query.row) none])] none ⟨ac rfl (ak _),al _,?_⟩ ?_
   ·simp only[tt,seval,hac]
    exact⟨0,rfl,by omega,by simp⟩
   ·rintro g' L p ⟨i,hix,hi,hac,rfl,rfl⟩
    simp only[tt,seval] at hix hac
    simp only[tt,seval,hix,hac,Int.ofNat_lt]
    refine fun _=>?_
    refine aa (fun hlt=>?_) (fun hge=>?_)
    ·have hlt:i<sub.length:=by omega
     have hmem:sub[i]∈sub:=aI hlt
     refine⟨by omega,by omega,_,aF Query.row_len (ay hlt),Query.ne _ _,?_⟩
     simp only[seval,Query.tk,Query.row_len]
     obtain⟨rst,hrst⟩:=d4 (fun q=>((exprsQ q).map g).sum) sub (i+1)
     have hstep:((sub.take (i+1)).map fun q=>((exprsQ q).map g).sum).sum=((sub.take i).map fun q=>((exprsQ q).map g).sum).sum+((exprsQ sub[i]).map g).sum:=ft _ hlt
     refine cZ (lY sub[i] g (fun x hx=>(hg x (.inr ⟨_,hmem,hx⟩)).1) (Nat.le_trans (jx (e:=(Expr.mk kind op not val qual name kids sub)) hmem) hsz) (by omega)) ?_ ?_<;>simp only[tt,seval,hix]
     rw[dk i (by omega)]
     rw[ax (by omega) (by omega)]
     skip
     exact⟨_,none,ac rfl (ak _),al _,⟨i+1,rfl,by omega,gB (by rw[hstep];omega),rfl,rfl⟩,by simp only[aU];omega⟩
    ·have hie:i=sub.length:=by omega
     subst hie
     rw[List.take_length] at hac
     try rw[List.take_length]
     exact⟨_,_,rfl,ai rfl⟩
theorem qx (e:Expr):(aw e<=1048576->Cl Tryz.prog 195 [.ag (av e.row)] [] fun r _=>r=vi (iw e:Nat))/\iw e<=aw e+1:=by
 refine fM (P:=fun e d=>(aw e<=1048576->Cl Tryz.prog 195 [.ag (av e.row)] [] fun r _=>r=vi (d:Nat))/\d<=aw e+1) (fun e g hg=>⟨fun hsz=>?_,xT fun x hx=>(hg x hx).2⟩) e
 obtain⟨kind,op,not,val,qual,name,kids,sub⟩:=e
 exact r6 kind op not val qual name kids sub g (fun x hx=>⟨(hg x hx).1 (Nat.le_trans (fj hx) hsz),(hg x hx).2⟩) hsz
theorem vl (s:Stmt) (hsz:bR s<=1048576):Cl Tryz.prog 135 [.ag (av s.row)] [] fun r _=>r=vi (bz ((aT s).map nK):Nat):=by
 have hlen:=iy s
 have hm:=fun x hx=>ep (s:=s) (x:=x) hx
 have hsum:=gr s
 obtain⟨kind,⟨distinct,items,from_,where_,order,limit⟩,table,rows,cols,sets,where2⟩:=s
 have hc:=rQ kind distinct items from_ where_ order limit table rows cols sets where2 hsz
 generalize aT (Stmt.mk kind (Query.mk distinct items from_ where_ order limit) table rows cols sets where2)=l at *
 have hd:∀x∈l,Cl Tryz.prog 122 [.ag (av x.row)] [] fun r _=>r=vi (nK x:Nat):=fun x hx=>(ot x).1 (Nat.le_trans (hm x hx) hsz)
 have hsl:(l.map iw).sum<=2097152:=by
  have:=jG (l:=l) (f:=iw) (g:=fun x=>aw x+1) fun x _=>(jc x).2
  omega
 rw[Stmt.row_mk,ar] at hc ⊢
 simp only[lc] at hc ⊢
 refine ae ab false Tryz.func135 rfl (by kernel_rfl) ?_
 simp only[Tryz.f135,tt,seval]
 refine cZ (hc) ?_ ?_<;>simp only[tt,seval]
 refine dLoop.intro (fun f L p=>∃i:Nat,f 5=vi i/\i<=l.length/\f 3=vi (bz ((l.take i).map nK):Nat)/\L=[(1,.str [.v (.int .i64 kind),.v (.bool distinct),.sl items.length (items.flatMap Item.row) none,.sl from_.length (from_.flatMap Source.row) none,.sl where_.length (where_.flatMap Expr.row) none,.sl order.length (order.flatMap SortKey.row) none,.v (.int .i64 limit),.v (.string table),.sl rows.length (rows.flatMap ERow.row) none,.sl cols.length (cols.flatMap srow) none,.sl sets.length (sets.flatMap Expr.row) none,.sl where2.length (where2.flatMap Expr.row) none])]/\p=none) (fun f _ _=>(l.length-aU (f 5)).toNat) [(1,.str [.v (.int .i64 kind),.v (.bool distinct),.sl items.length (items.flatMap Item.row) none,.sl from_.length (from_.flatMap Source.row) none,.sl where_.length (where_.flatMap Expr.row) none,.sl order.length (order.flatMap SortKey.row) none,.v (.int .i64 limit),.v (.string table),.sl rows.length (rows.flatMap ERow.row) none,.sl cols.length (cols.flatMap srow) none,.sl sets.length (sets.flatMap Expr.row) none,.sl where2.length (where2.flatMap Expr.row) none])] none ⟨ac rfl (ak _),al _,?_⟩ ?_
 ·simp only[tt,seval]
  exact⟨0,rfl,by omega,by simp [bz]⟩
 ·rintro g' L p ⟨i,hix,hi,hac,rfl,rfl⟩
  simp only[tt,seval] at hix hac
  simp only[tt,seval,hix,hac,Int.ofNat_lt]
  refine fun _=>?_
  refine aa (fun hlt=>?_) (fun hge=>?_)
  ·have hlt:i<l.length:=by omega
   have hmem:l[i]∈l:=aI hlt
   refine⟨by omega,by omega,_,aF aC (ay hlt),Expr.ne _ _,?_⟩
   simp only[seval,Expr.tk,aC]
   refine cZ (hd _ hmem) ?_ ?_<;>simp only[tt,seval]
   refine cZ (pn (bz ((l.take i).map nK)) (nK l[i])) ?_ ?_<;>simp only[tt,seval,hix]
   rw[dk i (by omega)]
   have hstep:bz ((l.take (i+1)).map nK)=max (bz ((l.take i).map nK)) (nK l[i]):=by rw[dh nK hlt,fQ]
   exact⟨_,none,ac rfl (ak _),al _,⟨i+1,rfl,by omega,gB (by rw[hstep]),rfl,rfl⟩,by simp only[aU];omega⟩
  ·have hie:i=l.length:=by omega
   subst hie
   rw[List.take_length] at hac
   try rw[List.take_length]
   exact⟨_,_,rfl,ai rfl⟩
theorem tm (s:Stmt) (hsz:bR s<=1048576):Cl Tryz.prog 137 [.ag (av s.row)] [] fun r _=>r=vi (bz ((aT s).map nK):Nat):=by
 have hlen:=iy s
 have hm:=fun x hx=>ep (s:=s) (x:=x) hx
 have hsum:=gr s
 obtain⟨kind,⟨distinct,items,from_,where_,order,limit⟩,table,rows,cols,sets,where2⟩:=s
 have hc:=ox kind distinct items from_ where_ order limit table rows cols sets where2 hsz
 generalize aT (Stmt.mk kind (Query.mk distinct items from_ where_ order limit) table rows cols sets where2)=l at *
 have hd:∀x∈l,Cl Tryz.prog 125 [.ag (av x.row)] [] fun r _=>r=vi (nK x:Nat):=fun x hx=>(wo x).1 (Nat.le_trans (hm x hx) hsz)
 have hsl:(l.map iw).sum<=2097152:=by
  have:=jG (l:=l) (f:=iw) (g:=fun x=>aw x+1) fun x _=>(jc x).2
  omega
 rw[Stmt.row_mk,ar] at hc ⊢
 simp only[lc] at hc ⊢
 refine ae ab false Tryz.func137 rfl (by kernel_rfl) ?_
 simp only[Tryz.f137,tt,seval]
 refine cZ (hc) ?_ ?_<;>simp only[tt,seval]
 refine cZ (oO l nK hd (by omega)) ?_ ?_<;>simp only[tt,seval]
 exact⟨_,_,rfl,ai rfl⟩
theorem wx (s:Stmt) (hsz:bR s<=1048576):Cl Tryz.prog 136 [.ag (av s.row)] [] fun r _=>r=vi (((aT s).map iw).sum:Nat):=by
 have hlen:=iy s
 have hm:=fun x hx=>ep (s:=s) (x:=x) hx
 have hsum:=gr s
 obtain⟨kind,⟨distinct,items,from_,where_,order,limit⟩,table,rows,cols,sets,where2⟩:=s
 have hc:=rQ kind distinct items from_ where_ order limit table rows cols sets where2 hsz
 generalize aT (Stmt.mk kind (Query.mk distinct items from_ where_ order limit) table rows cols sets where2)=l at *
 have hd:∀x∈l,Cl Tryz.prog 195 [.ag (av x.row)] [] fun r _=>r=vi (iw x:Nat):=fun x hx=>(qx x).1 (Nat.le_trans (hm x hx) hsz)
 have hsl:(l.map iw).sum<=2097152:=by
  have:=jG (l:=l) (f:=iw) (g:=fun x=>aw x+1) fun x _=>(jc x).2
  omega
 rw[Stmt.row_mk,ar] at hc ⊢
 simp only[lc] at hc ⊢
 refine ae ab false Tryz.func136 rfl (by kernel_rfl) ?_
 simp only[Tryz.f136,tt,seval]
 refine cZ (hc) ?_ ?_<;>simp only[tt,seval]
 refine dLoop.intro (fun f L p=>∃i:Nat,f 5=vi i/\i<=l.length/\f 3=vi (((l.take i).map iw).sum:Nat)/\L=[(1,.str [.v (.int .i64 kind),.v (.bool distinct),.sl items.length (items.flatMap Item.row) none,.sl from_.length (from_.flatMap Source.row) none,.sl where_.length (where_.flatMap Expr.row) none,.sl order.length (order.flatMap SortKey.row) none,.v (.int .i64 limit),.v (.string table),.sl rows.length (rows.flatMap ERow.row) none,.sl cols.length (cols.flatMap srow) none,.sl sets.length (sets.flatMap Expr.row) none,.sl where2.length (where2.flatMap Expr.row) none])]/\p=none) (fun f _ _=>(l.length-aU (f 5)).toNat) [(1,.str [.v (.int .i64 kind),.v (.bool distinct),.sl items.length (items.flatMap Item.row) none,.sl from_.length (from_.flatMap Source.row) none,.sl where_.length (where_.flatMap Expr.row) none,.sl order.length (order.flatMap SortKey.row) none,.v (.int .i64 limit),.v (.string table),.sl rows.length (rows.flatMap ERow.row) none,.sl cols.length (cols.flatMap srow) none,.sl sets.length (sets.flatMap Expr.row) none,.sl where2.length (where2.flatMap Expr.row) none])] none ⟨ac rfl (ak _),al _,?_⟩ ?_
 ·simp only[tt,seval]
  exact⟨0,rfl,by omega,by simp⟩
 ·rintro g' L p ⟨i,hix,hi,hac,rfl,rfl⟩
  simp only[tt,seval] at hix hac
  simp only[tt,seval,hix,hac,Int.ofNat_lt]
  refine fun _=>?_
  refine aa (fun hlt=>?_) (fun hge=>?_)
  ·have hlt:i<l.length:=by omega
   have hmem:l[i]∈l:=aI hlt
   refine⟨by omega,by omega,_,aF aC (ay hlt),Expr.ne _ _,?_⟩
   simp only[seval,Expr.tk,aC]
   refine cZ (hd _ hmem) ?_ ?_<;>simp only[tt,seval,hix]
   obtain⟨rst,hrst⟩:=d4 iw l (i+1)
   rw[dk i (by omega)]
   have hstep:((l.take (i+1)).map iw).sum=((l.take i).map iw).sum+iw l[i]:=ft iw hlt
   rw[ax (by omega) (by omega)]
   skip
   exact⟨_,none,ac rfl (ak _),al _,⟨i+1,rfl,by omega,gB (by rw[hstep];omega),rfl,rfl⟩,by simp only[aU];omega⟩
  ·have hie:i=l.length:=by omega
   subst hie
   rw[List.take_length] at hac
   try rw[List.take_length]
   exact⟨_,_,rfl,ai rfl⟩
theorem vm (s:Stmt) (hsz:bR s<=1048576):Cl Tryz.prog 138 [.ag (av s.row)] [] fun r _=>r=vi (((aT s).map iw).sum:Nat):=by
 have hlen:=iy s
 have hm:=fun x hx=>ep (s:=s) (x:=x) hx
 have hsum:=gr s
 obtain⟨kind,⟨distinct,items,from_,where_,order,limit⟩,table,rows,cols,sets,where2⟩:=s
 have hc:=ox kind distinct items from_ where_ order limit table rows cols sets where2 hsz
 generalize aT (Stmt.mk kind (Query.mk distinct items from_ where_ order limit) table rows cols sets where2)=l at *
 have hd:∀x∈l,Cl Tryz.prog 126 [.ag (av x.row)] [] fun r _=>r=vi (iw x:Nat):=fun x hx=>(jc x).1 (Nat.le_trans (hm x hx) hsz)
 have hsl:(l.map iw).sum<=2097152:=by
  have:=jG (l:=l) (f:=iw) (g:=fun x=>aw x+1) fun x _=>(jc x).2
  omega
 rw[Stmt.row_mk,ar] at hc ⊢
 simp only[lc] at hc ⊢
 refine ae ab false Tryz.func138 rfl (by kernel_rfl) ?_
 simp only[Tryz.f138,tt,seval]
 refine cZ (hc) ?_ ?_<;>simp only[tt,seval]
 refine cZ (kK l iw hd (by omega) hsl) ?_ ?_<;>simp only[tt,seval]
 exact⟨_,_,rfl,ai rfl⟩
def nL:Query->Bool | .mk distinct items from_ where_ order limit=>decide (distinct=false)&&(decide (limit=0)&&(decide (items.length=0)&&(decide (from_.length=0)&&(decide (where_.length=0)&&decide (order.length=0)))))
theorem E7 (l:List Item) (fg:FuncId):Cl Tryz.prog 208 [.c (.sl l.length (l.flatMap Item.row) none),.c (.sl 0 [] none),.c (.fn fg [] [])] [] fun r _=>r=vb (decide (l.length=0)):=by
 refine ae ab false Tryz.func208 rfl (by kernel_rfl) ?_
 simp only[Tryz.f208,tt,seval]
 refine fun _=>?_
 by_cases h:l.length=0
 case neg=>
  simp only[tt,seval,ao (show ¬(l.length:Int)=0 by omega)]
  exact⟨_,_,aE (ao h).symm,ai rfl⟩
 have hs:l=[]:=List.eq_nil_of_length_eq_zero h
 subst hs
 simp only[tt,seval]
 refine dLoop.intro (fun f L p=>f 17=vi 0/\L=[]/\p=none) (fun _ _ _=>0) [] none ⟨ak _,al _,?_⟩ ?_
 ·simp only[tt,seval]
 ·rintro g L p ⟨h5',rfl,rfl⟩
  simp only[tt,seval] at h5'
  simp only[tt,seval,h5']
  exact⟨_,_,rfl,ai rfl⟩
theorem E8 (l:List Source) (fg:FuncId):Cl Tryz.prog 209 [.c (.sl l.length (l.flatMap Source.row) none),.c (.sl 0 [] none),.c (.fn fg [] [])] [] fun r _=>r=vb (decide (l.length=0)):=by
 refine ae ab false Tryz.func209 rfl (by kernel_rfl) ?_
 simp only[Tryz.f209,tt,seval]
 refine fun _=>?_
 by_cases h:l.length=0
 case neg=>
  simp only[tt,seval,ao (show ¬(l.length:Int)=0 by omega)]
  exact⟨_,_,aE (ao h).symm,ai rfl⟩
 have hs:l=[]:=List.eq_nil_of_length_eq_zero h
 subst hs
 simp only[tt,seval]
 refine dLoop.intro (fun f L p=>f 17=vi 0/\L=[]/\p=none) (fun _ _ _=>0) [] none ⟨ak _,al _,?_⟩ ?_
 ·simp only[tt,seval]
 ·rintro g L p ⟨h5',rfl,rfl⟩
  simp only[tt,seval] at h5'
  simp only[tt,seval,h5']
  exact⟨_,_,rfl,ai rfl⟩
theorem E9 (l:List SortKey) (fg:FuncId):Cl Tryz.prog 210 [.c (.sl l.length (l.flatMap SortKey.row) none),.c (.sl 0 [] none),.c (.fn fg [] [])] [] fun r _=>r=vb (decide (l.length=0)):=by
 refine ae ab false Tryz.func210 rfl (by kernel_rfl) ?_
 simp only[Tryz.f210,tt,seval]
 refine fun _=>?_
 by_cases h:l.length=0
 case neg=>
  simp only[tt,seval,ao (show ¬(l.length:Int)=0 by omega)]
  exact⟨_,_,aE (ao h).symm,ai rfl⟩
 have hs:l=[]:=List.eq_nil_of_length_eq_zero h
 subst hs
 simp only[tt,seval]
 refine dLoop.intro (fun f L p=>f 17=vi 0/\L=[]/\p=none) (fun _ _ _=>0) [] none ⟨ak _,al _,?_⟩ ?_
 ·simp only[tt,seval]
 ·rintro g L p ⟨h5',rfl,rfl⟩
  simp only[tt,seval] at h5'
  simp only[tt,seval,h5']
  exact⟨_,_,rfl,ai rfl⟩
theorem yS (distinct:Bool) (items:List Item) (from_:List Source) (where_:List Expr) (order:List SortKey) (limit:Int):Cl Tryz.prog 139 [.ag (av (Query.mk distinct items from_ where_ order limit).row),.ag (av (Query.mk false [] [] [] [] 0).row)] [] fun r _=>r=vb (nL (Query.mk distinct items from_ where_ order limit)):=by
 obtain⟨zb,hzb⟩:∃zb,zb=nL (Query.mk distinct items from_ where_ order limit):=⟨_,rfl⟩
 rw[<-hzb,ar,ar]
 refine ae ab false Tryz.func139 rfl (by kernel_rfl) ?_
 simp only[Tryz.f139,tt,seval]
 cases hd:distinct
 case' true=>
  subst hd
  simp only[tt,seval,EY]
  exact⟨_,_,aE (by rw[hzb];simp [nL]),ai rfl⟩
 simp only[tt,seval]
 by_cases h1:limit=0
 case neg=>
  simp only[tt,seval,ao h1]
  exact⟨_,_,aE (by rw[hzb];simp [nL,hd,h1]),ai rfl⟩
 simp only[tt,seval,h1]
 refine cZ (E7 items 203) ?_ ?_<;>simp only[tt,seval]
 by_cases h2:items.length=0
 case neg=>
  simp only[tt,seval,ao h2]
  exact⟨_,_,aE (by rw[hzb];simp [nL,hd,h1,h2]),ai rfl⟩
 simp only[tt,seval,ap h2]
 refine cZ (E8 from_ 205) ?_ ?_<;>simp only[tt,seval]
 by_cases h3:from_.length=0
 case neg=>
  simp only[tt,seval,ao h3]
  exact⟨_,_,aE (by rw[hzb];simp [nL,hd,h1,h2,h3]),ai rfl⟩
 simp only[tt,seval,ap h3]
 refine cZ (nx where_) ?_ ?_<;>simp only[tt,seval]
 by_cases h4:where_.length=0
 case neg=>
  simp only[tt,seval,ao h4]
  exact⟨_,_,aE (by rw[hzb];simp [nL,hd,h1,h2,h3,h4]),ai rfl⟩
 simp only[tt,seval,ap h4]
 refine cZ (E9 order 207) ?_ ?_<;>simp only[tt,seval]
 exact⟨_,_,aE (by rw[hzb];simp [nL,hd,h1,h2,h3,h4]),ai rfl⟩
theorem Bm (distinct:Bool) (items:List Item) (from_:List Source) (where_:List Expr) (order:List SortKey) (limit:Int):Cl Tryz.prog 200 [.ag (av (Query.mk distinct items from_ where_ order limit).row),.ag (av (Query.mk false [] [] [] [] 0).row)] [] fun r _=>r=vb (nL (Query.mk distinct items from_ where_ order limit)):=by
 obtain⟨zb,hzb⟩:∃zb,zb=nL (Query.mk distinct items from_ where_ order limit):=⟨_,rfl⟩
 rw[<-hzb,ar,ar]
 refine ae ab false Tryz.func200 rfl (by kernel_rfl) ?_
 simp only[Tryz.f200,tt,seval]
 cases hd:distinct
 case' true=>
  subst hd
  simp only[tt,seval,EY]
  exact⟨_,_,aE (by rw[hzb];simp [nL]),ai rfl⟩
 simp only[tt,seval]
 by_cases h1:limit=0
 case neg=>
  simp only[tt,seval,h1]
  exact⟨_,_,aE (by rw[hzb];simp [nL,hd,h1]),ai rfl⟩
 simp only[tt,seval,h1]
 refine fun _=>?_
 by_cases h2:items.length=0
 case neg=>
  simp only[tt,seval,ao (show ¬(items.length:Int)=0 by omega)]
  exact⟨_,_,aE (by rw[hzb];simp [nL,hd,h1,h2]),ai rfl⟩
 simp only[tt,seval,show (items.length:Int)=0 from by omega]
 refine fun _=>?_
 by_cases h3:from_.length=0
 case neg=>
  simp only[tt,seval,ao (show ¬(from_.length:Int)=0 by omega)]
  exact⟨_,_,aE (by rw[hzb];simp [nL,hd,h1,h2,h3]),ai rfl⟩
 simp only[tt,seval,show (from_.length:Int)=0 from by omega]
 refine fun _=>?_
 by_cases h5:order.length=0
 case neg=>
  simp only[tt,seval,ao (show ¬(order.length:Int)=0 by omega)]
  exact⟨_,_,aE (by rw[hzb];simp [nL,hd,h1,h2,h3,h5]),ai rfl⟩
 simp only[tt,seval,show (order.length:Int)=0 from by omega]
 refine cZ (rM where_) ?_ ?_<;>simp only[tt,seval]
 by_cases h4:where_.length=0
 case neg=>
  simp only[tt,seval,h4]
  exact⟨_,_,aE (by rw[hzb];simp [nL,hd,h1,h2,h3,h5,h4]),ai rfl⟩
 simp only[tt,seval,ap h4]
 subst h1
 refine dLoop.intro (fun f L p=>f 5=vi 0/\L=[(2,.str [.v (.bool false),.sl items.length (items.flatMap Item.row) none,.sl from_.length (from_.flatMap Source.row) none,.sl where_.length (where_.flatMap Expr.row) none,.sl order.length (order.flatMap SortKey.row) none,.v (.int .i64 0)]),(3,.str [.v (.bool false),.sl 0 [] none,.sl 0 [] none,.sl 0 [] none,.sl 0 [] none,.v (.int .i64 0)])]/\p=none) (fun _ _ _=>0) [(2,.str [.v (.bool false),.sl items.length (items.flatMap Item.row) none,.sl from_.length (from_.flatMap Source.row) none,.sl where_.length (where_.flatMap Expr.row) none,.sl order.length (order.flatMap SortKey.row) none,.v (.int .i64 0)]),(3,.str [.v (.bool false),.sl 0 [] none,.sl 0 [] none,.sl 0 [] none,.sl 0 [] none,.v (.int .i64 0)])] none ⟨ac rfl (ac rfl (ak _)),al _,?_⟩ ?_
 ·try simp only[tt,seval]
 ·rintro g1 L p ⟨h5',rfl,rfl⟩
  simp only[tt,seval] at h5'
  simp only[tt,seval,h5']
  refine fun _=>aa (fun hlt=>absurd hlt (by omega)) (fun _=>?_)
  refine dLoop.intro (fun f L p=>f 8=vi 0/\L=[(2,.str [.v (.bool false),.sl items.length (items.flatMap Item.row) none,.sl from_.length (from_.flatMap Source.row) none,.sl where_.length (where_.flatMap Expr.row) none,.sl order.length (order.flatMap SortKey.row) none,.v (.int .i64 0)]),(3,.str [.v (.bool false),.sl 0 [] none,.sl 0 [] none,.sl 0 [] none,.sl 0 [] none,.v (.int .i64 0)])]/\p=none) (fun _ _ _=>0) [(2,.str [.v (.bool false),.sl items.length (items.flatMap Item.row) none,.sl from_.length (from_.flatMap Source.row) none,.sl where_.length (where_.flatMap Expr.row) none,.sl order.length (order.flatMap SortKey.row) none,.v (.int .i64 0)]),(3,.str [.v (.bool false),.sl 0 [] none,.sl 0 [] none,.sl 0 [] none,.sl 0 [] none,.v (.int .i64 0)])] none ⟨ac rfl (ac rfl (ak _)),al _,?_⟩ ?_
  ·try simp only[tt,seval]
  ·rintro g2 L p ⟨h8',rfl,rfl⟩
   simp only[tt,seval] at h8'
   simp only[tt,seval,h8']
   refine fun _=>aa (fun hlt=>absurd hlt (by omega)) (fun _=>?_)
   refine dLoop.intro (fun f L p=>f 11=vi 0/\L=[(2,.str [.v (.bool false),.sl items.length (items.flatMap Item.row) none,.sl from_.length (from_.flatMap Source.row) none,.sl where_.length (where_.flatMap Expr.row) none,.sl order.length (order.flatMap SortKey.row) none,.v (.int .i64 0)]),(3,.str [.v (.bool false),.sl 0 [] none,.sl 0 [] none,.sl 0 [] none,.sl 0 [] none,.v (.int .i64 0)])]/\p=none) (fun _ _ _=>0) [(2,.str [.v (.bool false),.sl items.length (items.flatMap Item.row) none,.sl from_.length (from_.flatMap Source.row) none,.sl where_.length (where_.flatMap Expr.row) none,.sl order.length (order.flatMap SortKey.row) none,.v (.int .i64 0)]),(3,.str [.v (.bool false),.sl 0 [] none,.sl 0 [] none,.sl 0 [] none,.sl 0 [] none,.v (.int .i64 0)])] none ⟨ac rfl (ac rfl (ak _)),al _,?_⟩ ?_
   ·try simp only[tt,seval]
   ·rintro g3 L p ⟨h11',rfl,rfl⟩
    simp only[tt,seval] at h11'
    simp only[tt,seval,h11']
    refine fun _=>aa (fun hlt=>absurd hlt (by omega)) (fun _=>?_)
    exact⟨_,_,aE (by rw[hzb];simp [nL,hd,h2,h3,h5,h4]),ai rfl⟩
noncomputable def Bn (s:Stmt):Bool:=decide (bz ((aT s).map nK)<=24)&&decide (((aT s).map iw).sum<=200)
def wy (x:ERow):Bool:=decide (1<=x.l.length/\x.l.length<=12)
def eO (f:Bool) (kind:Int) (rows:List ERow) (cols:List ByteArray) (sets where2:List Expr):Bool:=
 if kind=2 then decide (cols.length=0)&&(decide (sets.length=0)&&(decide (where2.length=0)&&(decide (1<=rows.length)&&(decide (rows.length<=5)&&rows.all wy))))
 else if kind=3 then decide (rows.length=0)&&(decide (1<=cols.length)&&(decide (cols.length<=12)&&(decide (sets.length=cols.length)&&(decide (where2.length<=1)&&cols.all b9))))
 else if kind=4 then decide (rows.length=0)&&(decide (cols.length=0)&&(decide (sets.length=0)&&decide (where2.length<=1))) else false
noncomputable def yT (s:Stmt):Bool:=match s with
 |.mk kind q table rows cols sets where2=>if kind=1 then decide (table=⟨#[]⟩)&&(decide (rows.length=0)&&(decide (cols.length=0)&&(decide (sets.length=0)&&(decide (where2.length=0)&&eZ fmE q))))
  else nL q&&(b9 table&&((aT s).all fmE&&eO true kind rows cols sets where2))
noncomputable def dw (s:Stmt):Bool:=Bn s&&yT s
theorem EJ (x:ERow) (hl:x.l.length<=1048576):Cl Tryz.prog 144 [.c (.sl x.l.length (x.l.flatMap Expr.row) none)] [] fun r _=>r=vb (!wy x):=by
 refine ae ab false Tryz.func144 rfl (by kernel_rfl) ?_
 simp only[Tryz.f144,tt,seval]
 refine fun _=>?_
 by_cases h1:(x.l.length:Int)<1
 ·simp only[tt,seval,ap h1]
  exact⟨_,_,aE (by unfold wy;rw[ao (by omega)];rfl),ai rfl⟩
 ·simp only[tt,seval,ao h1]
  refine fun _=>?_
  by_cases h2:(12:Int)<x.l.length
  ·try simp only[seval,ap h2]
   exact⟨_,_,aE (by unfold wy;rw[ao (by omega)];simp []),ai rfl⟩
  ·try simp only[seval,ao h2]
   exact⟨_,_,aE (by unfold wy;rw[ap (by omega)];simp []),ai rfl⟩
theorem EK (s:ByteArray):Cl Tryz.prog 146 [vs s] [] fun r _=>r=vb (!b9 s):=by
 refine ae ab false Tryz.func146 rfl (by kernel_rfl) ?_
 simp only[Tryz.f146,tt,seval]
 refine cZ (er s) ?_ ?_<;>simp only[tt,seval]
 exact⟨_,_,rfl,ai rfl⟩
theorem Bo (l:List ERow) (g:ERow->Bool) (h:∀x∈l,Cl Tryz.prog 144 [.c (.sl x.l.length (x.l.flatMap Expr.row) none)] [] fun r _=>r=vb (!g x)):Cl Tryz.prog 213 [.c (.sl l.length (l.flatMap ERow.row) none),.c (.fn 144 [] [])] [] fun r _=>∃n:Int,r=vi n/\decide (0<=n) = !(l.all g):=by
 refine ae ab false Tryz.func213 rfl (by kernel_rfl) ?_
 simp only[Tryz.f213,tt,seval]
 refine fun _=>?_
 refine dLoop.intro (fun f L p=>∃i:Nat,f 8=vi i/\i<=l.length/\(∀j (hj:j<l.length),j<i->g l[j]=true)/\L=[]/\p=none) (fun f _ _=>(l.length-aU (f 8)).toNat) [] none ⟨ak _,al _,?_⟩ ?_
 ·simp only[tt,seval]
  exact⟨0,rfl,by omega,fun j _ h=>absurd h (Nat.not_lt_zero _)⟩
 ·rintro g' L p ⟨i,hix,hi,hall,rfl,rfl⟩
  simp only[tt,seval] at hix
  simp only[tt,seval,hix,Int.ofNat_lt]
  refine aa (fun hlt=>?_) (fun hge=>?_)
  ·refine⟨by omega,by omega,_,aF ERow.row_len (ay hlt),ERow.ne _ _,?_⟩
   simp only[tt,seval,lM]
   refine cZ (h l[i] (aI hlt)) ?_ ?_<;>simp only[tt,seval,hix]
   refine aa (fun hb=>?_) (fun hb=>?_)
   ·have hb:g l[i]=false:=by simpa only[Bool.not_eq_true'] using hb
    refine⟨vi i,[],⟨i,rfl,?_⟩,ai rfl⟩
    rw[ap (by omega),dv (aI hlt) hb];rfl
   ·have hb:g l[i]=true:=by simpa only[Bool.not_eq_false'] using hb
    try rw[dk i (by omega)]
    exact⟨_,none,ak _,al _,⟨i+1,rfl,by omega,fun j hj hji=>by
     by_cases e:j=i
     ·subst e;exact hb
     ·exact hall j hj (by omega),rfl,rfl⟩,by simp only[aU];omega⟩
  ·refine⟨vi (-1),[],⟨-1,rfl,?_⟩,ai rfl⟩
   rw[eN fun j hj=>hall j hj (by omega)];rfl
theorem vn (l:List ERow) (g:ERow->Bool) (h:∀x∈l,Cl Tryz.prog 144 [.c (.sl x.l.length (x.l.flatMap Expr.row) none)] [] fun r _=>r=vb (!g x)):Cl Tryz.prog 143 [.c (.sl l.length (l.flatMap ERow.row) none),.c (.fn 144 [] [])] [] fun r _=>r=vb (!(l.all g)):=by
 refine ae ab false Tryz.func143 rfl (by kernel_rfl) ?_
 simp only[Tryz.f143,tt,seval]
 refine hJ (Bo l g h) ?_ ?_ ?_
 ·decide
 ·simp only[tt,seval]
 rintro r ⟨n,rfl,hn⟩
 simp only[tt,seval]
 exact⟨_,_,aE hn,ai rfl⟩
theorem Bp (l:List ByteArray) (g:ByteArray->Bool) (h:∀x∈l,Cl Tryz.prog 146 [vs x] [] fun r _=>r=vb (!g x)):Cl Tryz.prog 214 [.c (.sl l.length (l.flatMap srow) none),.c (.fn 146 [] [])] [] fun r _=>∃n:Int,r=vi n/\decide (0<=n) = !(l.all g):=by
 refine ae ab false Tryz.func214 rfl (by kernel_rfl) ?_
 simp only[Tryz.f214,tt,seval]
 refine fun _=>?_
 refine dLoop.intro (fun f L p=>∃i:Nat,f 8=vi i/\i<=l.length/\(∀j (hj:j<l.length),j<i->g l[j]=true)/\L=[]/\p=none) (fun f _ _=>(l.length-aU (f 8)).toNat) [] none ⟨ak _,al _,?_⟩ ?_
 ·simp only[tt,seval]
  exact⟨0,rfl,by omega,fun j _ h=>absurd h (Nat.not_lt_zero _)⟩
 ·rintro g' L p ⟨i,hix,hi,hall,rfl,rfl⟩
  simp only[tt,seval] at hix
  simp only[tt,seval,hix,Int.ofNat_lt]
  refine aa (fun hlt=>?_) (fun hge=>?_)
  ·refine⟨by omega,by omega,_,aF dM (ay hlt),ji _ _,?_⟩
   simp only[tt,seval,srow]
   refine cZ (h l[i] (aI hlt)) ?_ ?_<;>simp only[tt,seval,hix]
   refine aa (fun hb=>?_) (fun hb=>?_)
   ·have hb:g l[i]=false:=by simpa only[Bool.not_eq_true'] using hb
    refine⟨vi i,[],⟨i,rfl,?_⟩,ai rfl⟩
    rw[ap (by omega),dv (aI hlt) hb];rfl
   ·have hb:g l[i]=true:=by simpa only[Bool.not_eq_false'] using hb
    try rw[dk i (by omega)]
    exact⟨_,none,ak _,al _,⟨i+1,rfl,by omega,fun j hj hji=>by
     by_cases e:j=i
     ·subst e;exact hb
     ·exact hall j hj (by omega),rfl,rfl⟩,by simp only[aU];omega⟩
  ·refine⟨vi (-1),[],⟨-1,rfl,?_⟩,ai rfl⟩
   rw[eN fun j hj=>hall j hj (by omega)];rfl
theorem CX (l:List ByteArray) (g:ByteArray->Bool) (h:∀x∈l,Cl Tryz.prog 146 [vs x] [] fun r _=>r=vb (!g x)):Cl Tryz.prog 145 [.c (.sl l.length (l.flatMap srow) none),.c (.fn 146 [] [])] [] fun r _=>r=vb (!(l.all g)):=by
 refine ae ab false Tryz.func145 rfl (by kernel_rfl) ?_
 simp only[Tryz.f145,tt,seval]
 refine hJ (Bp l g h) ?_ ?_ ?_
 ·decide
 ·simp only[tt,seval]
 rintro r ⟨n,rfl,hn⟩
 simp only[tt,seval]
 exact⟨_,_,aE hn,ai rfl⟩
set_option maxHeartbeats 2000000 in
theorem rR (s:Stmt) (hsz:bR s<=1048576):Cl Tryz.prog 83 [.ag (av s.row)] [] fun r _=>r=vb (dw s):=by
 have cd:=tm s hsz
 have cs:=vm s hsz
 have hex:=fun x hx=>ep (s:=s) (x:=x) hx
 obtain⟨zb,hzb⟩:∃zb,zb=dw s:=⟨_,rfl⟩
 rw[<-hzb]
 have hsmd:Bn s=(decide (bz ((aT s).map nK)<=24)&&decide (((aT s).map iw).sum<=200)):=rfl
 generalize bz ((aT s).map nK)=dp at *
 generalize ((aT s).map iw).sum=nn at *
 obtain⟨kind,⟨distinct,items,from_,where_,order,limit⟩,table,rows,cols,sets,where2⟩:=s
 have ce:=ox kind distinct items from_ where_ order limit table rows cols sets where2 hsz
 have hss:=hsz
 rw[ey] at hss
 have hqs:aP (Query.mk distinct items from_ where_ order limit)<=1048576:=by omega
 have hrn:=kV rows
 have hr9:(rows.length<=9223372036854775807)=True:=eq_true (by omega)
 have hc9:(cols.length<=9223372036854775807)=True:=eq_true (by unfold fX at hss;omega)
 have hs9:(sets.length<=9223372036854775807)=True:=eq_true (by rw[az,az] at hss;omega)
 have hw9:(where2.length<=9223372036854775807)=True:=eq_true (by rw[az,az] at hss;omega)
 have cq:=jP (Query.mk distinct items from_ where_ order limit) fmE (fun x hx=>qv x (Nat.le_trans (iW hx) hqs)) hqs
 have ca:=cu (aT (Stmt.mk kind (Query.mk distinct items from_ where_ order limit) table rows cols sets where2)) fmE (fun x hx=>qv x (Nat.le_trans (hex x hx) hsz))
 have cz:=yS distinct items from_ where_ order limit
 have cr:=vn rows wy (fun x hx=>EJ x (by have:=bZ f7 hx;rw[fJ,az] at this;rw[ee] at hss;omega))
 have ct:=CX cols b9 (fun x _=>EK x)
 rw[ar] at cq cz
 rw[Stmt.row_mk,ar] at cd cs ce ⊢
 simp only[lc] at cd cs ce ⊢
 refine ae ab false Tryz.func83 rfl (by kernel_rfl) ?_
 simp only[Tryz.f83,tt,seval]
 refine dDrawn.intro [] (iK [0,4,3,7,9,10]) (by kernel_rfl) ?_
 simp only[tt,seval]
 refine cZ (cd) ?_ ?_<;>simp only[tt,seval]
 refine cZ (cs) ?_ ?_<;>simp only[tt,seval]
 refine cZ (yP dp nn) ?_ ?_<;>simp only[tt,seval]
 rw[<-hsmd]
 cases hsm:Bn (Stmt.mk kind (Query.mk distinct items from_ where_ order limit) table rows cols sets where2)
 case false=>
  simp only[tt,seval]
  exact⟨_,_,aE (by rw[hzb];simp [dw,hsm]),ai rfl⟩
 simp only[tt,seval]
 refine aa (fun k1=>?_) (fun k1=>?_)
 ·try simp only[tt,seval]
  by_cases ht:table=⟨#[]⟩
  case neg=>
   simp only[tt,seval,ao ht]
   exact⟨_,_,aE (by rw[hzb,dw,hsm,Bool.true_and];simp [yT,k1,ht];try omega),ai rfl⟩
  simp only[tt,seval,ap ht,hr9]
  by_cases h1:rows.length=0
  case neg=>
   simp only[tt,seval,ao (show ¬(rows.length:Int)=0 by omega)]
   exact⟨_,_,aE (by rw[hzb,dw,hsm,Bool.true_and];simp [yT,k1,ht,h1];try omega),ai rfl⟩
  simp only[tt,seval,ap (show (rows.length:Int)=0 by omega),hc9]
  by_cases h2:cols.length=0
  case neg=>
   simp only[tt,seval,ao (show ¬(cols.length:Int)=0 by omega)]
   exact⟨_,_,aE (by rw[hzb,dw,hsm,Bool.true_and];simp [yT,k1,ht,h1,h2];try omega),ai rfl⟩
  simp only[tt,seval,ap (show (cols.length:Int)=0 by omega),hs9]
  by_cases h3:sets.length=0
  case neg=>
   simp only[tt,seval,ao (show ¬(sets.length:Int)=0 by omega)]
   exact⟨_,_,aE (by rw[hzb,dw,hsm,Bool.true_and];simp [yT,k1,ht,h1,h2,h3];try omega),ai rfl⟩
  simp only[tt,seval,ap (show (sets.length:Int)=0 by omega),hw9]
  by_cases h4:where2.length=0
  case neg=>
   simp only[tt,seval,ao (show ¬(where2.length:Int)=0 by omega)]
   exact⟨_,_,aE (by rw[hzb,dw,hsm,Bool.true_and];simp [yT,k1,ht,h1,h2,h3,h4];try omega),ai rfl⟩
  simp only[tt,seval,ap (show (where2.length:Int)=0 by omega)]
  refine cZ (cq) ?_ ?_<;>simp only[tt,seval]
  exact⟨_,_,aE (by rw[hzb,dw,hsm,Bool.true_and];simp [yT,k1,ht,h1,h2,h3,h4];try omega),ai rfl⟩
 refine cZ (cz) ?_ ?_<;>simp only[tt,seval,ar]
 cases hz:nL (Query.mk distinct items from_ where_ order limit)
 case false=>
  simp only[tt,seval,hr9,hc9]
  exact⟨_,_,aE (by rw[hzb,dw,hsm,Bool.true_and];simp [yT,k1,hz];try omega),ai rfl⟩
 simp only[tt,seval]
 refine cZ (er table) ?_ ?_<;>simp only[tt,seval]
 cases hn:decide (1<=table.size/\table.size<=20)
 case false=>
  simp only[tt,seval,hr9,hc9]
  exact⟨_,_,aE (by rw[hzb,dw,hsm,Bool.true_and];simp [yT,k1,hz,hn,b9];try omega),ai rfl⟩
 simp only[tt,seval]
 refine cZ (ce) ?_ ?_<;>simp only[tt,seval]
 refine cZ (ca) ?_ ?_<;>simp only[tt,seval,hr9,hc9]
 cases hf:(aT (Stmt.mk kind (Query.mk distinct items from_ where_ order limit) table rows cols sets where2)).all fmE
 case false=>
  simp only[tt,seval]
  exact⟨_,_,aE (by rw[hzb,dw,hsm,yT,if_neg k1,hz,hf,Bool.false_and,Bool.and_false];rfl),ai rfl⟩
 simp only[tt,seval]
 have hzb:zb=eO true kind rows cols sets where2:=by rw[hzb,dw,hsm,yT,if_neg k1,hz,hf,b9,hn];rfl
 refine aa (fun k2=>?_) (fun k2=>?_)
 ·try simp only[tt,seval,hr9,hc9,hs9,hw9]
  by_cases h2:cols.length=0
  case neg=>
   simp only[tt,seval,ao (show ¬(cols.length:Int)=0 by omega)]
   exact⟨_,_,aE (by rw[hzb];simp [eO,k2,h2];try omega),ai rfl⟩
  simp only[tt,seval,ap (show (cols.length:Int)=0 by omega),hs9]
  by_cases h3:sets.length=0
  case neg=>
   simp only[tt,seval,ao (show ¬(sets.length:Int)=0 by omega)]
   exact⟨_,_,aE (by rw[hzb];simp [eO,k2,h2,h3];try omega),ai rfl⟩
  simp only[tt,seval,ap (show (sets.length:Int)=0 by omega),hw9]
  by_cases h4:where2.length=0
  case neg=>
   simp only[tt,seval,ao (show ¬(where2.length:Int)=0 by omega)]
   exact⟨_,_,aE (by rw[hzb];simp [eO,k2,h2,h3,h4];try omega),ai rfl⟩
  simp only[tt,seval,ap (show (where2.length:Int)=0 by omega),hr9]
  by_cases h5:1<=rows.length
  case neg=>
   simp only[tt,seval,ao (show ¬(1:Int)<=rows.length by omega)]
   exact⟨_,_,aE (by rw[hzb];simp [eO,k2,h2,h3,h4,h5];try omega),ai rfl⟩
  simp only[tt,seval,ap (show (1:Int)<=rows.length by omega),hr9]
  by_cases h6:rows.length<=5
  case neg=>
   simp only[tt,seval,ao (show ¬(rows.length:Int)<=5 by omega)]
   exact⟨_,_,aE (by rw[hzb];simp [eO,k2,h2,h3,h4,h5,h6];try omega),ai rfl⟩
  simp only[tt,seval,ap (show (rows.length:Int)<=5 by omega)]
  refine cZ (cr) ?_ ?_<;>simp only[tt,seval]
  exact⟨_,_,aE (by rw[hzb];simp [eO,k2,h2,h3,h4,h5,h6];try omega),ai rfl⟩
 refine aa (fun k3=>?_) (fun k3=>?_)
 ·try simp only[tt,seval,hr9,hc9,hs9,hw9]
  by_cases h1:rows.length=0
  case neg=>
   simp only[tt,seval,ao (show ¬(rows.length:Int)=0 by omega)]
   exact⟨_,_,aE (by rw[hzb];simp [eO,k3,h1];try omega),ai rfl⟩
  simp only[tt,seval,ap (show (rows.length:Int)=0 by omega),hc9]
  by_cases h2:1<=cols.length
  case neg=>
   simp only[tt,seval,ao (show ¬(1:Int)<=cols.length by omega)]
   exact⟨_,_,aE (by rw[hzb];simp [eO,k3,h1,h2];try omega),ai rfl⟩
  simp only[tt,seval,ap (show (1:Int)<=cols.length by omega),hc9]
  by_cases h3:cols.length<=12
  case neg=>
   simp only[tt,seval,ao (show ¬(cols.length:Int)<=12 by omega)]
   exact⟨_,_,aE (by rw[hzb];simp [eO,k3,h1,h2,h3];try omega),ai rfl⟩
  simp only[tt,seval,ap (show (cols.length:Int)<=12 by omega),hc9,hs9]
  by_cases h4:sets.length=cols.length
  case neg=>
   simp only[tt,seval,ao (show ¬(sets.length:Int)=cols.length by omega)]
   exact⟨_,_,aE (by rw[hzb];simp [eO,k3,h1,h2,h3,h4];try omega),ai rfl⟩
  simp only[tt,seval,ap (show (sets.length:Int)=cols.length by omega),hw9]
  by_cases h5:where2.length<=1
  case neg=>
   simp only[tt,seval,ao (show ¬(where2.length:Int)<=1 by omega)]
   exact⟨_,_,aE (by rw[hzb];simp [eO,k3,h1,h2,h3,h4,h5];try omega),ai rfl⟩
  simp only[tt,seval,ap (show (where2.length:Int)<=1 by omega)]
  refine cZ (ct) ?_ ?_<;>simp only[tt,seval]
  exact⟨_,_,aE (by rw[hzb];simp [eO,k3,h1,h2,h3,h4,h5];try omega),ai rfl⟩
 refine aa (fun k4=>?_) (fun k4=>?_)
 ·try simp only[tt,seval,hr9,hc9,hs9,hw9]
  by_cases h1:rows.length=0
  case neg=>
   simp only[tt,seval,ao (show ¬(rows.length:Int)=0 by omega)]
   exact⟨_,_,aE (by rw[hzb];simp [eO,k4,h1];try omega),ai rfl⟩
  simp only[tt,seval,ap (show (rows.length:Int)=0 by omega),hc9]
  by_cases h2:cols.length=0
  case neg=>
   simp only[tt,seval,ao (show ¬(cols.length:Int)=0 by omega)]
   exact⟨_,_,aE (by rw[hzb];simp [eO,k4,h1,h2];try omega),ai rfl⟩
  simp only[tt,seval,ap (show (cols.length:Int)=0 by omega),hs9]
  by_cases h3:sets.length=0
  case neg=>
   simp only[tt,seval,ao (show ¬(sets.length:Int)=0 by omega)]
   exact⟨_,_,aE (by rw[hzb];simp [eO,k4,h1,h2,h3];try omega),ai rfl⟩
  simp only[tt,seval,ap (show (sets.length:Int)=0 by omega),hw9]
  exact⟨_,_,aE (by rw[hzb];simp [eO,k4,h1,h2,h3];try omega),ai rfl⟩
 exact⟨_,_,aE (by rw[hzb];simp [eO,k2,k3,k4];try omega),ai rfl⟩
noncomputable def Bq (q:Query):Bool:=eZ fmE q&&(decide (bz ((exprsQ q).map nK)<=24)&&decide (((exprsQ q).map iw).sum<=200))
noncomputable def rS (x:ERow):Bool:=wy x&&x.l.all okE
noncomputable def nD (s:Stmt):Bool:=match s with
 |.mk kind q table rows cols sets where2=>if kind=1 then Bq q&&(decide (table=⟨#[]⟩)&&decide (rows.length+cols.length+sets.length+where2.length=0))
  else if kind=2 then rows.all rS&&(nL q&&(b9 table&&(decide (1<=rows.length/\rows.length<=5)&&decide (cols.length+sets.length+where2.length=0))))
  else if kind=3 then cols.all b9&&(nL q&&(b9 table&&(decide (rows.length=0)&&(decide (1<=cols.length/\cols.length<=12)&&(decide (sets.length=cols.length)&&(decide (where2.length<=1)&&(sets.all okE&&where2.all okE)))))))
  else if kind=4 then nL q&&(b9 table&&(decide (rows.length+cols.length+sets.length=0)&&(decide (where2.length<=1)&&where2.all okE))) else false
theorem tn (l:List Expr) (hl:l.length<=1048576) (h:∀x∈l,aw x<=1048576):Cl Tryz.prog 201 [.c (.sl l.length (l.flatMap Expr.row) none)] [] fun r _=>r=vb (l.all okE):=by
 obtain⟨zb,hzb⟩:∃zb,zb=l.all okE:=⟨_,rfl⟩
 rw[<-hzb]
 refine ae ab false Tryz.func201 rfl (by kernel_rfl) ?_
 simp only[Tryz.f201,tt,seval]
 refine dLoop.intro (fun f L p=>∃i:Nat,f 3=vi i/\i<=l.length/\(∀j (hj:j<l.length),j<i->okE l[j]=true)/\L=[]/\p=none) (fun f _ _=>(l.length-aU (f 3)).toNat) [] none ⟨ak _,al _,?_⟩ ?_
 ·simp only[tt,seval]
  exact⟨0,rfl,by omega,fun j _ h=>absurd h (Nat.not_lt_zero _)⟩
 ·rintro g' L p ⟨i,ix,hi,hal,rfl,rfl⟩
  simp only[tt,seval] at ix
  simp only[tt,seval,ix,Int.ofNat_lt]
  refine fun _=>aa (fun hlt=>?_) (fun hge=>?_)
  ·have hlt:i<l.length:=by omega
   refine⟨by omega,by omega,_,aF aC (ay hlt),Expr.ne _ _,?_⟩
   simp only[seval,Expr.tk,aC]
   refine cZ (Bf l[i] (h _ (aI hlt))) ?_ ?_<;>simp only[tt,seval,ix]
   refine aa (fun hb=>?_) (fun hb=>?_)
   ·have hb:okE l[i]=false:=by simpa only[Bool.not_eq_true'] using hb
    exact⟨_,_,aE (by rw[hzb,dv (aI hlt) hb]),ai rfl⟩
   ·have hb:okE l[i]=true:=by simpa only[Bool.not_eq_false'] using hb
    try rw[dk i (by omega)]
    exact⟨_,none,ak _,al _,⟨i+1,rfl,by omega,fun j hj hji=>by
     by_cases e:j=i
     ·subst e;exact hb
     ·exact hal j hj (by omega),rfl,rfl⟩,by simp only[aU];omega⟩
  ·exact⟨_,_,aE (by rw[hzb,eN fun j hj=>hal j hj (by omega)]),ai rfl⟩
theorem yU (q:Query) (hsz:aP q<=1048576):Cl Tryz.prog 78 [.ag (av q.row)] [] fun r _=>r=vb (Bq q):=by
 have hx:∀x∈exprsQ q,aw x<=1048576:=fun x hx=>Nat.le_trans (iW hx) hsz
 have hsum:=mv q
 have hs2:((exprsQ q).map iw).sum<=2097152:=by
  have:=jG (l:=exprsQ q) (f:=iw) (g:=fun x=>aw x+1) fun x _=>(jc x).2
  omega
 have c1:=kM q fmE (fun x h=>rN x (hx x h)) hsz
 have c2:=v8 q nK (fun x h=>(ot x).1 (hx x h)) hsz
 have c3:=lY q iw (fun x h=>(qx x).1 (hx x h)) hsz hs2
 unfold Bq
 generalize bz ((exprsQ q).map nK)=dp at *
 generalize ((exprsQ q).map iw).sum=nn at *
 generalize eZ fmE q=fq at *
 obtain⟨distinct,items,from_,where_,order,limit⟩:=q
 rw[ar] at c1 c2 c3 ⊢
 refine ae ab false Tryz.func78 rfl (by kernel_rfl) ?_
 simp only[Tryz.f78,tt,seval]
 refine cZ (c1) ?_ ?_<;>simp only[tt,seval]
 cases fq
 case false=>
  simp only[tt,seval]
  exact⟨_,_,rfl,ai rfl⟩
 simp only[tt,seval]
 refine cZ (c2) ?_ ?_<;>simp only[tt,seval]
 by_cases h1:(dp:Int)<=24
 case neg=>
  simp only[tt,seval,ao h1]
  exact⟨_,_,aE (by rw[ao (show ¬dp<=24 by omega)];rfl),ai rfl⟩
 simp only[tt,seval,ap h1]
 refine cZ (c3) ?_ ?_<;>simp only[tt,seval]
 exact⟨_,_,aE (by rw[ap (show dp<=24 by omega)];exact decide_eq_decide.2 (by omega)),ai rfl⟩
set_option maxHeartbeats 4000000 in
theorem yV (s:Stmt) (hsz:bR s<=1048576):Cl Tryz.prog 134 [.ag (av s.row)] [] fun r _=>r=vb (nD s):=by
 have hex:=fun x hx=>ep (s:=s) (x:=x) hx
 obtain⟨zb,hzb⟩:∃zb,zb=nD s:=⟨_,rfl⟩
 rw[<-hzb]
 obtain⟨kind,⟨distinct,items,from_,where_,order,limit⟩,table,rows,cols,sets,where2⟩:=s
 have hss:=hsz
 rw[ey] at hss
 have hqs:aP (Query.mk distinct items from_ where_ order limit)<=1048576:=by omega
 have hrn:=kV rows
 have hcl:cols.length<=1048576:=by unfold fX at hss;omega
 have hsl:sets.length<=1048576:=by rw[az,az] at hss;omega
 have hwl:where2.length<=1048576:=by rw[az,az] at hss;omega
 have hr9:(rows.length<=9223372036854775807)=True:=eq_true (by omega)
 have hc9:(cols.length<=9223372036854775807)=True:=eq_true (by omega)
 have hs9:(sets.length<=9223372036854775807)=True:=eq_true (by omega)
 have hw9:(where2.length<=9223372036854775807)=True:=eq_true (by omega)
 have w1:=ax (n:=(rows.length:Int)+cols.length) (by omega) (by omega)
 have w2:=ax (n:=(rows.length:Int)+cols.length+sets.length) (by omega) (by omega)
 have w3:=ax (n:=(rows.length:Int)+cols.length+sets.length+where2.length) (by omega) (by omega)
 have w4:=ax (n:=(cols.length:Int)+sets.length) (by omega) (by omega)
 have w5:=ax (n:=(cols.length:Int)+sets.length+where2.length) (by omega) (by omega)
 have cq:=yU (Query.mk distinct items from_ where_ order limit) hqs
 have cz:=Bm distinct items from_ where_ order limit
 have cSg:=tn sets hsl fun x hx=>Nat.le_trans (bZ aw hx) (by rw[az,az] at hss;omega)
 have cW:=tn where2 hwl fun x hx=>Nat.le_trans (bZ aw hx) (by rw[az,az] at hss;omega)
 have cR:∀x∈rows,x.l.length<=1048576/\Cl Tryz.prog 201 [.c (.sl x.l.length (x.l.flatMap Expr.row) none)] [] fun r _=>r=vb (x.l.all okE):=fun x hx=>by
  have h1:=bZ f7 hx
  rw[fJ,az] at h1
  rw[ee] at hss
  exact⟨by omega,tn x.l (by omega) fun y hy=>Nat.le_trans (bZ aw hy) (by omega)⟩
 rw[ar] at cq cz
 rw[Stmt.row_mk,ar]
 simp only[lc]
 refine ae ab false Tryz.func134 rfl (by kernel_rfl) ?_
 simp only[Tryz.f134,tt,seval]
 refine cZ (cz) ?_ ?_<;>simp only[tt,seval,ar]
 refine cZ (gb table) ?_ ?_<;>simp only[tt,seval]
 refine dDrawn.intro [] (iK [0,2,4,6,8,10,12,14,16,18,20,22,24,26,28,30]) (by kernel_rfl) ?_
 simp only[tt,seval]
 simp only[tt,seval,hr9,hc9,hs9,hw9]
 refine aa (fun k1=>?_) (fun k1=>?_)
 ·try simp only[tt,seval,hr9,hc9,hs9,hw9,w1,w2,w3,w4,w5]
  refine cZ (cq) ?_ ?_<;>simp only[tt,seval]
  by_cases hq:Bq (Query.mk distinct items from_ where_ order limit)=true
  case neg=>
   simp only[tt,seval,(eq_false_of_ne_true hq)]
   exact⟨_,_,aE (by rw[hzb];simp [nD,k1,hq];try omega),ai rfl⟩
  simp only[tt,seval,hq]
  by_cases ht:table=⟨#[]⟩
  case neg=>
   simp only[tt,seval,ao ht]
   exact⟨_,_,aE (by rw[hzb];simp [nD,k1,hq,ht];try omega),ai rfl⟩
  simp only[tt,seval,ap ht,w1,w2,w3]
  exact⟨_,_,aE (by rw[hzb];simp only[nD,if_pos k1,hq,ap ht,Bool.true_and];exact decide_eq_decide.2 (by omega)),ai rfl⟩
 refine aa (fun k2=>?_) (fun k2=>?_)
 ·try simp only[tt,seval,hr9,hc9,hs9,hw9,w1,w2,w3,w4,w5]
  refine dLoop.intro (fun f L p=>∃i:Nat,f 9=vi i/\i<=rows.length/\(∀j (hj:j<rows.length),j<i->rS rows[j]=true)/\L=[(1,.str [.v (.int .i64 kind),.v (.bool distinct),.sl items.length (items.flatMap Item.row) none,.sl from_.length (from_.flatMap Source.row) none,.sl where_.length (where_.flatMap Expr.row) none,.sl order.length (order.flatMap SortKey.row) none,.v (.int .i64 limit),.v (.string table),.sl rows.length (rows.flatMap ERow.row) none,.sl cols.length (cols.flatMap srow) none,.sl sets.length (sets.flatMap Expr.row) none,.sl where2.length (where2.flatMap Expr.row) none])]/\p=none) (fun f _ _=>(rows.length-aU (f 9)).toNat) [(1,.str [.v (.int .i64 kind),.v (.bool distinct),.sl items.length (items.flatMap Item.row) none,.sl from_.length (from_.flatMap Source.row) none,.sl where_.length (where_.flatMap Expr.row) none,.sl order.length (order.flatMap SortKey.row) none,.v (.int .i64 limit),.v (.string table),.sl rows.length (rows.flatMap ERow.row) none,.sl cols.length (cols.flatMap srow) none,.sl sets.length (sets.flatMap Expr.row) none,.sl where2.length (where2.flatMap Expr.row) none])] none ⟨ac rfl (ak _),al _,?_⟩ ?_
  ·try simp only[tt,seval]
   exact⟨0,rfl,by omega,fun j _ h=>absurd h (Nat.not_lt_zero _)⟩
  ·rintro g' L p ⟨i,ix,hi,hal,rfl,rfl⟩
   simp only[tt,seval] at ix
   simp only[tt,seval,ix,Int.ofNat_lt]
   refine aa (fun hlt=>?_) (fun hge=>?_)
   ·have hlt:i<rows.length:=by omega
    obtain⟨it,b5⟩:∃it,it=rows[i]:=⟨_,rfl⟩
    have hx:rows[i]?=some it:=by rw[b5];exact ay hlt
    obtain⟨hil,cri⟩:=cR it (by rw[b5];exact aI hlt)
    have hbad:rS it=false->nD (Stmt.mk 2 (Query.mk distinct items from_ where_ order limit) table rows cols sets where2)=false:=fun hb=>by
     simp only[nD,if_neg (show ¬(2:Int)=1 by decide),if_pos,dv (aI hlt) (b5▸hb),Bool.false_and]
    have i0:((0:Int)<=(i:Int))=True:=eq_true (by omega)
    have iL:((i:Int)<(rows.length:Int))=True:=eq_true (by omega)
    have iT:(i<rows.length)=True:=eq_true hlt
    have hl9:(it.l.length<=9223372036854775807)=True:=eq_true (by omega)
    simp only[tt,seval,bi hx ERow.row_len,i0,iT,lM,hl9]
    refine cZ (cF it.l.length 1 12) ?_ ?_<;>simp only[tt,seval]
    by_cases h1:(1:Int)<=it.l.length/\(it.l.length:Int)<=12
    case neg=>
     simp only[tt,seval,ao h1,ix]
     exact⟨_,_,aE (by subst k2;rw[hzb];exact (hbad (by unfold rS wy;rw[ao (by omega)];rfl)).symm),ai rfl⟩
    simp only[tt,seval,ap h1,ix,bi hx ERow.row_len,i0,iL,lM]
    refine cZ (cri) ?_ ?_<;>simp only[tt,seval,ix]
    cases h2:it.l.all okE
    case false=>
     simp only[tt,seval]
     exact⟨_,_,aE (by subst k2;rw[hzb];exact (hbad (by unfold rS;rw[h2,Bool.and_false])).symm),ai rfl⟩
    simp only[tt,seval]
    try rw[dk i (by omega)]
    exact⟨_,none,ac rfl (ak _),al _,⟨i+1,rfl,by omega,fun j hj hji=>by
     by_cases e:j=i
     ·subst e;rw[<-b5];unfold rS wy;rw[h2,ap (by omega)];rfl
     ·exact hal j hj (by omega),rfl,rfl⟩,by simp only[aU];omega⟩
   ·have har:rows.all rS=true:=eN fun j hj=>hal j hj (by omega)
    by_cases hz:nL (Query.mk distinct items from_ where_ order limit)=true
    case neg=>
     simp only[tt,seval,(eq_false_of_ne_true hz)]
     exact⟨_,_,aE (by rw[hzb];simp [nD,k2,har,b9,hz];try omega),ai rfl⟩
    simp only[tt,seval,hz]
    by_cases hn:decide (1<=table.size/\table.size<=20)=true
    case neg=>
     simp only[tt,seval,(eq_false_of_ne_true hn)]
     exact⟨_,_,aE (by rw[hzb];simp [nD,k2,har,b9,hz,hn];try omega),ai rfl⟩
    simp only[tt,seval,hn]
    refine cZ (cF rows.length 1 5) ?_ ?_<;>simp only[tt,seval]
    by_cases h4:(1:Int)<=rows.length/\(rows.length:Int)<=5
    case neg=>
     simp only[tt,seval,ao h4]
     exact⟨_,_,aE (by rw[hzb];simp [nD,k2,har,hz,b9,hn,show ¬(1<=rows.length/\rows.length<=5) by omega];try omega),ai rfl⟩
    simp only[tt,seval,ap h4,w4,w5]
    exact⟨_,_,aE (by rw[hzb];simp only[nD,if_neg k1,if_pos k2,har,hz,b9,hn,ap (show 1<=rows.length/\rows.length<=5 by omega),Bool.true_and];exact decide_eq_decide.2 (by omega)),ai rfl⟩
 refine aa (fun k3=>?_) (fun k3=>?_)
 ·try simp only[tt,seval,hr9,hc9,hs9,hw9,w1,w2,w3,w4,w5]
  refine dLoop.intro (fun f L p=>∃i:Nat,f 10=vi i/\i<=cols.length/\(∀j (hj:j<cols.length),j<i->b9 cols[j]=true)/\L=[(1,.str [.v (.int .i64 kind),.v (.bool distinct),.sl items.length (items.flatMap Item.row) none,.sl from_.length (from_.flatMap Source.row) none,.sl where_.length (where_.flatMap Expr.row) none,.sl order.length (order.flatMap SortKey.row) none,.v (.int .i64 limit),.v (.string table),.sl rows.length (rows.flatMap ERow.row) none,.sl cols.length (cols.flatMap srow) none,.sl sets.length (sets.flatMap Expr.row) none,.sl where2.length (where2.flatMap Expr.row) none])]/\p=none) (fun f _ _=>(cols.length-aU (f 10)).toNat) [(1,.str [.v (.int .i64 kind),.v (.bool distinct),.sl items.length (items.flatMap Item.row) none,.sl from_.length (from_.flatMap Source.row) none,.sl where_.length (where_.flatMap Expr.row) none,.sl order.length (order.flatMap SortKey.row) none,.v (.int .i64 limit),.v (.string table),.sl rows.length (rows.flatMap ERow.row) none,.sl cols.length (cols.flatMap srow) none,.sl sets.length (sets.flatMap Expr.row) none,.sl where2.length (where2.flatMap Expr.row) none])] none ⟨ac rfl (ak _),al _,?_⟩ ?_
  ·try simp only[tt,seval]
   exact⟨0,rfl,by omega,fun j _ h=>absurd h (Nat.not_lt_zero _)⟩
  ·rintro g' L p ⟨i,ix,hi,hal,rfl,rfl⟩
   simp only[tt,seval] at ix
   simp only[tt,seval,ix,Int.ofNat_lt]
   refine aa (fun hlt=>?_) (fun hge=>?_)
   ·have hlt:i<cols.length:=by omega
    refine⟨by omega,by omega,_,aF dM (ay hlt),ji _ _,?_⟩
    simp only[tt,seval,srow]
    refine cZ (gb cols[i]) ?_ ?_<;>simp only[tt,seval,ix]
    cases hb:decide (1<=cols[i].size/\cols[i].size<=20)
    case false=>
     simp only[tt,seval]
     exact⟨_,_,aE (by rw[hzb];simp only[nD,if_neg k1,if_neg k2,if_pos k3,dv (aI hlt) (show b9 cols[i]=false from hb),Bool.false_and]),ai rfl⟩
    simp only[tt,seval]
    try rw[dk i (by omega)]
    exact⟨_,none,ac rfl (ak _),al _,⟨i+1,rfl,by omega,fun j hj hji=>by
     by_cases e:j=i
     ·subst e;exact hb
     ·exact hal j hj (by omega),rfl,rfl⟩,by simp only[aU];omega⟩
   ·have har:cols.all b9=true:=eN fun j hj=>hal j hj (by omega)
    by_cases hz:nL (Query.mk distinct items from_ where_ order limit)=true
    case neg=>
     simp only[tt,seval,(eq_false_of_ne_true hz)]
     exact⟨_,_,aE (by rw[hzb];simp [nD,k3,har,b9,hz];try omega),ai rfl⟩
    simp only[tt,seval,hz]
    by_cases hn:decide (1<=table.size/\table.size<=20)=true
    case neg=>
     simp only[tt,seval,(eq_false_of_ne_true hn)]
     exact⟨_,_,aE (by rw[hzb];simp [nD,k3,har,b9,hz,hn];try omega),ai rfl⟩
    simp only[tt,seval,hn]
    by_cases h1:rows.length=0
    case neg=>
     simp only[tt,seval,ao (show ¬(rows.length:Int)=0 by omega)]
     exact⟨_,_,aE (by rw[hzb];simp [nD,k3,har,b9,hz,hn,h1];try omega),ai rfl⟩
    simp only[tt,seval,ap (show (rows.length:Int)=0 by omega)]
    refine cZ (cF cols.length 1 12) ?_ ?_<;>simp only[tt,seval]
    by_cases h2:(1:Int)<=cols.length/\(cols.length:Int)<=12
    case neg=>
     simp only[tt,seval,ao h2]
     exact⟨_,_,aE (by rw[hzb];simp [nD,k3,har,hz,b9,hn,h1,show ¬(1<=cols.length/\cols.length<=12) by omega];try omega),ai rfl⟩
    simp only[tt,seval,ap h2]
    have h2':1<=cols.length/\cols.length<=12:=by omega
    by_cases h3:sets.length=cols.length
    case neg=>
     simp only[tt,seval,ao (show ¬(sets.length:Int)=cols.length by omega)]
     exact⟨_,_,aE (by rw[hzb];simp [nD,k3,har,hz,b9,hn,h1,h2',h3];try omega),ai rfl⟩
    simp only[tt,seval,ap (show (sets.length:Int)=cols.length by omega)]
    by_cases h4:where2.length<=1
    case neg=>
     simp only[tt,seval,ao (show ¬(where2.length:Int)<=1 by omega)]
     exact⟨_,_,aE (by rw[hzb];simp [nD,k3,har,hz,b9,hn,h1,h2',h3,h4];try omega),ai rfl⟩
    simp only[tt,seval,ap (show (where2.length:Int)<=1 by omega)]
    refine cZ (cSg) ?_ ?_<;>simp only[tt,seval]
    by_cases h8:sets.all okE=true
    case neg=>
     simp only[tt,seval,(eq_false_of_ne_true h8)]
     exact⟨_,_,aE (by rw[hzb];simp only[nD,if_neg k1,if_neg k2,if_pos k3,har,hz,b9,hn,ap h1,ap (show 1<=cols.length/\cols.length<=12 by omega),ap h3,ap h4,eq_false_of_ne_true h8,Bool.true_and,Bool.false_and]),ai rfl⟩
    simp only[tt,seval,h8]
    refine cZ (cW) ?_ ?_<;>simp only[tt,seval]
    exact⟨_,_,aE (by rw[hzb];simp only[nD,if_neg k1,if_neg k2,if_pos k3,har,hz,b9,hn,ap h1,ap (show 1<=cols.length/\cols.length<=12 by omega),ap h3,ap h4,h8,Bool.true_and]),ai rfl⟩
 refine aa (fun k4=>?_) (fun k4=>?_)
 ·try simp only[tt,seval,hr9,hc9,hs9,hw9,w1,w2,w3,w4,w5]
  by_cases hz:nL (Query.mk distinct items from_ where_ order limit)=true
  case neg=>
   simp only[tt,seval,(eq_false_of_ne_true hz)]
   exact⟨_,_,aE (by rw[hzb];simp only[nD,if_neg k1,if_neg k2,if_neg k3,if_pos k4,b9,eq_false_of_ne_true hz,Bool.false_and,Bool.and_false]),ai rfl⟩
  simp only[tt,seval,hz]
  by_cases hn:decide (1<=table.size/\table.size<=20)=true
  case neg=>
   simp only[tt,seval,(eq_false_of_ne_true hn)]
   exact⟨_,_,aE (by rw[hzb];simp only[nD,if_neg k1,if_neg k2,if_neg k3,if_pos k4,b9,hz,eq_false_of_ne_true hn,Bool.false_and,Bool.and_false]),ai rfl⟩
  simp only[tt,seval,hn,w1,w2]
  by_cases h1:rows.length+cols.length+sets.length=0
  case neg=>
   simp only[tt,seval,ao (show ¬(rows.length:Int)+cols.length+sets.length=0 by omega)]
   exact⟨_,_,aE (by rw[hzb];simp only[nD,if_neg k1,if_neg k2,if_neg k3,if_pos k4,b9,hz,hn,ao h1,Bool.true_and,Bool.false_and,Bool.and_false]),ai rfl⟩
  simp only[tt,seval,ap (show (rows.length:Int)+cols.length+sets.length=0 by omega)]
  by_cases h2:where2.length<=1
  case neg=>
   simp only[tt,seval,ao (show ¬(where2.length:Int)<=1 by omega)]
   exact⟨_,_,aE (by rw[hzb];simp only[nD,if_neg k1,if_neg k2,if_neg k3,if_pos k4,b9,hz,hn,ap h1,ao h2,Bool.true_and,Bool.false_and,Bool.and_false]),ai rfl⟩
  simp only[tt,seval,ap (show (where2.length:Int)<=1 by omega)]
  refine cZ (cW) ?_ ?_<;>simp only[tt,seval]
  exact⟨_,_,aE (by rw[hzb];simp only[nD,if_neg k1,if_neg k2,if_neg k3,if_pos k4,hz,b9,hn,ap h1,ap h2,Bool.true_and]),ai rfl⟩
 exact⟨_,_,aE (by rw[hzb];simp [nD,k1,k2,k3,k4];try omega),ai rfl⟩
theorem yW {α:Type} {f g:α->Bool} {l:List α} (h:∀x∈l,f x=g x):l.all f=l.all g:=by
 induction l with
 |nil=>rfl
 |cons x r ih=>rw[List.all_cons,List.all_cons,h x (by simp),ih fun y hy=>h y (by simp [hy])]
theorem CY {l:List Nat} {x:Nat} (h:x∈l):x<=bz l:=by
 unfold bz
 suffices H:∀(l:List Nat) (a:Nat),(a<=l.foldl max a)/\∀x∈l,x<=l.foldl max a from (H l 0).2 x h
 intro l
 induction l with
 |nil=>exact fun a=>⟨Nat.le_refl _,fun x h=>by cases h⟩
 |cons y r ih=>
  intro a
  obtain⟨h1,h2⟩:=ih (max a y)
  refine⟨Nat.le_trans (Nat.le_max_left _ _) h1,fun x hx=>?_⟩
  rcases List.mem_cons.1 hx with rfl|hx
  ·exact Nat.le_trans (Nat.le_max_right _ _) h1
  ·exact h2 x hx
theorem Ea {l:List Nat} {x:Nat} (h:x∈l):x<=l.sum:=by
 induction l with
 |nil=>cases h
 |cons y r ih=>
  rw[List.sum_cons]
  rcases List.mem_cons.1 h with rfl|h
  ·omega
  ·have:=ih h;omega
theorem Br {s:Stmt} (h:Bn s=true) {x:Expr} (hx:x∈aT s):okE x=fmE x:=by
 simp only[Bn,Bool.and_eq_true,decide_eq_true_eq] at h
 have h1:=CY (List.mem_map_of_mem (f:=nK) hx)
 have h2:=Ea (List.mem_map_of_mem (f:=iw) hx)
 unfold okE
 rw[ap (show nK x<=24 by omega),ap (show iw x<=200 by omega),Bool.true_and,Bool.true_and]
theorem vo {q:Query} (h:nL q=true):exprsQ q=[]:=by
 obtain⟨distinct,items,from_,where_,order,limit⟩:=q
 simp only[nL,Bool.and_eq_true,decide_eq_true_eq] at h
 obtain⟨_,_,h1,h2,h3,h4⟩:=h
 have e1:=List.eq_nil_of_length_eq_zero h1
 have e2:=List.eq_nil_of_length_eq_zero h2
 have e3:=List.eq_nil_of_length_eq_zero h3
 have e4:=List.eq_nil_of_length_eq_zero h4
 subst e1 e2 e3 e4
 rfl
theorem Bt (s:Stmt):(nD s&&Bn s)=dw s:=by
 cases hsm:Bn s
 case false=>rw[dw,hsm,Bool.and_false];rfl
 rw[dw,hsm,Bool.and_true,Bool.true_and]
 have hok:=fun x hx=>Br (s:=s) hsm (x:=x) hx
 obtain⟨kind,q,table,rows,cols,sets,where2⟩:=s
 have hall:(aT (Stmt.mk kind q table rows cols sets where2)).all okE=(aT (Stmt.mk kind q table rows cols sets where2)).all fmE:=yW hok
 have hst:aT (Stmt.mk kind q table rows cols sets where2)=exprsQ q++rows.flatMap ERow.l++sets++where2:=rfl
 simp only[Bn,Bool.and_eq_true,decide_eq_true_eq] at hsm
 rw[Bool.eq_iff_iff]
 simp only[nD,yT]
 by_cases k1:kind=1
 ·simp only[if_pos k1,Bool.and_eq_true,decide_eq_true_eq,Bq]
  constructor
  ·rintro⟨⟨h1,_,_⟩,h2,h3⟩
   exact⟨h2,by omega,by omega,by omega,by omega,h1⟩
  ·rintro⟨h1,h2,h3,h4,h5,h6⟩
   have e2:=List.eq_nil_of_length_eq_zero h2
   have e4:=List.eq_nil_of_length_eq_zero h4
   have e5:=List.eq_nil_of_length_eq_zero h5
   subst e2 e4 e5
   rw[hst] at hsm
   simp only[List.flatMap_nil,List.append_nil] at hsm
   exact⟨⟨h6,hsm.1,hsm.2⟩,h1,by simp [h3]⟩
 simp only[if_neg k1]
 by_cases hz:nL q=true
 case neg=>
  simp only[eq_false_of_ne_true hz,Bool.false_and,Bool.and_false]
  (repeat' split)<;>simp
 rw[hst,vo hz,List.nil_append] at hall
 rw[hst,vo hz,List.nil_append]
 simp only[List.all_append] at hall ⊢
 simp only[hz,Bool.true_and,eO]
 by_cases k2:kind=2
 ·simp only[if_pos k2,Bool.and_eq_true,decide_eq_true_eq]
  have hrow:rows.all rS=(rows.all wy&&(rows.flatMap ERow.l).all okE):=by
   clear hall hok hst hsm
   induction rows with
   |nil=>rfl
   |cons x r ih=>
    simp only[List.all_cons,List.flatMap_cons,List.all_append,ih,rS]
    cases wy x<;>cases x.l.all okE<;>cases r.all wy<;>simp
  rw[hrow]
  constructor
  ·rintro⟨h1,h2,h3,h4⟩
   have e3:=List.eq_nil_of_length_eq_zero (show sets.length=0 by omega)
   have e4:=List.eq_nil_of_length_eq_zero (show where2.length=0 by omega)
   subst e3 e4
   simp only[Bool.and_eq_true] at h1
   simp only[List.all_nil,Bool.and_true] at hall
   exact⟨h2,⟨⟨by rw[<-hall];exact h1.2,rfl⟩,rfl⟩,by simp at h4;simp [h4],rfl,rfl,h3.1,h3.2,h1.1⟩
  ·rintro⟨h2,⟨⟨h1,_⟩,_⟩,hc,hs,hw,h3,h4,h5⟩
   have e3:=List.eq_nil_of_length_eq_zero hs
   have e4:=List.eq_nil_of_length_eq_zero hw
   subst e3 e4
   simp only[List.all_nil,Bool.and_true] at hall
   exact⟨by rw[h5,hall,h1];rfl,h2,⟨h3,h4⟩,by simp [hc]⟩
 simp only[if_neg k2]
 by_cases k3:kind=3
 ·simp only[if_pos k3,Bool.and_eq_true,decide_eq_true_eq]
  constructor
  ·rintro⟨h1,h2,h3,h4,h5,h6,h7,h8⟩
   have e3:=List.eq_nil_of_length_eq_zero h3
   subst e3
   simp only[List.flatMap_nil,List.all_nil,Bool.true_and] at hall ⊢
   rw[h7,h8] at hall
   have ha:=hall.symm
   simp only[Bool.and_true,Bool.and_eq_true] at ha
   exact⟨h2,⟨⟨trivial,ha.1⟩,ha.2⟩,rfl,h4.1,h4.2,h5,h6,h1⟩
  ·rintro⟨h2,⟨⟨_,hs⟩,hw⟩,h3,h4,h4',h5,h6,h1⟩
   have e3:=List.eq_nil_of_length_eq_zero h3
   subst e3
   simp only[List.flatMap_nil,List.all_nil,Bool.true_and] at hall
   rw[hs,hw] at hall
   simp only[Bool.and_true,Bool.and_eq_true] at hall
   exact⟨h1,h2,rfl,⟨h4,h4'⟩,h5,h6,hall.1,hall.2⟩
 simp only[if_neg k3]
 by_cases k4:kind=4
 ·simp only[if_pos k4,Bool.and_eq_true,decide_eq_true_eq]
  constructor
  ·rintro⟨h2,h3,h4,h5⟩
   have e1:=List.eq_nil_of_length_eq_zero (show rows.length=0 by omega)
   have e2:=List.eq_nil_of_length_eq_zero (show cols.length=0 by omega)
   have e3:=List.eq_nil_of_length_eq_zero (show sets.length=0 by omega)
   subst e1 e2 e3
   simp only[List.flatMap_nil,List.all_nil,Bool.true_and] at hall ⊢
   rw[h5] at hall
   exact⟨h2,⟨⟨trivial,trivial⟩,hall.symm⟩,rfl,rfl,rfl,h4⟩
  ·rintro⟨h2,⟨⟨_,_⟩,hw⟩,h3,h4,h5,h6⟩
   have e1:=List.eq_nil_of_length_eq_zero h3
   have e2:=List.eq_nil_of_length_eq_zero h4
   have e3:=List.eq_nil_of_length_eq_zero h5
   subst e1 e2 e3
   simp only[List.flatMap_nil,List.all_nil,Bool.true_and] at hall
   rw[hw] at hall
   exact⟨h2,rfl,h6,hall⟩
 simp only[if_neg k4,Bool.and_false]
theorem vp (s:Stmt) (hsz:bR s<=1048576):Cl Tryz.prog 81 [.ag (av s.row)] [] fun r _=>r=vb (dw s):=by
 have c1:=yV s hsz
 have c2:=vl s hsz
 have c3:=wx s hsz
 rw[<-Bt]
 have hsmd:Bn s=(decide (bz ((aT s).map nK)<=24)&&decide (((aT s).map iw).sum<=200)):=rfl
 rw[hsmd]
 generalize bz ((aT s).map nK)=dp at *
 generalize ((aT s).map iw).sum=nn at *
 generalize nD s=sh at *
 obtain⟨kind,⟨distinct,items,from_,where_,order,limit⟩,table,rows,cols,sets,where2⟩:=s
 rw[Stmt.row_mk,ar] at c1 c2 c3 ⊢
 simp only[lc] at c1 c2 c3 ⊢
 refine ae ab false Tryz.func81 rfl (by kernel_rfl) ?_
 simp only[Tryz.f81,tt,seval]
 refine cZ (c1) ?_ ?_<;>simp only[tt,seval]
 cases sh
 case false=>
  simp only[tt,seval]
  exact⟨_,_,rfl,ai rfl⟩
 simp only[tt,seval]
 refine cZ (c2) ?_ ?_<;>simp only[tt,seval]
 by_cases h1:(dp:Int)<=24
 case neg=>
  simp only[tt,seval,ao h1]
  exact⟨_,_,aE (by rw[ao (show ¬dp<=24 by omega)];rfl),ai rfl⟩
 simp only[tt,seval,ap h1]
 refine cZ (c3) ?_ ?_<;>simp only[tt,seval]
 exact⟨_,_,aE (by rw[ap (show dp<=24 by omega)];exact decide_eq_decide.2 (by omega)),ai rfl⟩
end Go.Proofs.YteffjmaadkkmeaaGreatDoor
