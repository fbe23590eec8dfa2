/-
  Trees compared.
  Conditions: none.
-/
import Derived.Test.YtdmomaomffhidaaGreatDoorQYF1
set_option linter.unusedVariables false
set_option linter.unusedSimpArgs false
set_option linter.unusedSectionVars false
set_option linter.unnecessarySimpa false
set_option maxRecDepth 8000
namespace Go.Proofs.YtdmomaomffhidaaGreatDoor
open Go Go.Dv
open Go.Vc (D dm dq cV bq)
theorem Is (v:Val) (w:World):(Op.equalIn 10000 43 (.agg [.int .i64 v.kind,.int .i64 v.num,.string v.text].toArray) (.agg [.int .i64 v.kind,.int .i64 v.num,.string v.text].toArray)).run Tryz.prog w = .ok true w:=by
 refine Go.Vc.equalIn_fk (ks:=[(0,.int),(1,.int),(2,.str)]) ae ae ae ?_ w
 simp only[Go.Vc.eqFK,List.getElem?_cons_zero,List.getElem?_cons_succ]
 simp
theorem su (l:List Expr) (h:∀x∈l,Cl Tryz.prog 21 [.ag (aw x.row),.ag (aw x.row)] [] fun r _=>r=vb true):Cl Tryz.prog 44 [.c (.sl l.length (l.flatMap Expr.row) none),.c (.sl l.length (l.flatMap Expr.row) none)] [] fun r _=>r=vb true:=by
 refine ai ac false Tryz.func44 rfl ae ?_
 simp only[Tryz.f44,tt,seval]
 refine fun _=>?_
 refine fun _=>?_
 refine dLoop.intro (fun f L p=>∃i:Nat,f 5=vi i/\i<=l.length/\L=([]:Ob)/\p=none) (fun f _ _=>(l.length-fH (f 5)).toNat) ([]:Ob) none ⟨ap _,au _,?_⟩ ?_
 ·simp only[tt,seval]
  exact⟨0,rfl,aa⟩
 ·rintro g L p ⟨i,ix,hi,rfl,rfl⟩
  simp only[tt,seval] at ix
  simp only[tt,seval,ix,Int.ofNat_lt]
  refine fun _=>ab (fun hlt=>?_) (fun hge=>?_)
  ·have hlt:i<l.length:=by omega
   refine dDrawn.intro [] (dW [0,2,4,6,8,10,12,14,17,18]) ae ?_
   simp only[tt,seval]
   simp only[tt,seval,ix]
   refine⟨aa,aa,_,aI aJ (aC hlt),Expr.ne _ _,?_⟩
   simp only[seval,Expr.tk,aJ]
   refine⟨aa,aa,_,aI aJ (aC hlt),Expr.ne _ _,?_⟩
   simp only[seval,Expr.tk,aJ]
   refine cZ (h l[i] (aM hlt)) ?_ ?_<;>simp only[tt,seval,ix]
   try rw[eR i aa]
   exact⟨_,none,ap _,au _,⟨i+1,rfl,aa,rfl,rfl⟩,az⟩
  ·try simp only[tt,seval]
   exact⟨_,_,rfl,ao rfl⟩
set_option maxHeartbeats 4000000 in
theorem tf (kind op:Int) (not:Bool) (val:Val) (qual name:ByteArray) (kids:List Expr) (sub:List Query) (hk:∀x∈kids,Cl Tryz.prog 21 [.ag (aw x.row),.ag (aw x.row)] [] fun r _=>r=vb true) (hs:∀q∈sub,Cl Tryz.prog 12 [.ag (aw q.row),.ag (aw q.row)] [] fun r _=>r=vb true):Cl Tryz.prog 21 [.ag (aw (Expr.mk kind op not val qual name kids sub).row),.ag (aw (Expr.mk kind op not val qual name kids sub).row)] [] fun r _=>r=vb true:=by
 rw[am]
 refine ai ac false Tryz.func21 rfl ae ?_
 simp only[Tryz.f21,tt,seval]
 rw[ee ae (Is val)]
 simp only[tt,seval]
 refine fun _=>?_
 refine fun _=>?_
 refine cZ (su kids hk) ?_ ?_<;>simp only[tt,seval]
 refine dLoop.intro (fun f L p=>∃i:Nat,f 5=vi i/\i<=sub.length/\L=[(2,.str [.v (.int .i64 kind),.v (.int .i64 op),.v (.bool not),.v (.int .i64 val.kind),.v (.int .i64 val.num),.v (.string val.text),.v (.string qual),.v (.string name),.sl kids.length (kids.flatMap Expr.row) none,.sl sub.length (sub.flatMap Query.row) none]),(3,.str [.v (.int .i64 kind),.v (.int .i64 op),.v (.bool not),.v (.int .i64 val.kind),.v (.int .i64 val.num),.v (.string val.text),.v (.string qual),.v (.string name),.sl kids.length (kids.flatMap Expr.row) none,.sl sub.length (sub.flatMap Query.row) none])]/\p=none) (fun f _ _=>(sub.length-fH (f 5)).toNat) [(2,.str [.v (.int .i64 kind),.v (.int .i64 op),.v (.bool not),.v (.int .i64 val.kind),.v (.int .i64 val.num),.v (.string val.text),.v (.string qual),.v (.string name),.sl kids.length (kids.flatMap Expr.row) none,.sl sub.length (sub.flatMap Query.row) none]),(3,.str [.v (.int .i64 kind),.v (.int .i64 op),.v (.bool not),.v (.int .i64 val.kind),.v (.int .i64 val.num),.v (.string val.text),.v (.string qual),.v (.string name),.sl kids.length (kids.flatMap Expr.row) none,.sl sub.length (sub.flatMap Query.row) none])] none ⟨ak rfl (ak rfl (ap _)),au _,?_⟩ ?_
 ·simp only[tt,seval]
  exact⟨0,rfl,aa⟩
 ·rintro g L p ⟨i,ix,hi,rfl,rfl⟩
  simp only[tt,seval] at ix
  simp only[tt,seval,ix,Int.ofNat_lt]
  refine fun _=>ab (fun hlt=>?_) (fun hge=>?_)
  ·have hlt:i<sub.length:=by omega
   refine dDrawn.intro [] (dW [0,2,4,6,8,10,12,14,16,18,21,22]) ae ?_
   simp only[tt,seval]
   simp only[tt,seval,ix]
   refine⟨aa,aa,_,aI Query.row_len (aC hlt),Query.ne _ _,?_⟩
   simp only[seval,Query.tk,Query.row_len]
   refine⟨aa,aa,_,aI Query.row_len (aC hlt),Query.ne _ _,?_⟩
   simp only[seval,Query.tk,Query.row_len]
   refine cZ (hs sub[i] (aM hlt)) ?_ ?_<;>simp only[tt,seval,ix]
   try rw[eR i aa]
   exact⟨_,none,ak rfl (ak rfl (ap _)),au _,⟨i+1,rfl,aa,rfl,rfl⟩,az⟩
  ·try simp only[tt,seval]
   exact⟨_,_,rfl,ao rfl⟩
def xA:Query->List Expr | .mk _ items from_ where_ order _=>items.map Item.e++from_.flatMap Source.on++where_++order.map SortKey.e
theorem Gb {q:Query} {x:Expr} (h:x∈xA q):SizeOf.sizeOf x<SizeOf.sizeOf q:=by
 obtain⟨d,it,fr,wh,od,li⟩:=q
 rw[Query.mk.sizeOf_spec]
 simp only[xA,List.mem_append] at h
 rcases h with ((h|h)|h)|h
 ·obtain⟨⟨s,q,e,a⟩,hm,rfl⟩:=List.mem_map.1 h
  have h1:=List.sizeOf_lt_of_mem hm
  rw[Item.mk.sizeOf_spec] at h1
  show SizeOf.sizeOf e < _
  omega
 ·obtain⟨⟨t,a,on⟩,hm,hx⟩:=List.mem_flatMap.1 h
  have h1:=List.sizeOf_lt_of_mem hm
  have h2:=List.sizeOf_lt_of_mem (show x∈on from hx)
  rw[Source.mk.sizeOf_spec] at h1
  omega
 ·have:=List.sizeOf_lt_of_mem h;omega
 ·obtain⟨⟨e,d⟩,hm,rfl⟩:=List.mem_map.1 h
  have h1:=List.sizeOf_lt_of_mem hm
  rw[SortKey.mk.sizeOf_spec] at h1
  show SizeOf.sizeOf e < _
  omega
set_option maxHeartbeats 8000000 in
theorem sw (distinct:Bool) (items:List Item) (from_:List Source) (where_:List Expr) (order:List SortKey) (limit:Int) (hx:∀x∈xA (Query.mk distinct items from_ where_ order limit),Cl Tryz.prog 21 [.ag (aw x.row),.ag (aw x.row)] [] fun r _=>r=vb true):Cl Tryz.prog 12 [.ag (aw (Query.mk distinct items from_ where_ order limit).row),.ag (aw (Query.mk distinct items from_ where_ order limit).row)] [] fun r _=>r=vb true:=by
 have hI:∀x∈items,Cl Tryz.prog 21 [.ag (aw x.e.row),.ag (aw x.e.row)] [] fun r _=>r=vb true:=fun x h=>hx _ (by simp only[xA,List.mem_append];exact .inl (.inl (.inl (List.mem_map.2 ⟨x,h,rfl⟩))))
 have hF:∀x∈from_,∀y∈x.on,Cl Tryz.prog 21 [.ag (aw y.row),.ag (aw y.row)] [] fun r _=>r=vb true:=fun x h y h2=>hx _ (by simp only[xA,List.mem_append];exact .inl (.inl (.inr (List.mem_flatMap.2 ⟨x,h,h2⟩))))
 have hw:∀y∈where_,Cl Tryz.prog 21 [.ag (aw y.row),.ag (aw y.row)] [] fun r _=>r=vb true:=fun y h=>hx _ (by simp only[xA,List.mem_append];exact .inl (.inr h))
 have hO:∀x∈order,Cl Tryz.prog 21 [.ag (aw x.e.row),.ag (aw x.e.row)] [] fun r _=>r=vb true:=fun x h=>hx _ (by simp only[xA,List.mem_append];exact .inr (List.mem_map.2 ⟨x,h,rfl⟩))
 rw[aG]
 refine ai ac false Tryz.func12 rfl ae ?_
 simp only[Tryz.f12,tt,seval]
 (repeat refine fun _=>?_)
 refine cZ (su where_ hw) ?_ ?_<;>simp only[tt,seval]
 refine dLoop.intro (fun f L p=>∃i:Nat,f 5=vi i/\i<=items.length/\L=[(2,.str [.v (.bool distinct),.sl items.length (items.flatMap Item.row) none,.sl from_.length (from_.flatMap Source.row) none,.sl where_.length (where_.flatMap Expr.row) none,.sl order.length (order.flatMap SortKey.row) none,.v (.int .i64 limit)]),(3,.str [.v (.bool distinct),.sl items.length (items.flatMap Item.row) none,.sl from_.length (from_.flatMap Source.row) none,.sl where_.length (where_.flatMap Expr.row) none,.sl order.length (order.flatMap SortKey.row) none,.v (.int .i64 limit)])]/\p=none) (fun f _ _=>(items.length-fH (f 5)).toNat) [(2,.str [.v (.bool distinct),.sl items.length (items.flatMap Item.row) none,.sl from_.length (from_.flatMap Source.row) none,.sl where_.length (where_.flatMap Expr.row) none,.sl order.length (order.flatMap SortKey.row) none,.v (.int .i64 limit)]),(3,.str [.v (.bool distinct),.sl items.length (items.flatMap Item.row) none,.sl from_.length (from_.flatMap Source.row) none,.sl where_.length (where_.flatMap Expr.row) none,.sl order.length (order.flatMap SortKey.row) none,.v (.int .i64 limit)])] none ⟨ak rfl (ak rfl (ap _)),au _,?_⟩ ?_
 ·simp only[tt,seval]
  exact⟨0,rfl,aa⟩
 ·rintro g L p ⟨i,ix,hi,rfl,rfl⟩
  simp only[tt,seval] at ix
  simp only[tt,seval,ix,Int.ofNat_lt]
  refine fun _=>ab (fun hlt=>?_) (fun hge=>?_)
  ·have hlt:i<items.length:=by omega
   obtain⟨it,bu⟩:∃it,it=items[i]:=⟨_,rfl⟩
   have hi2:=hI items[i] (aM hlt)
   rw[<-bu] at hi2
   refine⟨aa,aa,_,aI Item.row_len (aC hlt),Item.ne _ _,?_⟩
   rw[<-bu]
   obtain⟨star,qual,e,as_⟩:=it
   have hi2:Cl Tryz.prog 21 [.ag (aw e.row),.ag (aw e.row)] [] fun r _=>r=vb true:=hi2
   obtain⟨k,o,n,v,q,m,ks,ss⟩:=e
   rw[am] at hi2
   simp only[tt,seval,Item.row_mk,am]
   refine⟨aa,aa,_,aI Item.row_len (aC hlt),Item.ne _ _,?_⟩
   rw[<-bu]
   simp only[tt,seval,Item.row_mk,am]
   refine cZ (hi2) ?_ ?_<;>simp only[tt,seval,ix]
   try rw[eR i aa]
   exact⟨_,none,ak rfl (ak rfl (ap _)),au _,⟨i+1,rfl,aa,rfl,rfl⟩,az⟩
  ·try simp only[tt,seval]
   refine dLoop.intro (fun f L p=>∃i:Nat,f 8=vi i/\i<=from_.length/\L=[(2,.str [.v (.bool distinct),.sl items.length (items.flatMap Item.row) none,.sl from_.length (from_.flatMap Source.row) none,.sl where_.length (where_.flatMap Expr.row) none,.sl order.length (order.flatMap SortKey.row) none,.v (.int .i64 limit)]),(3,.str [.v (.bool distinct),.sl items.length (items.flatMap Item.row) none,.sl from_.length (from_.flatMap Source.row) none,.sl where_.length (where_.flatMap Expr.row) none,.sl order.length (order.flatMap SortKey.row) none,.v (.int .i64 limit)])]/\p=none) (fun f _ _=>(from_.length-fH (f 8)).toNat) [(2,.str [.v (.bool distinct),.sl items.length (items.flatMap Item.row) none,.sl from_.length (from_.flatMap Source.row) none,.sl where_.length (where_.flatMap Expr.row) none,.sl order.length (order.flatMap SortKey.row) none,.v (.int .i64 limit)]),(3,.str [.v (.bool distinct),.sl items.length (items.flatMap Item.row) none,.sl from_.length (from_.flatMap Source.row) none,.sl where_.length (where_.flatMap Expr.row) none,.sl order.length (order.flatMap SortKey.row) none,.v (.int .i64 limit)])] none ⟨ak rfl (ak rfl (ap _)),au _,?_⟩ ?_
   ·simp only[tt,seval]
    exact⟨0,rfl,aa⟩
   ·rintro g L p ⟨i,ix,hi,rfl,rfl⟩
    simp only[tt,seval] at ix
    simp only[tt,seval,ix,Int.ofNat_lt]
    refine fun _=>ab (fun hlt=>?_) (fun hge=>?_)
    ·have hlt:i<from_.length:=by omega
     obtain⟨it,bu⟩:∃it,it=from_[i]:=⟨_,rfl⟩
     have hf2:=hF from_[i] (aM hlt)
     rw[<-bu] at hf2
     refine⟨aa,aa,_,aI Source.row_len (aC hlt),Source.ne _ _,?_⟩
     rw[<-bu]
     obtain⟨table,as_,on⟩:=it
     have hf2:∀y∈on,Cl Tryz.prog 21 [.ag (aw y.row),.ag (aw y.row)] [] fun r _=>r=vb true:=hf2
     simp only[tt,seval,Source.row_mk]
     refine⟨aa,aa,_,aI Source.row_len (aC hlt),Source.ne _ _,?_⟩
     rw[<-bu]
     simp only[tt,seval,Source.row_mk]
     refine cZ (su on hf2) ?_ ?_<;>simp only[tt,seval,ix]
     try rw[eR i aa]
     exact⟨_,none,ak rfl (ak rfl (ap _)),au _,⟨i+1,rfl,aa,rfl,rfl⟩,az⟩
    ·try simp only[tt,seval]
     refine dLoop.intro (fun f L p=>∃i:Nat,f 11=vi i/\i<=order.length/\L=[(2,.str [.v (.bool distinct),.sl items.length (items.flatMap Item.row) none,.sl from_.length (from_.flatMap Source.row) none,.sl where_.length (where_.flatMap Expr.row) none,.sl order.length (order.flatMap SortKey.row) none,.v (.int .i64 limit)]),(3,.str [.v (.bool distinct),.sl items.length (items.flatMap Item.row) none,.sl from_.length (from_.flatMap Source.row) none,.sl where_.length (where_.flatMap Expr.row) none,.sl order.length (order.flatMap SortKey.row) none,.v (.int .i64 limit)])]/\p=none) (fun f _ _=>(order.length-fH (f 11)).toNat) [(2,.str [.v (.bool distinct),.sl items.length (items.flatMap Item.row) none,.sl from_.length (from_.flatMap Source.row) none,.sl where_.length (where_.flatMap Expr.row) none,.sl order.length (order.flatMap SortKey.row) none,.v (.int .i64 limit)]),(3,.str [.v (.bool distinct),.sl items.length (items.flatMap Item.row) none,.sl from_.length (from_.flatMap Source.row) none,.sl where_.length (where_.flatMap Expr.row) none,.sl order.length (order.flatMap SortKey.row) none,.v (.int .i64 limit)])] none ⟨ak rfl (ak rfl (ap _)),au _,?_⟩ ?_
     ·simp only[tt,seval]
      exact⟨0,rfl,aa⟩
     ·rintro g L p ⟨i,ix,hi,rfl,rfl⟩
      simp only[tt,seval] at ix
      simp only[tt,seval,ix,Int.ofNat_lt]
      refine fun _=>ab (fun hlt=>?_) (fun hge=>?_)
      ·have hlt:i<order.length:=by omega
       obtain⟨it,bu⟩:∃it,it=order[i]:=⟨_,rfl⟩
       have hi2:=hO order[i] (aM hlt)
       rw[<-bu] at hi2
       obtain⟨e,de⟩:=it
       have hi2:Cl Tryz.prog 21 [.ag (aw e.row),.ag (aw e.row)] [] fun r _=>r=vb true:=hi2
       obtain⟨k,o,n,v,q,m,ks,ss⟩:=e
       rw[am] at hi2
       have hx1:order[i]?=some (SortKey.mk (Expr.mk k o n v q m ks ss) de):=by rw[bu];exact aC hlt
       refine dDrawn.intro [] (dW [0,2,4,6,8,10,12,14,16,18,20,22,24,26,28,30,32,34,36,38,40,42,44,46,48,50,53,54,56]) ae ?_
       simp only[tt,seval]
       simp only[tt,seval,ix]
       refine⟨aa,aa,_,aI SortKey.row_len (aC hlt),SortKey.ne _ _,?_⟩
       rw[<-bu]
       simp only[tt,seval,SortKey.row_mk,am]
       refine⟨aa,aa,_,aI SortKey.row_len (aC hlt),SortKey.ne _ _,?_⟩
       rw[<-bu]
       simp only[tt,seval,ix,SortKey.row_mk,am]
       refine⟨aa,aa,_,aI SortKey.row_len (aC hlt),SortKey.ne _ _,?_⟩
       rw[<-bu]
       simp only[tt,seval,SortKey.row_mk,am]
       refine⟨aa,aa,_,aI SortKey.row_len (aC hlt),SortKey.ne _ _,?_⟩
       rw[<-bu]
       simp only[tt,seval,SortKey.row_mk,am]
       refine cZ (hi2) ?_ ?_<;>simp only[tt,seval,ix]
       try rw[eR i aa]
       exact⟨_,none,ak rfl (ak rfl (ap _)),au _,⟨i+1,rfl,aa,rfl,rfl⟩,az⟩
      ·try simp only[tt,seval]
       exact⟨_,_,rfl,ao rfl⟩
theorem Ea (n:Nat):(∀e:Expr,SizeOf.sizeOf e<n->Cl Tryz.prog 21 [.ag (aw e.row),.ag (aw e.row)] [] fun r _=>r=vb true)/\∀q:Query,SizeOf.sizeOf q<n->Cl Tryz.prog 12 [.ag (aw q.row),.ag (aw q.row)] [] fun r _=>r=vb true:=by
 induction n with
 |zero=>exact⟨fun _ h=>absurd h (Nat.not_lt_zero _),fun _ h=>absurd h (Nat.not_lt_zero _)⟩
 |succ n ih=>
  refine⟨fun e he=>?_,fun q hq=>?_⟩
  ·obtain⟨kind,op,not,val,qual,name,kids,sub⟩:=e
   rw[Expr.mk.sizeOf_spec] at he
   exact tf kind op not val qual name kids sub (fun x hx=>ih.1 x (by have:=List.sizeOf_lt_of_mem hx;omega)) fun q hq=>ih.2 q (by have:=List.sizeOf_lt_of_mem hq;omega)
  ·have h2:∀x∈xA q,SizeOf.sizeOf x<n:=fun x hx=>by have:=Gb hx;omega
   obtain⟨distinct,items,from_,where_,order,limit⟩:=q
   exact sw distinct items from_ where_ order limit fun x hx=>ih.1 x (h2 x hx)
theorem xB (q:Query):Cl Tryz.prog 12 [.ag (aw q.row),.ag (aw q.row)] [] fun r _=>r=vb true:=(Ea _).2 q (Nat.lt_succ_self _)
end Go.Proofs.YtdmomaomffhidaaGreatDoor
