/-
  The parser's model.
  Conditions: none.
-/
import Derived.Test.YtdmomaomffhidaaGreatDoorFPA
set_option linter.unusedVariables false
set_option linter.unusedSimpArgs false
set_option linter.unusedSectionVars false
set_option linter.unnecessarySimpa false
set_option maxRecDepth 8000
namespace Go.Proofs.YtdmomaomffhidaaGreatDoor
open Go Go.Dv
open Go.Vc (D cU cV cF b0)
def Item.star:Item->Bool | .mk s _ _ _=>s
def Item.e:Item->Expr | .mk _ _ e _=>e
def Source.on:Source->List Expr | .mk _ _ o=>o
def SortKey.e:SortKey->Expr | .mk e _=>e
def aY (l:List Item):List Expr:=(l.filter fun x=>!x.star).map Item.e
def exprsQ:Query->List Expr | .mk _ items from_ where_ order _=>aY items++from_.flatMap Source.on++where_++order.map SortKey.e
theorem pB {l:List Item} {i:Nat} (h:i<l.length):aY (l.take (i+1))=aY (l.take i)++if l[i].star=true then [] else [l[i].e]:=by
 unfold aY
 rw[List.take_succ_eq_append_getElem h,List.filter_append,List.map_append]
 congr 1
 simp only[List.filter_cons,List.filter_nil]
 cases l[i].star<;>rfl
theorem zn {l:List Source} {i:Nat} (h:i<l.length):(l.take (i+1)).flatMap Source.on=(l.take i).flatMap Source.on++l[i].on:=by
 rw[List.take_succ_eq_append_getElem h,List.flatMap_append];simp
theorem vN {l:List SortKey} {i:Nat} (h:i<l.length):(l.take (i+1)).map SortKey.e=(l.take i).map SortKey.e++[l[i].e]:=by
 rw[List.take_succ_eq_append_getElem h,List.map_append];rfl
theorem eE (l:List Item):(aY l).length<=l.length:=by
 unfold aY
 rw[List.length_map];exact List.length_filter_le _ _
theorem C6:∀l:List Source,(l.flatMap Source.on).length+l.length<=cQ l
 | []=>by simp [cQ]
 |.mk t a o::r=>by
  have:=C6 r
  rw[cQ,dk,List.flatMap_cons,aB,List.length_cons,aO]
  show o.length+_+_<=_
  omega
theorem pC (l:List Source) (i:Nat):((l.take i).flatMap Source.on).length<=(l.flatMap Source.on).length:=by
 conv=>rhs;rw[<-List.take_append_drop i l]
 rw[List.flatMap_append,aB];omega
theorem fy {α:Type} (g:α->Nat) {l:List α} {x:α} (h:x∈l):g x<=(l.map g).sum:=by
 induction l with
 |nil=>cases h
 |cons y r ih=>
  rw[List.map_cons,List.sum_cons]
  rcases List.mem_cons.1 h with rfl|h
  ·omega
  ·have:=ih h;omega
theorem th {q:Query} {x:Expr} (h:x∈exprsQ q):szExpr x<=szQuery q:=by
 obtain⟨d,it,fr,wh,or,li⟩:=q
 rw[dt,dM,d4,aO,cI]
 simp only[exprsQ,List.mem_append] at h
 rcases h with ((h|h)|h)|h
 ·simp only[aY,List.mem_map,List.mem_filter] at h
  obtain⟨⟨s,q,e,a⟩,⟨hm,_⟩,rfl⟩:=h
  have:=fy iG hm
  rw[jw] at this
  show szExpr e<=_
  omega
 ·simp only[List.mem_flatMap] at h
  obtain⟨⟨t,a,o⟩,hm,hx⟩:=h
  have:=fy cD hm
  have h2:=fy szExpr (show x∈o from hx)
  rw[dk,aO] at this
  omega
 ·have:=fy szExpr h;omega
 ·simp only[List.mem_map] at h
  obtain⟨⟨e,d⟩,hm,rfl⟩:=h
  have:=fy dZ hm
  rw[ii] at this
  show szExpr e<=_
  omega
theorem AL {q:Query} {x:Expr} (h:x∈exprsQ q):SizeOf.sizeOf x<SizeOf.sizeOf q:=by
 obtain⟨d,it,fr,wh,or,li⟩:=q
 rw[Query.mk.sizeOf_spec]
 simp only[exprsQ,List.mem_append] at h
 rcases h with ((h|h)|h)|h
 ·simp only[aY,List.mem_map,List.mem_filter] at h
  obtain⟨⟨s,q,e,a⟩,⟨hm,_⟩,rfl⟩:=h
  have:=List.sizeOf_lt_of_mem hm
  rw[Item.mk.sizeOf_spec] at this
  show SizeOf.sizeOf e < _
  omega
 ·simp only[List.mem_flatMap] at h
  obtain⟨⟨t,a,o⟩,hm,hx⟩:=h
  have:=List.sizeOf_lt_of_mem hm
  have h2:=List.sizeOf_lt_of_mem (show x∈o from hx)
  rw[Source.mk.sizeOf_spec] at this
  omega
 ·have:=List.sizeOf_lt_of_mem h;omega
 ·simp only[List.mem_map] at h
  obtain⟨⟨e,d⟩,hm,rfl⟩:=h
  have:=List.sizeOf_lt_of_mem hm
  rw[SortKey.mk.sizeOf_spec] at this
  show SizeOf.sizeOf e < _
  omega
theorem fe (q:Query):(exprsQ q).length<=szQuery q:=by
 obtain⟨d,it,fr,wh,or,li⟩:=q
 have h1:=eE it
 have h2:=C6 fr
 rw[dt,dM,aO,cI]
 simp only[exprsQ,aB,List.length_map]
 omega
def eT (x e:Expr):Prop:=x∈e.kids∨∃q∈e.sub,x∈exprsQ q
theorem qS {x e:Expr} (h:eT x e):SizeOf.sizeOf x<SizeOf.sizeOf e:=by
 obtain⟨k,o,n,v,q,m,ks,ss⟩:=e
 rw[Expr.mk.sizeOf_spec]
 rcases h with h|⟨y,hy,h⟩
 ·have:=List.sizeOf_lt_of_mem (show x∈ks from h);omega
 ·have:=List.sizeOf_lt_of_mem (show y∈ss from hy)
  have:=AL h
  omega
theorem gK {x e:Expr} (h:eT x e):szExpr x<=szExpr e:=by
 obtain⟨k,o,n,v,q,m,ks,ss⟩:=e
 rw[bb,aO,bJ]
 rcases h with h|⟨y,hy,h⟩
 ·have:=fy szExpr (show x∈ks from h);omega
 ·have:=fy szQuery (show y∈ss from hy)
  have:=th h
  omega
theorem lu {q:Query} {e:Expr} (h:q∈e.sub):szQuery q<=szExpr e:=by
 obtain⟨k,o,n,v,q',m,ks,ss⟩:=e
 rw[bb,aO,bJ]
 have:=fy szQuery (show q∈ss from h);omega
noncomputable def eU {α:Type} [Inhabited α] (F:(Expr->α)->Expr->α) (e:Expr):α:=F (fun x=>if h:SizeOf.sizeOf x<SizeOf.sizeOf e then eU F x else default) e
termination_by SizeOf.sizeOf e
theorem ir {α:Type} [Inhabited α] {F:(Expr->α)->Expr->α} {P:Expr->α->Prop} (h:∀e g,(∀x,eT x e->P x (g x))->P e (F g e)) (e:Expr):P e (eU F e):=by
 suffices H:∀n:Nat,∀e:Expr,SizeOf.sizeOf e<n->P e (eU F e) from H _ e (Nat.lt_succ_self _)
 intro n
 induction n with
 |zero=>exact fun _ h=>absurd h (Nat.not_lt_zero _)
 |succ n ih=>
  intro e he
  rw[eU]
  refine h e _ fun x hx=>?_
  have:=qS hx
  simp only[dif_pos this]
  exact ih x aa
structure PS where
 a:Nat
 b:Bool
abbrev PM (α:Type):=PS->Option (α×PS)
section
variable (L:List Tok)
def ki (s:PS) (k:Nat):Option Tok:=if s.b=true then none else L[s.a+k]?
def mJ (s:PS) (k:Nat) (kind:Int) (text:ByteArray):Bool:=match ki L s k with
 |some t=>decide (t.kind=kind)&&decide (t.text=text)
 |none=>false
def oT (s:PS) (kind:Int):Bool:=match ki L s 0 with
 |some t=>decide (t.kind=kind)&&aM t
 |none=>false
def cK (s:PS):ByteArray:=match ki L s 0 with
 |some t=>t.text
 |none=>⟨#[]⟩
def adv (s:PS):PS:=⟨s.a+1,s.b⟩
def fl (s:PS):PS:=⟨s.a,true⟩
def tkIf (c:Bool) (s:PS):PS:=if c=true then adv s else s
def must (c:Bool) (s:PS):PS:=if c=true then adv s else fl s
def aG (s:PS) (k:Nat):Bool:=mJ L s 0 1 (kw k)
def cO (s:PS) (c:UInt8):Bool:=mJ L s 0 5 ⟨#[c]⟩
def mText (kind:Int) (s:PS):ByteArray×PS:=if oT L s kind=true then (cK L s,adv s) else (⟨#[]⟩,fl s)
def mNum (s:PS):Int×PS:=(ms (mText L 3 s).1,(mText L 3 s).2)
def kX (lv:Nat):List Nat:=if lv=1 then [1] else if lv=2 then [2] else if lv=4 then [3,4,5,6,7,8] else if lv=5 then [9] else if lv=6 then [10,11] else if lv=7 then [12,13,14] else []
def nI (s:PS) (op:Nat):Bool:=mJ L s 0 (if op=1∨op=2 then 1 else 5) (j1 op)
def mt (s:PS):List Nat->Nat
 | []=>0
 |op::r=>if nI L s op=true then op else mt s r
def fv (s:PS) (lv:Nat):Nat:=mt L s (kX lv)
end
def z0:ByteArray:=⟨#[]⟩
def zVal:Val:=⟨0,0,⟨#[]⟩⟩
def zExpr:Expr:=.mk 0 0 false zVal z0 z0 [] []
def km (op:Nat) (a b:Expr):Expr:=.mk 4 op false zVal z0 z0 [a,b] []
def pE (op:Int) (e:Expr):Expr:=.mk 3 op false zVal z0 z0 [e] []
def dE (kind:Int) (not:Bool) (kids:List Expr) (sub:List Query):Expr:=.mk kind 0 not zVal z0 z0 kids sub
def f8 (v:Val):Expr:=.mk 1 0 false v z0 z0 [] []
def sC (qual name:ByteArray):Expr:=.mk 2 0 false zVal qual name [] []
section
variable (L:List Tok)
def cx (f:PM Expr) (lv:Nat):Nat->Expr->PM Expr
 |0,_,_=>none
 |n+1,e,s=>if fv L s lv=0 then some (e,s) else match f (adv s) with
  |none=>none
  |some (x,s1)=>cx f lv n (km (fv L s lv) e x) s1
def iI {α:Type} (f:PM α):Nat->List α->PM (List α)
 |0,_,_=>none
 | n+1,l,s=>if cO L s 44=true then (match f (adv s) with
  |none=>none
  | some (x,s1)=>iI f n (l++[x]) s1) else some (l,s)
def nJ (f:Nat->PM Expr):PM (List Expr):=fun s=>match f 1 s with
 |none=>none
 |some (e,s1)=>iI L (f 1) (L.length+1) [e] s1
def xX (f:Nat->PM Expr) (q:PM Query) (e:Expr) (not:Bool):PM Expr:=fun s=>
 let s1:=must (cO L s 40) s
 if aG L s1 1=true then (match q s1 with
  |none=>none
  | some (x,s2)=>some (dE 8 not [e] [x],must (cO L s2 41) s2))
 else match nJ L f s1 with
  |none=>none
  |some (l,s2)=>some (dE 7 not (e::l) [],must (cO L s2 41) s2)
def cmpT (f:Nat->PM Expr) (q:PM Query) (e:Expr):PM Expr:=fun s=>
 if aG L s 16=true then
  let s1:=adv s
  let n:=aG L s1 15
  let s2:=tkIf n s1
  some (dE 5 n [e] [],must (aG L s2 20) s2)
 else
  let n:=aG L s 15
  let s1:=tkIf n s
  if aG L s1 18=true then (match f 5 (adv s1) with
   |none=>none
   |some (lo,s2)=>match f 5 (must (aG L s2 13) s2) with
    |none=>none
    | some (hi,s3)=>some (dE 6 n [e,lo,hi] [],s3))
  else if aG L s1 17=true then xX L f q e n (adv s1)
  else some (e,⟨s1.a,s1.b||n⟩)
def mK (f:Nat->PM Expr) (q:PM Query):PM Expr:=fun s=>match f 5 s with
 |none=>none
 |some (e,s1)=>if fv L s1 4=0 then cmpT L f q e s1 else match f 5 (adv s1) with
  |none=>none
  |some (x,s2)=>some (km (fv L s1 4) e x,s2)
def eG (f:Nat->PM Expr) (q:PM Query):PM Expr:=fun s=>
 if oT L s 3=true then some (f8 ⟨1,ms (cK L s),z0⟩,adv s)
 else if oT L s 4=true then some (f8 ⟨2,0,cK L s⟩,adv s)
 else if aG L s 20=true then some (f8 zVal,adv s)
 else if aG L s 21=true then some (f8 ⟨3,1,z0⟩,adv s)
 else if aG L s 22=true then some (f8 ⟨3,0,z0⟩,adv s)
 else if oT L s 2=true then
  let s1:=adv s
  if cO L s1 46=true then some (sC (cK L s) (mText L 2 (adv s1)).1,(mText L 2 (adv s1)).2)
  else some (sC z0 (cK L s),s1)
 else if cO L s 40=true then (match f 1 (adv s) with
  |none=>none
  | some (e,s1)=>some (e,must (cO L s1 41) s1))
 else if aG L s 19=true then
  let s1:=must (cO L (adv s) 40) (adv s)
  (match q s1 with
  |none=>none
  | some (x,s2)=>some (dE 9 false [] [x],must (cO L s2 41) s2))
 else some (zExpr,fl s)
def stepE (f:Nat->PM Expr) (q:PM Query) (lv:Nat):PM Expr:=fun s=>
 if lv=3 then (if aG L s 15=true then (match f 3 (adv s) with
  |none=>none
  | some (e,s1)=>some (pE 15 e,s1)) else f 4 s)
 else if lv=4 then mK L f q s
 else if lv=8 then (if cO L s 45=true then (match f 8 (adv s) with
  |none=>none
  | some (e,s1)=>some (pE 16 e,s1)) else f 9 s)
 else if lv=9 then eG L f q s
 else match f (lv+1) s with
  |none=>none
  |some (e,s1)=>cx L (f (lv+1)) lv (L.length+1) e s1
def asM:PS->ByteArray×PS:=fun s=>if aG L s 12=true then mText L 2 (adv s) else (z0,s)
def fU (s:PS):Bool:=oT L s 2&&(mJ L s 1 5 ⟨#[46]⟩&&mJ L s 2 5 ⟨#[42]⟩)
def f9 (f:Nat->PM Expr):PM Item:=fun s=>
 if cO L s 42=true then some (.mk true z0 zExpr z0,adv s)
 else if fU L s=true then some (.mk true (cK L s) zExpr z0,adv (adv (adv s)))
 else match f 1 s with
  |none=>none
  |some (e,s1)=>some (.mk false z0 e (asM L s1).1,(asM L s1).2)
def sourceM (s:PS):Source×PS:=(.mk (mText L 2 s).1 (asM L (mText L 2 s).2).1 [],(asM L (mText L 2 s).2).2)
def Source.withOn:Source->List Expr->Source | .mk t a _,on=>.mk t a on
def cy (f:Nat->PM Expr):Nat->List Source->PM (List Source)
 |0,_,_=>none
 |n+1,l,s=>
  if cO L s 44=true then cy f n (l++[(sourceM L (adv s)).1]) (sourceM L (adv s)).2
  else if aG L s 4=true then
   let s2:=(sourceM L (adv s)).2
   (match f 1 (must (aG L s2 5) s2) with
   |none=>none
   | some (e,s3)=>cy f n (l++[(sourceM L (adv s)).1.withOn [e]]) s3)
  else some (l,s)
def fD (f:Nat->PM Expr):PM (List Expr):=fun s=>if aG L s 6=true then (match f 1 (adv s) with
 |none=>none
 | some (e,s1)=>some ([e],s1)) else some ([],s)
def fE (f:Nat->PM Expr):PM SortKey:=fun s=>match f 1 s with
 |none=>none
 |some (e,s1)=>if aG L s1 9=true then some (.mk e false,adv s1) else some (.mk e (aG L s1 10),tkIf (aG L s1 10) s1)
def fF (f:Nat->PM Expr):PM (List SortKey):=fun s=>if aG L s 7=true then
 let s1:=must (aG L (adv s) 8) (adv s)
 (match fE L f s1 with
 |none=>none
 | some (x,s2)=>iI L (fE L f) (L.length+1) [x] s2) else some ([],s)
def limitM (s:PS):Int×PS:=if aG L s 11=true then mNum L (adv s) else (-1,s)
def ga (f:Nat->PM Expr):PM (List Item):=fun s=>match f9 L f s with
 |none=>none
 |some (x,s1)=>iI L (f9 L f) (L.length+1) [x] s1
def stepQ (f:Nat->PM Expr):PM Query:=fun s=>
 let s1:=must (aG L s 1) s
 let d:=aG L s1 2
 match ga L f (tkIf d s1) with
 |none=>none
 |some (its,s2)=>
  let s3:=must (aG L s2 3) s2
  match cy L f (L.length+1) [(sourceM L s3).1] (sourceM L s3).2 with
  |none=>none
  |some (frs,s4)=>match fD L f s4 with
   |none=>none
   |some (wh,s5)=>match fF L f s5 with
    |none=>none
    |some (ord,s6)=>some (.mk d its frs wh ord (limitM L s6).1,(limitM L s6).2)
def pP:Nat->(Nat->PM Expr)×PM Query
 |0=>(fun _ _=>none,fun _=>none)
 |k+1=>(stepE L (pP k).1 (pP k).2,stepQ L (pP k).1)
end
section
variable (L:List Tok)
def Ok (s s':PS):Prop:=s.a<=s'.a/\(s.a<=L.length->s'.a<=L.length)/\(s.b=true->s'=s)
theorem Ok.refl (s:PS):Ok L s s:=⟨Nat.le_refl _,id,fun _=>rfl⟩
variable {L}
theorem Ok.trans {a b c:PS} (h:Ok L a b) (k:Ok L b c):Ok L a c:=⟨Nat.le_trans h.1 k.1,fun e=>k.2.1 (h.2.1 e),fun e=>by have:=h.2.2 e;subst this;exact k.2.2 e⟩
theorem zo {s:PS} {k:Nat} {t:Tok} (h:ki L s k=some t):s.b=false/\s.a+k<L.length:=by
 unfold ki at h
 split at h
 ·cases h
 ·rename_i hb
  exact⟨by simpa using hb,(List.getElem?_eq_some_iff.1 h).1⟩
theorem mL {s:PS} {k:Nat} {kind:Int} {x:ByteArray} (h:mJ L s k kind x=true):s.b=false/\s.a+k<L.length:=by
 unfold mJ at h
 split at h
 ·rename_i t ht;exact zo ht
 ·cases h
theorem lw {s:PS} {kind:Int} (h:oT L s kind=true):s.b=false/\s.a<L.length:=by
 unfold oT at h
 split at h
 ·rename_i t ht;exact zo ht
 ·cases h
theorem aH {s:PS} {k:Nat} (h:aG L s k=true):s.b=false/\s.a<L.length:=mL h
theorem bC {s:PS} {c:UInt8} (h:cO L s c=true):s.b=false/\s.a<L.length:=mL h
theorem zp {s:PS}:∀ {l:List Nat},mt L s l≠0->s.b=false/\s.a<L.length
 | [],h=>absurd rfl h
 |op::r,h=>by
  unfold mt at h
  split at h
  ·rename_i hh;exact mL hh
  ·exact zp h
theorem kn {s:PS} {lv:Nat} (h:¬fv L s lv=0):s.b=false/\s.a<L.length:=zp h
theorem Ok.adv {s:PS} (h:s.b=false/\s.a<L.length):Ok L s (adv s):=⟨by simp [Go.Proofs.YtdmomaomffhidaaGreatDoor.adv],fun _=>by simp [Go.Proofs.YtdmomaomffhidaaGreatDoor.adv];omega,fun e=>by rw[h.1] at e;cases e⟩
theorem Ok.fl (s:PS):Ok L s (fl s):=⟨Nat.le_refl _,id,fun e=>by cases s;simp only at e;subst e;rfl⟩
theorem Ok.must {s:PS} {c:Bool} (h:c=true->s.b=false/\s.a<L.length):Ok L s (must c s):=by
 unfold Go.Proofs.YtdmomaomffhidaaGreatDoor.must
 split
 ·rename_i hc;exact Ok.adv (h hc)
 ·exact Ok.fl s
theorem Ok.tkIf {s:PS} {c:Bool} (h:c=true->s.b=false/\s.a<L.length):Ok L s (tkIf c s):=by
 unfold Go.Proofs.YtdmomaomffhidaaGreatDoor.tkIf
 split
 ·rename_i hc;exact Ok.adv (h hc)
 ·exact Ok.refl L s
theorem Ok.mText (kind:Int) (s:PS):Ok L s (mText L kind s).2:=by
 unfold Go.Proofs.YtdmomaomffhidaaGreatDoor.mText
 split
 ·rename_i hc;exact Ok.adv (lw hc)
 ·exact Ok.fl s
theorem Ok.mNum (s:PS):Ok L s (mNum L s).2:=Ok.mText 3 s
theorem Ok.asM (s:PS):Ok L s (asM L s).2:=by
 unfold Go.Proofs.YtdmomaomffhidaaGreatDoor.asM
 split
 ·rename_i hc;exact (Ok.adv (aH hc)).trans (Ok.mText 2 _)
 ·exact Ok.refl L s
theorem Ok.sourceM (s:PS):Ok L s (sourceM L s).2:=(Ok.mText 2 s).trans (Ok.asM _)
theorem Ok.limitM (s:PS):Ok L s (limitM L s).2:=by
 unfold Go.Proofs.YtdmomaomffhidaaGreatDoor.limitM
 split
 ·rename_i hc;exact (Ok.adv (aH hc)).trans (Ok.mNum _)
 ·exact Ok.refl L s
def OkM {α:Type} (m:PM α):Prop:=∀s x s',m s=some (x,s')->Ok L s s'
variable {f:Nat->PM Expr} {q:PM Query}
theorem OkM.chain {g:PM Expr} (hg:OkM (L:=L) g) (lv:Nat):∀(n:Nat) (e:Expr),OkM (L:=L) (cx L g lv n e)
 |0,_,_,_,_,h=>by cases h
 |n+1,e,s,x,s',h=>by
  rw[cx] at h
  split at h
  ·injection h with h;injection h with _ h;subst h;exact Ok.refl L s
  ·rename_i ho
   split at h
   ·cases h
   ·rename_i y s1 h1
    exact (Ok.adv (kn ho)).trans ((hg _ _ _ h1).trans (OkM.chain hg lv n _ _ _ _ h))
theorem OkM.sep {α:Type} {g:PM α} (hg:OkM (L:=L) g):∀(n:Nat) (l:List α),OkM (L:=L) (iI L g n l)
 |0,_,_,_,_,h=>by cases h
 |n+1,l,s,x,s',h=>by
  rw[iI] at h
  split at h
  ·rename_i hc
   split at h
   ·cases h
   ·rename_i y s1 h1
    exact (Ok.adv (bC hc)).trans ((hg _ _ _ h1).trans (OkM.sep hg n _ _ _ _ h))
  ·injection h with h;injection h with _ h;subst h;exact Ok.refl L s
theorem OkM.ors (hf:∀lv,OkM (L:=L) (f lv)):OkM (L:=L) (nJ L f):=fun s x s' h=>by
 unfold nJ at h
 split at h
 ·cases h
 ·rename_i y s1 h1
  exact (hf 1 _ _ _ h1).trans (OkM.sep (hf 1) _ _ _ _ _ h)
theorem OkM.inn (hf:∀lv,OkM (L:=L) (f lv)) (hq:OkM (L:=L) q) (e:Expr) (n:Bool):OkM (L:=L) (xX L f q e n):=fun s x s' h=>by
 unfold xX at h
 have h0:Ok L s (must (cO L s 40) s):=Ok.must fun h=>bC h
 simp only at h
 split at h
 ·split at h
  ·cases h
  ·rename_i y s1 h1
   injection h with h;injection h with _ h;subst h
   exact h0.trans ((hq _ _ _ h1).trans (Ok.must fun h=>bC h))
 ·split at h
  ·cases h
  ·rename_i y s1 h1
   injection h with h;injection h with _ h;subst h
   exact h0.trans ((OkM.ors hf _ _ _ h1).trans (Ok.must fun h=>bC h))
theorem OkM.cmpT (hf:∀lv,OkM (L:=L) (f lv)) (hq:OkM (L:=L) q) (e:Expr):OkM (L:=L) (cmpT L f q e):=fun s x s' h=>by
 unfold Go.Proofs.YtdmomaomffhidaaGreatDoor.cmpT at h
 simp only at h
 split at h
 ·rename_i hc
  injection h with h;injection h with _ h;subst h
  exact (Ok.adv (aH hc)).trans ((Ok.tkIf fun h=>aH h).trans (Ok.must fun h=>aH h))
 ·have h0:Ok L s (tkIf (aG L s 15) s):=Ok.tkIf fun h=>aH h
  split at h
  ·rename_i hc
   split at h
   ·cases h
   ·rename_i y s1 h1
    split at h
    ·cases h
    ·rename_i z s2 h2
     injection h with h;injection h with _ h;subst h
     exact h0.trans ((Ok.adv (aH hc)).trans ((hf 5 _ _ _ h1).trans ((Ok.must fun h=>aH h).trans (hf 5 _ _ _ h2))))
  ·split at h
   ·rename_i hc
    exact h0.trans ((Ok.adv (aH hc)).trans (OkM.inn hf hq e _ _ _ _ h))
   ·injection h with h;injection h with _ h;subst h
    refine h0.trans ⟨Nat.le_refl _,id,fun e=>?_⟩
    generalize tkIf (aG L s 15) s=u at *
    cases u;simp only at e;subst e;rfl
theorem OkM.cmp (hf:∀lv,OkM (L:=L) (f lv)) (hq:OkM (L:=L) q):OkM (L:=L) (mK L f q):=fun s x s' h=>by
 unfold mK at h
 split at h
 ·cases h
 ·rename_i y s1 h1
  split at h
  ·exact (hf 5 _ _ _ h1).trans (OkM.cmpT hf hq _ _ _ _ h)
  ·rename_i ho
   split at h
   ·cases h
   ·rename_i z s2 h2
    injection h with h;injection h with _ h;subst h
    exact (hf 5 _ _ _ h1).trans ((Ok.adv (kn ho)).trans (hf 5 _ _ _ h2))
theorem OkM.prim (hf:∀lv,OkM (L:=L) (f lv)) (hq:OkM (L:=L) q):OkM (L:=L) (eG L f q):=fun s x s' h=>by
 unfold eG at h
 simp only at h
 split at h
 ·rename_i hc;injection h with h;injection h with _ h;subst h;exact Ok.adv (lw hc)
 split at h
 ·rename_i hc;injection h with h;injection h with _ h;subst h;exact Ok.adv (lw hc)
 split at h
 ·rename_i hc;injection h with h;injection h with _ h;subst h;exact Ok.adv (aH hc)
 split at h
 ·rename_i hc;injection h with h;injection h with _ h;subst h;exact Ok.adv (aH hc)
 split at h
 ·rename_i hc;injection h with h;injection h with _ h;subst h;exact Ok.adv (aH hc)
 split at h
 ·rename_i hc
  split at h
  ·rename_i hd;injection h with h;injection h with _ h;subst h;exact (Ok.adv (lw hc)).trans ((Ok.adv (bC hd)).trans (Ok.mText 2 _))
  ·injection h with h;injection h with _ h;subst h;exact Ok.adv (lw hc)
 split at h
 ·rename_i hc
  split at h
  ·cases h
  ·rename_i y s1 h1
   injection h with h;injection h with _ h;subst h
   exact (Ok.adv (bC hc)).trans ((hf 1 _ _ _ h1).trans (Ok.must fun h=>bC h))
 split at h
 ·rename_i hc
  split at h
  ·cases h
  ·rename_i y s1 h1
   injection h with h;injection h with _ h;subst h
   exact (Ok.adv (aH hc)).trans ((Ok.must fun h=>bC h).trans ((hq _ _ _ h1).trans (Ok.must fun h=>bC h)))
 ·injection h with h;injection h with _ h;subst h;exact Ok.fl s
theorem OkM.stepE (hf:∀lv,OkM (L:=L) (f lv)) (hq:OkM (L:=L) q) (lv:Nat):OkM (L:=L) (stepE L f q lv):=fun s x s' h=>by
 unfold Go.Proofs.YtdmomaomffhidaaGreatDoor.stepE at h
 split at h
 ·split at h
  ·rename_i hc
   split at h
   ·cases h
   ·rename_i y s1 h1
    injection h with h;injection h with _ h;subst h
    exact (Ok.adv (aH hc)).trans (hf 3 _ _ _ h1)
  ·exact hf 4 _ _ _ h
 split at h
 ·exact OkM.cmp hf hq _ _ _ h
 split at h
 ·split at h
  ·rename_i hc
   split at h
   ·cases h
   ·rename_i y s1 h1
    injection h with h;injection h with _ h;subst h
    exact (Ok.adv (bC hc)).trans (hf 8 _ _ _ h1)
  ·exact hf 9 _ _ _ h
 split at h
 ·exact OkM.prim hf hq _ _ _ h
 ·split at h
  ·cases h
  ·rename_i y s1 h1
   exact (hf _ _ _ _ h1).trans (OkM.chain (hf _) lv _ _ _ _ _ h)
theorem vO {s:PS} (h:fU L s=true):s.b=false/\s.a+2<L.length:=by
 unfold fU at h
 simp only[Bool.and_eq_true] at h
 exact mL h.2.2
theorem OkM.item (hf:∀lv,OkM (L:=L) (f lv)):OkM (L:=L) (f9 L f):=fun s x s' h=>by
 unfold f9 at h
 split at h
 ·rename_i hc;injection h with h;injection h with _ h;subst h;exact Ok.adv (bC hc)
 split at h
 ·rename_i hc;injection h with h;injection h with _ h;subst h
  have:=vO hc
  have a1:Ok L s (adv s):=Ok.adv ⟨this.1,aa⟩
  have a2:Ok L (adv s) (adv (adv s)):=Ok.adv ⟨this.1,show s.a+1 < _ by omega⟩
  have a3:Ok L (adv (adv s)) (adv (adv (adv s))):=Ok.adv ⟨this.1,show s.a+1+1 < _ by omega⟩
  exact a1.trans (a2.trans a3)
 split at h
 ·cases h
 ·rename_i y s1 h1
  injection h with h;injection h with _ h;subst h
  exact (hf 1 _ _ _ h1).trans (Ok.asM _)
theorem OkM.sources (hf:∀lv,OkM (L:=L) (f lv)):∀(n:Nat) (l:List Source),OkM (L:=L) (cy L f n l)
 |0,_,_,_,_,h=>by cases h
 |n+1,l,s,x,s',h=>by
  rw[cy] at h
  split at h
  ·rename_i hc
   exact (Ok.adv (bC hc)).trans ((Ok.sourceM _).trans (OkM.sources hf n _ _ _ _ h))
  simp only at h
  split at h
  ·rename_i hc
   split at h
   ·cases h
   ·rename_i y s1 h1
    exact (Ok.adv (aH hc)).trans ((Ok.sourceM _).trans ((Ok.must fun h=>aH h).trans ((hf 1 _ _ _ h1).trans (OkM.sources hf n _ _ _ _ h))))
  ·injection h with h;injection h with _ h;subst h;exact Ok.refl L s
theorem OkM.wher (hf:∀lv,OkM (L:=L) (f lv)):OkM (L:=L) (fD L f):=fun s x s' h=>by
 unfold fD at h
 split at h
 ·rename_i hc
  split at h
  ·cases h
  ·rename_i y s1 h1
   injection h with h;injection h with _ h;subst h
   exact (Ok.adv (aH hc)).trans (hf 1 _ _ _ h1)
 ·injection h with h;injection h with _ h;subst h;exact Ok.refl L s
theorem OkM.sort (hf:∀lv,OkM (L:=L) (f lv)):OkM (L:=L) (fE L f):=fun s x s' h=>by
 unfold fE at h
 split at h
 ·cases h
 ·rename_i y s1 h1
  split at h
  ·rename_i hc;injection h with h;injection h with _ h;subst h
   exact (hf 1 _ _ _ h1).trans (Ok.adv (aH hc))
  ·injection h with h;injection h with _ h;subst h
   exact (hf 1 _ _ _ h1).trans (Ok.tkIf fun h=>aH h)
theorem OkM.order (hf:∀lv,OkM (L:=L) (f lv)):OkM (L:=L) (fF L f):=fun s x s' h=>by
 unfold fF at h
 simp only at h
 split at h
 ·rename_i hc
  split at h
  ·cases h
  ·rename_i y s1 h1
   exact (Ok.adv (aH hc)).trans ((Ok.must fun h=>aH h).trans ((OkM.sort hf _ _ _ h1).trans (OkM.sep (OkM.sort hf) _ _ _ _ _ h)))
 ·injection h with h;injection h with _ h;subst h;exact Ok.refl L s
theorem OkM.items (hf:∀lv,OkM (L:=L) (f lv)):OkM (L:=L) (ga L f):=fun s x s' h=>by
 unfold ga at h
 split at h
 ·cases h
 ·rename_i y s1 h1
  exact (OkM.item hf _ _ _ h1).trans (OkM.sep (OkM.item hf) _ _ _ _ _ h)
theorem OkM.stepQ (hf:∀lv,OkM (L:=L) (f lv)):OkM (L:=L) (stepQ L f):=fun s x s' h=>by
 unfold Go.Proofs.YtdmomaomffhidaaGreatDoor.stepQ at h
 simp only at h
 split at h
 ·cases h
 rename_i its s2 h1
 split at h
 ·cases h
 rename_i frs s4 h2
 split at h
 ·cases h
 rename_i wh s5 h3
 split at h
 ·cases h
 rename_i od s6 h4
 injection h with h;injection h with _ h;subst h
 exact (Ok.must fun h=>aH h).trans ((Ok.tkIf fun h=>aH h).trans ((OkM.items hf _ _ _ h1).trans ((Ok.must fun h=>aH h).trans ((Ok.sourceM _).trans ((OkM.sources hf _ _ _ _ _ h2).trans ((OkM.wher hf _ _ _ h3).trans ((OkM.order hf _ _ _ h4).trans (Ok.limitM _))))))))
theorem tj:∀k,(∀lv,OkM (L:=L) ((pP L k).1 lv))/\OkM (L:=L) (pP L k).2
 |0=>⟨fun _ _ _ _ h=>(by cases h),fun _ _ _ h=>(by cases h)⟩
 |k+1=>⟨fun lv=>OkM.stepE (tj k).1 (tj k).2 lv,OkM.stepQ (tj k).1⟩
end
section
variable {L:List Tok}
abbrev rm (L:List Tok) (s:PS):Nat:=L.length-s.a
def Df {α:Type} (m:PM α) (s:PS):Prop:=∃x s',m s=some (x,s')
theorem gb {s:PS} (h:s.b=false/\s.a<L.length):rm L (adv s)<rm L s:=by show L.length-(s.a+1)<L.length-s.a;omega
theorem Ok.rm {s s':PS} (h:Ok L s s'):rm L s'<=rm L s:=by have:=h.1;show L.length-s'.a<=L.length-s.a;omega
variable {f:Nat->PM Expr} {q:PM Query}
theorem qT {g:PM Expr} {R lv:Nat} (hk:OkM (L:=L) g) (hg:∀s,rm L s<R->Df g s):∀(n:Nat) (e:Expr) (s:PS),rm L s<=R->rm L s<n->Df (cx L g lv n e) s
 |0,_,_,_,h=>absurd h (Nat.not_lt_zero _)
 |n+1,e,s,h,h'=>by
  unfold Df
  rw[cx]
  split
  ·exact⟨_,_,rfl⟩
  ·rename_i ho
   have ha:=gb (kn ho)
   obtain⟨x,s1,h1⟩:=hg (adv s) aa
   have:=(hk _ _ _ h1).rm
   rw[h1]
   exact qT hk hg n _ s1 aa aa
theorem ui {α:Type} {g:PM α} {R:Nat} (hk:OkM (L:=L) g) (hg:∀s,rm L s<R->Df g s):∀(n:Nat) (l:List α) (s:PS),rm L s<=R->rm L s<n->Df (iI L g n l) s
 |0,_,_,_,h=>absurd h (Nat.not_lt_zero _)
 |n+1,l,s,h,h'=>by
  unfold Df
  rw[iI]
  split
  ·rename_i ho
   have ha:=gb (bC ho)
   obtain⟨x,s1,h1⟩:=hg (adv s) aa
   have:=(hk _ _ _ h1).rm
   rw[h1]
   exact ui hk hg n _ s1 aa aa
  ·exact⟨_,_,rfl⟩
theorem vP (s:PS):rm L s<L.length+1:=by show L.length-s.a < _;omega
section
variable (hk:∀lv,OkM (L:=L) (f lv)) (hkq:OkM (L:=L) q) {R:Nat} (hf:∀lv,1<=lv->lv<=9->∀s,rm L s<R->Df (f lv) s) (hq:∀s,rm L s<R->Df q s)
include hk hf
theorem H3 {s:PS} (h:rm L s<R):Df (nJ L f) s:=by
 obtain⟨x,s1,h1⟩:=hf 1 aa aa s h
 have:=(hk 1 _ _ _ h1).rm
 unfold Df nJ
 rw[h1]
 exact ui (hk 1) (hf 1 aa aa) _ _ s1 aa (vP s1)
include hkq hq
theorem IC {s:PS} (e:Expr) (n:Bool) (h:rm L s<R):Df (xX L f q e n) s:=by
 unfold Df xX
 simp only
 have h0:Ok L s (must (cO L s 40) s):=Ok.must fun h=>bC h
 have:=h0.rm
 split
 ·obtain⟨x,s1,h1⟩:=hq (must (cO L s 40) s) aa
  rw[h1];exact⟨_,_,rfl⟩
 ·obtain⟨x,s1,h1⟩:=H3 hk hf (s:=must (cO L s 40) s) aa
  rw[h1];exact⟨_,_,rfl⟩
theorem Ew {s:PS} (e:Expr) (h:rm L s<=R):Df (cmpT L f q e) s:=by
 unfold Df cmpT
 simp only
 split
 ·exact⟨_,_,rfl⟩
 have h0:Ok L s (tkIf (aG L s 15) s):=Ok.tkIf fun h=>aH h
 have h0':=h0.rm
 split
 ·rename_i hc
  have ha:=gb (aH hc)
  obtain⟨x,s1,h1⟩:=hf 5 aa aa _ (by omega:rm L (adv (tkIf (aG L s 15) s))<R)
  have h2:=(hk 5 _ _ _ h1).rm
  rw[h1]
  have h3:Ok L s1 (must (aG L s1 13) s1):=Ok.must fun h=>aH h
  have h4:=h3.rm
  obtain⟨y,s2,h5⟩:=hf 5 aa aa _ (by omega:rm L (must (aG L s1 13) s1)<R)
  simp only[h5]
  exact⟨_,_,rfl⟩
 split
 ·rename_i hc
  have ha:=gb (aH hc)
  exact IC hk hkq hf hq e _ aa
 ·exact⟨_,_,rfl⟩
theorem Ex {s:PS} (h:rm L s<=R):Df (eG L f q) s:=by
 unfold Df eG
 simp only
 split
 ·exact⟨_,_,rfl⟩
 split
 ·exact⟨_,_,rfl⟩
 split
 ·exact⟨_,_,rfl⟩
 split
 ·exact⟨_,_,rfl⟩
 split
 ·exact⟨_,_,rfl⟩
 split
 ·split<;>exact⟨_,_,rfl⟩
 split
 ·rename_i hc
  have ha:=gb (bC hc)
  obtain⟨x,s1,h1⟩:=hf 1 aa aa _ (by omega:rm L (adv s)<R)
  rw[h1];exact⟨_,_,rfl⟩
 split
 ·rename_i hc
  have ha:=gb (aH hc)
  have h3:Ok L (adv s) (must (cO L (adv s) 40) (adv s)):=Ok.must fun h=>bC h
  have h4:=h3.rm
  obtain⟨x,s1,h1⟩:=hq (must (cO L (adv s) 40) (adv s)) aa
  rw[h1];exact⟨_,_,rfl⟩
 ·exact⟨_,_,rfl⟩
theorem C7 {s:PS} {lv:Nat} (h:rm L s<=R) (hlv:lv<=9) (hn:lv≠9->Df (f (lv+1)) s):Df (stepE L f q lv) s:=by
 unfold Df stepE
 split
 ·rename_i e;subst e
  split
  ·rename_i hc
   have ha:=gb (aH hc)
   obtain⟨x,s1,h1⟩:=hf 3 aa aa _ (by omega:rm L (adv s)<R)
   rw[h1];exact⟨_,_,rfl⟩
  ·exact hn aa
 split
 ·rename_i e;subst e
  unfold mK
  obtain⟨x,s1,h1⟩:=hn aa
  have h2:=(hk 5 _ _ _ h1).rm
  simp only[h1]
  split
  ·exact Ew hk hkq hf hq _ aa
  ·rename_i ho
   have ha:=gb (kn ho)
   obtain⟨y,s2,h3⟩:=hf 5 aa aa _ (by omega:rm L (adv s1)<R)
   rw[h3];exact⟨_,_,rfl⟩
 split
 ·rename_i e;subst e
  split
  ·rename_i hc
   have ha:=gb (bC hc)
   obtain⟨x,s1,h1⟩:=hf 8 aa aa _ (by omega:rm L (adv s)<R)
   rw[h1];exact⟨_,_,rfl⟩
  ·exact hn aa
 split
 ·exact Ex hk hkq hf hq h
 ·rename_i e9
  obtain⟨x,s1,h1⟩:=hn e9
  have h2:=(hk _ _ _ _ h1).rm
  rw[h1]
  exact qT (hk _) (fun s' hs'=>hf _ aa aa s' hs') _ _ s1 aa (vP s1)
end
section
variable (hk:∀lv,OkM (L:=L) (f lv)) {R:Nat} (hf:∀s,rm L s<=R->Df (f 1) s)
include hk hf
theorem zq {s:PS} (h:rm L s<=R):Df (f9 L f) s:=by
 unfold Df f9
 split
 ·exact⟨_,_,rfl⟩
 split
 ·exact⟨_,_,rfl⟩
 obtain⟨x,s1,h1⟩:=hf s h
 rw[h1];exact⟨_,_,rfl⟩
theorem mM:∀(n:Nat) (l:List Source) (s:PS),rm L s<=R->rm L s<n->Df (cy L f n l) s
 |0,_,_,_,h=>absurd h (Nat.not_lt_zero _)
 |n+1,l,s,h,h'=>by
  unfold Df
  rw[cy]
  split
  ·rename_i ho
   have ha:=gb (bC ho)
   have hb:=(Ok.sourceM (L:=L) (adv s)).rm
   exact mM n _ _ aa aa
  simp only
  split
  ·rename_i ho
   have ha:=gb (aH ho)
   have hb:=(Ok.sourceM (L:=L) (adv s)).rm
   have h3:Ok L (sourceM L (adv s)).2 (must (aG L (sourceM L (adv s)).2 5) (sourceM L (adv s)).2):=Ok.must fun h=>aH h
   have h4:=h3.rm
   obtain⟨x,s1,h1⟩:=hf _ (by omega:rm L (must (aG L (sourceM L (adv s)).2 5) (sourceM L (adv s)).2)<=R)
   have h5:=(hk 1 _ _ _ h1).rm
   rw[h1]
   exact mM n _ s1 aa aa
  ·exact⟨_,_,rfl⟩
theorem C8 {s:PS} (h:rm L s<=R):Df (fD L f) s:=by
 unfold Df fD
 split
 ·rename_i hc
  have ha:=gb (aH hc)
  obtain⟨x,s1,h1⟩:=hf (adv s) aa
  rw[h1];exact⟨_,_,rfl⟩
 ·exact⟨_,_,rfl⟩
theorem zr {s:PS} (h:rm L s<=R):Df (fE L f) s:=by
 unfold Df fE
 obtain⟨x,s1,h1⟩:=hf s h
 simp only[h1]
 split<;>exact⟨_,_,rfl⟩
theorem C9 {s:PS} (h:rm L s<=R):Df (fF L f) s:=by
 unfold Df fF
 simp only
 split
 ·rename_i hc
  have ha:=gb (aH hc)
  have h3:Ok L (adv s) (must (aG L (adv s) 8) (adv s)):=Ok.must fun h=>aH h
  have h4:=h3.rm
  obtain⟨x,s1,h1⟩:=zr hk hf (s:=must (aG L (adv s) 8) (adv s)) aa
  have h5:=(OkM.sort hk _ _ _ h1).rm
  rw[h1]
  exact ui (R:=R) (OkM.sort hk) (fun s' hs'=>zr hk hf aa) _ _ s1 aa (vP s1)
 ·exact⟨_,_,rfl⟩
theorem Ca {s:PS} (h:rm L s<=R):Df (ga L f) s:=by
 unfold Df ga
 obtain⟨x,s1,h1⟩:=zq hk hf h
 have h5:=(OkM.item hk _ _ _ h1).rm
 rw[h1]
 exact ui (R:=R) (OkM.item hk) (fun s' hs'=>zq hk hf aa) _ _ s1 aa (vP s1)
theorem Cb {s:PS} (h:rm L s<=R):Df (stepQ L f) s:=by
 unfold Df stepQ
 simp only
 have k1:Ok L s (must (aG L s 1) s):=Ok.must fun h=>aH h
 have k2:Ok L (must (aG L s 1) s) (tkIf (aG L (must (aG L s 1) s) 2) (must (aG L s 1) s)):=Ok.tkIf fun h=>aH h
 have k3:=(k1.trans k2).rm
 obtain⟨its,s2,h1⟩:=Ca hk hf (s:=tkIf (aG L (must (aG L s 1) s) 2) (must (aG L s 1) s)) aa
 have h2:=(OkM.items hk _ _ _ h1).rm
 simp only[h1]
 have k4:Ok L s2 (must (aG L s2 3) s2):=Ok.must fun h=>aH h
 have k5:=(k4.trans (Ok.sourceM _)).rm
 obtain⟨frs,s4,h3⟩:=mM hk hf (L.length+1) [(sourceM L (must (aG L s2 3) s2)).1] (sourceM L (must (aG L s2 3) s2)).2 aa (vP _)
 have h4:=(OkM.sources hk _ _ _ _ _ h3).rm
 simp only[h3]
 obtain⟨wh,s5,h5⟩:=C8 hk hf (s:=s4) aa
 have h6:=(OkM.wher hk _ _ _ h5).rm
 simp only[h5]
 obtain⟨od,s6,h7⟩:=C9 hk hf (s:=s5) aa
 simp only[h7]
 exact⟨_,_,rfl⟩
end
theorem Cc:∀k,(∀lv,1<=lv->lv<=9->∀s,16*rm L s+10<=k+lv->Df ((pP L k).1 lv) s)/\(∀s,16*rm L s+11<=k->Df (pP L k).2 s)
 |0=>⟨fun lv _ h2 s h=>by omega,fun s h=>by omega⟩
 |k+1=>by
  obtain⟨i1,i2⟩:=Cc k
  obtain⟨o1,o2⟩:=tj (L:=L) k
  refine⟨fun lv h1 h2 s h=>?_,fun s h=>?_⟩
  ·exact C7 o1 o2 (R:=rm L s) (fun lv' a b s' hs=>i1 lv' a b s' aa) (fun s' hs=>i2 s' aa) (Nat.le_refl _) h2 (fun hn=>i1 _ aa aa s aa)
  ·exact Cb o1 (R:=rm L s) (fun s' hs=>i1 1 aa aa s' aa) (Nat.le_refl _)
def pD (L:List Tok):Nat:=16*L.length+16
def bD (L:List Tok):Nat->PM Expr:=(pP L (pD L)).1
def gU (L:List Tok):PM Query:=(pP L (pD L)).2
theorem nK (lv:Nat) (h1:1<=lv) (h2:lv<=9) (s:PS):Df (bD L lv) s:=(Cc (pD L)).1 lv h1 h2 s (by unfold pD rm;omega)
theorem AM (s:PS):Df (gU L) s:=(Cc (pD L)).2 s (by unfold pD rm;omega)
end
def pX (b:UInt8):Bool:=b==32||b==9||b==10||b==13
def cG (b:UInt8):Bool:=mr (b.toNat:Int)
def d8 (b:UInt8):Bool:=decide (48<=(b.toNat:Int)/\(b.toNat:Int)<=57)
section
variable (B:List UInt8)
def dF (at_:Nat):Nat:=at_+((B.drop at_).takeWhile fun b=>!(b==10)).length
def qU:Nat->Nat->Option Nat
 |0,_=>none
 |n+1,i=>if B[i]?=some 42/\B[i+1]?=some 47 then some i else if i<B.length then qU n (i+1) else none
def eW:Nat->Nat->Option (Nat×Bool)
 |0,_=>none
 |n+1,i=>match B[i]? with
  |none=>some (i,true)
  |some b=>if pX b=true then eW n (i+1)
   else if b=45/\B[i+1]?=some 45 then eW n (dF B i)
   else if b=47/\B[i+1]?=some 42 then (match qU B (B.length+1) (i+2) with
    |some e=>eW n (e+2)
    | none=>some (i,false))
   else some (i,true)
def bO (i:Nat):Nat:=i+((B.drop i).takeWhile fun b=>cG b||d8 b).length
def ei (q:UInt8):Nat->Nat->List UInt8->Option (List UInt8×Nat)
 |0,_,_=>none
 |n+1,i,l=>match B[i]? with
  |none=>none
  |some b=>if b=q then (if B[i+1]?=some q then ei q n (i+2) (l++[q]) else some (l,i+1)) else ei q n (i+1) (l++[b])
def d9 (i j:Nat):ByteArray:=⟨((B.drop i).take (j-i)).toArray⟩
def eH (i:Nat):Nat:=if i+2<=B.length/\dm (d9 B i (i+2))=true then i+2 else i+1
def dA (i:Nat) (b:UInt8):Option (Tok×Nat):=
 if cG b=true then
  let x:=d9 B i (bO B i)
  some (if key x=0 then ⟨2,x,i⟩ else ⟨1,d7 x,i⟩,bO B i)
 else if d8 b=true then some (⟨3,d9 B i (bO B i),i⟩,bO B i)
 else if b=34 then (ei B 34 (B.length+1) (i+1) []).map fun x=>(⟨2,⟨x.1.toArray⟩,i⟩,x.2)
 else if b=39 then (ei B 39 (B.length+1) (i+1) []).map fun x=>(⟨4,⟨x.1.toArray⟩,i⟩,x.2)
 else some (⟨5,d9 B i (eH B i),i⟩,eH B i)
def cm (i:Nat) (b:UInt8):Option (Tok×Nat):=match dA B i b with
 |some (t,e)=>if aM t=true then some (t,e) else none
 |none=>none
def pY:Nat->Nat->List Tok->Option (List Tok ⊕ Nat)
 |0,_,_=>none
 |n+1,i,l=>match eW B (B.length+1) i with
  |none=>none
  |some (p,ok)=>if ok=false then some (.inr p) else match B[p]? with
   |none=>some (.inl l)
   |some b=>match cm B p b with
    |none=>some (.inr p)
    |some (t,e)=>pY n e (l++[t])
end
theorem Gi {α:Type} (p:α->Bool) (l:List α):(l.takeWhile p).length<=l.length:=(List.takeWhile_sublist p).length_le
section
variable {B:List UInt8}
theorem qV (i:Nat):i<=dF B i:=Nat.le_add_right _ _
theorem vQ {i:Nat} (h:i<=B.length):dF B i<=B.length:=by
 have:=Gi (fun b=>!(b==10)) (B.drop i)
 rw[List.length_drop] at this
 unfold dF;omega
theorem vR (i:Nat):i<=bO B i:=Nat.le_add_right _ _
theorem vS {i:Nat} (h:i<=B.length):bO B i<=B.length:=by
 have:=Gi (fun b=>cG b||d8 b) (B.drop i)
 rw[List.length_drop] at this
 unfold bO;omega
theorem zt {α:Type} (p:α->Bool) (B:List α) (i:Nat):((B.drop i).takeWhile p).length=(match B[i]? with|some b=>if p b=true then ((B.drop (i+1)).takeWhile p).length+1 else 0|none=>0):=by
 cases h:B[i]? with
 |none=>
  rw[List.drop_eq_nil_of_le (List.getElem?_eq_none_iff.1 h)];rfl
 |some b=>
  obtain⟨hl,rfl⟩:=List.getElem?_eq_some_iff.1 h
  rw[List.drop_eq_getElem_cons hl,List.takeWhile_cons]
  split<;>simp_all
theorem iJ (i:Nat):dF B i=(match B[i]? with|some b=>if b=10 then i else dF B (i+1)|none=>i):=by
 unfold dF
 rw[zt]
 cases B[i]? with
 |none=>rfl
 |some b=>
  by_cases h:b=10
  ·simp [h]
  ·simp [h];omega
theorem ko (i:Nat):bO B i=(match B[i]? with|some b=>if (cG b||d8 b)=true then bO B (i+1) else i|none=>i):=by
 unfold bO
 rw[zt]
 cases B[i]? with
 |none=>rfl
 |some b=>
  by_cases h:(cG b||d8 b)=true
  ·simp only[h,if_true];omega
  ·simp only[h];rfl
theorem mN:∀ {n i e:Nat},qU B n i=some e->i<=e/\e+1<B.length
 |0,_,_,h=>by cases h
 |n+1,i,e,h=>by
  rw[qU] at h
  split at h
  ·rename_i hc
   injection h with h;subst h
   exact⟨Nat.le_refl _,(List.getElem?_eq_some_iff.1 hc.2).1⟩
  ·split at h
   ·have:=mN h;omega
   ·cases h
theorem gc:∀(n i:Nat),i<=B.length->B.length-i<n->∃p ok,eW B n i=some (p,ok)/\i<=p/\p<=B.length
 |0,_,_,h=>absurd h (Nat.not_lt_zero _)
 |n+1,i,hi,h=>by
  rw[eW]
  cases hb:B[i]? with
  |none=>exact⟨i,true,rfl,Nat.le_refl _,hi⟩
  |some b=>
   have hlt:i<B.length:=(List.getElem?_eq_some_iff.1 hb).1
   simp only
   split
   ·obtain⟨p,ok,h1,h2,h3⟩:=gc n (i+1) aa aa
    exact⟨p,ok,h1,aa,h3⟩
   split
   ·rename_i hc
    have h10:¬b=10:=by rw[hc.1];decide
    have e1:=iJ (B:=B) i
    rw[hb] at e1
    simp only[h10,if_false] at e1
    have g1:=qV (B:=B) (i+1)
    have g2:=vQ (B:=B) (i:=i+1) aa
    obtain⟨p,ok,h1,h2,h3⟩:=gc n (dF B i) aa aa
    exact⟨p,ok,h1,aa,h3⟩
   split
   ·rename_i hc
    cases he:qU B (B.length+1) (i+2) with
    |none=>exact⟨i,false,rfl,Nat.le_refl _,hi⟩
    |some e=>
     have:=mN he
     obtain⟨p,ok,h1,h2,h3⟩:=gc n (e+2) aa aa
     exact⟨p,ok,h1,aa,h3⟩
   ·exact⟨i,true,rfl,Nat.le_refl _,hi⟩
theorem fj {q:UInt8}:∀ {n i:Nat} {l:List UInt8} {x:List UInt8} {e:Nat},ei B q n i l=some (x,e)->i<e/\e<=B.length/\x.length+i<l.length+e
 |0,_,_,_,_,h=>by cases h
 |n+1,i,l,x,e,h=>by
  rw[ei] at h
  cases hb:B[i]? with
  |none=>rw[hb] at h;cases h
  |some b=>
   have hlt:i<B.length:=(List.getElem?_eq_some_iff.1 hb).1
   rw[hb] at h
   simp only at h
   split at h
   ·split at h
    ·have:=fj h
     simp only[aB,List.length_cons,List.length_nil] at this;omega
    ·injection h with h;injection h with h1 h2;subst h1;omega
   ·have:=fj h
    simp only[aB,List.length_cons,List.length_nil] at this;omega
theorem AN {i:Nat} (h:i<B.length):i<eH B i/\eH B i<=B.length:=by
 unfold eH
 split<;>omega
theorem xY {i e:Nat} {b:UInt8} {t:Tok} (hb:B[i]?=some b) (h:dA B i b=some (t,e)):i<e/\e<=B.length:=by
 have hlt:i<B.length:=(List.getElem?_eq_some_iff.1 hb).1
 unfold dA at h
 simp only at h
 have run:cG b=true∨d8 b=true->i<bO B i/\bO B i<=B.length:=fun hc=>by
  have e1:=ko (B:=B) i
  have h1:(cG b||d8 b)=true:=by rcases hc with h|h<;>simp [h]
  rw[hb] at e1
  simp only[h1,if_true] at e1
  have:=vR (B:=B) (i+1)
  exact⟨aa,vS aa⟩
 split at h
 ·rename_i hc
  injection h with h;injection h with _ h;subst h
  exact run (.inl hc)
 split at h
 ·rename_i hc
  injection h with h;injection h with _ h;subst h
  exact run (.inr hc)
 split at h
 ·rw[Option.map_eq_some_iff] at h
  obtain⟨⟨x,y⟩,h1,h2⟩:=h
  injection h2 with _ h2;subst h2
  have:=fj h1;omega
 split at h
 ·rw[Option.map_eq_some_iff] at h
  obtain⟨⟨x,y⟩,h1,h2⟩:=h
  injection h2 with _ h2;subst h2
  have:=fj h1;omega
 ·injection h with h;injection h with _ h;subst h
  exact AN hlt
theorem mO {i e:Nat} {b:UInt8} {t:Tok} (hb:B[i]?=some b) (h:cm B i b=some (t,e)):i<e/\e<=B.length/\aM t=true:=by
 unfold cm at h
 split at h
 ·rename_i t' e' hr
  split at h
  ·rename_i ho
   injection h with h;injection h with h1 h2;subst h1 h2
   have:=xY hb hr
   exact⟨this.1,this.2,ho⟩
  ·cases h
 ·cases h
theorem uj:∀(n i:Nat) (l:List Tok),i<=B.length->B.length-i<n->∃r,pY B n i l=some r
 |0,_,_,_,h=>absurd h (Nat.not_lt_zero _)
 |n+1,i,l,hi,h=>by
  rw[pY]
  obtain⟨p,ok,h1,h2,h3⟩:=gc (B:=B) (B.length+1) i hi aa
  rw[h1]
  simp only
  split
  ·exact⟨_,rfl⟩
  cases hb:B[p]? with
  |none=>exact⟨_,rfl⟩
  |some b=>
   simp only
   cases ho:cm B p b with
   |none=>exact⟨_,rfl⟩
   |some x=>
    obtain⟨t,e⟩:=x
    have:=mO hb ho
    exact uj n e _ aa aa
theorem tl:∀ {n i:Nat} {l m:List Tok},i<=B.length->pY B n i l=some (.inl m)->(∀t∈l,aM t=true)->(∀t∈m,aM t=true)/\m.length<=l.length+(B.length-i)
 |0,_,_,_,_,h,_=>by cases h
 |n+1,i,l,m,hi,h,hl=>by
  rw[pY] at h
  obtain⟨p,ok,h1,h2,h3⟩:=gc (B:=B) (B.length+1) i hi aa
  rw[h1] at h
  simp only at h
  split at h
  ·cases h
  cases hb:B[p]? with
  |none=>rw[hb] at h;injection h with h;injection h with h;subst h;exact⟨hl,aa⟩
  |some b=>
   rw[hb] at h
   simp only at h
   cases ho:cm B p b with
   |none=>rw[ho] at h;cases h
   |some x=>
    obtain⟨t,e⟩:=x
    rw[ho] at h
    have:=mO hb ho
    obtain⟨k1,k2⟩:=tl aa h (fun t' ht'=>by
     rcases List.mem_append.1 ht' with h|h
     ·exact hl t' h
     ·rw[List.mem_singleton.1 h];exact this.2.2)
    refine⟨k1,?_⟩
    simp only[aB,List.length_cons,List.length_nil] at k2
    omega
end
def lx (s:ByteArray):List Tok ⊕ Nat:=if 2000<s.size then .inr 2000 else (pY s.data.toList (s.data.toList.length+1) 0 []).getD (.inr 0)
def uk:Query:=.mk false [] [] [] [] 0
def Cd:Stmt:=.mk 0 uk z0 [] [] [] []
section
variable (L:List Tok)
def pZ (s:PS):Int:=if s.b=false/\L.length<=s.a then -1 else s.a
def s0:PS:=⟨0,false⟩
def ly {α:Type} (z:α):Option (α×PS)->α×Int
 |none=>(z,0)
 |some (x,s)=>if 0<=pZ L s then (z,pZ L s) else (x,-1)
def cX:Expr×Int:=ly L zExpr (bD L 1 s0)
end
section
variable {L:List Tok} {f:Nat->PM Expr} {q:PM Query}
theorem nL (lv:Nat):OkM (L:=L) (bD L lv):=(tj (pD L)).1 lv
section
variable (hk:∀lv,OkM (L:=L) (f lv)) (hf:∀s,Df (f 1) s)
include hk hf
end
end
section
variable {L:List Tok}
def LeM {α:Type} (m m':PM α):Prop:=∀s r,m s=some r->m' s=some r
theorem LeM.chain {g g':PM Expr} (hg:LeM g g') (lv:Nat):∀(n:Nat) (e:Expr),LeM (cx L g lv n e) (cx L g' lv n e)
 |0,_,_,_,h=>by cases h
 |n+1,e,s,r,h=>by
  rw[cx] at h ⊢
  split at h
  ·rename_i hc;rw[if_pos hc];exact h
  ·rename_i hc
   rw[if_neg hc]
   split at h
   ·cases h
   ·rename_i y s1 h1
    rw[hg _ _ h1]
    exact LeM.chain hg lv n _ _ _ h
theorem qW {g:PM Expr} {lv:Nat}:∀ {n n':Nat} {e:Expr},n<=n'->LeM (cx L g lv n e) (cx L g lv n' e)
 |0,_,_,_,_,_,h=>by cases h
 |n+1,0,_,hn,_,_,_=>absurd hn aa
 |n+1,n'+1,e,hn,s,r,h=>by
  rw[cx] at h ⊢
  split at h
  ·rename_i hc;rw[if_pos hc];exact h
  ·rename_i hc
   rw[if_neg hc]
   split at h
   ·cases h
   ·rename_i y s1 h1
    exact qW aa _ _ h
theorem LeM.sep {α:Type} {g g':PM α} (hg:LeM g g'):∀(n:Nat) (l:List α),LeM (iI L g n l) (iI L g' n l)
 |0,_,_,_,h=>by cases h
 |n+1,l,s,r,h=>by
  rw[iI] at h ⊢
  split at h
  ·rename_i hc
   rw[if_pos hc]
   split at h
   ·cases h
   ·rename_i y s1 h1
    rw[hg _ _ h1]
    exact LeM.sep hg n _ _ _ h
  ·rename_i hc;rw[if_neg hc];exact h
variable {f f':Nat->PM Expr} {q q':PM Query} (hf:∀lv,LeM (f lv) (f' lv)) (hq:LeM q q')
include hf
theorem LeM.ors:LeM (nJ L f) (nJ L f'):=fun s r h=>by
 unfold nJ at h ⊢
 split at h
 ·cases h
 ·rename_i y s1 h1
  rw[hf 1 _ _ h1]
  exact LeM.sep (hf 1) _ _ _ _ h
include hq in
theorem LeM.inn (e:Expr) (n:Bool):LeM (xX L f q e n) (xX L f' q' e n):=fun s r h=>by
 unfold xX at h ⊢
 simp only at h ⊢
 split at h
 ·rename_i hc
  rw[if_pos hc]
  split at h
  ·cases h
  ·rename_i y s1 h1
   rw[hq _ _ h1];exact h
 ·rename_i hc
  rw[if_neg hc]
  split at h
  ·cases h
  ·rename_i y s1 h1
   rw[LeM.ors hf _ _ h1];exact h
include hq in
theorem LeM.cmpT (e:Expr):LeM (cmpT L f q e) (cmpT L f' q' e):=fun s r h=>by
 unfold Go.Proofs.YtdmomaomffhidaaGreatDoor.cmpT at h ⊢
 simp only at h ⊢
 split at h
 ·rename_i hc;rw[if_pos hc];exact h
 ·rename_i hc
  rw[if_neg hc]
  split at h
  ·rename_i hd
   rw[if_pos hd]
   split at h
   ·cases h
   ·rename_i y s1 h1
    rw[hf 5 _ _ h1]
    simp only
    split at h
    ·cases h
    ·rename_i z s2 h2
     rw[hf 5 _ _ h2];exact h
  ·rename_i hd
   rw[if_neg hd]
   split at h
   ·rename_i he;rw[if_pos he];exact LeM.inn hf hq _ _ _ _ h
   ·rename_i he;rw[if_neg he];exact h
include hq in
theorem LeM.cmp:LeM (mK L f q) (mK L f' q'):=fun s r h=>by
 unfold mK at h ⊢
 split at h
 ·cases h
 ·rename_i y s1 h1
  rw[hf 5 _ _ h1]
  simp only
  split at h
  ·rename_i hc;rw[if_pos hc];exact LeM.cmpT hf hq _ _ _ h
  ·rename_i hc
   rw[if_neg hc]
   split at h
   ·cases h
   ·rename_i z s2 h2
    rw[hf 5 _ _ h2];exact h
include hq in
theorem LeM.prim:LeM (eG L f q) (eG L f' q'):=fun s r h=>by
 unfold eG at h ⊢
 simp only at h ⊢
 split at h
 ·rename_i hc;rw[if_pos hc];exact h
 rename_i c1
 rw[if_neg c1]
 split at h
 ·rename_i hc;rw[if_pos hc];exact h
 rename_i c2
 rw[if_neg c2]
 split at h
 ·rename_i hc;rw[if_pos hc];exact h
 rename_i c3
 rw[if_neg c3]
 split at h
 ·rename_i hc;rw[if_pos hc];exact h
 rename_i c4
 rw[if_neg c4]
 split at h
 ·rename_i hc;rw[if_pos hc];exact h
 rename_i c5
 rw[if_neg c5]
 split at h
 ·rename_i hc;rw[if_pos hc];exact h
 rename_i c6
 rw[if_neg c6]
 split at h
 ·rename_i hc
  rw[if_pos hc]
  split at h
  ·cases h
  ·rename_i y s1 h1
   rw[hf 1 _ _ h1];exact h
 rename_i c7
 rw[if_neg c7]
 split at h
 ·rename_i hc
  rw[if_pos hc]
  split at h
  ·cases h
  ·rename_i y s1 h1
   rw[hq _ _ h1];exact h
 ·rename_i hc;rw[if_neg hc];exact h
include hq in
theorem LeM.stepE (lv:Nat):LeM (stepE L f q lv) (stepE L f' q' lv):=fun s r h=>by
 unfold Go.Proofs.YtdmomaomffhidaaGreatDoor.stepE at h ⊢
 split at h
 ·rename_i hc
  rw[if_pos hc]
  split at h
  ·rename_i hd
   rw[if_pos hd]
   split at h
   ·cases h
   ·rename_i y s1 h1
    rw[hf 3 _ _ h1];exact h
  ·rename_i hd;rw[if_neg hd];exact hf 4 _ _ h
 rename_i c1
 rw[if_neg c1]
 split at h
 ·rename_i hc;rw[if_pos hc];exact LeM.cmp hf hq _ _ h
 rename_i c2
 rw[if_neg c2]
 split at h
 ·rename_i hc
  rw[if_pos hc]
  split at h
  ·rename_i hd
   rw[if_pos hd]
   split at h
   ·cases h
   ·rename_i y s1 h1
    rw[hf 8 _ _ h1];exact h
  ·rename_i hd;rw[if_neg hd];exact hf 9 _ _ h
 rename_i c3
 rw[if_neg c3]
 split at h
 ·rename_i hc;rw[if_pos hc];exact LeM.prim hf hq _ _ h
 ·rename_i hc
  rw[if_neg hc]
  split at h
  ·cases h
  ·rename_i y s1 h1
   rw[hf _ _ _ h1]
   exact LeM.chain (hf _) _ _ _ _ _ h
theorem LeM.item:LeM (f9 L f) (f9 L f'):=fun s r h=>by
 unfold f9 at h ⊢
 split at h
 ·rename_i hc;rw[if_pos hc];exact h
 rename_i c1
 rw[if_neg c1]
 split at h
 ·rename_i hc;rw[if_pos hc];exact h
 rename_i c2
 rw[if_neg c2]
 split at h
 ·cases h
 ·rename_i y s1 h1
  rw[hf 1 _ _ h1];exact h
theorem LeM.sources:∀(n:Nat) (l:List Source),LeM (cy L f n l) (cy L f' n l)
 |0,_,_,_,h=>by cases h
 |n+1,l,s,r,h=>by
  rw[cy] at h ⊢
  split at h
  ·rename_i hc;rw[if_pos hc];exact LeM.sources n _ _ _ h
  rename_i c1
  rw[if_neg c1]
  simp only at h ⊢
  split at h
  ·rename_i hc
   rw[if_pos hc]
   split at h
   ·cases h
   ·rename_i y s1 h1
    rw[hf 1 _ _ h1]
    exact LeM.sources n _ _ _ h
  ·rename_i hc;rw[if_neg hc];exact h
theorem LeM.wher:LeM (fD L f) (fD L f'):=fun s r h=>by
 unfold fD at h ⊢
 split at h
 ·rename_i hc
  rw[if_pos hc]
  split at h
  ·cases h
  ·rename_i y s1 h1
   rw[hf 1 _ _ h1];exact h
 ·rename_i hc;rw[if_neg hc];exact h
theorem LeM.sort:LeM (fE L f) (fE L f'):=fun s r h=>by
 unfold fE at h ⊢
 split at h
 ·cases h
 ·rename_i y s1 h1
  rw[hf 1 _ _ h1];exact h
theorem LeM.order:LeM (fF L f) (fF L f'):=fun s r h=>by
 unfold fF at h ⊢
 simp only at h ⊢
 split at h
 ·rename_i hc
  rw[if_pos hc]
  split at h
  ·cases h
  ·rename_i y s1 h1
   rw[LeM.sort hf _ _ h1]
   exact LeM.sep (LeM.sort hf) _ _ _ _ h
 ·rename_i hc;rw[if_neg hc];exact h
theorem LeM.items:LeM (ga L f) (ga L f'):=fun s r h=>by
 unfold ga at h ⊢
 split at h
 ·cases h
 ·rename_i y s1 h1
  rw[LeM.item hf _ _ h1]
  exact LeM.sep (LeM.item hf) _ _ _ _ h
theorem LeM.stepQ:LeM (stepQ L f) (stepQ L f'):=fun s r h=>by
 unfold Go.Proofs.YtdmomaomffhidaaGreatDoor.stepQ at h ⊢
 simp only at h ⊢
 split at h
 ·cases h
 rename_i its s2 h1
 rw[LeM.items hf _ _ h1]
 simp only
 split at h
 ·cases h
 rename_i frs s4 h2
 rw[LeM.sources hf _ _ _ _ h2]
 simp only
 split at h
 ·cases h
 rename_i wh s5 h3
 rw[LeM.wher hf _ _ h3]
 simp only
 split at h
 ·cases h
 rename_i od s6 h4
 rw[LeM.order hf _ _ h4]
 exact h
omit hf
theorem nM:∀k,(∀lv,LeM ((pP L k).1 lv) ((pP L (k+1)).1 lv))/\LeM (pP L k).2 (pP L (k+1)).2
 |0=>⟨fun _ _ _ h=>(by cases h),fun _ _ h=>(by cases h)⟩
 |k+1=>⟨fun lv=>LeM.stepE (nM k).1 (nM k).2 lv,LeM.stepQ (nM k).1⟩
theorem Gj {α:Type} {m m':PM α} (h:LeM m m') (s:PS) (hd:Df m s):m' s=m s:=by
 obtain⟨x,s1,h1⟩:=hd
 rw[h1,h _ _ h1]
theorem lz (lv:Nat) (h1:1<=lv) (h2:lv<=9) (s:PS):bD L lv s=stepE L (bD L) (gU L) lv s:=by
 have:=Gj ((nM (L:=L) (pD L)).1 lv) s (nK lv h1 h2 s)
 exact this.symm
theorem AO (s:PS):gU L s=stepQ L (bD L) s:=by
 have:=Gj (nM (L:=L) (pD L)).2 s (AM s)
 exact this.symm
theorem AP {lv lv' n:Nat} {e:Expr} {s:PS} (h1:1<=lv) (h2:lv<=9) (hn:rm L s<n) (hn':n<=L.length+1):cx L (bD L lv) lv' n e s=cx L (bD L lv) lv' (L.length+1) e s:=by
 obtain⟨x,s1,h⟩:=qT (R:=L.length) (lv:=lv') (nL (L:=L) lv) (fun s _=>nK lv h1 h2 s) n e s (by show L.length-s.a<=_;omega) hn
 rw[h,qW hn' _ _ h]
end
end Go.Proofs.YtdmomaomffhidaaGreatDoor
