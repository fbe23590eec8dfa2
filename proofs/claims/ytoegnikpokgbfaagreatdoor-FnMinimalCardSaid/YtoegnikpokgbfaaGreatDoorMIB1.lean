/-
  The parser's model.
  Conditions: none.
-/
import Derived.Test.YtoegnikpokgbfaaGreatDoorMIA
set_option linter.unusedVariables false
set_option linter.unusedSimpArgs false
set_option linter.unusedSectionVars false
set_option linter.unnecessarySimpa false
set_option maxRecDepth 8000
namespace Go.Proofs.YtoegnikpokgbfaaGreatDoor
open Go Go.Dv
open Go.Vc (D cF cG cv aX)
def Item.star:Item->Bool | .mk s _ _ _=>s
def Item.e:Item->Expr | .mk _ _ e _=>e
def Source.on:Source->List Expr | .mk _ _ o=>o
def SortKey.e:SortKey->Expr | .mk e _=>e
def aU (l:List Item):List Expr:=(l.filter fun x=>!x.star).map Item.e
def exprsQ:Query->List Expr | .mk _ items from_ where_ order _=>aU items++from_.flatMap Source.on++where_++order.map SortKey.e
theorem ny {l:List Item} {i:Nat} (h:i<l.length):aU (l.take (i+1))=aU (l.take i)++if l[i].star=true then [] else [l[i].e]:=by
 unfold aU
 rw[List.take_succ_eq_append_getElem h,List.filter_append,List.map_append]
 congr 1
 simp only[List.filter_cons,List.filter_nil]
 cases l[i].star<;>rfl
theorem wH {l:List Source} {i:Nat} (h:i<l.length):(l.take (i+1)).flatMap Source.on=(l.take i).flatMap Source.on++l[i].on:=by
 rw[List.take_succ_eq_append_getElem h,List.flatMap_append];simp
theorem sU {l:List SortKey} {i:Nat} (h:i<l.length):(l.take (i+1)).map SortKey.e=(l.take i).map SortKey.e++[l[i].e]:=by
 rw[List.take_succ_eq_append_getElem h,List.map_append];rfl
theorem dz (l:List Item):(aU l).length<=l.length:=by
 unfold aU
 rw[List.length_map];exact List.length_filter_le _ _
theorem zB:∀l:List Source,(l.flatMap Source.on).length+l.length<=cO l
 | []=>by simp [cO]
 |.mk t a o::r=>by
  have:=zB r
  rw[cO,dw,List.flatMap_cons,aA,List.length_cons,aL]
  show o.length+_+_<=_
  omega
theorem nA (l:List Source) (i:Nat):((l.take i).flatMap Source.on).length<=(l.flatMap Source.on).length:=by
 conv=>rhs;rw[<-List.take_append_drop i l]
 rw[List.flatMap_append,aA];omega
theorem eT {α:Type} (g:α->Nat) {l:List α} {x:α} (h:x∈l):g x<=(l.map g).sum:=by
 induction l with
 |nil=>cases h
 |cons y r ih=>
  rw[List.map_cons,List.sum_cons]
  rcases List.mem_cons.1 h with rfl|h
  ·omega
  ·have:=ih h;omega
theorem qL {q:Query} {x:Expr} (h:x∈exprsQ q):szExpr x<=szQuery q:=by
 obtain⟨d,it,fr,wh,or,li⟩:=q
 rw[dy,ei,dF,aL,cU]
 simp only[exprsQ,List.mem_append] at h
 rcases h with ((h|h)|h)|h
 ·simp only[aU,List.mem_map,List.mem_filter] at h
  obtain⟨⟨s,q,e,a⟩,⟨hm,_⟩,rfl⟩:=h
  have:=eT lu hm
  rw[kG] at this
  show szExpr e<=_
  omega
 ·simp only[List.mem_flatMap] at h
  obtain⟨⟨t,a,o⟩,hm,hx⟩:=h
  have:=eT dY hm
  have h2:=eT szExpr (show x∈o from hx)
  rw[dw,aL] at this
  omega
 ·have:=eT szExpr h;omega
 ·simp only[List.mem_map] at h
  obtain⟨⟨e,d⟩,hm,rfl⟩:=h
  have:=eT gj hm
  rw[j6] at this
  show szExpr e<=_
  omega
theorem yb {q:Query} {x:Expr} (h:x∈exprsQ q):SizeOf.sizeOf x<SizeOf.sizeOf q:=by
 obtain⟨d,it,fr,wh,or,li⟩:=q
 rw[Query.mk.sizeOf_spec]
 simp only[exprsQ,List.mem_append] at h
 rcases h with ((h|h)|h)|h
 ·simp only[aU,List.mem_map,List.mem_filter] at h
  obtain⟨⟨s,q,e,a⟩,⟨hm,_⟩,rfl⟩:=h
  have:=List.sizeOf_lt_of_mem hm
  rw[Item.mk.sizeOf_spec] at this
  show SizeOf.sizeOf e < _
  omega
 ·simp only[List.mem_flatMap] at h
  obtain⟨⟨t,a,o⟩,hm,hx⟩:=h
  have:=List.sizeOf_lt_of_mem hm
  have h2:=List.sizeOf_lt_of_mem (show x∈o from hx)
  rw[Source.mk.sizeOf_spec] at this
  omega
 ·have:=List.sizeOf_lt_of_mem h;omega
 ·simp only[List.mem_map] at h
  obtain⟨⟨e,d⟩,hm,rfl⟩:=h
  have:=List.sizeOf_lt_of_mem hm
  rw[SortKey.mk.sizeOf_spec] at this
  show SizeOf.sizeOf e < _
  omega
theorem ej (q:Query):(exprsQ q).length<=szQuery q:=by
 obtain⟨d,it,fr,wh,or,li⟩:=q
 have h1:=dz it
 have h2:=zB fr
 rw[dy,ei,aL,cU]
 simp only[exprsQ,aA,List.length_map]
 omega
def dZ (x e:Expr):Prop:=x∈e.kids∨∃q∈e.sub,x∈exprsQ q
theorem jK {x e:Expr} (h:dZ x e):SizeOf.sizeOf x<SizeOf.sizeOf e:=by
 obtain⟨k,o,n,v,q,m,ks,ss⟩:=e
 rw[Expr.mk.sizeOf_spec]
 rcases h with h|⟨y,hy,h⟩
 ·have:=List.sizeOf_lt_of_mem (show x∈ks from h);omega
 ·have:=List.sizeOf_lt_of_mem (show y∈ss from hy)
  have:=yb h
  omega
theorem gx {x e:Expr} (h:dZ x e):szExpr x<=szExpr e:=by
 obtain⟨k,o,n,v,q,m,ks,ss⟩:=e
 rw[aZ,aL,bI]
 rcases h with h|⟨y,hy,h⟩
 ·have:=eT szExpr (show x∈ks from h);omega
 ·have:=eT szQuery (show y∈ss from hy)
  have:=qL h
  omega
theorem lx {q:Query} {e:Expr} (h:q∈e.sub):szQuery q<=szExpr e:=by
 obtain⟨k,o,n,v,q',m,ks,ss⟩:=e
 rw[aZ,aL,bI]
 have:=eT szQuery (show q∈ss from h);omega
noncomputable def d7 {α:Type} [Inhabited α] (F:(Expr->α)->Expr->α) (e:Expr):α:=F (fun x=>if h:SizeOf.sizeOf x<SizeOf.sizeOf e then d7 F x else default) e
termination_by SizeOf.sizeOf e
theorem gk {α:Type} [Inhabited α] {F:(Expr->α)->Expr->α} {P:Expr->α->Prop} (h:∀e g,(∀x,dZ x e->P x (g x))->P e (F g e)) (e:Expr):P e (d7 F e):=by
 suffices H:∀n:Nat,∀e:Expr,SizeOf.sizeOf e<n->P e (d7 F e) from H _ e (Nat.lt_succ_self _)
 intro n
 induction n with
 |zero=>exact fun _ h=>absurd h (Nat.not_lt_zero _)
 |succ n ih=>
  intro e he
  rw[d7]
  refine h e _ fun x hx=>?_
  have:=jK hx
  simp only[dif_pos this]
  exact ih x aa
structure PS where
 a:Nat
 b:Bool
abbrev PM (α:Type):=PS->Option (α×PS)
section
variable (L:List Tok)
def j9 (s:PS) (k:Nat):Option Tok:=if s.b=true then none else L[s.a+k]?
def jL (s:PS) (k:Nat) (kind:Int) (text:ByteArray):Bool:=match j9 L s k with
 |some t=>decide (t.kind=kind)&&decide (t.text=text)
 |none=>false
def kH (s:PS) (kind:Int):Bool:=match j9 L s 0 with
 |some t=>decide (t.kind=kind)&&eN t
 |none=>false
def bM (s:PS):ByteArray:=match j9 L s 0 with
 |some t=>t.text
 |none=>⟨#[]⟩
def adv (s:PS):PS:=⟨s.a+1,s.b⟩
def fl (s:PS):PS:=⟨s.a,true⟩
def tkIf (c:Bool) (s:PS):PS:=if c=true then adv s else s
def must (c:Bool) (s:PS):PS:=if c=true then adv s else fl s
def az (s:PS) (k:Nat):Bool:=jL L s 0 1 (kw k)
def cu (s:PS) (c:UInt8):Bool:=jL L s 0 5 ⟨#[c]⟩
def mText (kind:Int) (s:PS):ByteArray×PS:=if kH L s kind=true then (bM L s,adv s) else (⟨#[]⟩,fl s)
def mNum (s:PS):Int×PS:=(j8 (mText L 3 s).1,(mText L 3 s).2)
def eU (lv:Nat):List Nat:=if lv=1 then [1] else if lv=2 then [2] else if lv=4 then [3,4,5,6,7,8] else if lv=5 then [9] else if lv=6 then [10,11] else if lv=7 then [12,13,14] else []
def jM (s:PS) (op:Nat):Bool:=jL L s 0 (if op=1∨op=2 then 1 else 5) (iC op)
def gR (s:PS):List Nat->Nat
 | []=>0
 |op::r=>if jM L s op=true then op else gR s r
def d5 (s:PS) (lv:Nat):Nat:=gR L s (eU lv)
end
def z0:ByteArray:=⟨#[]⟩
def zVal:Val:=⟨0,0,⟨#[]⟩⟩
def zExpr:Expr:=.mk 0 0 false zVal z0 z0 [] []
def il (op:Nat) (a b:Expr):Expr:=.mk 4 op false zVal z0 z0 [a,b] []
def nB (op:Int) (e:Expr):Expr:=.mk 3 op false zVal z0 z0 [e] []
def cH (kind:Int) (not:Bool) (kids:List Expr) (sub:List Query):Expr:=.mk kind 0 not zVal z0 z0 kids sub
def eE (v:Val):Expr:=.mk 1 0 false v z0 z0 [] []
def qp (qual name:ByteArray):Expr:=.mk 2 0 false zVal qual name [] []
section
variable (L:List Tok)
def cg (f:PM Expr) (lv:Nat):Nat->Expr->PM Expr
 |0,_,_=>none
 |n+1,e,s=>if d5 L s lv=0 then some (e,s) else match f (adv s) with
  |none=>none
  |some (x,s1)=>cg f lv n (il (d5 L s lv) e x) s1
def gy {α:Type} (f:PM α):Nat->List α->PM (List α)
 |0,_,_=>none
 | n+1,l,s=>if cu L s 44=true then (match f (adv s) with
  |none=>none
  | some (x,s1)=>gy f n (l++[x]) s1) else some (l,s)
def lX (f:Nat->PM Expr):PM (List Expr):=fun s=>match f 1 s with
 |none=>none
 |some (e,s1)=>gy L (f 1) (L.length+1) [e] s1
def v7 (f:Nat->PM Expr) (q:PM Query) (e:Expr) (not:Bool):PM Expr:=fun s=>
 let s1:=must (cu L s 40) s
 if az L s1 1=true then (match q s1 with
  |none=>none
  | some (x,s2)=>some (cH 8 not [e] [x],must (cu L s2 41) s2))
 else match lX L f s1 with
  |none=>none
  |some (l,s2)=>some (cH 7 not (e::l) [],must (cu L s2 41) s2)
def cmpT (f:Nat->PM Expr) (q:PM Query) (e:Expr):PM Expr:=fun s=>
 if az L s 16=true then
  let s1:=adv s
  let n:=az L s1 15
  let s2:=tkIf n s1
  some (cH 5 n [e] [],must (az L s2 20) s2)
 else
  let n:=az L s 15
  let s1:=tkIf n s
  if az L s1 18=true then (match f 5 (adv s1) with
   |none=>none
   |some (lo,s2)=>match f 5 (must (az L s2 13) s2) with
    |none=>none
    | some (hi,s3)=>some (cH 6 n [e,lo,hi] [],s3))
  else if az L s1 17=true then v7 L f q e n (adv s1)
  else some (e,⟨s1.a,s1.b||n⟩)
def ly (f:Nat->PM Expr) (q:PM Query):PM Expr:=fun s=>match f 5 s with
 |none=>none
 |some (e,s1)=>if d5 L s1 4=0 then cmpT L f q e s1 else match f 5 (adv s1) with
  |none=>none
  |some (x,s2)=>some (il (d5 L s1 4) e x,s2)
def dA (f:Nat->PM Expr) (q:PM Query):PM Expr:=fun s=>
 if kH L s 3=true then some (eE ⟨1,j8 (bM L s),z0⟩,adv s)
 else if kH L s 4=true then some (eE ⟨2,0,bM L s⟩,adv s)
 else if az L s 20=true then some (eE zVal,adv s)
 else if az L s 21=true then some (eE ⟨3,1,z0⟩,adv s)
 else if az L s 22=true then some (eE ⟨3,0,z0⟩,adv s)
 else if kH L s 2=true then
  let s1:=adv s
  if cu L s1 46=true then some (qp (bM L s) (mText L 2 (adv s1)).1,(mText L 2 (adv s1)).2)
  else some (qp z0 (bM L s),s1)
 else if cu L s 40=true then (match f 1 (adv s) with
  |none=>none
  | some (e,s1)=>some (e,must (cu L s1 41) s1))
 else if az L s 19=true then
  let s1:=must (cu L (adv s) 40) (adv s)
  (match q s1 with
  |none=>none
  | some (x,s2)=>some (cH 9 false [] [x],must (cu L s2 41) s2))
 else some (zExpr,fl s)
def stepE (f:Nat->PM Expr) (q:PM Query) (lv:Nat):PM Expr:=fun s=>
 if lv=3 then (if az L s 15=true then (match f 3 (adv s) with
  |none=>none
  | some (e,s1)=>some (nB 15 e,s1)) else f 4 s)
 else if lv=4 then ly L f q s
 else if lv=8 then (if cu L s 45=true then (match f 8 (adv s) with
  |none=>none
  | some (e,s1)=>some (nB 16 e,s1)) else f 9 s)
 else if lv=9 then dA L f q s
 else match f (lv+1) s with
  |none=>none
  |some (e,s1)=>cg L (f (lv+1)) lv (L.length+1) e s1
def asM:PS->ByteArray×PS:=fun s=>if az L s 12=true then mText L 2 (adv s) else (z0,s)
def ez (s:PS):Bool:=kH L s 2&&(jL L s 1 5 ⟨#[46]⟩&&jL L s 2 5 ⟨#[42]⟩)
def eb (f:Nat->PM Expr):PM Item:=fun s=>
 if cu L s 42=true then some (.mk true z0 zExpr z0,adv s)
 else if ez L s=true then some (.mk true (bM L s) zExpr z0,adv (adv (adv s)))
 else match f 1 s with
  |none=>none
  |some (e,s1)=>some (.mk false z0 e (asM L s1).1,(asM L s1).2)
def sourceM (s:PS):Source×PS:=(.mk (mText L 2 s).1 (asM L (mText L 2 s).2).1 [],(asM L (mText L 2 s).2).2)
def Source.withOn:Source->List Expr->Source | .mk t a _,on=>.mk t a on
def cj (f:Nat->PM Expr):Nat->List Source->PM (List Source)
 |0,_,_=>none
 |n+1,l,s=>
  if cu L s 44=true then cj f n (l++[(sourceM L (adv s)).1]) (sourceM L (adv s)).2
  else if az L s 4=true then
   let s2:=(sourceM L (adv s)).2
   (match f 1 (must (az L s2 5) s2) with
   |none=>none
   | some (e,s3)=>cj f n (l++[(sourceM L (adv s)).1.withOn [e]]) s3)
  else some (l,s)
def eF (f:Nat->PM Expr):PM (List Expr):=fun s=>if az L s 6=true then (match f 1 (adv s) with
 |none=>none
 | some (e,s1)=>some ([e],s1)) else some ([],s)
def eG (f:Nat->PM Expr):PM SortKey:=fun s=>match f 1 s with
 |none=>none
 |some (e,s1)=>if az L s1 9=true then some (.mk e false,adv s1) else some (.mk e (az L s1 10),tkIf (az L s1 10) s1)
def eH (f:Nat->PM Expr):PM (List SortKey):=fun s=>if az L s 7=true then
 let s1:=must (az L (adv s) 8) (adv s)
 (match eG L f s1 with
 |none=>none
 | some (x,s2)=>gy L (eG L f) (L.length+1) [x] s2) else some ([],s)
def limitM (s:PS):Int×PS:=if az L s 11=true then mNum L (adv s) else (-1,s)
def eV (f:Nat->PM Expr):PM (List Item):=fun s=>match eb L f s with
 |none=>none
 |some (x,s1)=>gy L (eb L f) (L.length+1) [x] s1
def stepQ (f:Nat->PM Expr):PM Query:=fun s=>
 let s1:=must (az L s 1) s
 let d:=az L s1 2
 match eV L f (tkIf d s1) with
 |none=>none
 |some (its,s2)=>
  let s3:=must (az L s2 3) s2
  match cj L f (L.length+1) [(sourceM L s3).1] (sourceM L s3).2 with
  |none=>none
  |some (frs,s4)=>match eF L f s4 with
   |none=>none
   |some (wh,s5)=>match eH L f s5 with
    |none=>none
    |some (ord,s6)=>some (.mk d its frs wh ord (limitM L s6).1,(limitM L s6).2)
def pP:Nat->(Nat->PM Expr)×PM Query
 |0=>(fun _ _=>none,fun _=>none)
 |k+1=>(stepE L (pP k).1 (pP k).2,stepQ L (pP k).1)
end
section
variable (L:List Tok)
def Ok (s s':PS):Prop:=s.a<=s'.a/\(s.a<=L.length->s'.a<=L.length)/\(s.b=true->s'=s)
theorem Ok.refl (s:PS):Ok L s s:=⟨Nat.le_refl _,id,fun _=>rfl⟩
variable {L}
theorem Ok.trans {a b c:PS} (h:Ok L a b) (k:Ok L b c):Ok L a c:=⟨Nat.le_trans h.1 k.1,fun e=>k.2.1 (h.2.1 e),fun e=>by have:=h.2.2 e;subst this;exact k.2.2 e⟩
theorem wI {s:PS} {k:Nat} {t:Tok} (h:j9 L s k=some t):s.b=false/\s.a+k<L.length:=by
 unfold j9 at h
 split at h
 ·cases h
 ·rename_i hb
  exact⟨by simpa using hb,(List.getElem?_eq_some_iff.1 h).1⟩
theorem lz {s:PS} {k:Nat} {kind:Int} {x:ByteArray} (h:jL L s k kind x=true):s.b=false/\s.a+k<L.length:=by
 unfold jL at h
 split at h
 ·rename_i t ht;exact wI ht
 ·cases h
theorem jN {s:PS} {kind:Int} (h:kH L s kind=true):s.b=false/\s.a<L.length:=by
 unfold kH at h
 split at h
 ·rename_i t ht;exact wI ht
 ·cases h
theorem aB {s:PS} {k:Nat} (h:az L s k=true):s.b=false/\s.a<L.length:=lz h
theorem bh {s:PS} {c:UInt8} (h:cu L s c=true):s.b=false/\s.a<L.length:=lz h
theorem wJ {s:PS}:∀ {l:List Nat},gR L s l≠0->s.b=false/\s.a<L.length
 | [],h=>absurd rfl h
 |op::r,h=>by
  unfold gR at h
  split at h
  ·rename_i hh;exact lz hh
  ·exact wJ h
theorem gU {s:PS} {lv:Nat} (h:¬d5 L s lv=0):s.b=false/\s.a<L.length:=wJ h
theorem Ok.adv {s:PS} (h:s.b=false/\s.a<L.length):Ok L s (adv s):=⟨by simp [Go.Proofs.YtoegnikpokgbfaaGreatDoor.adv],fun _=>by simp [Go.Proofs.YtoegnikpokgbfaaGreatDoor.adv];omega,fun e=>by rw[h.1] at e;cases e⟩
theorem Ok.fl (s:PS):Ok L s (fl s):=⟨Nat.le_refl _,id,fun e=>by cases s;simp only at e;subst e;rfl⟩
theorem Ok.must {s:PS} {c:Bool} (h:c=true->s.b=false/\s.a<L.length):Ok L s (must c s):=by
 unfold Go.Proofs.YtoegnikpokgbfaaGreatDoor.must
 split
 ·rename_i hc;exact Ok.adv (h hc)
 ·exact Ok.fl s
theorem Ok.tkIf {s:PS} {c:Bool} (h:c=true->s.b=false/\s.a<L.length):Ok L s (tkIf c s):=by
 unfold Go.Proofs.YtoegnikpokgbfaaGreatDoor.tkIf
 split
 ·rename_i hc;exact Ok.adv (h hc)
 ·exact Ok.refl L s
theorem Ok.mText (kind:Int) (s:PS):Ok L s (mText L kind s).2:=by
 unfold Go.Proofs.YtoegnikpokgbfaaGreatDoor.mText
 split
 ·rename_i hc;exact Ok.adv (jN hc)
 ·exact Ok.fl s
theorem Ok.mNum (s:PS):Ok L s (mNum L s).2:=Ok.mText 3 s
theorem Ok.asM (s:PS):Ok L s (asM L s).2:=by
 unfold Go.Proofs.YtoegnikpokgbfaaGreatDoor.asM
 split
 ·rename_i hc;exact (Ok.adv (aB hc)).trans (Ok.mText 2 _)
 ·exact Ok.refl L s
theorem Ok.sourceM (s:PS):Ok L s (sourceM L s).2:=(Ok.mText 2 s).trans (Ok.asM _)
theorem Ok.limitM (s:PS):Ok L s (limitM L s).2:=by
 unfold Go.Proofs.YtoegnikpokgbfaaGreatDoor.limitM
 split
 ·rename_i hc;exact (Ok.adv (aB hc)).trans (Ok.mNum _)
 ·exact Ok.refl L s
def OkM {α:Type} (m:PM α):Prop:=∀s x s',m s=some (x,s')->Ok L s s'
variable {f:Nat->PM Expr} {q:PM Query}
theorem OkM.chain {g:PM Expr} (hg:OkM (L:=L) g) (lv:Nat):∀(n:Nat) (e:Expr),OkM (L:=L) (cg L g lv n e)
 |0,_,_,_,_,h=>by cases h
 |n+1,e,s,x,s',h=>by
  rw[cg] at h
  split at h
  ·injection h with h;injection h with _ h;subst h;exact Ok.refl L s
  ·rename_i ho
   split at h
   ·cases h
   ·rename_i y s1 h1
    exact (Ok.adv (gU ho)).trans ((hg _ _ _ h1).trans (OkM.chain hg lv n _ _ _ _ h))
theorem OkM.sep {α:Type} {g:PM α} (hg:OkM (L:=L) g):∀(n:Nat) (l:List α),OkM (L:=L) (gy L g n l)
 |0,_,_,_,_,h=>by cases h
 |n+1,l,s,x,s',h=>by
  rw[gy] at h
  split at h
  ·rename_i hc
   split at h
   ·cases h
   ·rename_i y s1 h1
    exact (Ok.adv (bh hc)).trans ((hg _ _ _ h1).trans (OkM.sep hg n _ _ _ _ h))
  ·injection h with h;injection h with _ h;subst h;exact Ok.refl L s
theorem OkM.ors (hf:∀lv,OkM (L:=L) (f lv)):OkM (L:=L) (lX L f):=fun s x s' h=>by
 unfold lX at h
 split at h
 ·cases h
 ·rename_i y s1 h1
  exact (hf 1 _ _ _ h1).trans (OkM.sep (hf 1) _ _ _ _ _ h)
theorem OkM.inn (hf:∀lv,OkM (L:=L) (f lv)) (hq:OkM (L:=L) q) (e:Expr) (n:Bool):OkM (L:=L) (v7 L f q e n):=fun s x s' h=>by
 unfold v7 at h
 have h0:Ok L s (must (cu L s 40) s):=Ok.must fun h=>bh h
 simp only at h
 split at h
 ·split at h
  ·cases h
  ·rename_i y s1 h1
   injection h with h;injection h with _ h;subst h
   exact h0.trans ((hq _ _ _ h1).trans (Ok.must fun h=>bh h))
 ·split at h
  ·cases h
  ·rename_i y s1 h1
   injection h with h;injection h with _ h;subst h
   exact h0.trans ((OkM.ors hf _ _ _ h1).trans (Ok.must fun h=>bh h))
theorem OkM.cmpT (hf:∀lv,OkM (L:=L) (f lv)) (hq:OkM (L:=L) q) (e:Expr):OkM (L:=L) (cmpT L f q e):=fun s x s' h=>by
 unfold Go.Proofs.YtoegnikpokgbfaaGreatDoor.cmpT at h
 simp only at h
 split at h
 ·rename_i hc
  injection h with h;injection h with _ h;subst h
  exact (Ok.adv (aB hc)).trans ((Ok.tkIf fun h=>aB h).trans (Ok.must fun h=>aB h))
 ·have h0:Ok L s (tkIf (az L s 15) s):=Ok.tkIf fun h=>aB h
  split at h
  ·rename_i hc
   split at h
   ·cases h
   ·rename_i y s1 h1
    split at h
    ·cases h
    ·rename_i z s2 h2
     injection h with h;injection h with _ h;subst h
     exact h0.trans ((Ok.adv (aB hc)).trans ((hf 5 _ _ _ h1).trans ((Ok.must fun h=>aB h).trans (hf 5 _ _ _ h2))))
  ·split at h
   ·rename_i hc
    exact h0.trans ((Ok.adv (aB hc)).trans (OkM.inn hf hq e _ _ _ _ h))
   ·injection h with h;injection h with _ h;subst h
    refine h0.trans ⟨Nat.le_refl _,id,fun e=>?_⟩
    generalize tkIf (az L s 15) s=u at *
    cases u;simp only at e;subst e;rfl
theorem OkM.cmp (hf:∀lv,OkM (L:=L) (f lv)) (hq:OkM (L:=L) q):OkM (L:=L) (ly L f q):=fun s x s' h=>by
 unfold ly at h
 split at h
 ·cases h
 ·rename_i y s1 h1
  split at h
  ·exact (hf 5 _ _ _ h1).trans (OkM.cmpT hf hq _ _ _ _ h)
  ·rename_i ho
   split at h
   ·cases h
   ·rename_i z s2 h2
    injection h with h;injection h with _ h;subst h
    exact (hf 5 _ _ _ h1).trans ((Ok.adv (gU ho)).trans (hf 5 _ _ _ h2))
theorem OkM.prim (hf:∀lv,OkM (L:=L) (f lv)) (hq:OkM (L:=L) q):OkM (L:=L) (dA L f q):=fun s x s' h=>by
 unfold dA at h
 simp only at h
 split at h
 ·rename_i hc;injection h with h;injection h with _ h;subst h;exact Ok.adv (jN hc)
 split at h
 ·rename_i hc;injection h with h;injection h with _ h;subst h;exact Ok.adv (jN hc)
 split at h
 ·rename_i hc;injection h with h;injection h with _ h;subst h;exact Ok.adv (aB hc)
 split at h
 ·rename_i hc;injection h with h;injection h with _ h;subst h;exact Ok.adv (aB hc)
 split at h
 ·rename_i hc;injection h with h;injection h with _ h;subst h;exact Ok.adv (aB hc)
 split at h
 ·rename_i hc
  split at h
  ·rename_i hd;injection h with h;injection h with _ h;subst h;exact (Ok.adv (jN hc)).trans ((Ok.adv (bh hd)).trans (Ok.mText 2 _))
  ·injection h with h;injection h with _ h;subst h;exact Ok.adv (jN hc)
 split at h
 ·rename_i hc
  split at h
  ·cases h
  ·rename_i y s1 h1
   injection h with h;injection h with _ h;subst h
   exact (Ok.adv (bh hc)).trans ((hf 1 _ _ _ h1).trans (Ok.must fun h=>bh h))
 split at h
 ·rename_i hc
  split at h
  ·cases h
  ·rename_i y s1 h1
   injection h with h;injection h with _ h;subst h
   exact (Ok.adv (aB hc)).trans ((Ok.must fun h=>bh h).trans ((hq _ _ _ h1).trans (Ok.must fun h=>bh h)))
 ·injection h with h;injection h with _ h;subst h;exact Ok.fl s
theorem OkM.stepE (hf:∀lv,OkM (L:=L) (f lv)) (hq:OkM (L:=L) q) (lv:Nat):OkM (L:=L) (stepE L f q lv):=fun s x s' h=>by
 unfold Go.Proofs.YtoegnikpokgbfaaGreatDoor.stepE at h
 split at h
 ·split at h
  ·rename_i hc
   split at h
   ·cases h
   ·rename_i y s1 h1
    injection h with h;injection h with _ h;subst h
    exact (Ok.adv (aB hc)).trans (hf 3 _ _ _ h1)
  ·exact hf 4 _ _ _ h
 split at h
 ·exact OkM.cmp hf hq _ _ _ h
 split at h
 ·split at h
  ·rename_i hc
   split at h
   ·cases h
   ·rename_i y s1 h1
    injection h with h;injection h with _ h;subst h
    exact (Ok.adv (bh hc)).trans (hf 8 _ _ _ h1)
  ·exact hf 9 _ _ _ h
 split at h
 ·exact OkM.prim hf hq _ _ _ h
 ·split at h
  ·cases h
  ·rename_i y s1 h1
   exact (hf _ _ _ _ h1).trans (OkM.chain (hf _) lv _ _ _ _ _ h)
theorem sV {s:PS} (h:ez L s=true):s.b=false/\s.a+2<L.length:=by
 unfold ez at h
 simp only[Bool.and_eq_true] at h
 exact lz h.2.2
theorem OkM.item (hf:∀lv,OkM (L:=L) (f lv)):OkM (L:=L) (eb L f):=fun s x s' h=>by
 unfold eb at h
 split at h
 ·rename_i hc;injection h with h;injection h with _ h;subst h;exact Ok.adv (bh hc)
 split at h
 ·rename_i hc;injection h with h;injection h with _ h;subst h
  have:=sV hc
  have a1:Ok L s (adv s):=Ok.adv ⟨this.1,aa⟩
  have a2:Ok L (adv s) (adv (adv s)):=Ok.adv ⟨this.1,show s.a+1 < _ by omega⟩
  have a3:Ok L (adv (adv s)) (adv (adv (adv s))):=Ok.adv ⟨this.1,show s.a+1+1 < _ by omega⟩
  exact a1.trans (a2.trans a3)
 split at h
 ·cases h
 ·rename_i y s1 h1
  injection h with h;injection h with _ h;subst h
  exact (hf 1 _ _ _ h1).trans (Ok.asM _)
theorem OkM.sources (hf:∀lv,OkM (L:=L) (f lv)):∀(n:Nat) (l:List Source),OkM (L:=L) (cj L f n l)
 |0,_,_,_,_,h=>by cases h
 |n+1,l,s,x,s',h=>by
  rw[cj] at h
  split at h
  ·rename_i hc
   exact (Ok.adv (bh hc)).trans ((Ok.sourceM _).trans (OkM.sources hf n _ _ _ _ h))
  simp only at h
  split at h
  ·rename_i hc
   split at h
   ·cases h
   ·rename_i y s1 h1
    exact (Ok.adv (aB hc)).trans ((Ok.sourceM _).trans ((Ok.must fun h=>aB h).trans ((hf 1 _ _ _ h1).trans (OkM.sources hf n _ _ _ _ h))))
  ·injection h with h;injection h with _ h;subst h;exact Ok.refl L s
theorem OkM.wher (hf:∀lv,OkM (L:=L) (f lv)):OkM (L:=L) (eF L f):=fun s x s' h=>by
 unfold eF at h
 split at h
 ·rename_i hc
  split at h
  ·cases h
  ·rename_i y s1 h1
   injection h with h;injection h with _ h;subst h
   exact (Ok.adv (aB hc)).trans (hf 1 _ _ _ h1)
 ·injection h with h;injection h with _ h;subst h;exact Ok.refl L s
theorem OkM.sort (hf:∀lv,OkM (L:=L) (f lv)):OkM (L:=L) (eG L f):=fun s x s' h=>by
 unfold eG at h
 split at h
 ·cases h
 ·rename_i y s1 h1
  split at h
  ·rename_i hc;injection h with h;injection h with _ h;subst h
   exact (hf 1 _ _ _ h1).trans (Ok.adv (aB hc))
  ·injection h with h;injection h with _ h;subst h
   exact (hf 1 _ _ _ h1).trans (Ok.tkIf fun h=>aB h)
theorem OkM.order (hf:∀lv,OkM (L:=L) (f lv)):OkM (L:=L) (eH L f):=fun s x s' h=>by
 unfold eH at h
 simp only at h
 split at h
 ·rename_i hc
  split at h
  ·cases h
  ·rename_i y s1 h1
   exact (Ok.adv (aB hc)).trans ((Ok.must fun h=>aB h).trans ((OkM.sort hf _ _ _ h1).trans (OkM.sep (OkM.sort hf) _ _ _ _ _ h)))
 ·injection h with h;injection h with _ h;subst h;exact Ok.refl L s
theorem OkM.items (hf:∀lv,OkM (L:=L) (f lv)):OkM (L:=L) (eV L f):=fun s x s' h=>by
 unfold eV at h
 split at h
 ·cases h
 ·rename_i y s1 h1
  exact (OkM.item hf _ _ _ h1).trans (OkM.sep (OkM.item hf) _ _ _ _ _ h)
theorem OkM.stepQ (hf:∀lv,OkM (L:=L) (f lv)):OkM (L:=L) (stepQ L f):=fun s x s' h=>by
 unfold Go.Proofs.YtoegnikpokgbfaaGreatDoor.stepQ at h
 simp only at h
 split at h
 ·cases h
 rename_i its s2 h1
 split at h
 ·cases h
 rename_i frs s4 h2
 split at h
 ·cases h
 rename_i wh s5 h3
 split at h
 ·cases h
 rename_i od s6 h4
 injection h with h;injection h with _ h;subst h
 exact (Ok.must fun h=>aB h).trans ((Ok.tkIf fun h=>aB h).trans ((OkM.items hf _ _ _ h1).trans ((Ok.must fun h=>aB h).trans ((Ok.sourceM _).trans ((OkM.sources hf _ _ _ _ _ h2).trans ((OkM.wher hf _ _ _ h3).trans ((OkM.order hf _ _ _ h4).trans (Ok.limitM _))))))))
theorem la:∀k,(∀lv,OkM (L:=L) ((pP L k).1 lv))/\OkM (L:=L) (pP L k).2
 |0=>⟨fun _ _ _ _ h=>(by cases h),fun _ _ _ h=>(by cases h)⟩
 |k+1=>⟨fun lv=>OkM.stepE (la k).1 (la k).2 lv,OkM.stepQ (la k).1⟩
end
section
variable {L:List Tok}
abbrev rm (L:List Tok) (s:PS):Nat:=L.length-s.a
def Df {α:Type} (m:PM α) (s:PS):Prop:=∃x s',m s=some (x,s')
theorem eW {s:PS} (h:s.b=false/\s.a<L.length):rm L (adv s)<rm L s:=by show L.length-(s.a+1)<L.length-s.a;omega
theorem Ok.rm {s s':PS} (h:Ok L s s'):rm L s'<=rm L s:=by have:=h.1;show L.length-s'.a<=L.length-s.a;omega
variable {f:Nat->PM Expr} {q:PM Query}
theorem oQ {g:PM Expr} {R lv:Nat} (hk:OkM (L:=L) g) (hg:∀s,rm L s<R->Df g s):∀(n:Nat) (e:Expr) (s:PS),rm L s<=R->rm L s<n->Df (cg L g lv n e) s
 |0,_,_,_,h=>absurd h (Nat.not_lt_zero _)
 |n+1,e,s,h,h'=>by
  unfold Df
  rw[cg]
  split
  ·exact⟨_,_,rfl⟩
  ·rename_i ho
   have ha:=eW (gU ho)
   obtain⟨x,s1,h1⟩:=hg (adv s) aa
   have:=(hk _ _ _ h1).rm
   rw[h1]
   exact oQ hk hg n _ s1 aa aa
theorem ry {α:Type} {g:PM α} {R:Nat} (hk:OkM (L:=L) g) (hg:∀s,rm L s<R->Df g s):∀(n:Nat) (l:List α) (s:PS),rm L s<=R->rm L s<n->Df (gy L g n l) s
 |0,_,_,_,h=>absurd h (Nat.not_lt_zero _)
 |n+1,l,s,h,h'=>by
  unfold Df
  rw[gy]
  split
  ·rename_i ho
   have ha:=eW (bh ho)
   obtain⟨x,s1,h1⟩:=hg (adv s) aa
   have:=(hk _ _ _ h1).rm
   rw[h1]
   exact ry hk hg n _ s1 aa aa
  ·exact⟨_,_,rfl⟩
theorem sW (s:PS):rm L s<L.length+1:=by show L.length-s.a < _;omega
section
variable (hk:∀lv,OkM (L:=L) (f lv)) (hkq:OkM (L:=L) q) {R:Nat} (hf:∀lv,1<=lv->lv<=9->∀s,rm L s<R->Df (f lv) s) (hq:∀s,rm L s<R->Df q s)
include hk hf
theorem DU {s:PS} (h:rm L s<R):Df (lX L f) s:=by
 obtain⟨x,s1,h1⟩:=hf 1 aa aa s h
 have:=(hk 1 _ _ _ h1).rm
 unfold Df lX
 rw[h1]
 exact ry (hk 1) (hf 1 aa aa) _ _ s1 aa (sW s1)
include hkq hq
theorem Gi {s:PS} (e:Expr) (n:Bool) (h:rm L s<R):Df (v7 L f q e n) s:=by
 unfold Df v7
 simp only
 have h0:Ok L s (must (cu L s 40) s):=Ok.must fun h=>bh h
 have:=h0.rm
 split
 ·obtain⟨x,s1,h1⟩:=hq (must (cu L s 40) s) aa
  rw[h1];exact⟨_,_,rfl⟩
 ·obtain⟨x,s1,h1⟩:=DU hk hf (s:=must (cu L s 40) s) aa
  rw[h1];exact⟨_,_,rfl⟩
theorem BQ {s:PS} (e:Expr) (h:rm L s<=R):Df (cmpT L f q e) s:=by
 unfold Df cmpT
 simp only
 split
 ·exact⟨_,_,rfl⟩
 have h0:Ok L s (tkIf (az L s 15) s):=Ok.tkIf fun h=>aB h
 have h0':=h0.rm
 split
 ·rename_i hc
  have ha:=eW (aB hc)
  obtain⟨x,s1,h1⟩:=hf 5 aa aa _ (by omega:rm L (adv (tkIf (az L s 15) s))<R)
  have h2:=(hk 5 _ _ _ h1).rm
  rw[h1]
  have h3:Ok L s1 (must (az L s1 13) s1):=Ok.must fun h=>aB h
  have h4:=h3.rm
  obtain⟨y,s2,h5⟩:=hf 5 aa aa _ (by omega:rm L (must (az L s1 13) s1)<R)
  simp only[h5]
  exact⟨_,_,rfl⟩
 split
 ·rename_i hc
  have ha:=eW (aB hc)
  exact Gi hk hkq hf hq e _ aa
 ·exact⟨_,_,rfl⟩
theorem BR {s:PS} (h:rm L s<=R):Df (dA L f q) s:=by
 unfold Df dA
 simp only
 split
 ·exact⟨_,_,rfl⟩
 split
 ·exact⟨_,_,rfl⟩
 split
 ·exact⟨_,_,rfl⟩
 split
 ·exact⟨_,_,rfl⟩
 split
 ·exact⟨_,_,rfl⟩
 split
 ·split<;>exact⟨_,_,rfl⟩
 split
 ·rename_i hc
  have ha:=eW (bh hc)
  obtain⟨x,s1,h1⟩:=hf 1 aa aa _ (by omega:rm L (adv s)<R)
  rw[h1];exact⟨_,_,rfl⟩
 split
 ·rename_i hc
  have ha:=eW (aB hc)
  have h3:Ok L (adv s) (must (cu L (adv s) 40) (adv s)):=Ok.must fun h=>bh h
  have h4:=h3.rm
  obtain⟨x,s1,h1⟩:=hq (must (cu L (adv s) 40) (adv s)) aa
  rw[h1];exact⟨_,_,rfl⟩
 ·exact⟨_,_,rfl⟩
theorem zC {s:PS} {lv:Nat} (h:rm L s<=R) (hlv:lv<=9) (hn:lv≠9->Df (f (lv+1)) s):Df (stepE L f q lv) s:=by
 unfold Df stepE
 split
 ·rename_i e;subst e
  split
  ·rename_i hc
   have ha:=eW (aB hc)
   obtain⟨x,s1,h1⟩:=hf 3 aa aa _ (by omega:rm L (adv s)<R)
   rw[h1];exact⟨_,_,rfl⟩
  ·exact hn aa
 split
 ·rename_i e;subst e
  unfold ly
  obtain⟨x,s1,h1⟩:=hn aa
  have h2:=(hk 5 _ _ _ h1).rm
  simp only[h1]
  split
  ·exact BQ hk hkq hf hq _ aa
  ·rename_i ho
   have ha:=eW (gU ho)
   obtain⟨y,s2,h3⟩:=hf 5 aa aa _ (by omega:rm L (adv s1)<R)
   rw[h3];exact⟨_,_,rfl⟩
 split
 ·rename_i e;subst e
  split
  ·rename_i hc
   have ha:=eW (bh hc)
   obtain⟨x,s1,h1⟩:=hf 8 aa aa _ (by omega:rm L (adv s)<R)
   rw[h1];exact⟨_,_,rfl⟩
  ·exact hn aa
 split
 ·exact BR hk hkq hf hq h
 ·rename_i e9
  obtain⟨x,s1,h1⟩:=hn e9
  have h2:=(hk _ _ _ _ h1).rm
  rw[h1]
  exact oQ (hk _) (fun s' hs'=>hf _ aa aa s' hs') _ _ s1 aa (sW s1)
end
section
variable (hk:∀lv,OkM (L:=L) (f lv)) {R:Nat} (hf:∀s,rm L s<=R->Df (f 1) s)
include hk hf
theorem wK {s:PS} (h:rm L s<=R):Df (eb L f) s:=by
 unfold Df eb
 split
 ·exact⟨_,_,rfl⟩
 split
 ·exact⟨_,_,rfl⟩
 obtain⟨x,s1,h1⟩:=hf s h
 rw[h1];exact⟨_,_,rfl⟩
theorem lA:∀(n:Nat) (l:List Source) (s:PS),rm L s<=R->rm L s<n->Df (cj L f n l) s
 |0,_,_,_,h=>absurd h (Nat.not_lt_zero _)
 |n+1,l,s,h,h'=>by
  unfold Df
  rw[cj]
  split
  ·rename_i ho
   have ha:=eW (bh ho)
   have hb:=(Ok.sourceM (L:=L) (adv s)).rm
   exact lA n _ _ aa aa
  simp only
  split
  ·rename_i ho
   have ha:=eW (aB ho)
   have hb:=(Ok.sourceM (L:=L) (adv s)).rm
   have h3:Ok L (sourceM L (adv s)).2 (must (az L (sourceM L (adv s)).2 5) (sourceM L (adv s)).2):=Ok.must fun h=>aB h
   have h4:=h3.rm
   obtain⟨x,s1,h1⟩:=hf _ (by omega:rm L (must (az L (sourceM L (adv s)).2 5) (sourceM L (adv s)).2)<=R)
   have h5:=(hk 1 _ _ _ h1).rm
   rw[h1]
   exact lA n _ s1 aa aa
  ·exact⟨_,_,rfl⟩
theorem zD {s:PS} (h:rm L s<=R):Df (eF L f) s:=by
 unfold Df eF
 split
 ·rename_i hc
  have ha:=eW (aB hc)
  obtain⟨x,s1,h1⟩:=hf (adv s) aa
  rw[h1];exact⟨_,_,rfl⟩
 ·exact⟨_,_,rfl⟩
theorem wL {s:PS} (h:rm L s<=R):Df (eG L f) s:=by
 unfold Df eG
 obtain⟨x,s1,h1⟩:=hf s h
 simp only[h1]
 split<;>exact⟨_,_,rfl⟩
theorem zE {s:PS} (h:rm L s<=R):Df (eH L f) s:=by
 unfold Df eH
 simp only
 split
 ·rename_i hc
  have ha:=eW (aB hc)
  have h3:Ok L (adv s) (must (az L (adv s) 8) (adv s)):=Ok.must fun h=>aB h
  have h4:=h3.rm
  obtain⟨x,s1,h1⟩:=wL hk hf (s:=must (az L (adv s) 8) (adv s)) aa
  have h5:=(OkM.sort hk _ _ _ h1).rm
  rw[h1]
  exact ry (R:=R) (OkM.sort hk) (fun s' hs'=>wL hk hf aa) _ _ s1 aa (sW s1)
 ·exact⟨_,_,rfl⟩
theorem zF {s:PS} (h:rm L s<=R):Df (eV L f) s:=by
 unfold Df eV
 obtain⟨x,s1,h1⟩:=wK hk hf h
 have h5:=(OkM.item hk _ _ _ h1).rm
 rw[h1]
 exact ry (R:=R) (OkM.item hk) (fun s' hs'=>wK hk hf aa) _ _ s1 aa (sW s1)
theorem zG {s:PS} (h:rm L s<=R):Df (stepQ L f) s:=by
 unfold Df stepQ
 simp only
 have k1:Ok L s (must (az L s 1) s):=Ok.must fun h=>aB h
 have k2:Ok L (must (az L s 1) s) (tkIf (az L (must (az L s 1) s) 2) (must (az L s 1) s)):=Ok.tkIf fun h=>aB h
 have k3:=(k1.trans k2).rm
 obtain⟨its,s2,h1⟩:=zF hk hf (s:=tkIf (az L (must (az L s 1) s) 2) (must (az L s 1) s)) aa
 have h2:=(OkM.items hk _ _ _ h1).rm
 simp only[h1]
 have k4:Ok L s2 (must (az L s2 3) s2):=Ok.must fun h=>aB h
 have k5:=(k4.trans (Ok.sourceM _)).rm
 obtain⟨frs,s4,h3⟩:=lA hk hf (L.length+1) [(sourceM L (must (az L s2 3) s2)).1] (sourceM L (must (az L s2 3) s2)).2 aa (sW _)
 have h4:=(OkM.sources hk _ _ _ _ _ h3).rm
 simp only[h3]
 obtain⟨wh,s5,h5⟩:=zD hk hf (s:=s4) aa
 have h6:=(OkM.wher hk _ _ _ h5).rm
 simp only[h5]
 obtain⟨od,s6,h7⟩:=zE hk hf (s:=s5) aa
 simp only[h7]
 exact⟨_,_,rfl⟩
end
theorem zH:∀k,(∀lv,1<=lv->lv<=9->∀s,16*rm L s+10<=k+lv->Df ((pP L k).1 lv) s)/\(∀s,16*rm L s+11<=k->Df (pP L k).2 s)
 |0=>⟨fun lv _ h2 s h=>by omega,fun s h=>by omega⟩
 |k+1=>by
  obtain⟨i1,i2⟩:=zH k
  obtain⟨o1,o2⟩:=la (L:=L) k
  refine⟨fun lv h1 h2 s h=>?_,fun s h=>?_⟩
  ·exact zC o1 o2 (R:=rm L s) (fun lv' a b s' hs=>i1 lv' a b s' aa) (fun s' hs=>i2 s' aa) (Nat.le_refl _) h2 (fun hn=>i1 _ aa aa s aa)
  ·exact zG o1 (R:=rm L s) (fun s' hs=>i1 1 aa aa s' aa) (Nat.le_refl _)
def pD (L:List Tok):Nat:=16*L.length+16
def bA (L:List Tok):Nat->PM Expr:=(pP L (pD L)).1
def fP (L:List Tok):PM Query:=(pP L (pD L)).2
theorem lY (lv:Nat) (h1:1<=lv) (h2:lv<=9) (s:PS):Df (bA L lv) s:=(zH (pD L)).1 lv h1 h2 s (by unfold pD rm;omega)
theorem yc (s:PS):Df (fP L) s:=(zH (pD L)).2 s (by unfold pD rm;omega)
end
section
variable (L:List Tok)
def nR (s:PS):Int:=if s.b=false/\L.length<=s.a then -1 else s.a
def s0:PS:=⟨0,false⟩
def lb {α:Type} (z:α):Option (α×PS)->α×Int
 |none=>(z,0)
 |some (x,s)=>if 0<=nR L s then (z,nR L s) else (x,-1)
def cI:Expr×Int:=lb L zExpr (bA L 1 s0)
end
section
variable {L:List Tok} {f:Nat->PM Expr} {q:PM Query}
theorem sX (lv:Nat):OkM (L:=L) (bA L lv):=(la (pD L)).1 lv
section
variable (hk:∀lv,OkM (L:=L) (f lv)) (hf:∀s,Df (f 1) s)
include hk hf
end
end
section
variable {L:List Tok}
def LeM {α:Type} (m m':PM α):Prop:=∀s r,m s=some r->m' s=some r
theorem LeM.chain {g g':PM Expr} (hg:LeM g g') (lv:Nat):∀(n:Nat) (e:Expr),LeM (cg L g lv n e) (cg L g' lv n e)
 |0,_,_,_,h=>by cases h
 |n+1,e,s,r,h=>by
  rw[cg] at h ⊢
  split at h
  ·rename_i hc;rw[if_pos hc];exact h
  ·rename_i hc
   rw[if_neg hc]
   split at h
   ·cases h
   ·rename_i y s1 h1
    rw[hg _ _ h1]
    exact LeM.chain hg lv n _ _ _ h
theorem oR {g:PM Expr} {lv:Nat}:∀ {n n':Nat} {e:Expr},n<=n'->LeM (cg L g lv n e) (cg L g lv n' e)
 |0,_,_,_,_,_,h=>by cases h
 |n+1,0,_,hn,_,_,_=>absurd hn aa
 |n+1,n'+1,e,hn,s,r,h=>by
  rw[cg] at h ⊢
  split at h
  ·rename_i hc;rw[if_pos hc];exact h
  ·rename_i hc
   rw[if_neg hc]
   split at h
   ·cases h
   ·rename_i y s1 h1
    exact oR aa _ _ h
theorem LeM.sep {α:Type} {g g':PM α} (hg:LeM g g'):∀(n:Nat) (l:List α),LeM (gy L g n l) (gy L g' n l)
 |0,_,_,_,h=>by cases h
 |n+1,l,s,r,h=>by
  rw[gy] at h ⊢
  split at h
  ·rename_i hc
   rw[if_pos hc]
   split at h
   ·cases h
   ·rename_i y s1 h1
    rw[hg _ _ h1]
    exact LeM.sep hg n _ _ _ h
  ·rename_i hc;rw[if_neg hc];exact h
variable {f f':Nat->PM Expr} {q q':PM Query} (hf:∀lv,LeM (f lv) (f' lv)) (hq:LeM q q')
include hf
theorem LeM.ors:LeM (lX L f) (lX L f'):=fun s r h=>by
 unfold lX at h ⊢
 split at h
 ·cases h
 ·rename_i y s1 h1
  rw[hf 1 _ _ h1]
  exact LeM.sep (hf 1) _ _ _ _ h
include hq in
theorem LeM.inn (e:Expr) (n:Bool):LeM (v7 L f q e n) (v7 L f' q' e n):=fun s r h=>by
 unfold v7 at h ⊢
 simp only at h ⊢
 split at h
 ·rename_i hc
  rw[if_pos hc]
  split at h
  ·cases h
  ·rename_i y s1 h1
   rw[hq _ _ h1];exact h
 ·rename_i hc
  rw[if_neg hc]
  split at h
  ·cases h
  ·rename_i y s1 h1
   rw[LeM.ors hf _ _ h1];exact h
include hq in
theorem LeM.cmpT (e:Expr):LeM (cmpT L f q e) (cmpT L f' q' e):=fun s r h=>by
 unfold Go.Proofs.YtoegnikpokgbfaaGreatDoor.cmpT at h ⊢
 simp only at h ⊢
 split at h
 ·rename_i hc;rw[if_pos hc];exact h
 ·rename_i hc
  rw[if_neg hc]
  split at h
  ·rename_i hd
   rw[if_pos hd]
   split at h
   ·cases h
   ·rename_i y s1 h1
    rw[hf 5 _ _ h1]
    simp only
    split at h
    ·cases h
    ·rename_i z s2 h2
     rw[hf 5 _ _ h2];exact h
  ·rename_i hd
   rw[if_neg hd]
   split at h
   ·rename_i he;rw[if_pos he];exact LeM.inn hf hq _ _ _ _ h
   ·rename_i he;rw[if_neg he];exact h
include hq in
theorem LeM.cmp:LeM (ly L f q) (ly L f' q'):=fun s r h=>by
 unfold ly at h ⊢
 split at h
 ·cases h
 ·rename_i y s1 h1
  rw[hf 5 _ _ h1]
  simp only
  split at h
  ·rename_i hc;rw[if_pos hc];exact LeM.cmpT hf hq _ _ _ h
  ·rename_i hc
   rw[if_neg hc]
   split at h
   ·cases h
   ·rename_i z s2 h2
    rw[hf 5 _ _ h2];exact h
include hq in
theorem LeM.prim:LeM (dA L f q) (dA L f' q'):=fun s r h=>by
 unfold dA at h ⊢
 simp only at h ⊢
 split at h
 ·rename_i hc;rw[if_pos hc];exact h
 rename_i c1
 rw[if_neg c1]
 split at h
 ·rename_i hc;rw[if_pos hc];exact h
 rename_i c2
 rw[if_neg c2]
 split at h
 ·rename_i hc;rw[if_pos hc];exact h
 rename_i c3
 rw[if_neg c3]
 split at h
 ·rename_i hc;rw[if_pos hc];exact h
 rename_i c4
 rw[if_neg c4]
 split at h
 ·rename_i hc;rw[if_pos hc];exact h
 rename_i c5
 rw[if_neg c5]
 split at h
 ·rename_i hc;rw[if_pos hc];exact h
 rename_i c6
 rw[if_neg c6]
 split at h
 ·rename_i hc
  rw[if_pos hc]
  split at h
  ·cases h
  ·rename_i y s1 h1
   rw[hf 1 _ _ h1];exact h
 rename_i c7
 rw[if_neg c7]
 split at h
 ·rename_i hc
  rw[if_pos hc]
  split at h
  ·cases h
  ·rename_i y s1 h1
   rw[hq _ _ h1];exact h
 ·rename_i hc;rw[if_neg hc];exact h
include hq in
theorem LeM.stepE (lv:Nat):LeM (stepE L f q lv) (stepE L f' q' lv):=fun s r h=>by
 unfold Go.Proofs.YtoegnikpokgbfaaGreatDoor.stepE at h ⊢
 split at h
 ·rename_i hc
  rw[if_pos hc]
  split at h
  ·rename_i hd
   rw[if_pos hd]
   split at h
   ·cases h
   ·rename_i y s1 h1
    rw[hf 3 _ _ h1];exact h
  ·rename_i hd;rw[if_neg hd];exact hf 4 _ _ h
 rename_i c1
 rw[if_neg c1]
 split at h
 ·rename_i hc;rw[if_pos hc];exact LeM.cmp hf hq _ _ h
 rename_i c2
 rw[if_neg c2]
 split at h
 ·rename_i hc
  rw[if_pos hc]
  split at h
  ·rename_i hd
   rw[if_pos hd]
   split at h
   ·cases h
   ·rename_i y s1 h1
    rw[hf 8 _ _ h1];exact h
  ·rename_i hd;rw[if_neg hd];exact hf 9 _ _ h
 rename_i c3
 rw[if_neg c3]
 split at h
 ·rename_i hc;rw[if_pos hc];exact LeM.prim hf hq _ _ h
 ·rename_i hc
  rw[if_neg hc]
  split at h
  ·cases h
  ·rename_i y s1 h1
   rw[hf _ _ _ h1]
   exact LeM.chain (hf _) _ _ _ _ _ h
theorem LeM.item:LeM (eb L f) (eb L f'):=fun s r h=>by
 unfold eb at h ⊢
 split at h
 ·rename_i hc;rw[if_pos hc];exact h
 rename_i c1
 rw[if_neg c1]
 split at h
 ·rename_i hc;rw[if_pos hc];exact h
 rename_i c2
 rw[if_neg c2]
 split at h
 ·cases h
 ·rename_i y s1 h1
  rw[hf 1 _ _ h1];exact h
theorem LeM.sources:∀(n:Nat) (l:List Source),LeM (cj L f n l) (cj L f' n l)
 |0,_,_,_,h=>by cases h
 |n+1,l,s,r,h=>by
  rw[cj] at h ⊢
  split at h
  ·rename_i hc;rw[if_pos hc];exact LeM.sources n _ _ _ h
  rename_i c1
  rw[if_neg c1]
  simp only at h ⊢
  split at h
  ·rename_i hc
   rw[if_pos hc]
   split at h
   ·cases h
   ·rename_i y s1 h1
    rw[hf 1 _ _ h1]
    exact LeM.sources n _ _ _ h
  ·rename_i hc;rw[if_neg hc];exact h
theorem LeM.wher:LeM (eF L f) (eF L f'):=fun s r h=>by
 unfold eF at h ⊢
 split at h
 ·rename_i hc
  rw[if_pos hc]
  split at h
  ·cases h
  ·rename_i y s1 h1
   rw[hf 1 _ _ h1];exact h
 ·rename_i hc;rw[if_neg hc];exact h
theorem LeM.sort:LeM (eG L f) (eG L f'):=fun s r h=>by
 unfold eG at h ⊢
 split at h
 ·cases h
 ·rename_i y s1 h1
  rw[hf 1 _ _ h1];exact h
theorem LeM.order:LeM (eH L f) (eH L f'):=fun s r h=>by
 unfold eH at h ⊢
 simp only at h ⊢
 split at h
 ·rename_i hc
  rw[if_pos hc]
  split at h
  ·cases h
  ·rename_i y s1 h1
   rw[LeM.sort hf _ _ h1]
   exact LeM.sep (LeM.sort hf) _ _ _ _ h
 ·rename_i hc;rw[if_neg hc];exact h
theorem LeM.items:LeM (eV L f) (eV L f'):=fun s r h=>by
 unfold eV at h ⊢
 split at h
 ·cases h
 ·rename_i y s1 h1
  rw[LeM.item hf _ _ h1]
  exact LeM.sep (LeM.item hf) _ _ _ _ h
theorem LeM.stepQ:LeM (stepQ L f) (stepQ L f'):=fun s r h=>by
 unfold Go.Proofs.YtoegnikpokgbfaaGreatDoor.stepQ at h ⊢
 simp only at h ⊢
 split at h
 ·cases h
 rename_i its s2 h1
 rw[LeM.items hf _ _ h1]
 simp only
 split at h
 ·cases h
 rename_i frs s4 h2
 rw[LeM.sources hf _ _ _ _ h2]
 simp only
 split at h
 ·cases h
 rename_i wh s5 h3
 rw[LeM.wher hf _ _ h3]
 simp only
 split at h
 ·cases h
 rename_i od s6 h4
 rw[LeM.order hf _ _ h4]
 exact h
omit hf
theorem lZ:∀k,(∀lv,LeM ((pP L k).1 lv) ((pP L (k+1)).1 lv))/\LeM (pP L k).2 (pP L (k+1)).2
 |0=>⟨fun _ _ _ h=>(by cases h),fun _ _ h=>(by cases h)⟩
 |k+1=>⟨fun lv=>LeM.stepE (lZ k).1 (lZ k).2 lv,LeM.stepQ (lZ k).1⟩
theorem Dj {α:Type} {m m':PM α} (h:LeM m m') (s:PS) (hd:Df m s):m' s=m s:=by
 obtain⟨x,s1,h1⟩:=hd
 rw[h1,h _ _ h1]
theorem jO (lv:Nat) (h1:1<=lv) (h2:lv<=9) (s:PS):bA L lv s=stepE L (bA L) (fP L) lv s:=by
 have:=Dj ((lZ (L:=L) (pD L)).1 lv) s (lY lv h1 h2 s)
 exact this.symm
theorem yd (s:PS):fP L s=stepQ L (bA L) s:=by
 have:=Dj (lZ (L:=L) (pD L)).2 s (yc s)
 exact this.symm
theorem ye {lv lv' n:Nat} {e:Expr} {s:PS} (h1:1<=lv) (h2:lv<=9) (hn:rm L s<n) (hn':n<=L.length+1):cg L (bA L lv) lv' n e s=cg L (bA L lv) lv' (L.length+1) e s:=by
 obtain⟨x,s1,h⟩:=oQ (R:=L.length) (lv:=lv') (sX (L:=L) lv) (fun s _=>lY lv h1 h2 s) n e s (by show L.length-s.a<=_;omega) hn
 rw[h,oR hn' _ _ h]
end
end Go.Proofs.YtoegnikpokgbfaaGreatDoor
