/-
  The parser's model.
  Conditions: none.
-/
import Derived.Test.YtbodcedhmccenaaGreatDoorPFA
set_option linter.unusedVariables false
set_option linter.unusedSimpArgs false
set_option linter.unusedSectionVars false
set_option maxRecDepth 8000
namespace Go.Proofs.YtbodcedhmccenaaGreatDoor
open Go Go.Dv
open Go.Vc (D dg dh cX bk)
def Item.star:Item->Bool | .mk s _ _ _=>s
def Item.e:Item->Expr | .mk _ _ e _=>e
def Source.on:Source->List Expr | .mk _ _ o=>o
def SortKey.e:SortKey->Expr | .mk e _=>e
def aY (l:List Item):List Expr:=(l.filter fun x=>!x.star).map Item.e
def exprsQ:Query->List Expr | .mk _ items from_ where_ order _=>aY items++from_.flatMap Source.on++where_++order.map SortKey.e
theorem pB {l:List Item} {i:Nat} (h:i<l.length):aY (l.take (i+1))=aY (l.take i)++if l[i].star=true then [] else [l[i].e]:=by
 unfold aY
 rw[List.take_succ_eq_append_getElem h,List.filter_append,List.map_append]
 congr 1
 simp only[List.filter_cons,List.filter_nil]
 cases l[i].star<;>rfl
theorem yU {l:List Source} {i:Nat} (h:i<l.length):(l.take (i+1)).flatMap Source.on=(l.take i).flatMap Source.on++l[i].on:=by
 rw[List.take_succ_eq_append_getElem h,List.flatMap_append];simp
theorem vz {l:List SortKey} {i:Nat} (h:i<l.length):(l.take (i+1)).map SortKey.e=(l.take i).map SortKey.e++[l[i].e]:=by
 rw[List.take_succ_eq_append_getElem h,List.map_append];rfl
theorem eM (l:List Item):(aY l).length<=l.length:=by
 unfold aY
 rw[List.length_map];exact List.length_filter_le _ _
theorem BS:∀l:List Source,(l.flatMap Source.on).length+l.length<=d8 l
 | []=>by simp [d8]
 |.mk t a o::r=>by
  have:=BS r
  rw[d8,dt,List.flatMap_cons,aC,List.length_cons,aT]
  show o.length+_+_<=_
  omega
theorem pC (l:List Source) (i:Nat):((l.take i).flatMap Source.on).length<=(l.flatMap Source.on).length:=by
 conv=>rhs;rw[<-List.take_append_drop i l]
 rw[List.flatMap_append,aC];omega
theorem fH {α:Type} (g:α->Nat) {l:List α} {x:α} (h:x∈l):g x<=(l.map g).sum:=by
 induction l with
 |nil=>cases h
 |cons y r ih=>
  rw[List.map_cons,List.sum_cons]
  rcases List.mem_cons.1 h with rfl|h
  ·omega
  ·have:=ih h;omega
theorem gZ {q:Query} {x:Expr} (h:x∈exprsQ q):szExpr x<=szQuery q:=by
 obtain⟨d,it,fr,wh,or,li⟩:=q
 rw[dC,dB,cM,aT,cB]
 simp only[exprsQ,List.mem_append] at h
 rcases h with ((h|h)|h)|h
 ·simp only[aY,List.mem_map,List.mem_filter] at h
  obtain⟨⟨s,q,e,a⟩,⟨hm,_⟩,rfl⟩:=h
  have:=fH ij hm
  rw[jv] at this
  show szExpr e<=_
  omega
 ·simp only[List.mem_flatMap] at h
  obtain⟨⟨t,a,o⟩,hm,hx⟩:=h
  have:=fH cJ hm
  have h2:=fH szExpr (show x∈o from hx)
  rw[dt,aT] at this
  omega
 ·have:=fH szExpr h;omega
 ·simp only[List.mem_map] at h
  obtain⟨⟨e,d⟩,hm,rfl⟩:=h
  have:=fH eo hm
  rw[gS] at this
  show szExpr e<=_
  omega
theorem AC {q:Query} {x:Expr} (h:x∈exprsQ q):SizeOf.sizeOf x<SizeOf.sizeOf q:=by
 obtain⟨d,it,fr,wh,or,li⟩:=q
 rw[Query.mk.sizeOf_spec]
 simp only[exprsQ,List.mem_append] at h
 rcases h with ((h|h)|h)|h
 ·simp only[aY,List.mem_map,List.mem_filter] at h
  obtain⟨⟨s,q,e,a⟩,⟨hm,_⟩,rfl⟩:=h
  have:=List.sizeOf_lt_of_mem hm
  rw[Item.mk.sizeOf_spec] at this
  show SizeOf.sizeOf e < _
  omega
 ·simp only[List.mem_flatMap] at h
  obtain⟨⟨t,a,o⟩,hm,hx⟩:=h
  have:=List.sizeOf_lt_of_mem hm
  have h2:=List.sizeOf_lt_of_mem (show x∈o from hx)
  rw[Source.mk.sizeOf_spec] at this
  omega
 ·have:=List.sizeOf_lt_of_mem h;omega
 ·simp only[List.mem_map] at h
  obtain⟨⟨e,d⟩,hm,rfl⟩:=h
  have:=List.sizeOf_lt_of_mem hm
  rw[SortKey.mk.sizeOf_spec] at this
  show SizeOf.sizeOf e < _
  omega
theorem fk (q:Query):(exprsQ q).length<=szQuery q:=by
 obtain⟨d,it,fr,wh,or,li⟩:=q
 have h1:=eM it
 have h2:=BS fr
 rw[dC,dB,aT,cB]
 simp only[exprsQ,aC,List.length_map]
 omega
def f6 (x e:Expr):Prop:=x∈e.kids∨∃q∈e.sub,x∈exprsQ q
theorem ld {x e:Expr} (h:f6 x e):SizeOf.sizeOf x<SizeOf.sizeOf e:=by
 obtain⟨k,o,n,v,q,m,ks,ss⟩:=e
 rw[Expr.mk.sizeOf_spec]
 rcases h with h|⟨y,hy,h⟩
 ·have:=List.sizeOf_lt_of_mem (show x∈ks from h);omega
 ·have:=List.sizeOf_lt_of_mem (show y∈ss from hy)
  have:=AC h
  omega
theorem gD {x e:Expr} (h:f6 x e):szExpr x<=szExpr e:=by
 obtain⟨k,o,n,v,q,m,ks,ss⟩:=e
 rw[cL,aT,bT]
 rcases h with h|⟨y,hy,h⟩
 ·have:=fH szExpr (show x∈ks from h);omega
 ·have:=fH szQuery (show y∈ss from hy)
  have:=gZ h
  omega
theorem lf {q:Query} {e:Expr} (h:q∈e.sub):szQuery q<=szExpr e:=by
 obtain⟨k,o,n,v,q',m,ks,ss⟩:=e
 rw[cL,aT,bT]
 have:=fH szQuery (show q∈ss from h);omega
noncomputable def dT {α:Type} [Inhabited α] (F:(Expr->α)->Expr->α) (e:Expr):α:=F (fun x=>if h:SizeOf.sizeOf x<SizeOf.sizeOf e then dT F x else default) e
termination_by SizeOf.sizeOf e
theorem hD {α:Type} [Inhabited α] {F:(Expr->α)->Expr->α} {P:Expr->α->Prop} (h:∀e g,(∀x,f6 x e->P x (g x))->P e (F g e)) (e:Expr):P e (dT F e):=by
 suffices H:∀n:Nat,∀e:Expr,SizeOf.sizeOf e<n->P e (dT F e) from H _ e (Nat.lt_succ_self _)
 intro n
 induction n with
 |zero=>exact fun _ h=>absurd h (Nat.not_lt_zero _)
 |succ n ih=>
  intro e he
  rw[dT]
  refine h e _ fun x hx=>?_
  have:=ld hx
  simp only[dif_pos this]
  exact ih x aa
structure PS where
 a:Nat
 b:Bool
abbrev PM (α:Type):=PS->Option (α×PS)
section
variable (L:List Tok)
def gK (s:PS) (k:Nat):Option Tok:=if s.b=true then none else L[s.a+k]?
def jp (s:PS) (k:Nat) (kind:Int) (text:ByteArray):Bool:=match gK L s k with
 |some t=>decide (t.kind=kind)&&decide (t.text=text)
 |none=>false
def iZ (s:PS) (kind:Int):Bool:=match gK L s 0 with
 |some t=>decide (t.kind=kind)&&aJ t
 |none=>false
def bv (s:PS):ByteArray:=match gK L s 0 with
 |some t=>t.text
 |none=>⟨#[]⟩
def adv (s:PS):PS:=⟨s.a+1,s.b⟩
def fl (s:PS):PS:=⟨s.a,true⟩
def tkIf (c:Bool) (s:PS):PS:=if c=true then adv s else s
def must (c:Bool) (s:PS):PS:=if c=true then adv s else fl s
def aw (s:PS) (k:Nat):Bool:=jp L s 0 1 (kw k)
def bt (s:PS) (c:UInt8):Bool:=jp L s 0 5 ⟨#[c]⟩
def mText (kind:Int) (s:PS):ByteArray×PS:=if iZ L s kind=true then (bv L s,adv s) else (⟨#[]⟩,fl s)
def mNum (s:PS):Int×PS:=(fG (mText L 3 s).1,(mText L 3 s).2)
def fX (lv:Nat):List Nat:=if lv=1 then [1] else if lv=2 then [2] else if lv=4 then [3,4,5,6,7,8] else if lv=5 then [9] else if lv=6 then [10,11] else if lv=7 then [12,13,14] else []
def j0 (s:PS) (op:Nat):Bool:=jp L s 0 (if op=1∨op=2 then 1 else 5) (iJ op)
def fI (s:PS):List Nat->Nat
 | []=>0
 |op::r=>if j0 L s op=true then op else fI s r
def cn (s:PS) (lv:Nat):Nat:=fI L s (fX lv)
end
def z0:ByteArray:=⟨#[]⟩
def zVal:Val:=⟨0,0,⟨#[]⟩⟩
def zExpr:Expr:=.mk 0 0 false zVal z0 z0 [] []
def ed (op:Nat) (a b:Expr):Expr:=.mk 4 op false zVal z0 z0 [a,b] []
def se (op:Int) (e:Expr):Expr:=.mk 3 op false zVal z0 z0 [e] []
def bR (kind:Int) (not:Bool) (kids:List Expr) (sub:List Query):Expr:=.mk kind 0 not zVal z0 z0 kids sub
def dj (v:Val):Expr:=.mk 1 0 false v z0 z0 [] []
def lg (qual name:ByteArray):Expr:=.mk 2 0 false zVal qual name [] []
section
variable (L:List Tok)
def bP (f:PM Expr) (lv:Nat):Nat->Expr->PM Expr
 |0,_,_=>none
 |n+1,e,s=>if cn L s lv=0 then some (e,s) else match f (adv s) with
  |none=>none
  |some (x,s1)=>bP f lv n (ed (cn L s lv) e x) s1
def f9 {α:Type} (f:PM α):Nat->List α->PM (List α)
 |0,_,_=>none
 | n+1,l,s=>if bt L s 44=true then (match f (adv s) with
  |none=>none
  | some (x,s1)=>f9 f n (l++[x]) s1) else some (l,s)
def kd (f:Nat->PM Expr):PM (List Expr):=fun s=>match f 1 s with
 |none=>none
 |some (e,s1)=>f9 L (f 1) (L.length+1) [e] s1
def sf (f:Nat->PM Expr) (q:PM Query) (e:Expr) (not:Bool):PM Expr:=fun s=>
 let s1:=must (bt L s 40) s
 if aw L s1 1=true then (match q s1 with
  |none=>none
  | some (x,s2)=>some (bR 8 not [e] [x],must (bt L s2 41) s2))
 else match kd L f s1 with
  |none=>none
  |some (l,s2)=>some (bR 7 not (e::l) [],must (bt L s2 41) s2)
def cmpT (f:Nat->PM Expr) (q:PM Query) (e:Expr):PM Expr:=fun s=>
 if aw L s 16=true then
  let s1:=adv s
  let n:=aw L s1 15
  let s2:=tkIf n s1
  some (bR 5 n [e] [],must (aw L s2 20) s2)
 else
  let n:=aw L s 15
  let s1:=tkIf n s
  if aw L s1 18=true then (match f 5 (adv s1) with
   |none=>none
   |some (lo,s2)=>match f 5 (must (aw L s2 13) s2) with
    |none=>none
    | some (hi,s3)=>some (bR 6 n [e,lo,hi] [],s3))
  else if aw L s1 17=true then sf L f q e n (adv s1)
  else some (e,⟨s1.a,s1.b||n⟩)
def iP (f:Nat->PM Expr) (q:PM Query):PM Expr:=fun s=>match f 5 s with
 |none=>none
 |some (e,s1)=>if cn L s1 4=0 then cmpT L f q e s1 else match f 5 (adv s1) with
  |none=>none
  |some (x,s2)=>some (ed (cn L s1 4) e x,s2)
def dk (f:Nat->PM Expr) (q:PM Query):PM Expr:=fun s=>
 if iZ L s 3=true then some (dj ⟨1,fG (bv L s),z0⟩,adv s)
 else if iZ L s 4=true then some (dj ⟨2,0,bv L s⟩,adv s)
 else if aw L s 20=true then some (dj zVal,adv s)
 else if aw L s 21=true then some (dj ⟨3,1,z0⟩,adv s)
 else if aw L s 22=true then some (dj ⟨3,0,z0⟩,adv s)
 else if iZ L s 2=true then
  let s1:=adv s
  if bt L s1 46=true then some (lg (bv L s) (mText L 2 (adv s1)).1,(mText L 2 (adv s1)).2)
  else some (lg z0 (bv L s),s1)
 else if bt L s 40=true then (match f 1 (adv s) with
  |none=>none
  | some (e,s1)=>some (e,must (bt L s1 41) s1))
 else if aw L s 19=true then
  let s1:=must (bt L (adv s) 40) (adv s)
  (match q s1 with
  |none=>none
  | some (x,s2)=>some (bR 9 false [] [x],must (bt L s2 41) s2))
 else some (zExpr,fl s)
def stepE (f:Nat->PM Expr) (q:PM Query) (lv:Nat):PM Expr:=fun s=>
 if lv=3 then (if aw L s 15=true then (match f 3 (adv s) with
  |none=>none
  | some (e,s1)=>some (se 15 e,s1)) else f 4 s)
 else if lv=4 then iP L f q s
 else if lv=8 then (if bt L s 45=true then (match f 8 (adv s) with
  |none=>none
  | some (e,s1)=>some (se 16 e,s1)) else f 9 s)
 else if lv=9 then dk L f q s
 else match f (lv+1) s with
  |none=>none
  |some (e,s1)=>bP L (f (lv+1)) lv (L.length+1) e s1
def asM:PS->ByteArray×PS:=fun s=>if aw L s 12=true then mText L 2 (adv s) else (z0,s)
def dK (s:PS):Bool:=iZ L s 2&&(jp L s 1 5 ⟨#[46]⟩&&jp L s 2 5 ⟨#[42]⟩)
def dF (f:Nat->PM Expr):PM Item:=fun s=>
 if bt L s 42=true then some (.mk true z0 zExpr z0,adv s)
 else if dK L s=true then some (.mk true (bv L s) zExpr z0,adv (adv (adv s)))
 else match f 1 s with
  |none=>none
  |some (e,s1)=>some (.mk false z0 e (asM L s1).1,(asM L s1).2)
def sourceM (s:PS):Source×PS:=(.mk (mText L 2 s).1 (asM L (mText L 2 s).2).1 [],(asM L (mText L 2 s).2).2)
def Source.withOn:Source->List Expr->Source | .mk t a _,on=>.mk t a on
def bE (f:Nat->PM Expr):Nat->List Source->PM (List Source)
 |0,_,_=>none
 |n+1,l,s=>
  if bt L s 44=true then bE f n (l++[(sourceM L (adv s)).1]) (sourceM L (adv s)).2
  else if aw L s 4=true then
   let s2:=(sourceM L (adv s)).2
   (match f 1 (must (aw L s2 5) s2) with
   |none=>none
   | some (e,s3)=>bE f n (l++[(sourceM L (adv s)).1.withOn [e]]) s3)
  else some (l,s)
def dL (f:Nat->PM Expr):PM (List Expr):=fun s=>if aw L s 6=true then (match f 1 (adv s) with
 |none=>none
 | some (e,s1)=>some ([e],s1)) else some ([],s)
def dV (f:Nat->PM Expr):PM SortKey:=fun s=>match f 1 s with
 |none=>none
 |some (e,s1)=>if aw L s1 9=true then some (.mk e false,adv s1) else some (.mk e (aw L s1 10),tkIf (aw L s1 10) s1)
def dY (f:Nat->PM Expr):PM (List SortKey):=fun s=>if aw L s 7=true then
 let s1:=must (aw L (adv s) 8) (adv s)
 (match dV L f s1 with
 |none=>none
 | some (x,s2)=>f9 L (dV L f) (L.length+1) [x] s2) else some ([],s)
def limitM (s:PS):Int×PS:=if aw L s 11=true then mNum L (adv s) else (-1,s)
def eu (f:Nat->PM Expr):PM (List Item):=fun s=>match dF L f s with
 |none=>none
 |some (x,s1)=>f9 L (dF L f) (L.length+1) [x] s1
def stepQ (f:Nat->PM Expr):PM Query:=fun s=>
 let s1:=must (aw L s 1) s
 let d:=aw L s1 2
 match eu L f (tkIf d s1) with
 |none=>none
 |some (its,s2)=>
  let s3:=must (aw L s2 3) s2
  match bE L f (L.length+1) [(sourceM L s3).1] (sourceM L s3).2 with
  |none=>none
  |some (frs,s4)=>match dL L f s4 with
   |none=>none
   |some (wh,s5)=>match dY L f s5 with
    |none=>none
    |some (ord,s6)=>some (.mk d its frs wh ord (limitM L s6).1,(limitM L s6).2)
def pP:Nat->(Nat->PM Expr)×PM Query
 |0=>(fun _ _=>none,fun _=>none)
 |k+1=>(stepE L (pP k).1 (pP k).2,stepQ L (pP k).1)
end
section
variable (L:List Tok)
def Ok (s s':PS):Prop:=s.a<=s'.a/\(s.a<=L.length->s'.a<=L.length)/\(s.b=true->s'=s)
theorem Ok.refl (s:PS):Ok L s s:=⟨Nat.le_refl _,id,fun _=>rfl⟩
variable {L}
theorem Ok.trans {a b c:PS} (h:Ok L a b) (k:Ok L b c):Ok L a c:=⟨Nat.le_trans h.1 k.1,fun e=>k.2.1 (h.2.1 e),fun e=>by have:=h.2.2 e;subst this;exact k.2.2 e⟩
theorem yV {s:PS} {k:Nat} {t:Tok} (h:gK L s k=some t):s.b=false/\s.a+k<L.length:=by
 unfold gK at h
 split at h
 ·cases h
 ·rename_i hb
  exact⟨by simpa using hb,(List.getElem?_eq_some_iff.1 h).1⟩
theorem mU {s:PS} {k:Nat} {kind:Int} {x:ByteArray} (h:jp L s k kind x=true):s.b=false/\s.a+k<L.length:=by
 unfold jp at h
 split at h
 ·rename_i t ht;exact yV ht
 ·cases h
theorem gL {s:PS} {kind:Int} (h:iZ L s kind=true):s.b=false/\s.a<L.length:=by
 unfold iZ at h
 split at h
 ·rename_i t ht;exact yV ht
 ·cases h
theorem aA {s:PS} {k:Nat} (h:aw L s k=true):s.b=false/\s.a<L.length:=mU h
theorem aK {s:PS} {c:UInt8} (h:bt L s c=true):s.b=false/\s.a<L.length:=mU h
theorem yW {s:PS}:∀ {l:List Nat},fI L s l≠0->s.b=false/\s.a<L.length
 | [],h=>absurd rfl h
 |op::r,h=>by
  unfold fI at h
  split at h
  ·rename_i hh;exact mU hh
  ·exact yW h
theorem du {s:PS} {lv:Nat} (h:¬cn L s lv=0):s.b=false/\s.a<L.length:=yW h
theorem Ok.adv {s:PS} (h:s.b=false/\s.a<L.length):Ok L s (adv s):=⟨by simp [Go.Proofs.YtbodcedhmccenaaGreatDoor.adv],fun _=>by simp [Go.Proofs.YtbodcedhmccenaaGreatDoor.adv];omega,fun e=>by rw[h.1] at e;cases e⟩
theorem Ok.fl (s:PS):Ok L s (fl s):=⟨Nat.le_refl _,id,fun e=>by cases s;simp only at e;subst e;rfl⟩
theorem Ok.must {s:PS} {c:Bool} (h:c=true->s.b=false/\s.a<L.length):Ok L s (must c s):=by
 unfold Go.Proofs.YtbodcedhmccenaaGreatDoor.must
 split
 ·rename_i hc;exact Ok.adv (h hc)
 ·exact Ok.fl s
theorem Ok.tkIf {s:PS} {c:Bool} (h:c=true->s.b=false/\s.a<L.length):Ok L s (tkIf c s):=by
 unfold Go.Proofs.YtbodcedhmccenaaGreatDoor.tkIf
 split
 ·rename_i hc;exact Ok.adv (h hc)
 ·exact Ok.refl L s
theorem Ok.mText (kind:Int) (s:PS):Ok L s (mText L kind s).2:=by
 unfold Go.Proofs.YtbodcedhmccenaaGreatDoor.mText
 split
 ·rename_i hc;exact Ok.adv (gL hc)
 ·exact Ok.fl s
theorem Ok.mNum (s:PS):Ok L s (mNum L s).2:=Ok.mText 3 s
theorem Ok.asM (s:PS):Ok L s (asM L s).2:=by
 unfold Go.Proofs.YtbodcedhmccenaaGreatDoor.asM
 split
 ·rename_i hc;exact (Ok.adv (aA hc)).trans (Ok.mText 2 _)
 ·exact Ok.refl L s
theorem Ok.sourceM (s:PS):Ok L s (sourceM L s).2:=(Ok.mText 2 s).trans (Ok.asM _)
theorem Ok.limitM (s:PS):Ok L s (limitM L s).2:=by
 unfold Go.Proofs.YtbodcedhmccenaaGreatDoor.limitM
 split
 ·rename_i hc;exact (Ok.adv (aA hc)).trans (Ok.mNum _)
 ·exact Ok.refl L s
def OkM {α:Type} (m:PM α):Prop:=∀s x s',m s=some (x,s')->Ok L s s'
variable {f:Nat->PM Expr} {q:PM Query}
theorem OkM.chain {g:PM Expr} (hg:OkM (L:=L) g) (lv:Nat):∀(n:Nat) (e:Expr),OkM (L:=L) (bP L g lv n e)
 |0,_,_,_,_,h=>by cases h
 |n+1,e,s,x,s',h=>by
  rw[bP] at h
  split at h
  ·injection h with h;injection h with _ h;subst h;exact Ok.refl L s
  ·rename_i ho
   split at h
   ·cases h
   ·rename_i y s1 h1
    exact (Ok.adv (du ho)).trans ((hg _ _ _ h1).trans (OkM.chain hg lv n _ _ _ _ h))
theorem OkM.sep {α:Type} {g:PM α} (hg:OkM (L:=L) g):∀(n:Nat) (l:List α),OkM (L:=L) (f9 L g n l)
 |0,_,_,_,_,h=>by cases h
 |n+1,l,s,x,s',h=>by
  rw[f9] at h
  split at h
  ·rename_i hc
   split at h
   ·cases h
   ·rename_i y s1 h1
    exact (Ok.adv (aK hc)).trans ((hg _ _ _ h1).trans (OkM.sep hg n _ _ _ _ h))
  ·injection h with h;injection h with _ h;subst h;exact Ok.refl L s
theorem OkM.ors (hf:∀lv,OkM (L:=L) (f lv)):OkM (L:=L) (kd L f):=fun s x s' h=>by
 unfold kd at h
 split at h
 ·cases h
 ·rename_i y s1 h1
  exact (hf 1 _ _ _ h1).trans (OkM.sep (hf 1) _ _ _ _ _ h)
theorem OkM.inn (hf:∀lv,OkM (L:=L) (f lv)) (hq:OkM (L:=L) q) (e:Expr) (n:Bool):OkM (L:=L) (sf L f q e n):=fun s x s' h=>by
 unfold sf at h
 have h0:Ok L s (must (bt L s 40) s):=Ok.must fun h=>aK h
 simp only at h
 split at h
 ·split at h
  ·cases h
  ·rename_i y s1 h1
   injection h with h;injection h with _ h;subst h
   exact h0.trans ((hq _ _ _ h1).trans (Ok.must fun h=>aK h))
 ·split at h
  ·cases h
  ·rename_i y s1 h1
   injection h with h;injection h with _ h;subst h
   exact h0.trans ((OkM.ors hf _ _ _ h1).trans (Ok.must fun h=>aK h))
theorem OkM.cmpT (hf:∀lv,OkM (L:=L) (f lv)) (hq:OkM (L:=L) q) (e:Expr):OkM (L:=L) (cmpT L f q e):=fun s x s' h=>by
 unfold Go.Proofs.YtbodcedhmccenaaGreatDoor.cmpT at h
 simp only at h
 split at h
 ·rename_i hc
  injection h with h;injection h with _ h;subst h
  exact (Ok.adv (aA hc)).trans ((Ok.tkIf fun h=>aA h).trans (Ok.must fun h=>aA h))
 ·have h0:Ok L s (tkIf (aw L s 15) s):=Ok.tkIf fun h=>aA h
  split at h
  ·rename_i hc
   split at h
   ·cases h
   ·rename_i y s1 h1
    split at h
    ·cases h
    ·rename_i z s2 h2
     injection h with h;injection h with _ h;subst h
     exact h0.trans ((Ok.adv (aA hc)).trans ((hf 5 _ _ _ h1).trans ((Ok.must fun h=>aA h).trans (hf 5 _ _ _ h2))))
  ·split at h
   ·rename_i hc
    exact h0.trans ((Ok.adv (aA hc)).trans (OkM.inn hf hq e _ _ _ _ h))
   ·injection h with h;injection h with _ h;subst h
    refine h0.trans ⟨Nat.le_refl _,id,fun e=>?_⟩
    generalize tkIf (aw L s 15) s=u at *
    cases u;simp only at e;subst e;rfl
theorem OkM.cmp (hf:∀lv,OkM (L:=L) (f lv)) (hq:OkM (L:=L) q):OkM (L:=L) (iP L f q):=fun s x s' h=>by
 unfold iP at h
 split at h
 ·cases h
 ·rename_i y s1 h1
  split at h
  ·exact (hf 5 _ _ _ h1).trans (OkM.cmpT hf hq _ _ _ _ h)
  ·rename_i ho
   split at h
   ·cases h
   ·rename_i z s2 h2
    injection h with h;injection h with _ h;subst h
    exact (hf 5 _ _ _ h1).trans ((Ok.adv (du ho)).trans (hf 5 _ _ _ h2))
theorem OkM.prim (hf:∀lv,OkM (L:=L) (f lv)) (hq:OkM (L:=L) q):OkM (L:=L) (dk L f q):=fun s x s' h=>by
 unfold dk at h
 simp only at h
 split at h
 ·rename_i hc;injection h with h;injection h with _ h;subst h;exact Ok.adv (gL hc)
 split at h
 ·rename_i hc;injection h with h;injection h with _ h;subst h;exact Ok.adv (gL hc)
 split at h
 ·rename_i hc;injection h with h;injection h with _ h;subst h;exact Ok.adv (aA hc)
 split at h
 ·rename_i hc;injection h with h;injection h with _ h;subst h;exact Ok.adv (aA hc)
 split at h
 ·rename_i hc;injection h with h;injection h with _ h;subst h;exact Ok.adv (aA hc)
 split at h
 ·rename_i hc
  split at h
  ·rename_i hd;injection h with h;injection h with _ h;subst h;exact (Ok.adv (gL hc)).trans ((Ok.adv (aK hd)).trans (Ok.mText 2 _))
  ·injection h with h;injection h with _ h;subst h;exact Ok.adv (gL hc)
 split at h
 ·rename_i hc
  split at h
  ·cases h
  ·rename_i y s1 h1
   injection h with h;injection h with _ h;subst h
   exact (Ok.adv (aK hc)).trans ((hf 1 _ _ _ h1).trans (Ok.must fun h=>aK h))
 split at h
 ·rename_i hc
  split at h
  ·cases h
  ·rename_i y s1 h1
   injection h with h;injection h with _ h;subst h
   exact (Ok.adv (aA hc)).trans ((Ok.must fun h=>aK h).trans ((hq _ _ _ h1).trans (Ok.must fun h=>aK h)))
 ·injection h with h;injection h with _ h;subst h;exact Ok.fl s
theorem OkM.stepE (hf:∀lv,OkM (L:=L) (f lv)) (hq:OkM (L:=L) q) (lv:Nat):OkM (L:=L) (stepE L f q lv):=fun s x s' h=>by
 unfold Go.Proofs.YtbodcedhmccenaaGreatDoor.stepE at h
 split at h
 ·split at h
  ·rename_i hc
   split at h
   ·cases h
   ·rename_i y s1 h1
    injection h with h;injection h with _ h;subst h
    exact (Ok.adv (aA hc)).trans (hf 3 _ _ _ h1)
  ·exact hf 4 _ _ _ h
 split at h
 ·exact OkM.cmp hf hq _ _ _ h
 split at h
 ·split at h
  ·rename_i hc
   split at h
   ·cases h
   ·rename_i y s1 h1
    injection h with h;injection h with _ h;subst h
    exact (Ok.adv (aK hc)).trans (hf 8 _ _ _ h1)
  ·exact hf 9 _ _ _ h
 split at h
 ·exact OkM.prim hf hq _ _ _ h
 ·split at h
  ·cases h
  ·rename_i y s1 h1
   exact (hf _ _ _ _ h1).trans (OkM.chain (hf _) lv _ _ _ _ _ h)
theorem qL {s:PS} (h:dK L s=true):s.b=false/\s.a+2<L.length:=by
 unfold dK at h
 simp only[Bool.and_eq_true] at h
 exact mU h.2.2
theorem OkM.item (hf:∀lv,OkM (L:=L) (f lv)):OkM (L:=L) (dF L f):=fun s x s' h=>by
 unfold dF at h
 split at h
 ·rename_i hc;injection h with h;injection h with _ h;subst h;exact Ok.adv (aK hc)
 split at h
 ·rename_i hc;injection h with h;injection h with _ h;subst h
  have:=qL hc
  have a1:Ok L s (adv s):=Ok.adv ⟨this.1,aa⟩
  have a2:Ok L (adv s) (adv (adv s)):=Ok.adv ⟨this.1,show s.a+1 < _ by omega⟩
  have a3:Ok L (adv (adv s)) (adv (adv (adv s))):=Ok.adv ⟨this.1,show s.a+1+1 < _ by omega⟩
  exact a1.trans (a2.trans a3)
 split at h
 ·cases h
 ·rename_i y s1 h1
  injection h with h;injection h with _ h;subst h
  exact (hf 1 _ _ _ h1).trans (Ok.asM _)
theorem OkM.sources (hf:∀lv,OkM (L:=L) (f lv)):∀(n:Nat) (l:List Source),OkM (L:=L) (bE L f n l)
 |0,_,_,_,_,h=>by cases h
 |n+1,l,s,x,s',h=>by
  rw[bE] at h
  split at h
  ·rename_i hc
   exact (Ok.adv (aK hc)).trans ((Ok.sourceM _).trans (OkM.sources hf n _ _ _ _ h))
  simp only at h
  split at h
  ·rename_i hc
   split at h
   ·cases h
   ·rename_i y s1 h1
    exact (Ok.adv (aA hc)).trans ((Ok.sourceM _).trans ((Ok.must fun h=>aA h).trans ((hf 1 _ _ _ h1).trans (OkM.sources hf n _ _ _ _ h))))
  ·injection h with h;injection h with _ h;subst h;exact Ok.refl L s
theorem OkM.wher (hf:∀lv,OkM (L:=L) (f lv)):OkM (L:=L) (dL L f):=fun s x s' h=>by
 unfold dL at h
 split at h
 ·rename_i hc
  split at h
  ·cases h
  ·rename_i y s1 h1
   injection h with h;injection h with _ h;subst h
   exact (Ok.adv (aA hc)).trans (hf 1 _ _ _ h1)
 ·injection h with h;injection h with _ h;subst h;exact Ok.refl L s
theorem OkM.sort (hf:∀lv,OkM (L:=L) (f lv)):OkM (L:=L) (dV L f):=fun s x s' h=>by
 unfold dV at h
 split at h
 ·cases h
 ·rename_i y s1 h1
  split at h
  ·rename_i hc;injection h with h;injection h with _ h;subst h
   exact (hf 1 _ _ _ h1).trans (Ok.adv (aA hc))
  ·injection h with h;injection h with _ h;subst h
   exact (hf 1 _ _ _ h1).trans (Ok.tkIf fun h=>aA h)
theorem OkM.order (hf:∀lv,OkM (L:=L) (f lv)):OkM (L:=L) (dY L f):=fun s x s' h=>by
 unfold dY at h
 simp only at h
 split at h
 ·rename_i hc
  split at h
  ·cases h
  ·rename_i y s1 h1
   exact (Ok.adv (aA hc)).trans ((Ok.must fun h=>aA h).trans ((OkM.sort hf _ _ _ h1).trans (OkM.sep (OkM.sort hf) _ _ _ _ _ h)))
 ·injection h with h;injection h with _ h;subst h;exact Ok.refl L s
theorem OkM.items (hf:∀lv,OkM (L:=L) (f lv)):OkM (L:=L) (eu L f):=fun s x s' h=>by
 unfold eu at h
 split at h
 ·cases h
 ·rename_i y s1 h1
  exact (OkM.item hf _ _ _ h1).trans (OkM.sep (OkM.item hf) _ _ _ _ _ h)
theorem OkM.stepQ (hf:∀lv,OkM (L:=L) (f lv)):OkM (L:=L) (stepQ L f):=fun s x s' h=>by
 unfold Go.Proofs.YtbodcedhmccenaaGreatDoor.stepQ at h
 simp only at h
 split at h
 ·cases h
 rename_i its s2 h1
 split at h
 ·cases h
 rename_i frs s4 h2
 split at h
 ·cases h
 rename_i wh s5 h3
 split at h
 ·cases h
 rename_i od s6 h4
 injection h with h;injection h with _ h;subst h
 exact (Ok.must fun h=>aA h).trans ((Ok.tkIf fun h=>aA h).trans ((OkM.items hf _ _ _ h1).trans ((Ok.must fun h=>aA h).trans ((Ok.sourceM _).trans ((OkM.sources hf _ _ _ _ _ h2).trans ((OkM.wher hf _ _ _ h3).trans ((OkM.order hf _ _ _ h4).trans (Ok.limitM _))))))))
theorem kF:∀k,(∀lv,OkM (L:=L) ((pP L k).1 lv))/\OkM (L:=L) (pP L k).2
 |0=>⟨fun _ _ _ _ h=>(by cases h),fun _ _ _ h=>(by cases h)⟩
 |k+1=>⟨fun lv=>OkM.stepE (kF k).1 (kF k).2 lv,OkM.stepQ (kF k).1⟩
end
section
variable {L:List Tok}
abbrev rm (L:List Tok) (s:PS):Nat:=L.length-s.a
def Df {α:Type} (m:PM α) (s:PS):Prop:=∃x s',m s=some (x,s')
theorem gb {s:PS} (h:s.b=false/\s.a<L.length):rm L (adv s)<rm L s:=by show L.length-(s.a+1)<L.length-s.a;omega
theorem Ok.rm {s s':PS} (h:Ok L s s'):rm L s'<=rm L s:=by have:=h.1;show L.length-s'.a<=L.length-s.a;omega
variable {f:Nat->PM Expr} {q:PM Query}
theorem qM {g:PM Expr} {R lv:Nat} (hk:OkM (L:=L) g) (hg:∀s,rm L s<R->Df g s):∀(n:Nat) (e:Expr) (s:PS),rm L s<=R->rm L s<n->Df (bP L g lv n e) s
 |0,_,_,_,h=>absurd h (Nat.not_lt_zero _)
 |n+1,e,s,h,h'=>by
  unfold Df
  rw[bP]
  split
  ·exact⟨_,_,rfl⟩
  ·rename_i ho
   have ha:=gb (du ho)
   obtain⟨x,s1,h1⟩:=hg (adv s) aa
   have:=(hk _ _ _ h1).rm
   rw[h1]
   exact qM hk hg n _ s1 aa aa
theorem ua {α:Type} {g:PM α} {R:Nat} (hk:OkM (L:=L) g) (hg:∀s,rm L s<R->Df g s):∀(n:Nat) (l:List α) (s:PS),rm L s<=R->rm L s<n->Df (f9 L g n l) s
 |0,_,_,_,h=>absurd h (Nat.not_lt_zero _)
 |n+1,l,s,h,h'=>by
  unfold Df
  rw[f9]
  split
  ·rename_i ho
   have ha:=gb (aK ho)
   obtain⟨x,s1,h1⟩:=hg (adv s) aa
   have:=(hk _ _ _ h1).rm
   rw[h1]
   exact ua hk hg n _ s1 aa aa
  ·exact⟨_,_,rfl⟩
theorem vA (s:PS):rm L s<L.length+1:=by show L.length-s.a < _;omega
section
variable (hk:∀lv,OkM (L:=L) (f lv)) (hkq:OkM (L:=L) q) {R:Nat} (hf:∀lv,1<=lv->lv<=9->∀s,rm L s<R->Df (f lv) s) (hq:∀s,rm L s<R->Df q s)
include hk hf
theorem H5 {s:PS} (h:rm L s<R):Df (kd L f) s:=by
 obtain⟨x,s1,h1⟩:=hf 1 aa aa s h
 have:=(hk 1 _ _ _ h1).rm
 unfold Df kd
 rw[h1]
 exact ua (hk 1) (hf 1 aa aa) _ _ s1 aa (vA s1)
include hkq hq
theorem IE {s:PS} (e:Expr) (n:Bool) (h:rm L s<R):Df (sf L f q e n) s:=by
 unfold Df sf
 simp only
 have h0:Ok L s (must (bt L s 40) s):=Ok.must fun h=>aK h
 have:=h0.rm
 split
 ·obtain⟨x,s1,h1⟩:=hq (must (bt L s 40) s) aa
  rw[h1];exact⟨_,_,rfl⟩
 ·obtain⟨x,s1,h1⟩:=H5 hk hf (s:=must (bt L s 40) s) aa
  rw[h1];exact⟨_,_,rfl⟩
theorem Ew {s:PS} (e:Expr) (h:rm L s<=R):Df (cmpT L f q e) s:=by
 unfold Df cmpT
 simp only
 split
 ·exact⟨_,_,rfl⟩
 have h0:Ok L s (tkIf (aw L s 15) s):=Ok.tkIf fun h=>aA h
 have h0':=h0.rm
 split
 ·rename_i hc
  have ha:=gb (aA hc)
  obtain⟨x,s1,h1⟩:=hf 5 aa aa _ (by omega:rm L (adv (tkIf (aw L s 15) s))<R)
  have h2:=(hk 5 _ _ _ h1).rm
  rw[h1]
  have h3:Ok L s1 (must (aw L s1 13) s1):=Ok.must fun h=>aA h
  have h4:=h3.rm
  obtain⟨y,s2,h5⟩:=hf 5 aa aa _ (by omega:rm L (must (aw L s1 13) s1)<R)
  simp only[h5]
  exact⟨_,_,rfl⟩
 split
 ·rename_i hc
  have ha:=gb (aA hc)
  exact IE hk hkq hf hq e _ aa
 ·exact⟨_,_,rfl⟩
theorem Ex {s:PS} (h:rm L s<=R):Df (dk L f q) s:=by
 unfold Df dk
 simp only
 split
 ·exact⟨_,_,rfl⟩
 split
 ·exact⟨_,_,rfl⟩
 split
 ·exact⟨_,_,rfl⟩
 split
 ·exact⟨_,_,rfl⟩
 split
 ·exact⟨_,_,rfl⟩
 split
 ·split<;>exact⟨_,_,rfl⟩
 split
 ·rename_i hc
  have ha:=gb (aK hc)
  obtain⟨x,s1,h1⟩:=hf 1 aa aa _ (by omega:rm L (adv s)<R)
  rw[h1];exact⟨_,_,rfl⟩
 split
 ·rename_i hc
  have ha:=gb (aA hc)
  have h3:Ok L (adv s) (must (bt L (adv s) 40) (adv s)):=Ok.must fun h=>aK h
  have h4:=h3.rm
  obtain⟨x,s1,h1⟩:=hq (must (bt L (adv s) 40) (adv s)) aa
  rw[h1];exact⟨_,_,rfl⟩
 ·exact⟨_,_,rfl⟩
theorem BT {s:PS} {lv:Nat} (h:rm L s<=R) (hlv:lv<=9) (hn:lv≠9->Df (f (lv+1)) s):Df (stepE L f q lv) s:=by
 unfold Df stepE
 split
 ·rename_i e;subst e
  split
  ·rename_i hc
   have ha:=gb (aA hc)
   obtain⟨x,s1,h1⟩:=hf 3 aa aa _ (by omega:rm L (adv s)<R)
   rw[h1];exact⟨_,_,rfl⟩
  ·exact hn aa
 split
 ·rename_i e;subst e
  unfold iP
  obtain⟨x,s1,h1⟩:=hn aa
  have h2:=(hk 5 _ _ _ h1).rm
  simp only[h1]
  split
  ·exact Ew hk hkq hf hq _ aa
  ·rename_i ho
   have ha:=gb (du ho)
   obtain⟨y,s2,h3⟩:=hf 5 aa aa _ (by omega:rm L (adv s1)<R)
   rw[h3];exact⟨_,_,rfl⟩
 split
 ·rename_i e;subst e
  split
  ·rename_i hc
   have ha:=gb (aK hc)
   obtain⟨x,s1,h1⟩:=hf 8 aa aa _ (by omega:rm L (adv s)<R)
   rw[h1];exact⟨_,_,rfl⟩
  ·exact hn aa
 split
 ·exact Ex hk hkq hf hq h
 ·rename_i e9
  obtain⟨x,s1,h1⟩:=hn e9
  have h2:=(hk _ _ _ _ h1).rm
  rw[h1]
  exact qM (hk _) (fun s' hs'=>hf _ aa aa s' hs') _ _ s1 aa (vA s1)
end
section
variable (hk:∀lv,OkM (L:=L) (f lv)) {R:Nat} (hf:∀s,rm L s<=R->Df (f 1) s)
include hk hf
theorem yX {s:PS} (h:rm L s<=R):Df (dF L f) s:=by
 unfold Df dF
 split
 ·exact⟨_,_,rfl⟩
 split
 ·exact⟨_,_,rfl⟩
 obtain⟨x,s1,h1⟩:=hf s h
 rw[h1];exact⟨_,_,rfl⟩
theorem mV:∀(n:Nat) (l:List Source) (s:PS),rm L s<=R->rm L s<n->Df (bE L f n l) s
 |0,_,_,_,h=>absurd h (Nat.not_lt_zero _)
 |n+1,l,s,h,h'=>by
  unfold Df
  rw[bE]
  split
  ·rename_i ho
   have ha:=gb (aK ho)
   have hb:=(Ok.sourceM (L:=L) (adv s)).rm
   exact mV n _ _ aa aa
  simp only
  split
  ·rename_i ho
   have ha:=gb (aA ho)
   have hb:=(Ok.sourceM (L:=L) (adv s)).rm
   have h3:Ok L (sourceM L (adv s)).2 (must (aw L (sourceM L (adv s)).2 5) (sourceM L (adv s)).2):=Ok.must fun h=>aA h
   have h4:=h3.rm
   obtain⟨x,s1,h1⟩:=hf _ (by omega:rm L (must (aw L (sourceM L (adv s)).2 5) (sourceM L (adv s)).2)<=R)
   have h5:=(hk 1 _ _ _ h1).rm
   rw[h1]
   exact mV n _ s1 aa aa
  ·exact⟨_,_,rfl⟩
theorem BU {s:PS} (h:rm L s<=R):Df (dL L f) s:=by
 unfold Df dL
 split
 ·rename_i hc
  have ha:=gb (aA hc)
  obtain⟨x,s1,h1⟩:=hf (adv s) aa
  rw[h1];exact⟨_,_,rfl⟩
 ·exact⟨_,_,rfl⟩
theorem yY {s:PS} (h:rm L s<=R):Df (dV L f) s:=by
 unfold Df dV
 obtain⟨x,s1,h1⟩:=hf s h
 simp only[h1]
 split<;>exact⟨_,_,rfl⟩
theorem BV {s:PS} (h:rm L s<=R):Df (dY L f) s:=by
 unfold Df dY
 simp only
 split
 ·rename_i hc
  have ha:=gb (aA hc)
  have h3:Ok L (adv s) (must (aw L (adv s) 8) (adv s)):=Ok.must fun h=>aA h
  have h4:=h3.rm
  obtain⟨x,s1,h1⟩:=yY hk hf (s:=must (aw L (adv s) 8) (adv s)) aa
  have h5:=(OkM.sort hk _ _ _ h1).rm
  rw[h1]
  exact ua (R:=R) (OkM.sort hk) (fun s' hs'=>yY hk hf aa) _ _ s1 aa (vA s1)
 ·exact⟨_,_,rfl⟩
theorem BW {s:PS} (h:rm L s<=R):Df (eu L f) s:=by
 unfold Df eu
 obtain⟨x,s1,h1⟩:=yX hk hf h
 have h5:=(OkM.item hk _ _ _ h1).rm
 rw[h1]
 exact ua (R:=R) (OkM.item hk) (fun s' hs'=>yX hk hf aa) _ _ s1 aa (vA s1)
theorem BX {s:PS} (h:rm L s<=R):Df (stepQ L f) s:=by
 unfold Df stepQ
 simp only
 have k1:Ok L s (must (aw L s 1) s):=Ok.must fun h=>aA h
 have k2:Ok L (must (aw L s 1) s) (tkIf (aw L (must (aw L s 1) s) 2) (must (aw L s 1) s)):=Ok.tkIf fun h=>aA h
 have k3:=(k1.trans k2).rm
 obtain⟨its,s2,h1⟩:=BW hk hf (s:=tkIf (aw L (must (aw L s 1) s) 2) (must (aw L s 1) s)) aa
 have h2:=(OkM.items hk _ _ _ h1).rm
 simp only[h1]
 have k4:Ok L s2 (must (aw L s2 3) s2):=Ok.must fun h=>aA h
 have k5:=(k4.trans (Ok.sourceM _)).rm
 obtain⟨frs,s4,h3⟩:=mV hk hf (L.length+1) [(sourceM L (must (aw L s2 3) s2)).1] (sourceM L (must (aw L s2 3) s2)).2 aa (vA _)
 have h4:=(OkM.sources hk _ _ _ _ _ h3).rm
 simp only[h3]
 obtain⟨wh,s5,h5⟩:=BU hk hf (s:=s4) aa
 have h6:=(OkM.wher hk _ _ _ h5).rm
 simp only[h5]
 obtain⟨od,s6,h7⟩:=BV hk hf (s:=s5) aa
 simp only[h7]
 exact⟨_,_,rfl⟩
end
theorem BZ:∀k,(∀lv,1<=lv->lv<=9->∀s,16*rm L s+10<=k+lv->Df ((pP L k).1 lv) s)/\(∀s,16*rm L s+11<=k->Df (pP L k).2 s)
 |0=>⟨fun lv _ h2 s h=>by omega,fun s h=>by omega⟩
 |k+1=>by
  obtain⟨i1,i2⟩:=BZ k
  obtain⟨o1,o2⟩:=kF (L:=L) k
  refine⟨fun lv h1 h2 s h=>?_,fun s h=>?_⟩
  ·exact BT o1 o2 (R:=rm L s) (fun lv' a b s' hs=>i1 lv' a b s' aa) (fun s' hs=>i2 s' aa) (Nat.le_refl _) h2 (fun hn=>i1 _ aa aa s aa)
  ·exact BX o1 (R:=rm L s) (fun s' hs=>i1 1 aa aa s' aa) (Nat.le_refl _)
def pD (L:List Tok):Nat:=16*L.length+16
def bM (L:List Tok):Nat->PM Expr:=(pP L (pD L)).1
def ey (L:List Tok):PM Query:=(pP L (pD L)).2
theorem vB (lv:Nat) (h1:1<=lv) (h2:lv<=9) (s:PS):Df (bM L lv) s:=(BZ (pD L)).1 lv h1 h2 s (by unfold pD rm;omega)
theorem jw (s:PS):Df (ey L) s:=(BZ (pD L)).2 s (by unfold pD rm;omega)
end
def mW (b:UInt8):Bool:=b==32||b==9||b==10||b==13
def bB (b:UInt8):Bool:=jX (b.toNat:Int)
def bX (b:UInt8):Bool:=decide (48<=(b.toNat:Int)/\(b.toNat:Int)<=57)
section
variable (B:List UInt8)
def dv (at_:Nat):Nat:=at_+((B.drop at_).takeWhile fun b=>!(b==10)).length
def mF:Nat->Nat->Option Nat
 |0,_=>none
 |n+1,i=>if B[i]?=some 42/\B[i+1]?=some 47 then some i else if i<B.length then mF n (i+1) else none
def dq:Nat->Nat->Option (Nat×Bool)
 |0,_=>none
 |n+1,i=>match B[i]? with
  |none=>some (i,true)
  |some b=>if mW b=true then dq n (i+1)
   else if b=45/\B[i+1]?=some 45 then dq n (dv B i)
   else if b=47/\B[i+1]?=some 42 then (match mF B (B.length+1) (i+2) with
    |some e=>dq n (e+2)
    | none=>some (i,false))
   else some (i,true)
def aS (i:Nat):Nat:=i+((B.drop i).takeWhile fun b=>bB b||bX b).length
def cN (q:UInt8):Nat->Nat->List UInt8->Option (List UInt8×Nat)
 |0,_,_=>none
 |n+1,i,l=>match B[i]? with
  |none=>none
  |some b=>if b=q then (if B[i+1]?=some q then cN q n (i+2) (l++[q]) else some (l,i+1)) else cN q n (i+1) (l++[b])
def aN (i j:Nat):ByteArray:=⟨((B.drop i).take (j-i)).toArray⟩
def bQ (i:Nat):Nat:=if i+2<=B.length/\cW (aN B i (i+2))=true then i+2 else i+1
def cD (i:Nat) (b:UInt8):Option (Tok×Nat):=
 if bB b=true then
  let x:=aN B i (aS B i)
  some (if key x=0 then ⟨2,x,i⟩ else ⟨1,bW x,i⟩,aS B i)
 else if bX b=true then some (⟨3,aN B i (aS B i),i⟩,aS B i)
 else if b=34 then (cN B 34 (B.length+1) (i+1) []).map fun x=>(⟨2,⟨x.1.toArray⟩,i⟩,x.2)
 else if b=39 then (cN B 39 (B.length+1) (i+1) []).map fun x=>(⟨4,⟨x.1.toArray⟩,i⟩,x.2)
 else some (⟨5,aN B i (bQ B i),i⟩,bQ B i)
def bg (i:Nat) (b:UInt8):Option (Tok×Nat):=match cD B i b with
 |some (t,e)=>if aJ t=true then some (t,e) else none
 |none=>none
def lj:Nat->Nat->List Tok->Option (List Tok ⊕ Nat)
 |0,_,_=>none
 |n+1,i,l=>match dq B (B.length+1) i with
  |none=>none
  |some (p,ok)=>if ok=false then some (.inr p) else match B[p]? with
   |none=>some (.inl l)
   |some b=>match bg B p b with
    |none=>some (.inr p)
    |some (t,e)=>lj n e (l++[t])
end
theorem Gq {α:Type} (p:α->Bool) (l:List α):(l.takeWhile p).length<=l.length:=(List.takeWhile_sublist p).length_le
section
variable {B:List UInt8}
theorem lp (i:Nat):i<=dv B i:=Nat.le_add_right _ _
theorem vC {i:Nat} (h:i<=B.length):dv B i<=B.length:=by
 have:=Gq (fun b=>!(b==10)) (B.drop i)
 rw[List.length_drop] at this
 unfold dv;omega
theorem lq (i:Nat):i<=aS B i:=Nat.le_add_right _ _
theorem nK {i:Nat} (h:i<=B.length):aS B i<=B.length:=by
 have:=Gq (fun b=>bB b||bX b) (B.drop i)
 rw[List.length_drop] at this
 unfold aS;omega
theorem yZ {α:Type} (p:α->Bool) (B:List α) (i:Nat):((B.drop i).takeWhile p).length=(match B[i]? with|some b=>if p b=true then ((B.drop (i+1)).takeWhile p).length+1 else 0|none=>0):=by
 cases h:B[i]? with
 |none=>
  rw[List.drop_eq_nil_of_le (List.getElem?_eq_none_iff.1 h)];rfl
 |some b=>
  obtain⟨hl,rfl⟩:=List.getElem?_eq_some_iff.1 h
  rw[List.drop_eq_getElem_cons hl,List.takeWhile_cons]
  split<;>simp_all
theorem fp (i:Nat):dv B i=(match B[i]? with|some b=>if b=10 then i else dv B (i+1)|none=>i):=by
 unfold dv
 rw[yZ]
 cases B[i]? with
 |none=>rfl
 |some b=>
  by_cases h:b=10
  ·simp [h]
  ·simp [h];omega
theorem im (i:Nat):aS B i=(match B[i]? with|some b=>if (bB b||bX b)=true then aS B (i+1) else i|none=>i):=by
 unfold aS
 rw[yZ]
 cases B[i]? with
 |none=>rfl
 |some b=>
  by_cases h:(bB b||bX b)=true
  ·simp only[h,if_true];omega
  ·simp only[h];rfl
theorem ke:∀ {n i e:Nat},mF B n i=some e->i<=e/\e+1<B.length
 |0,_,_,h=>by cases h
 |n+1,i,e,h=>by
  rw[mF] at h
  split at h
  ·rename_i hc
   injection h with h;subst h
   exact⟨Nat.le_refl _,(List.getElem?_eq_some_iff.1 hc.2).1⟩
  ·split at h
   ·have:=ke h;omega
   ·cases h
theorem fv:∀(n i:Nat),i<=B.length->B.length-i<n->∃p ok,dq B n i=some (p,ok)/\i<=p/\p<=B.length
 |0,_,_,h=>absurd h (Nat.not_lt_zero _)
 |n+1,i,hi,h=>by
  rw[dq]
  cases hb:B[i]? with
  |none=>exact⟨i,true,rfl,Nat.le_refl _,hi⟩
  |some b=>
   have hlt:i<B.length:=(List.getElem?_eq_some_iff.1 hb).1
   simp only
   split
   ·obtain⟨p,ok,h1,h2,h3⟩:=fv n (i+1) aa aa
    exact⟨p,ok,h1,aa,h3⟩
   split
   ·rename_i hc
    have h10:¬b=10:=by rw[hc.1];decide
    have e1:=fp (B:=B) i
    rw[hb] at e1
    simp only[h10,if_false] at e1
    have g1:=lp (B:=B) (i+1)
    have g2:=vC (B:=B) (i:=i+1) aa
    obtain⟨p,ok,h1,h2,h3⟩:=fv n (dv B i) aa aa
    exact⟨p,ok,h1,aa,h3⟩
   split
   ·rename_i hc
    cases he:mF B (B.length+1) (i+2) with
    |none=>exact⟨i,false,rfl,Nat.le_refl _,hi⟩
    |some e=>
     have:=ke he
     obtain⟨p,ok,h1,h2,h3⟩:=fv n (e+2) aa aa
     exact⟨p,ok,h1,aa,h3⟩
   ·exact⟨i,true,rfl,Nat.le_refl _,hi⟩
theorem dW {q:UInt8}:∀ {n i:Nat} {l:List UInt8} {x:List UInt8} {e:Nat},cN B q n i l=some (x,e)->i<e/\e<=B.length/\x.length+i<l.length+e
 |0,_,_,_,_,h=>by cases h
 |n+1,i,l,x,e,h=>by
  rw[cN] at h
  cases hb:B[i]? with
  |none=>rw[hb] at h;cases h
  |some b=>
   have hlt:i<B.length:=(List.getElem?_eq_some_iff.1 hb).1
   rw[hb] at h
   simp only at h
   split at h
   ·split at h
    ·have:=dW h
     simp only[aC,List.length_cons,List.length_nil] at this;omega
    ·injection h with h;injection h with h1 h2;subst h1;omega
   ·have:=dW h
    simp only[aC,List.length_cons,List.length_nil] at this;omega
theorem sX {i:Nat} (h:i<B.length):i<bQ B i/\bQ B i<=B.length:=by
 unfold bQ
 split<;>omega
theorem xM {i e:Nat} {b:UInt8} {t:Tok} (hb:B[i]?=some b) (h:cD B i b=some (t,e)):i<e/\e<=B.length:=by
 have hlt:i<B.length:=(List.getElem?_eq_some_iff.1 hb).1
 unfold cD at h
 simp only at h
 have run:bB b=true∨bX b=true->i<aS B i/\aS B i<=B.length:=fun hc=>by
  have e1:=im (B:=B) i
  have h1:(bB b||bX b)=true:=by rcases hc with h|h<;>simp [h]
  rw[hb] at e1
  simp only[h1,if_true] at e1
  have:=lq (B:=B) (i+1)
  exact⟨aa,nK aa⟩
 split at h
 ·rename_i hc
  injection h with h;injection h with _ h;subst h
  exact run (.inl hc)
 split at h
 ·rename_i hc
  injection h with h;injection h with _ h;subst h
  exact run (.inr hc)
 split at h
 ·rw[Option.map_eq_some_iff] at h
  obtain⟨⟨x,y⟩,h1,h2⟩:=h
  injection h2 with _ h2;subst h2
  have:=dW h1;omega
 split at h
 ·rw[Option.map_eq_some_iff] at h
  obtain⟨⟨x,y⟩,h1,h2⟩:=h
  injection h2 with _ h2;subst h2
  have:=dW h1;omega
 ·injection h with h;injection h with _ h;subst h
  exact sX hlt
theorem io {i e:Nat} {b:UInt8} {t:Tok} (hb:B[i]?=some b) (h:bg B i b=some (t,e)):i<e/\e<=B.length/\aJ t=true:=by
 unfold bg at h
 split at h
 ·rename_i t' e' hr
  split at h
  ·rename_i ho
   injection h with h;injection h with h1 h2;subst h1 h2
   have:=xM hb hr
   exact⟨this.1,this.2,ho⟩
  ·cases h
 ·cases h
theorem qg:∀(n i:Nat) (l:List Tok),i<=B.length->B.length-i<n->∃r,lj B n i l=some r
 |0,_,_,_,h=>absurd h (Nat.not_lt_zero _)
 |n+1,i,l,hi,h=>by
  rw[lj]
  obtain⟨p,ok,h1,h2,h3⟩:=fv (B:=B) (B.length+1) i hi aa
  rw[h1]
  simp only
  split
  ·exact⟨_,rfl⟩
  cases hb:B[p]? with
  |none=>exact⟨_,rfl⟩
  |some b=>
   simp only
   cases ho:bg B p b with
   |none=>exact⟨_,rfl⟩
   |some x=>
    obtain⟨t,e⟩:=x
    have:=io hb ho
    exact qg n e _ aa aa
theorem sY:∀ {n i:Nat} {l m:List Tok},i<=B.length->lj B n i l=some (.inl m)->(∀t∈l,aJ t=true)->(∀t∈m,aJ t=true)/\m.length<=l.length+(B.length-i)
 |0,_,_,_,_,h,_=>by cases h
 |n+1,i,l,m,hi,h,hl=>by
  rw[lj] at h
  obtain⟨p,ok,h1,h2,h3⟩:=fv (B:=B) (B.length+1) i hi aa
  rw[h1] at h
  simp only at h
  split at h
  ·cases h
  cases hb:B[p]? with
  |none=>rw[hb] at h;injection h with h;injection h with h;subst h;exact⟨hl,aa⟩
  |some b=>
   rw[hb] at h
   simp only at h
   cases ho:bg B p b with
   |none=>rw[ho] at h;cases h
   |some x=>
    obtain⟨t,e⟩:=x
    rw[ho] at h
    have:=io hb ho
    obtain⟨k1,k2⟩:=sY aa h (fun t' ht'=>by
     rcases List.mem_append.1 ht' with h|h
     ·exact hl t' h
     ·rw[List.mem_singleton.1 h];exact this.2.2)
    refine⟨k1,?_⟩
    simp only[aC,List.length_cons,List.length_nil] at k2
    omega
end
def fJ (s:ByteArray):List Tok ⊕ Nat:=if 2000<s.size then .inr 2000 else (lj s.data.toList (s.data.toList.length+1) 0 []).getD (.inr 0)
def zQuery:Query:=.mk false [] [] [] [] 0
def C0:Stmt:=.mk 0 zQuery z0 [] [] [] []
section
variable (L:List Tok)
def kf (s:PS):Int:=if s.b=false/\L.length<=s.a then -1 else s.a
def s0:PS:=⟨0,false⟩
def f7 {α:Type} (z:α):Option (α×PS)->α×Int
 |none=>(z,0)
 |some (x,s)=>if 0<=kf L s then (z,kf L s) else (x,-1)
def bI:Query×Int:=f7 L zQuery (ey L s0)
end
section
variable {L:List Tok} {f:Nat->PM Expr} {q:PM Query}
theorem C1 (lv:Nat):OkM (L:=L) (bM L lv):=(kF (pD L)).1 lv
theorem mj:OkM (L:=L) (ey L):=(kF (pD L)).2
section
variable (hk:∀lv,OkM (L:=L) (f lv)) (hf:∀s,Df (f 1) s)
include hk hf
end
end
section
variable {L:List Tok}
def LeM {α:Type} (m m':PM α):Prop:=∀s r,m s=some r->m' s=some r
theorem LeM.chain {g g':PM Expr} (hg:LeM g g') (lv:Nat):∀(n:Nat) (e:Expr),LeM (bP L g lv n e) (bP L g' lv n e)
 |0,_,_,_,h=>by cases h
 |n+1,e,s,r,h=>by
  rw[bP] at h ⊢
  split at h
  ·rename_i hc;rw[if_pos hc];exact h
  ·rename_i hc
   rw[if_neg hc]
   split at h
   ·cases h
   ·rename_i y s1 h1
    rw[hg _ _ h1]
    exact LeM.chain hg lv n _ _ _ h
theorem qN {g:PM Expr} {lv:Nat}:∀ {n n':Nat} {e:Expr},n<=n'->LeM (bP L g lv n e) (bP L g lv n' e)
 |0,_,_,_,_,_,h=>by cases h
 |n+1,0,_,hn,_,_,_=>absurd hn aa
 |n+1,n'+1,e,hn,s,r,h=>by
  rw[bP] at h ⊢
  split at h
  ·rename_i hc;rw[if_pos hc];exact h
  ·rename_i hc
   rw[if_neg hc]
   split at h
   ·cases h
   ·rename_i y s1 h1
    exact qN aa _ _ h
theorem LeM.sep {α:Type} {g g':PM α} (hg:LeM g g'):∀(n:Nat) (l:List α),LeM (f9 L g n l) (f9 L g' n l)
 |0,_,_,_,h=>by cases h
 |n+1,l,s,r,h=>by
  rw[f9] at h ⊢
  split at h
  ·rename_i hc
   rw[if_pos hc]
   split at h
   ·cases h
   ·rename_i y s1 h1
    rw[hg _ _ h1]
    exact LeM.sep hg n _ _ _ h
  ·rename_i hc;rw[if_neg hc];exact h
variable {f f':Nat->PM Expr} {q q':PM Query} (hf:∀lv,LeM (f lv) (f' lv)) (hq:LeM q q')
include hf
theorem LeM.ors:LeM (kd L f) (kd L f'):=fun s r h=>by
 unfold kd at h ⊢
 split at h
 ·cases h
 ·rename_i y s1 h1
  rw[hf 1 _ _ h1]
  exact LeM.sep (hf 1) _ _ _ _ h
include hq in
theorem LeM.inn (e:Expr) (n:Bool):LeM (sf L f q e n) (sf L f' q' e n):=fun s r h=>by
 unfold sf at h ⊢
 simp only at h ⊢
 split at h
 ·rename_i hc
  rw[if_pos hc]
  split at h
  ·cases h
  ·rename_i y s1 h1
   rw[hq _ _ h1];exact h
 ·rename_i hc
  rw[if_neg hc]
  split at h
  ·cases h
  ·rename_i y s1 h1
   rw[LeM.ors hf _ _ h1];exact h
include hq in
theorem LeM.cmpT (e:Expr):LeM (cmpT L f q e) (cmpT L f' q' e):=fun s r h=>by
 unfold Go.Proofs.YtbodcedhmccenaaGreatDoor.cmpT at h ⊢
 simp only at h ⊢
 split at h
 ·rename_i hc;rw[if_pos hc];exact h
 ·rename_i hc
  rw[if_neg hc]
  split at h
  ·rename_i hd
   rw[if_pos hd]
   split at h
   ·cases h
   ·rename_i y s1 h1
    rw[hf 5 _ _ h1]
    simp only
    split at h
    ·cases h
    ·rename_i z s2 h2
     rw[hf 5 _ _ h2];exact h
  ·rename_i hd
   rw[if_neg hd]
   split at h
   ·rename_i he;rw[if_pos he];exact LeM.inn hf hq _ _ _ _ h
   ·rename_i he;rw[if_neg he];exact h
include hq in
theorem LeM.cmp:LeM (iP L f q) (iP L f' q'):=fun s r h=>by
 unfold iP at h ⊢
 split at h
 ·cases h
 ·rename_i y s1 h1
  rw[hf 5 _ _ h1]
  simp only
  split at h
  ·rename_i hc;rw[if_pos hc];exact LeM.cmpT hf hq _ _ _ h
  ·rename_i hc
   rw[if_neg hc]
   split at h
   ·cases h
   ·rename_i z s2 h2
    rw[hf 5 _ _ h2];exact h
include hq in
theorem LeM.prim:LeM (dk L f q) (dk L f' q'):=fun s r h=>by
 unfold dk at h ⊢
 simp only at h ⊢
 split at h
 ·rename_i hc;rw[if_pos hc];exact h
 rename_i c1
 rw[if_neg c1]
 split at h
 ·rename_i hc;rw[if_pos hc];exact h
 rename_i c2
 rw[if_neg c2]
 split at h
 ·rename_i hc;rw[if_pos hc];exact h
 rename_i c3
 rw[if_neg c3]
 split at h
 ·rename_i hc;rw[if_pos hc];exact h
 rename_i c4
 rw[if_neg c4]
 split at h
 ·rename_i hc;rw[if_pos hc];exact h
 rename_i c5
 rw[if_neg c5]
 split at h
 ·rename_i hc;rw[if_pos hc];exact h
 rename_i c6
 rw[if_neg c6]
 split at h
 ·rename_i hc
  rw[if_pos hc]
  split at h
  ·cases h
  ·rename_i y s1 h1
   rw[hf 1 _ _ h1];exact h
 rename_i c7
 rw[if_neg c7]
 split at h
 ·rename_i hc
  rw[if_pos hc]
  split at h
  ·cases h
  ·rename_i y s1 h1
   rw[hq _ _ h1];exact h
 ·rename_i hc;rw[if_neg hc];exact h
include hq in
theorem LeM.stepE (lv:Nat):LeM (stepE L f q lv) (stepE L f' q' lv):=fun s r h=>by
 unfold Go.Proofs.YtbodcedhmccenaaGreatDoor.stepE at h ⊢
 split at h
 ·rename_i hc
  rw[if_pos hc]
  split at h
  ·rename_i hd
   rw[if_pos hd]
   split at h
   ·cases h
   ·rename_i y s1 h1
    rw[hf 3 _ _ h1];exact h
  ·rename_i hd;rw[if_neg hd];exact hf 4 _ _ h
 rename_i c1
 rw[if_neg c1]
 split at h
 ·rename_i hc;rw[if_pos hc];exact LeM.cmp hf hq _ _ h
 rename_i c2
 rw[if_neg c2]
 split at h
 ·rename_i hc
  rw[if_pos hc]
  split at h
  ·rename_i hd
   rw[if_pos hd]
   split at h
   ·cases h
   ·rename_i y s1 h1
    rw[hf 8 _ _ h1];exact h
  ·rename_i hd;rw[if_neg hd];exact hf 9 _ _ h
 rename_i c3
 rw[if_neg c3]
 split at h
 ·rename_i hc;rw[if_pos hc];exact LeM.prim hf hq _ _ h
 ·rename_i hc
  rw[if_neg hc]
  split at h
  ·cases h
  ·rename_i y s1 h1
   rw[hf _ _ _ h1]
   exact LeM.chain (hf _) _ _ _ _ _ h
theorem LeM.item:LeM (dF L f) (dF L f'):=fun s r h=>by
 unfold dF at h ⊢
 split at h
 ·rename_i hc;rw[if_pos hc];exact h
 rename_i c1
 rw[if_neg c1]
 split at h
 ·rename_i hc;rw[if_pos hc];exact h
 rename_i c2
 rw[if_neg c2]
 split at h
 ·cases h
 ·rename_i y s1 h1
  rw[hf 1 _ _ h1];exact h
theorem LeM.sources:∀(n:Nat) (l:List Source),LeM (bE L f n l) (bE L f' n l)
 |0,_,_,_,h=>by cases h
 |n+1,l,s,r,h=>by
  rw[bE] at h ⊢
  split at h
  ·rename_i hc;rw[if_pos hc];exact LeM.sources n _ _ _ h
  rename_i c1
  rw[if_neg c1]
  simp only at h ⊢
  split at h
  ·rename_i hc
   rw[if_pos hc]
   split at h
   ·cases h
   ·rename_i y s1 h1
    rw[hf 1 _ _ h1]
    exact LeM.sources n _ _ _ h
  ·rename_i hc;rw[if_neg hc];exact h
theorem LeM.wher:LeM (dL L f) (dL L f'):=fun s r h=>by
 unfold dL at h ⊢
 split at h
 ·rename_i hc
  rw[if_pos hc]
  split at h
  ·cases h
  ·rename_i y s1 h1
   rw[hf 1 _ _ h1];exact h
 ·rename_i hc;rw[if_neg hc];exact h
theorem LeM.sort:LeM (dV L f) (dV L f'):=fun s r h=>by
 unfold dV at h ⊢
 split at h
 ·cases h
 ·rename_i y s1 h1
  rw[hf 1 _ _ h1];exact h
theorem LeM.order:LeM (dY L f) (dY L f'):=fun s r h=>by
 unfold dY at h ⊢
 simp only at h ⊢
 split at h
 ·rename_i hc
  rw[if_pos hc]
  split at h
  ·cases h
  ·rename_i y s1 h1
   rw[LeM.sort hf _ _ h1]
   exact LeM.sep (LeM.sort hf) _ _ _ _ h
 ·rename_i hc;rw[if_neg hc];exact h
theorem LeM.items:LeM (eu L f) (eu L f'):=fun s r h=>by
 unfold eu at h ⊢
 split at h
 ·cases h
 ·rename_i y s1 h1
  rw[LeM.item hf _ _ h1]
  exact LeM.sep (LeM.item hf) _ _ _ _ h
theorem LeM.stepQ:LeM (stepQ L f) (stepQ L f'):=fun s r h=>by
 unfold Go.Proofs.YtbodcedhmccenaaGreatDoor.stepQ at h ⊢
 simp only at h ⊢
 split at h
 ·cases h
 rename_i its s2 h1
 rw[LeM.items hf _ _ h1]
 simp only
 split at h
 ·cases h
 rename_i frs s4 h2
 rw[LeM.sources hf _ _ _ _ h2]
 simp only
 split at h
 ·cases h
 rename_i wh s5 h3
 rw[LeM.wher hf _ _ h3]
 simp only
 split at h
 ·cases h
 rename_i od s6 h4
 rw[LeM.order hf _ _ h4]
 exact h
omit hf
theorem nL:∀k,(∀lv,LeM ((pP L k).1 lv) ((pP L (k+1)).1 lv))/\LeM (pP L k).2 (pP L (k+1)).2
 |0=>⟨fun _ _ _ h=>(by cases h),fun _ _ h=>(by cases h)⟩
 |k+1=>⟨fun lv=>LeM.stepE (nL k).1 (nL k).2 lv,LeM.stepQ (nL k).1⟩
theorem Gt {α:Type} {m m':PM α} (h:LeM m m') (s:PS) (hd:Df m s):m' s=m s:=by
 obtain⟨x,s1,h1⟩:=hd
 rw[h1,h _ _ h1]
theorem lr (lv:Nat) (h1:1<=lv) (h2:lv<=9) (s:PS):bM L lv s=stepE L (bM L) (ey L) lv s:=by
 have:=Gt ((nL (L:=L) (pD L)).1 lv) s (vB lv h1 h2 s)
 exact this.symm
theorem AD (s:PS):ey L s=stepQ L (bM L) s:=by
 have:=Gt (nL (L:=L) (pD L)).2 s (jw s)
 exact this.symm
theorem AE {lv lv' n:Nat} {e:Expr} {s:PS} (h1:1<=lv) (h2:lv<=9) (hn:rm L s<n) (hn':n<=L.length+1):bP L (bM L lv) lv' n e s=bP L (bM L lv) lv' (L.length+1) e s:=by
 obtain⟨x,s1,h⟩:=qM (R:=L.length) (lv:=lv') (C1 (L:=L) lv) (fun s _=>vB lv h1 h2 s) n e s (by show L.length-s.a<=_;omega) hn
 rw[h,qN hn' _ _ h]
end
end Go.Proofs.YtbodcedhmccenaaGreatDoor
