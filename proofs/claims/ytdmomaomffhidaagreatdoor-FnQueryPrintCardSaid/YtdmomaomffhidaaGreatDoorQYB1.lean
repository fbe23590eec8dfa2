/-
  The parser's model.
  Conditions: none.
-/
import Derived.Test.YtdmomaomffhidaaGreatDoorQYA
set_option linter.unusedVariables false
set_option linter.unusedSimpArgs false
set_option linter.unusedSectionVars false
set_option linter.unnecessarySimpa false
set_option maxRecDepth 8000
namespace Go.Proofs.YtdmomaomffhidaaGreatDoor
open Go Go.Dv
open Go.Vc (D dm dq cV bq)
def Item.star:Item->Bool | .mk s _ _ _=>s
def Item.e:Item->Expr | .mk _ _ e _=>e
def Source.on:Source->List Expr | .mk _ _ o=>o
def SortKey.e:SortKey->Expr | .mk e _=>e
def aU (l:List Item):List Expr:=(l.filter fun x=>!x.star).map Item.e
def exprsQ:Query->List Expr | .mk _ items from_ where_ order _=>aU items++from_.flatMap Source.on++where_++order.map SortKey.e
theorem pO {l:List Item} {i:Nat} (h:i<l.length):aU (l.take (i+1))=aU (l.take i)++if l[i].star=true then [] else [l[i].e]:=by
 unfold aU
 rw[List.take_succ_eq_append_getElem h,List.filter_append,List.map_append]
 congr 1
 simp only[List.filter_cons,List.filter_nil]
 cases l[i].star<;>rfl
theorem zo {l:List Source} {i:Nat} (h:i<l.length):(l.take (i+1)).flatMap Source.on=(l.take i).flatMap Source.on++l[i].on:=by
 rw[List.take_succ_eq_append_getElem h,List.flatMap_append];simp
theorem vM {l:List SortKey} {i:Nat} (h:i<l.length):(l.take (i+1)).map SortKey.e=(l.take i).map SortKey.e++[l[i].e]:=by
 rw[List.take_succ_eq_append_getElem h,List.map_append];rfl
theorem eJ (l:List Item):(aU l).length<=l.length:=by
 unfold aU
 rw[List.length_map];exact List.length_filter_le _ _
theorem C1:∀l:List Source,(l.flatMap Source.on).length+l.length<=cB l
 | []=>by simp [cB]
 |.mk t a o::r=>by
  have:=C1 r
  rw[cB,cM,List.flatMap_cons,aD,List.length_cons,aP]
  show o.length+_+_<=_
  omega
theorem pQ (l:List Source) (i:Nat):((l.take i).flatMap Source.on).length<=(l.flatMap Source.on).length:=by
 conv=>rhs;rw[<-List.take_append_drop i l]
 rw[List.flatMap_append,aD];omega
theorem fP {α:Type} (g:α->Nat) {l:List α} {x:α} (h:x∈l):g x<=(l.map g).sum:=by
 induction l with
 |nil=>cases h
 |cons y r ih=>
  rw[List.map_cons,List.sum_cons]
  rcases List.mem_cons.1 h with rfl|h
  ·omega
  ·have:=ih h;omega
theorem iE {q:Query} {x:Expr} (h:x∈exprsQ q):szExpr x<=szQuery q:=by
 obtain⟨d,it,fr,wh,or,li⟩:=q
 rw[bU,dS,cX,aP,cK]
 simp only[exprsQ,List.mem_append] at h
 rcases h with ((h|h)|h)|h
 ·simp only[aU,List.mem_map,List.mem_filter] at h
  obtain⟨⟨s,q,e,a⟩,⟨hm,_⟩,rfl⟩:=h
  have:=fP iQ hm
  rw[iD] at this
  show szExpr e<=_
  omega
 ·simp only[List.mem_flatMap] at h
  obtain⟨⟨t,a,o⟩,hm,hx⟩:=h
  have:=fP cF hm
  have h2:=fP szExpr (show x∈o from hx)
  rw[cM,aP] at this
  omega
 ·have:=fP szExpr h;omega
 ·simp only[List.mem_map] at h
  obtain⟨⟨e,d⟩,hm,rfl⟩:=h
  have:=fP ei hm
  rw[iq] at this
  show szExpr e<=_
  omega
theorem AK {q:Query} {x:Expr} (h:x∈exprsQ q):SizeOf.sizeOf x<SizeOf.sizeOf q:=by
 obtain⟨d,it,fr,wh,or,li⟩:=q
 rw[Query.mk.sizeOf_spec]
 simp only[exprsQ,List.mem_append] at h
 rcases h with ((h|h)|h)|h
 ·simp only[aU,List.mem_map,List.mem_filter] at h
  obtain⟨⟨s,q,e,a⟩,⟨hm,_⟩,rfl⟩:=h
  have:=List.sizeOf_lt_of_mem hm
  rw[Item.mk.sizeOf_spec] at this
  show SizeOf.sizeOf e < _
  omega
 ·simp only[List.mem_flatMap] at h
  obtain⟨⟨t,a,o⟩,hm,hx⟩:=h
  have:=List.sizeOf_lt_of_mem hm
  have h2:=List.sizeOf_lt_of_mem (show x∈o from hx)
  rw[Source.mk.sizeOf_spec] at this
  omega
 ·have:=List.sizeOf_lt_of_mem h;omega
 ·simp only[List.mem_map] at h
  obtain⟨⟨e,d⟩,hm,rfl⟩:=h
  have:=List.sizeOf_lt_of_mem hm
  rw[SortKey.mk.sizeOf_spec] at this
  show SizeOf.sizeOf e < _
  omega
theorem fj (q:Query):(exprsQ q).length<=szQuery q:=by
 obtain⟨d,it,fr,wh,or,li⟩:=q
 have h1:=eJ it
 have h2:=C1 fr
 rw[bU,dS,aP,cK]
 simp only[exprsQ,aD,List.length_map]
 omega
def eX (x e:Expr):Prop:=x∈e.kids∨∃q∈e.sub,x∈exprsQ q
theorem lG {x e:Expr} (h:eX x e):SizeOf.sizeOf x<SizeOf.sizeOf e:=by
 obtain⟨k,o,n,v,q,m,ks,ss⟩:=e
 rw[Expr.mk.sizeOf_spec]
 rcases h with h|⟨y,hy,h⟩
 ·have:=List.sizeOf_lt_of_mem (show x∈ks from h);omega
 ·have:=List.sizeOf_lt_of_mem (show y∈ss from hy)
  have:=AK h
  omega
theorem gN {x e:Expr} (h:eX x e):szExpr x<=szExpr e:=by
 obtain⟨k,o,n,v,q,m,ks,ss⟩:=e
 rw[bh,aP,bO]
 rcases h with h|⟨y,hy,h⟩
 ·have:=fP szExpr (show x∈ks from h);omega
 ·have:=fP szQuery (show y∈ss from hy)
  have:=iE h
  omega
theorem lH {q:Query} {e:Expr} (h:q∈e.sub):szQuery q<=szExpr e:=by
 obtain⟨k,o,n,v,q',m,ks,ss⟩:=e
 rw[bh,aP,bO]
 have:=fP szQuery (show q∈ss from h);omega
noncomputable def dP {α:Type} [Inhabited α] (F:(Expr->α)->Expr->α) (e:Expr):α:=F (fun x=>if h:SizeOf.sizeOf x<SizeOf.sizeOf e then dP F x else default) e
termination_by SizeOf.sizeOf e
theorem iF {α:Type} [Inhabited α] {F:(Expr->α)->Expr->α} {P:Expr->α->Prop} (h:∀e g,(∀x,eX x e->P x (g x))->P e (F g e)) (e:Expr):P e (dP F e):=by
 suffices H:∀n:Nat,∀e:Expr,SizeOf.sizeOf e<n->P e (dP F e) from H _ e (Nat.lt_succ_self _)
 intro n
 induction n with
 |zero=>exact fun _ h=>absurd h (Nat.not_lt_zero _)
 |succ n ih=>
  intro e he
  rw[dP]
  refine h e _ fun x hx=>?_
  have:=lG hx
  simp only[dif_pos this]
  exact ih x aa
structure PS where
 a:Nat
 b:Bool
abbrev PM (α:Type):=PS->Option (α×PS)
section
variable (L:List Tok)
def jC (s:PS) (k:Nat):Option Tok:=if s.b=true then none else L[s.a+k]?
def lI (s:PS) (k:Nat) (kind:Int) (text:ByteArray):Bool:=match jC L s k with
 |some t=>decide (t.kind=kind)&&decide (t.text=text)
 |none=>false
def mv (s:PS) (kind:Int):Bool:=match jC L s 0 with
 |some t=>decide (t.kind=kind)&&aR t
 |none=>false
def bP (s:PS):ByteArray:=match jC L s 0 with
 |some t=>t.text
 |none=>⟨#[]⟩
def adv (s:PS):PS:=⟨s.a+1,s.b⟩
def fl (s:PS):PS:=⟨s.a,true⟩
def tkIf (c:Bool) (s:PS):PS:=if c=true then adv s else s
def must (c:Bool) (s:PS):PS:=if c=true then adv s else fl s
def aA (s:PS) (k:Nat):Bool:=lI L s 0 1 (kw k)
def cr (s:PS) (c:UInt8):Bool:=lI L s 0 5 ⟨#[c]⟩
def mText (kind:Int) (s:PS):ByteArray×PS:=if mv L s kind=true then (bP L s,adv s) else (⟨#[]⟩,fl s)
def mNum (s:PS):Int×PS:=(jB (mText L 3 s).1,(mText L 3 s).2)
def gk (lv:Nat):List Nat:=if lv=1 then [1] else if lv=2 then [2] else if lv=4 then [3,4,5,6,7,8] else if lv=5 then [9] else if lv=6 then [10,11] else if lv=7 then [12,13,14] else []
def lJ (s:PS) (op:Nat):Bool:=lI L s 0 (if op=1∨op=2 then 1 else 5) (j8 op)
def jd (s:PS):List Nat->Nat
 | []=>0
 |op::r=>if lJ L s op=true then op else jd s r
def dH (s:PS) (lv:Nat):Nat:=jd L s (gk lv)
end
def z0:ByteArray:=⟨#[]⟩
def zVal:Val:=⟨0,0,⟨#[]⟩⟩
def zExpr:Expr:=.mk 0 0 false zVal z0 z0 [] []
def iS (op:Nat) (a b:Expr):Expr:=.mk 4 op false zVal z0 z0 [a,b] []
def xL (op:Int) (e:Expr):Expr:=.mk 3 op false zVal z0 z0 [e] []
def cG (kind:Int) (not:Bool) (kids:List Expr) (sub:List Query):Expr:=.mk kind 0 not zVal z0 z0 kids sub
def eK (v:Val):Expr:=.mk 1 0 false v z0 z0 [] []
def qm (qual name:ByteArray):Expr:=.mk 2 0 false zVal qual name [] []
section
variable (L:List Tok)
def cj (f:PM Expr) (lv:Nat):Nat->Expr->PM Expr
 |0,_,_=>none
 |n+1,e,s=>if dH L s lv=0 then some (e,s) else match f (adv s) with
  |none=>none
  |some (x,s1)=>cj f lv n (iS (dH L s lv) e x) s1
def hM {α:Type} (f:PM α):Nat->List α->PM (List α)
 |0,_,_=>none
 | n+1,l,s=>if cr L s 44=true then (match f (adv s) with
  |none=>none
  | some (x,s1)=>hM f n (l++[x]) s1) else some (l,s)
def mM (f:Nat->PM Expr):PM (List Expr):=fun s=>match f 1 s with
 |none=>none
 |some (e,s1)=>hM L (f 1) (L.length+1) [e] s1
def vN (f:Nat->PM Expr) (q:PM Query) (e:Expr) (not:Bool):PM Expr:=fun s=>
 let s1:=must (cr L s 40) s
 if aA L s1 1=true then (match q s1 with
  |none=>none
  | some (x,s2)=>some (cG 8 not [e] [x],must (cr L s2 41) s2))
 else match mM L f s1 with
  |none=>none
  |some (l,s2)=>some (cG 7 not (e::l) [],must (cr L s2 41) s2)
def cmpT (f:Nat->PM Expr) (q:PM Query) (e:Expr):PM Expr:=fun s=>
 if aA L s 16=true then
  let s1:=adv s
  let n:=aA L s1 15
  let s2:=tkIf n s1
  some (cG 5 n [e] [],must (aA L s2 20) s2)
 else
  let n:=aA L s 15
  let s1:=tkIf n s
  if aA L s1 18=true then (match f 5 (adv s1) with
   |none=>none
   |some (lo,s2)=>match f 5 (must (aA L s2 13) s2) with
    |none=>none
    | some (hi,s3)=>some (cG 6 n [e,lo,hi] [],s3))
  else if aA L s1 17=true then vN L f q e n (adv s1)
  else some (e,⟨s1.a,s1.b||n⟩)
def lK (f:Nat->PM Expr) (q:PM Query):PM Expr:=fun s=>match f 5 s with
 |none=>none
 |some (e,s1)=>if dH L s1 4=0 then cmpT L f q e s1 else match f 5 (adv s1) with
  |none=>none
  |some (x,s2)=>some (iS (dH L s1 4) e x,s2)
def ed (f:Nat->PM Expr) (q:PM Query):PM Expr:=fun s=>
 if mv L s 3=true then some (eK ⟨1,jB (bP L s),z0⟩,adv s)
 else if mv L s 4=true then some (eK ⟨2,0,bP L s⟩,adv s)
 else if aA L s 20=true then some (eK zVal,adv s)
 else if aA L s 21=true then some (eK ⟨3,1,z0⟩,adv s)
 else if aA L s 22=true then some (eK ⟨3,0,z0⟩,adv s)
 else if mv L s 2=true then
  let s1:=adv s
  if cr L s1 46=true then some (qm (bP L s) (mText L 2 (adv s1)).1,(mText L 2 (adv s1)).2)
  else some (qm z0 (bP L s),s1)
 else if cr L s 40=true then (match f 1 (adv s) with
  |none=>none
  | some (e,s1)=>some (e,must (cr L s1 41) s1))
 else if aA L s 19=true then
  let s1:=must (cr L (adv s) 40) (adv s)
  (match q s1 with
  |none=>none
  | some (x,s2)=>some (cG 9 false [] [x],must (cr L s2 41) s2))
 else some (zExpr,fl s)
def stepE (f:Nat->PM Expr) (q:PM Query) (lv:Nat):PM Expr:=fun s=>
 if lv=3 then (if aA L s 15=true then (match f 3 (adv s) with
  |none=>none
  | some (e,s1)=>some (xL 15 e,s1)) else f 4 s)
 else if lv=4 then lK L f q s
 else if lv=8 then (if cr L s 45=true then (match f 8 (adv s) with
  |none=>none
  | some (e,s1)=>some (xL 16 e,s1)) else f 9 s)
 else if lv=9 then ed L f q s
 else match f (lv+1) s with
  |none=>none
  |some (e,s1)=>cj L (f (lv+1)) lv (L.length+1) e s1
def asM:PS->ByteArray×PS:=fun s=>if aA L s 12=true then mText L 2 (adv s) else (z0,s)
def fD (s:PS):Bool:=mv L s 2&&(lI L s 1 5 ⟨#[46]⟩&&lI L s 2 5 ⟨#[42]⟩)
def eL (f:Nat->PM Expr):PM Item:=fun s=>
 if cr L s 42=true then some (.mk true z0 zExpr z0,adv s)
 else if fD L s=true then some (.mk true (bP L s) zExpr z0,adv (adv (adv s)))
 else match f 1 s with
  |none=>none
  |some (e,s1)=>some (.mk false z0 e (asM L s1).1,(asM L s1).2)
def sourceM (s:PS):Source×PS:=(.mk (mText L 2 s).1 (asM L (mText L 2 s).2).1 [],(asM L (mText L 2 s).2).2)
def Source.withOn:Source->List Expr->Source | .mk t a _,on=>.mk t a on
def bW (f:Nat->PM Expr):Nat->List Source->PM (List Source)
 |0,_,_=>none
 |n+1,l,s=>
  if cr L s 44=true then bW f n (l++[(sourceM L (adv s)).1]) (sourceM L (adv s)).2
  else if aA L s 4=true then
   let s2:=(sourceM L (adv s)).2
   (match f 1 (must (aA L s2 5) s2) with
   |none=>none
   | some (e,s3)=>bW f n (l++[(sourceM L (adv s)).1.withOn [e]]) s3)
  else some (l,s)
def f4 (f:Nat->PM Expr):PM (List Expr):=fun s=>if aA L s 6=true then (match f 1 (adv s) with
 |none=>none
 | some (e,s1)=>some ([e],s1)) else some ([],s)
def fe (f:Nat->PM Expr):PM SortKey:=fun s=>match f 1 s with
 |none=>none
 |some (e,s1)=>if aA L s1 9=true then some (.mk e false,adv s1) else some (.mk e (aA L s1 10),tkIf (aA L s1 10) s1)
def f5 (f:Nat->PM Expr):PM (List SortKey):=fun s=>if aA L s 7=true then
 let s1:=must (aA L (adv s) 8) (adv s)
 (match fe L f s1 with
 |none=>none
 | some (x,s2)=>hM L (fe L f) (L.length+1) [x] s2) else some ([],s)
def limitM (s:PS):Int×PS:=if aA L s 11=true then mNum L (adv s) else (-1,s)
def fk (f:Nat->PM Expr):PM (List Item):=fun s=>match eL L f s with
 |none=>none
 |some (x,s1)=>hM L (eL L f) (L.length+1) [x] s1
def stepQ (f:Nat->PM Expr):PM Query:=fun s=>
 let s1:=must (aA L s 1) s
 let d:=aA L s1 2
 match fk L f (tkIf d s1) with
 |none=>none
 |some (its,s2)=>
  let s3:=must (aA L s2 3) s2
  match bW L f (L.length+1) [(sourceM L s3).1] (sourceM L s3).2 with
  |none=>none
  |some (frs,s4)=>match f4 L f s4 with
   |none=>none
   |some (wh,s5)=>match f5 L f s5 with
    |none=>none
    |some (ord,s6)=>some (.mk d its frs wh ord (limitM L s6).1,(limitM L s6).2)
def pP:Nat->(Nat->PM Expr)×PM Query
 |0=>(fun _ _=>none,fun _=>none)
 |k+1=>(stepE L (pP k).1 (pP k).2,stepQ L (pP k).1)
end
section
variable (L:List Tok)
def Ok (s s':PS):Prop:=s.a<=s'.a/\(s.a<=L.length->s'.a<=L.length)/\(s.b=true->s'=s)
theorem Ok.refl (s:PS):Ok L s s:=⟨Nat.le_refl _,id,fun _=>rfl⟩
variable {L}
theorem Ok.trans {a b c:PS} (h:Ok L a b) (k:Ok L b c):Ok L a c:=⟨Nat.le_trans h.1 k.1,fun e=>k.2.1 (h.2.1 e),fun e=>by have:=h.2.2 e;subst this;exact k.2.2 e⟩
theorem zp {s:PS} {k:Nat} {t:Tok} (h:jC L s k=some t):s.b=false/\s.a+k<L.length:=by
 unfold jC at h
 split at h
 ·cases h
 ·rename_i hb
  exact⟨by simpa using hb,(List.getElem?_eq_some_iff.1 h).1⟩
theorem ni {s:PS} {k:Nat} {kind:Int} {x:ByteArray} (h:lI L s k kind x=true):s.b=false/\s.a+k<L.length:=by
 unfold lI at h
 split at h
 ·rename_i t ht;exact zp ht
 ·cases h
theorem lL {s:PS} {kind:Int} (h:mv L s kind=true):s.b=false/\s.a<L.length:=by
 unfold mv at h
 split at h
 ·rename_i t ht;exact zp ht
 ·cases h
theorem aH {s:PS} {k:Nat} (h:aA L s k=true):s.b=false/\s.a<L.length:=ni h
theorem bt {s:PS} {c:UInt8} (h:cr L s c=true):s.b=false/\s.a<L.length:=ni h
theorem zq {s:PS}:∀ {l:List Nat},jd L s l≠0->s.b=false/\s.a<L.length
 | [],h=>absurd rfl h
 |op::r,h=>by
  unfold jd at h
  split at h
  ·rename_i hh;exact ni hh
  ·exact zq h
theorem jm {s:PS} {lv:Nat} (h:¬dH L s lv=0):s.b=false/\s.a<L.length:=zq h
theorem Ok.adv {s:PS} (h:s.b=false/\s.a<L.length):Ok L s (adv s):=⟨by simp [Go.Proofs.YtdmomaomffhidaaGreatDoor.adv],fun _=>by simp [Go.Proofs.YtdmomaomffhidaaGreatDoor.adv];omega,fun e=>by rw[h.1] at e;cases e⟩
theorem Ok.fl (s:PS):Ok L s (fl s):=⟨Nat.le_refl _,id,fun e=>by cases s;simp only at e;subst e;rfl⟩
theorem Ok.must {s:PS} {c:Bool} (h:c=true->s.b=false/\s.a<L.length):Ok L s (must c s):=by
 unfold Go.Proofs.YtdmomaomffhidaaGreatDoor.must
 split
 ·rename_i hc;exact Ok.adv (h hc)
 ·exact Ok.fl s
theorem Ok.tkIf {s:PS} {c:Bool} (h:c=true->s.b=false/\s.a<L.length):Ok L s (tkIf c s):=by
 unfold Go.Proofs.YtdmomaomffhidaaGreatDoor.tkIf
 split
 ·rename_i hc;exact Ok.adv (h hc)
 ·exact Ok.refl L s
theorem Ok.mText (kind:Int) (s:PS):Ok L s (mText L kind s).2:=by
 unfold Go.Proofs.YtdmomaomffhidaaGreatDoor.mText
 split
 ·rename_i hc;exact Ok.adv (lL hc)
 ·exact Ok.fl s
theorem Ok.mNum (s:PS):Ok L s (mNum L s).2:=Ok.mText 3 s
theorem Ok.asM (s:PS):Ok L s (asM L s).2:=by
 unfold Go.Proofs.YtdmomaomffhidaaGreatDoor.asM
 split
 ·rename_i hc;exact (Ok.adv (aH hc)).trans (Ok.mText 2 _)
 ·exact Ok.refl L s
theorem Ok.sourceM (s:PS):Ok L s (sourceM L s).2:=(Ok.mText 2 s).trans (Ok.asM _)
theorem Ok.limitM (s:PS):Ok L s (limitM L s).2:=by
 unfold Go.Proofs.YtdmomaomffhidaaGreatDoor.limitM
 split
 ·rename_i hc;exact (Ok.adv (aH hc)).trans (Ok.mNum _)
 ·exact Ok.refl L s
def OkM {α:Type} (m:PM α):Prop:=∀s x s',m s=some (x,s')->Ok L s s'
variable {f:Nat->PM Expr} {q:PM Query}
theorem OkM.chain {g:PM Expr} (hg:OkM (L:=L) g) (lv:Nat):∀(n:Nat) (e:Expr),OkM (L:=L) (cj L g lv n e)
 |0,_,_,_,_,h=>by cases h
 |n+1,e,s,x,s',h=>by
  rw[cj] at h
  split at h
  ·injection h with h;injection h with _ h;subst h;exact Ok.refl L s
  ·rename_i ho
   split at h
   ·cases h
   ·rename_i y s1 h1
    exact (Ok.adv (jm ho)).trans ((hg _ _ _ h1).trans (OkM.chain hg lv n _ _ _ _ h))
theorem OkM.sep {α:Type} {g:PM α} (hg:OkM (L:=L) g):∀(n:Nat) (l:List α),OkM (L:=L) (hM L g n l)
 |0,_,_,_,_,h=>by cases h
 |n+1,l,s,x,s',h=>by
  rw[hM] at h
  split at h
  ·rename_i hc
   split at h
   ·cases h
   ·rename_i y s1 h1
    exact (Ok.adv (bt hc)).trans ((hg _ _ _ h1).trans (OkM.sep hg n _ _ _ _ h))
  ·injection h with h;injection h with _ h;subst h;exact Ok.refl L s
theorem OkM.ors (hf:∀lv,OkM (L:=L) (f lv)):OkM (L:=L) (mM L f):=fun s x s' h=>by
 unfold mM at h
 split at h
 ·cases h
 ·rename_i y s1 h1
  exact (hf 1 _ _ _ h1).trans (OkM.sep (hf 1) _ _ _ _ _ h)
theorem OkM.inn (hf:∀lv,OkM (L:=L) (f lv)) (hq:OkM (L:=L) q) (e:Expr) (n:Bool):OkM (L:=L) (vN L f q e n):=fun s x s' h=>by
 unfold vN at h
 have h0:Ok L s (must (cr L s 40) s):=Ok.must fun h=>bt h
 simp only at h
 split at h
 ·split at h
  ·cases h
  ·rename_i y s1 h1
   injection h with h;injection h with _ h;subst h
   exact h0.trans ((hq _ _ _ h1).trans (Ok.must fun h=>bt h))
 ·split at h
  ·cases h
  ·rename_i y s1 h1
   injection h with h;injection h with _ h;subst h
   exact h0.trans ((OkM.ors hf _ _ _ h1).trans (Ok.must fun h=>bt h))
theorem OkM.cmpT (hf:∀lv,OkM (L:=L) (f lv)) (hq:OkM (L:=L) q) (e:Expr):OkM (L:=L) (cmpT L f q e):=fun s x s' h=>by
 unfold Go.Proofs.YtdmomaomffhidaaGreatDoor.cmpT at h
 simp only at h
 split at h
 ·rename_i hc
  injection h with h;injection h with _ h;subst h
  exact (Ok.adv (aH hc)).trans ((Ok.tkIf fun h=>aH h).trans (Ok.must fun h=>aH h))
 ·have h0:Ok L s (tkIf (aA L s 15) s):=Ok.tkIf fun h=>aH h
  split at h
  ·rename_i hc
   split at h
   ·cases h
   ·rename_i y s1 h1
    split at h
    ·cases h
    ·rename_i z s2 h2
     injection h with h;injection h with _ h;subst h
     exact h0.trans ((Ok.adv (aH hc)).trans ((hf 5 _ _ _ h1).trans ((Ok.must fun h=>aH h).trans (hf 5 _ _ _ h2))))
  ·split at h
   ·rename_i hc
    exact h0.trans ((Ok.adv (aH hc)).trans (OkM.inn hf hq e _ _ _ _ h))
   ·injection h with h;injection h with _ h;subst h
    refine h0.trans ⟨Nat.le_refl _,id,fun e=>?_⟩
    generalize tkIf (aA L s 15) s=u at *
    cases u;simp only at e;subst e;rfl
theorem OkM.cmp (hf:∀lv,OkM (L:=L) (f lv)) (hq:OkM (L:=L) q):OkM (L:=L) (lK L f q):=fun s x s' h=>by
 unfold lK at h
 split at h
 ·cases h
 ·rename_i y s1 h1
  split at h
  ·exact (hf 5 _ _ _ h1).trans (OkM.cmpT hf hq _ _ _ _ h)
  ·rename_i ho
   split at h
   ·cases h
   ·rename_i z s2 h2
    injection h with h;injection h with _ h;subst h
    exact (hf 5 _ _ _ h1).trans ((Ok.adv (jm ho)).trans (hf 5 _ _ _ h2))
theorem OkM.prim (hf:∀lv,OkM (L:=L) (f lv)) (hq:OkM (L:=L) q):OkM (L:=L) (ed L f q):=fun s x s' h=>by
 unfold ed at h
 simp only at h
 split at h
 ·rename_i hc;injection h with h;injection h with _ h;subst h;exact Ok.adv (lL hc)
 split at h
 ·rename_i hc;injection h with h;injection h with _ h;subst h;exact Ok.adv (lL hc)
 split at h
 ·rename_i hc;injection h with h;injection h with _ h;subst h;exact Ok.adv (aH hc)
 split at h
 ·rename_i hc;injection h with h;injection h with _ h;subst h;exact Ok.adv (aH hc)
 split at h
 ·rename_i hc;injection h with h;injection h with _ h;subst h;exact Ok.adv (aH hc)
 split at h
 ·rename_i hc
  split at h
  ·rename_i hd;injection h with h;injection h with _ h;subst h;exact (Ok.adv (lL hc)).trans ((Ok.adv (bt hd)).trans (Ok.mText 2 _))
  ·injection h with h;injection h with _ h;subst h;exact Ok.adv (lL hc)
 split at h
 ·rename_i hc
  split at h
  ·cases h
  ·rename_i y s1 h1
   injection h with h;injection h with _ h;subst h
   exact (Ok.adv (bt hc)).trans ((hf 1 _ _ _ h1).trans (Ok.must fun h=>bt h))
 split at h
 ·rename_i hc
  split at h
  ·cases h
  ·rename_i y s1 h1
   injection h with h;injection h with _ h;subst h
   exact (Ok.adv (aH hc)).trans ((Ok.must fun h=>bt h).trans ((hq _ _ _ h1).trans (Ok.must fun h=>bt h)))
 ·injection h with h;injection h with _ h;subst h;exact Ok.fl s
theorem OkM.stepE (hf:∀lv,OkM (L:=L) (f lv)) (hq:OkM (L:=L) q) (lv:Nat):OkM (L:=L) (stepE L f q lv):=fun s x s' h=>by
 unfold Go.Proofs.YtdmomaomffhidaaGreatDoor.stepE at h
 split at h
 ·split at h
  ·rename_i hc
   split at h
   ·cases h
   ·rename_i y s1 h1
    injection h with h;injection h with _ h;subst h
    exact (Ok.adv (aH hc)).trans (hf 3 _ _ _ h1)
  ·exact hf 4 _ _ _ h
 split at h
 ·exact OkM.cmp hf hq _ _ _ h
 split at h
 ·split at h
  ·rename_i hc
   split at h
   ·cases h
   ·rename_i y s1 h1
    injection h with h;injection h with _ h;subst h
    exact (Ok.adv (bt hc)).trans (hf 8 _ _ _ h1)
  ·exact hf 9 _ _ _ h
 split at h
 ·exact OkM.prim hf hq _ _ _ h
 ·split at h
  ·cases h
  ·rename_i y s1 h1
   exact (hf _ _ _ _ h1).trans (OkM.chain (hf _) lv _ _ _ _ _ h)
theorem vO {s:PS} (h:fD L s=true):s.b=false/\s.a+2<L.length:=by
 unfold fD at h
 simp only[Bool.and_eq_true] at h
 exact ni h.2.2
theorem OkM.item (hf:∀lv,OkM (L:=L) (f lv)):OkM (L:=L) (eL L f):=fun s x s' h=>by
 unfold eL at h
 split at h
 ·rename_i hc;injection h with h;injection h with _ h;subst h;exact Ok.adv (bt hc)
 split at h
 ·rename_i hc;injection h with h;injection h with _ h;subst h
  have:=vO hc
  have a1:Ok L s (adv s):=Ok.adv ⟨this.1,aa⟩
  have a2:Ok L (adv s) (adv (adv s)):=Ok.adv ⟨this.1,show s.a+1 < _ by omega⟩
  have a3:Ok L (adv (adv s)) (adv (adv (adv s))):=Ok.adv ⟨this.1,show s.a+1+1 < _ by omega⟩
  exact a1.trans (a2.trans a3)
 split at h
 ·cases h
 ·rename_i y s1 h1
  injection h with h;injection h with _ h;subst h
  exact (hf 1 _ _ _ h1).trans (Ok.asM _)
theorem OkM.sources (hf:∀lv,OkM (L:=L) (f lv)):∀(n:Nat) (l:List Source),OkM (L:=L) (bW L f n l)
 |0,_,_,_,_,h=>by cases h
 |n+1,l,s,x,s',h=>by
  rw[bW] at h
  split at h
  ·rename_i hc
   exact (Ok.adv (bt hc)).trans ((Ok.sourceM _).trans (OkM.sources hf n _ _ _ _ h))
  simp only at h
  split at h
  ·rename_i hc
   split at h
   ·cases h
   ·rename_i y s1 h1
    exact (Ok.adv (aH hc)).trans ((Ok.sourceM _).trans ((Ok.must fun h=>aH h).trans ((hf 1 _ _ _ h1).trans (OkM.sources hf n _ _ _ _ h))))
  ·injection h with h;injection h with _ h;subst h;exact Ok.refl L s
theorem OkM.wher (hf:∀lv,OkM (L:=L) (f lv)):OkM (L:=L) (f4 L f):=fun s x s' h=>by
 unfold f4 at h
 split at h
 ·rename_i hc
  split at h
  ·cases h
  ·rename_i y s1 h1
   injection h with h;injection h with _ h;subst h
   exact (Ok.adv (aH hc)).trans (hf 1 _ _ _ h1)
 ·injection h with h;injection h with _ h;subst h;exact Ok.refl L s
theorem OkM.sort (hf:∀lv,OkM (L:=L) (f lv)):OkM (L:=L) (fe L f):=fun s x s' h=>by
 unfold fe at h
 split at h
 ·cases h
 ·rename_i y s1 h1
  split at h
  ·rename_i hc;injection h with h;injection h with _ h;subst h
   exact (hf 1 _ _ _ h1).trans (Ok.adv (aH hc))
  ·injection h with h;injection h with _ h;subst h
   exact (hf 1 _ _ _ h1).trans (Ok.tkIf fun h=>aH h)
theorem OkM.order (hf:∀lv,OkM (L:=L) (f lv)):OkM (L:=L) (f5 L f):=fun s x s' h=>by
 unfold f5 at h
 simp only at h
 split at h
 ·rename_i hc
  split at h
  ·cases h
  ·rename_i y s1 h1
   exact (Ok.adv (aH hc)).trans ((Ok.must fun h=>aH h).trans ((OkM.sort hf _ _ _ h1).trans (OkM.sep (OkM.sort hf) _ _ _ _ _ h)))
 ·injection h with h;injection h with _ h;subst h;exact Ok.refl L s
theorem OkM.items (hf:∀lv,OkM (L:=L) (f lv)):OkM (L:=L) (fk L f):=fun s x s' h=>by
 unfold fk at h
 split at h
 ·cases h
 ·rename_i y s1 h1
  exact (OkM.item hf _ _ _ h1).trans (OkM.sep (OkM.item hf) _ _ _ _ _ h)
theorem OkM.stepQ (hf:∀lv,OkM (L:=L) (f lv)):OkM (L:=L) (stepQ L f):=fun s x s' h=>by
 unfold Go.Proofs.YtdmomaomffhidaaGreatDoor.stepQ at h
 simp only at h
 split at h
 ·cases h
 rename_i its s2 h1
 split at h
 ·cases h
 rename_i frs s4 h2
 split at h
 ·cases h
 rename_i wh s5 h3
 split at h
 ·cases h
 rename_i od s6 h4
 injection h with h;injection h with _ h;subst h
 exact (Ok.must fun h=>aH h).trans ((Ok.tkIf fun h=>aH h).trans ((OkM.items hf _ _ _ h1).trans ((Ok.must fun h=>aH h).trans ((Ok.sourceM _).trans ((OkM.sources hf _ _ _ _ _ h2).trans ((OkM.wher hf _ _ _ h3).trans ((OkM.order hf _ _ _ h4).trans (Ok.limitM _))))))))
theorem lM:∀k,(∀lv,OkM (L:=L) ((pP L k).1 lv))/\OkM (L:=L) (pP L k).2
 |0=>⟨fun _ _ _ _ h=>(by cases h),fun _ _ _ h=>(by cases h)⟩
 |k+1=>⟨fun lv=>OkM.stepE (lM k).1 (lM k).2 lv,OkM.stepQ (lM k).1⟩
end
section
variable {L:List Tok}
abbrev rm (L:List Tok) (s:PS):Nat:=L.length-s.a
def Df {α:Type} (m:PM α) (s:PS):Prop:=∃x s',m s=some (x,s')
theorem gm {s:PS} (h:s.b=false/\s.a<L.length):rm L (adv s)<rm L s:=by show L.length-(s.a+1)<L.length-s.a;omega
theorem Ok.rm {s s':PS} (h:Ok L s s'):rm L s'<=rm L s:=by have:=h.1;show L.length-s'.a<=L.length-s.a;omega
variable {f:Nat->PM Expr} {q:PM Query}
theorem r9 {g:PM Expr} {R lv:Nat} (hk:OkM (L:=L) g) (hg:∀s,rm L s<R->Df g s):∀(n:Nat) (e:Expr) (s:PS),rm L s<=R->rm L s<n->Df (cj L g lv n e) s
 |0,_,_,_,h=>absurd h (Nat.not_lt_zero _)
 |n+1,e,s,h,h'=>by
  unfold Df
  rw[cj]
  split
  ·exact⟨_,_,rfl⟩
  ·rename_i ho
   have ha:=gm (jm ho)
   obtain⟨x,s1,h1⟩:=hg (adv s) aa
   have:=(hk _ _ _ h1).rm
   rw[h1]
   exact r9 hk hg n _ s1 aa aa
theorem uA {α:Type} {g:PM α} {R:Nat} (hk:OkM (L:=L) g) (hg:∀s,rm L s<R->Df g s):∀(n:Nat) (l:List α) (s:PS),rm L s<=R->rm L s<n->Df (hM L g n l) s
 |0,_,_,_,h=>absurd h (Nat.not_lt_zero _)
 |n+1,l,s,h,h'=>by
  unfold Df
  rw[hM]
  split
  ·rename_i ho
   have ha:=gm (bt ho)
   obtain⟨x,s1,h1⟩:=hg (adv s) aa
   have:=(hk _ _ _ h1).rm
   rw[h1]
   exact uA hk hg n _ s1 aa aa
  ·exact⟨_,_,rfl⟩
theorem vP (s:PS):rm L s<L.length+1:=by show L.length-s.a < _;omega
section
variable (hk:∀lv,OkM (L:=L) (f lv)) (hkq:OkM (L:=L) q) {R:Nat} (hf:∀lv,1<=lv->lv<=9->∀s,rm L s<R->Df (f lv) s) (hq:∀s,rm L s<R->Df q s)
include hk hf
theorem Hg {s:PS} (h:rm L s<R):Df (mM L f) s:=by
 obtain⟨x,s1,h1⟩:=hf 1 aa aa s h
 have:=(hk 1 _ _ _ h1).rm
 unfold Df mM
 rw[h1]
 exact uA (hk 1) (hf 1 aa aa) _ _ s1 aa (vP s1)
include hkq hq
theorem J2 {s:PS} (e:Expr) (n:Bool) (h:rm L s<R):Df (vN L f q e n) s:=by
 unfold Df vN
 simp only
 have h0:Ok L s (must (cr L s 40) s):=Ok.must fun h=>bt h
 have:=h0.rm
 split
 ·obtain⟨x,s1,h1⟩:=hq (must (cr L s 40) s) aa
  rw[h1];exact⟨_,_,rfl⟩
 ·obtain⟨x,s1,h1⟩:=Hg hk hf (s:=must (cr L s 40) s) aa
  rw[h1];exact⟨_,_,rfl⟩
theorem EA {s:PS} (e:Expr) (h:rm L s<=R):Df (cmpT L f q e) s:=by
 unfold Df cmpT
 simp only
 split
 ·exact⟨_,_,rfl⟩
 have h0:Ok L s (tkIf (aA L s 15) s):=Ok.tkIf fun h=>aH h
 have h0':=h0.rm
 split
 ·rename_i hc
  have ha:=gm (aH hc)
  obtain⟨x,s1,h1⟩:=hf 5 aa aa _ (by omega:rm L (adv (tkIf (aA L s 15) s))<R)
  have h2:=(hk 5 _ _ _ h1).rm
  rw[h1]
  have h3:Ok L s1 (must (aA L s1 13) s1):=Ok.must fun h=>aH h
  have h4:=h3.rm
  obtain⟨y,s2,h5⟩:=hf 5 aa aa _ (by omega:rm L (must (aA L s1 13) s1)<R)
  simp only[h5]
  exact⟨_,_,rfl⟩
 split
 ·rename_i hc
  have ha:=gm (aH hc)
  exact J2 hk hkq hf hq e _ aa
 ·exact⟨_,_,rfl⟩
theorem EB {s:PS} (h:rm L s<=R):Df (ed L f q) s:=by
 unfold Df ed
 simp only
 split
 ·exact⟨_,_,rfl⟩
 split
 ·exact⟨_,_,rfl⟩
 split
 ·exact⟨_,_,rfl⟩
 split
 ·exact⟨_,_,rfl⟩
 split
 ·exact⟨_,_,rfl⟩
 split
 ·split<;>exact⟨_,_,rfl⟩
 split
 ·rename_i hc
  have ha:=gm (bt hc)
  obtain⟨x,s1,h1⟩:=hf 1 aa aa _ (by omega:rm L (adv s)<R)
  rw[h1];exact⟨_,_,rfl⟩
 split
 ·rename_i hc
  have ha:=gm (aH hc)
  have h3:Ok L (adv s) (must (cr L (adv s) 40) (adv s)):=Ok.must fun h=>bt h
  have h4:=h3.rm
  obtain⟨x,s1,h1⟩:=hq (must (cr L (adv s) 40) (adv s)) aa
  rw[h1];exact⟨_,_,rfl⟩
 ·exact⟨_,_,rfl⟩
theorem C2 {s:PS} {lv:Nat} (h:rm L s<=R) (hlv:lv<=9) (hn:lv≠9->Df (f (lv+1)) s):Df (stepE L f q lv) s:=by
 unfold Df stepE
 split
 ·rename_i e;subst e
  split
  ·rename_i hc
   have ha:=gm (aH hc)
   obtain⟨x,s1,h1⟩:=hf 3 aa aa _ (by omega:rm L (adv s)<R)
   rw[h1];exact⟨_,_,rfl⟩
  ·exact hn aa
 split
 ·rename_i e;subst e
  unfold lK
  obtain⟨x,s1,h1⟩:=hn aa
  have h2:=(hk 5 _ _ _ h1).rm
  simp only[h1]
  split
  ·exact EA hk hkq hf hq _ aa
  ·rename_i ho
   have ha:=gm (jm ho)
   obtain⟨y,s2,h3⟩:=hf 5 aa aa _ (by omega:rm L (adv s1)<R)
   rw[h3];exact⟨_,_,rfl⟩
 split
 ·rename_i e;subst e
  split
  ·rename_i hc
   have ha:=gm (bt hc)
   obtain⟨x,s1,h1⟩:=hf 8 aa aa _ (by omega:rm L (adv s)<R)
   rw[h1];exact⟨_,_,rfl⟩
  ·exact hn aa
 split
 ·exact EB hk hkq hf hq h
 ·rename_i e9
  obtain⟨x,s1,h1⟩:=hn e9
  have h2:=(hk _ _ _ _ h1).rm
  rw[h1]
  exact r9 (hk _) (fun s' hs'=>hf _ aa aa s' hs') _ _ s1 aa (vP s1)
end
section
variable (hk:∀lv,OkM (L:=L) (f lv)) {R:Nat} (hf:∀s,rm L s<=R->Df (f 1) s)
include hk hf
theorem zr {s:PS} (h:rm L s<=R):Df (eL L f) s:=by
 unfold Df eL
 split
 ·exact⟨_,_,rfl⟩
 split
 ·exact⟨_,_,rfl⟩
 obtain⟨x,s1,h1⟩:=hf s h
 rw[h1];exact⟨_,_,rfl⟩
theorem nj:∀(n:Nat) (l:List Source) (s:PS),rm L s<=R->rm L s<n->Df (bW L f n l) s
 |0,_,_,_,h=>absurd h (Nat.not_lt_zero _)
 |n+1,l,s,h,h'=>by
  unfold Df
  rw[bW]
  split
  ·rename_i ho
   have ha:=gm (bt ho)
   have hb:=(Ok.sourceM (L:=L) (adv s)).rm
   exact nj n _ _ aa aa
  simp only
  split
  ·rename_i ho
   have ha:=gm (aH ho)
   have hb:=(Ok.sourceM (L:=L) (adv s)).rm
   have h3:Ok L (sourceM L (adv s)).2 (must (aA L (sourceM L (adv s)).2 5) (sourceM L (adv s)).2):=Ok.must fun h=>aH h
   have h4:=h3.rm
   obtain⟨x,s1,h1⟩:=hf _ (by omega:rm L (must (aA L (sourceM L (adv s)).2 5) (sourceM L (adv s)).2)<=R)
   have h5:=(hk 1 _ _ _ h1).rm
   rw[h1]
   exact nj n _ s1 aa aa
  ·exact⟨_,_,rfl⟩
theorem C3 {s:PS} (h:rm L s<=R):Df (f4 L f) s:=by
 unfold Df f4
 split
 ·rename_i hc
  have ha:=gm (aH hc)
  obtain⟨x,s1,h1⟩:=hf (adv s) aa
  rw[h1];exact⟨_,_,rfl⟩
 ·exact⟨_,_,rfl⟩
theorem zt {s:PS} (h:rm L s<=R):Df (fe L f) s:=by
 unfold Df fe
 obtain⟨x,s1,h1⟩:=hf s h
 simp only[h1]
 split<;>exact⟨_,_,rfl⟩
theorem C4 {s:PS} (h:rm L s<=R):Df (f5 L f) s:=by
 unfold Df f5
 simp only
 split
 ·rename_i hc
  have ha:=gm (aH hc)
  have h3:Ok L (adv s) (must (aA L (adv s) 8) (adv s)):=Ok.must fun h=>aH h
  have h4:=h3.rm
  obtain⟨x,s1,h1⟩:=zt hk hf (s:=must (aA L (adv s) 8) (adv s)) aa
  have h5:=(OkM.sort hk _ _ _ h1).rm
  rw[h1]
  exact uA (R:=R) (OkM.sort hk) (fun s' hs'=>zt hk hf aa) _ _ s1 aa (vP s1)
 ·exact⟨_,_,rfl⟩
theorem C5 {s:PS} (h:rm L s<=R):Df (fk L f) s:=by
 unfold Df fk
 obtain⟨x,s1,h1⟩:=zr hk hf h
 have h5:=(OkM.item hk _ _ _ h1).rm
 rw[h1]
 exact uA (R:=R) (OkM.item hk) (fun s' hs'=>zr hk hf aa) _ _ s1 aa (vP s1)
theorem C6 {s:PS} (h:rm L s<=R):Df (stepQ L f) s:=by
 unfold Df stepQ
 simp only
 have k1:Ok L s (must (aA L s 1) s):=Ok.must fun h=>aH h
 have k2:Ok L (must (aA L s 1) s) (tkIf (aA L (must (aA L s 1) s) 2) (must (aA L s 1) s)):=Ok.tkIf fun h=>aH h
 have k3:=(k1.trans k2).rm
 obtain⟨its,s2,h1⟩:=C5 hk hf (s:=tkIf (aA L (must (aA L s 1) s) 2) (must (aA L s 1) s)) aa
 have h2:=(OkM.items hk _ _ _ h1).rm
 simp only[h1]
 have k4:Ok L s2 (must (aA L s2 3) s2):=Ok.must fun h=>aH h
 have k5:=(k4.trans (Ok.sourceM _)).rm
 obtain⟨frs,s4,h3⟩:=nj hk hf (L.length+1) [(sourceM L (must (aA L s2 3) s2)).1] (sourceM L (must (aA L s2 3) s2)).2 aa (vP _)
 have h4:=(OkM.sources hk _ _ _ _ _ h3).rm
 simp only[h3]
 obtain⟨wh,s5,h5⟩:=C3 hk hf (s:=s4) aa
 have h6:=(OkM.wher hk _ _ _ h5).rm
 simp only[h5]
 obtain⟨od,s6,h7⟩:=C4 hk hf (s:=s5) aa
 simp only[h7]
 exact⟨_,_,rfl⟩
end
theorem C7:∀k,(∀lv,1<=lv->lv<=9->∀s,16*rm L s+10<=k+lv->Df ((pP L k).1 lv) s)/\(∀s,16*rm L s+11<=k->Df (pP L k).2 s)
 |0=>⟨fun lv _ h2 s h=>by omega,fun s h=>by omega⟩
 |k+1=>by
  obtain⟨i1,i2⟩:=C7 k
  obtain⟨o1,o2⟩:=lM (L:=L) k
  refine⟨fun lv h1 h2 s h=>?_,fun s h=>?_⟩
  ·exact C2 o1 o2 (R:=rm L s) (fun lv' a b s' hs=>i1 lv' a b s' aa) (fun s' hs=>i2 s' aa) (Nat.le_refl _) h2 (fun hn=>i1 _ aa aa s aa)
  ·exact C6 o1 (R:=rm L s) (fun s' hs=>i1 1 aa aa s' aa) (Nat.le_refl _)
def pD (L:List Tok):Nat:=16*L.length+16
def bH (L:List Tok):Nat->PM Expr:=(pP L (pD L)).1
def eM (L:List Tok):PM Query:=(pP L (pD L)).2
theorem vQ (lv:Nat) (h1:1<=lv) (h2:lv<=9) (s:PS):Df (bH L lv) s:=(C7 (pD L)).1 lv h1 h2 s (by unfold pD rm;omega)
theorem mw (s:PS):Df (eM L) s:=(C7 (pD L)).2 s (by unfold pD rm;omega)
end
def qn (b:UInt8):Bool:=b==32||b==9||b==10||b==13
def cJ (b:UInt8):Bool:=mL (b.toNat:Int)
def d5 (b:UInt8):Bool:=decide (48<=(b.toNat:Int)/\(b.toNat:Int)<=57)
section
variable (B:List UInt8)
def dJ (at_:Nat):Nat:=at_+((B.drop at_).takeWhile fun b=>!(b==10)).length
def ra:Nat->Nat->Option Nat
 |0,_=>none
 |n+1,i=>if B[i]?=some 42/\B[i+1]?=some 47 then some i else if i<B.length then ra n (i+1) else none
def f6:Nat->Nat->Option (Nat×Bool)
 |0,_=>none
 |n+1,i=>match B[i]? with
  |none=>some (i,true)
  |some b=>if qn b=true then f6 n (i+1)
   else if b=45/\B[i+1]?=some 45 then f6 n (dJ B i)
   else if b=47/\B[i+1]?=some 42 then (match ra B (B.length+1) (i+2) with
    |some e=>f6 n (e+2)
    | none=>some (i,false))
   else some (i,true)
def bM (i:Nat):Nat:=i+((B.drop i).takeWhile fun b=>cJ b||d5 b).length
def eC (q:UInt8):Nat->Nat->List UInt8->Option (List UInt8×Nat)
 |0,_,_=>none
 |n+1,i,l=>match B[i]? with
  |none=>none
  |some b=>if b=q then (if B[i+1]?=some q then eC q n (i+2) (l++[q]) else some (l,i+1)) else eC q n (i+1) (l++[b])
def d6 (i j:Nat):ByteArray:=⟨((B.drop i).take (j-i)).toArray⟩
def eN (i:Nat):Nat:=if i+2<=B.length/\dD (d6 B i (i+2))=true then i+2 else i+1
def dE (i:Nat) (b:UInt8):Option (Tok×Nat):=
 if cJ b=true then
  let x:=d6 B i (bM B i)
  some (if key x=0 then ⟨2,x,i⟩ else ⟨1,d4 x,i⟩,bM B i)
 else if d5 b=true then some (⟨3,d6 B i (bM B i),i⟩,bM B i)
 else if b=34 then (eC B 34 (B.length+1) (i+1) []).map fun x=>(⟨2,⟨x.1.toArray⟩,i⟩,x.2)
 else if b=39 then (eC B 39 (B.length+1) (i+1) []).map fun x=>(⟨4,⟨x.1.toArray⟩,i⟩,x.2)
 else some (⟨5,d6 B i (eN B i),i⟩,eN B i)
def cu (i:Nat) (b:UInt8):Option (Tok×Nat):=match dE B i b with
 |some (t,e)=>if aR t=true then some (t,e) else none
 |none=>none
def qp:Nat->Nat->List Tok->Option (List Tok ⊕ Nat)
 |0,_,_=>none
 |n+1,i,l=>match f6 B (B.length+1) i with
  |none=>none
  |some (p,ok)=>if ok=false then some (.inr p) else match B[p]? with
   |none=>some (.inl l)
   |some b=>match cu B p b with
    |none=>some (.inr p)
    |some (t,e)=>qp n e (l++[t])
end
theorem Gv {α:Type} (p:α->Bool) (l:List α):(l.takeWhile p).length<=l.length:=(List.takeWhile_sublist p).length_le
section
variable {B:List UInt8}
theorem rb (i:Nat):i<=dJ B i:=Nat.le_add_right _ _
theorem vR {i:Nat} (h:i<=B.length):dJ B i<=B.length:=by
 have:=Gv (fun b=>!(b==10)) (B.drop i)
 rw[List.length_drop] at this
 unfold dJ;omega
theorem vS (i:Nat):i<=bM B i:=Nat.le_add_right _ _
theorem vT {i:Nat} (h:i<=B.length):bM B i<=B.length:=by
 have:=Gv (fun b=>cJ b||d5 b) (B.drop i)
 rw[List.length_drop] at this
 unfold bM;omega
theorem zu {α:Type} (p:α->Bool) (B:List α) (i:Nat):((B.drop i).takeWhile p).length=(match B[i]? with|some b=>if p b=true then ((B.drop (i+1)).takeWhile p).length+1 else 0|none=>0):=by
 cases h:B[i]? with
 |none=>
  rw[List.drop_eq_nil_of_le (List.getElem?_eq_none_iff.1 h)];rfl
 |some b=>
  obtain⟨hl,rfl⟩:=List.getElem?_eq_some_iff.1 h
  rw[List.drop_eq_getElem_cons hl,List.takeWhile_cons]
  split<;>simp_all
theorem iU (i:Nat):dJ B i=(match B[i]? with|some b=>if b=10 then i else dJ B (i+1)|none=>i):=by
 unfold dJ
 rw[zu]
 cases B[i]? with
 |none=>rfl
 |some b=>
  by_cases h:b=10
  ·simp [h]
  ·simp [h];omega
theorem kD (i:Nat):bM B i=(match B[i]? with|some b=>if (cJ b||d5 b)=true then bM B (i+1) else i|none=>i):=by
 unfold bM
 rw[zu]
 cases B[i]? with
 |none=>rfl
 |some b=>
  by_cases h:(cJ b||d5 b)=true
  ·simp only[h,if_true];omega
  ·simp only[h];rfl
theorem nl:∀ {n i e:Nat},ra B n i=some e->i<=e/\e+1<B.length
 |0,_,_,h=>by cases h
 |n+1,i,e,h=>by
  rw[ra] at h
  split at h
  ·rename_i hc
   injection h with h;subst h
   exact⟨Nat.le_refl _,(List.getElem?_eq_some_iff.1 hc.2).1⟩
  ·split at h
   ·have:=nl h;omega
   ·cases h
theorem gp:∀(n i:Nat),i<=B.length->B.length-i<n->∃p ok,f6 B n i=some (p,ok)/\i<=p/\p<=B.length
 |0,_,_,h=>absurd h (Nat.not_lt_zero _)
 |n+1,i,hi,h=>by
  rw[f6]
  cases hb:B[i]? with
  |none=>exact⟨i,true,rfl,Nat.le_refl _,hi⟩
  |some b=>
   have hlt:i<B.length:=(List.getElem?_eq_some_iff.1 hb).1
   simp only
   split
   ·obtain⟨p,ok,h1,h2,h3⟩:=gp n (i+1) aa aa
    exact⟨p,ok,h1,aa,h3⟩
   split
   ·rename_i hc
    have h10:¬b=10:=by rw[hc.1];decide
    have e1:=iU (B:=B) i
    rw[hb] at e1
    simp only[h10,if_false] at e1
    have g1:=rb (B:=B) (i+1)
    have g2:=vR (B:=B) (i:=i+1) aa
    obtain⟨p,ok,h1,h2,h3⟩:=gp n (dJ B i) aa aa
    exact⟨p,ok,h1,aa,h3⟩
   split
   ·rename_i hc
    cases he:ra B (B.length+1) (i+2) with
    |none=>exact⟨i,false,rfl,Nat.le_refl _,hi⟩
    |some e=>
     have:=nl he
     obtain⟨p,ok,h1,h2,h3⟩:=gp n (e+2) aa aa
     exact⟨p,ok,h1,aa,h3⟩
   ·exact⟨i,true,rfl,Nat.le_refl _,hi⟩
theorem fE {q:UInt8}:∀ {n i:Nat} {l:List UInt8} {x:List UInt8} {e:Nat},eC B q n i l=some (x,e)->i<e/\e<=B.length/\x.length+i<l.length+e
 |0,_,_,_,_,h=>by cases h
 |n+1,i,l,x,e,h=>by
  rw[eC] at h
  cases hb:B[i]? with
  |none=>rw[hb] at h;cases h
  |some b=>
   have hlt:i<B.length:=(List.getElem?_eq_some_iff.1 hb).1
   rw[hb] at h
   simp only at h
   split at h
   ·split at h
    ·have:=fE h
     simp only[aD,List.length_cons,List.length_nil] at this;omega
    ·injection h with h;injection h with h1 h2;subst h1;omega
   ·have:=fE h
    simp only[aD,List.length_cons,List.length_nil] at this;omega
theorem AL {i:Nat} (h:i<B.length):i<eN B i/\eN B i<=B.length:=by
 unfold eN
 split<;>omega
theorem y6 {i e:Nat} {b:UInt8} {t:Tok} (hb:B[i]?=some b) (h:dE B i b=some (t,e)):i<e/\e<=B.length:=by
 have hlt:i<B.length:=(List.getElem?_eq_some_iff.1 hb).1
 unfold dE at h
 simp only at h
 have run:cJ b=true∨d5 b=true->i<bM B i/\bM B i<=B.length:=fun hc=>by
  have e1:=kD (B:=B) i
  have h1:(cJ b||d5 b)=true:=by rcases hc with h|h<;>simp [h]
  rw[hb] at e1
  simp only[h1,if_true] at e1
  have:=vS (B:=B) (i+1)
  exact⟨aa,vT aa⟩
 split at h
 ·rename_i hc
  injection h with h;injection h with _ h;subst h
  exact run (.inl hc)
 split at h
 ·rename_i hc
  injection h with h;injection h with _ h;subst h
  exact run (.inr hc)
 split at h
 ·rw[Option.map_eq_some_iff] at h
  obtain⟨⟨x,y⟩,h1,h2⟩:=h
  injection h2 with _ h2;subst h2
  have:=fE h1;omega
 split at h
 ·rw[Option.map_eq_some_iff] at h
  obtain⟨⟨x,y⟩,h1,h2⟩:=h
  injection h2 with _ h2;subst h2
  have:=fE h1;omega
 ·injection h with h;injection h with _ h;subst h
  exact AL hlt
theorem np {i e:Nat} {b:UInt8} {t:Tok} (hb:B[i]?=some b) (h:cu B i b=some (t,e)):i<e/\e<=B.length/\aR t=true:=by
 unfold cu at h
 split at h
 ·rename_i t' e' hr
  split at h
  ·rename_i ho
   injection h with h;injection h with h1 h2;subst h1 h2
   have:=y6 hb hr
   exact⟨this.1,this.2,ho⟩
  ·cases h
 ·cases h
theorem uB:∀(n i:Nat) (l:List Tok),i<=B.length->B.length-i<n->∃r,qp B n i l=some r
 |0,_,_,_,h=>absurd h (Nat.not_lt_zero _)
 |n+1,i,l,hi,h=>by
  rw[qp]
  obtain⟨p,ok,h1,h2,h3⟩:=gp (B:=B) (B.length+1) i hi aa
  rw[h1]
  simp only
  split
  ·exact⟨_,rfl⟩
  cases hb:B[p]? with
  |none=>exact⟨_,rfl⟩
  |some b=>
   simp only
   cases ho:cu B p b with
   |none=>exact⟨_,rfl⟩
   |some x=>
    obtain⟨t,e⟩:=x
    have:=np hb ho
    exact uB n e _ aa aa
theorem tE:∀ {n i:Nat} {l m:List Tok},i<=B.length->qp B n i l=some (.inl m)->(∀t∈l,aR t=true)->(∀t∈m,aR t=true)/\m.length<=l.length+(B.length-i)
 |0,_,_,_,_,h,_=>by cases h
 |n+1,i,l,m,hi,h,hl=>by
  rw[qp] at h
  obtain⟨p,ok,h1,h2,h3⟩:=gp (B:=B) (B.length+1) i hi aa
  rw[h1] at h
  simp only at h
  split at h
  ·cases h
  cases hb:B[p]? with
  |none=>rw[hb] at h;injection h with h;injection h with h;subst h;exact⟨hl,aa⟩
  |some b=>
   rw[hb] at h
   simp only at h
   cases ho:cu B p b with
   |none=>rw[ho] at h;cases h
   |some x=>
    obtain⟨t,e⟩:=x
    rw[ho] at h
    have:=np hb ho
    obtain⟨k1,k2⟩:=tE aa h (fun t' ht'=>by
     rcases List.mem_append.1 ht' with h|h
     ·exact hl t' h
     ·rw[List.mem_singleton.1 h];exact this.2.2)
    refine⟨k1,?_⟩
    simp only[aD,List.length_cons,List.length_nil] at k2
    omega
end
def lg (s:ByteArray):List Tok ⊕ Nat:=if 2000<s.size then .inr 2000 else (qp s.data.toList (s.data.toList.length+1) 0 []).getD (.inr 0)
def dh:Query:=.mk false [] [] [] [] 0
def C8:Stmt:=.mk 0 dh z0 [] [] [] []
section
variable (L:List Tok)
def nY (s:PS):Int:=if s.b=false/\L.length<=s.a then -1 else s.a
def s0:PS:=⟨0,false⟩
def jo {α:Type} (z:α):Option (α×PS)->α×Int
 |none=>(z,0)
 |some (x,s)=>if 0<=nY L s then (z,nY L s) else (x,-1)
def cy:Query×Int:=jo L dh (eM L s0)
end
section
variable {L:List Tok} {f:Nat->PM Expr} {q:PM Query}
theorem C9 (lv:Nat):OkM (L:=L) (bH L lv):=(lM (pD L)).1 lv
theorem ph:OkM (L:=L) (eM L):=(lM (pD L)).2
section
variable (hk:∀lv,OkM (L:=L) (f lv)) (hf:∀s,Df (f 1) s)
include hk hf
end
end
section
variable {L:List Tok}
def LeM {α:Type} (m m':PM α):Prop:=∀s r,m s=some r->m' s=some r
theorem LeM.chain {g g':PM Expr} (hg:LeM g g') (lv:Nat):∀(n:Nat) (e:Expr),LeM (cj L g lv n e) (cj L g' lv n e)
 |0,_,_,_,h=>by cases h
 |n+1,e,s,r,h=>by
  rw[cj] at h ⊢
  split at h
  ·rename_i hc;rw[if_pos hc];exact h
  ·rename_i hc
   rw[if_neg hc]
   split at h
   ·cases h
   ·rename_i y s1 h1
    rw[hg _ _ h1]
    exact LeM.chain hg lv n _ _ _ h
theorem rc {g:PM Expr} {lv:Nat}:∀ {n n':Nat} {e:Expr},n<=n'->LeM (cj L g lv n e) (cj L g lv n' e)
 |0,_,_,_,_,_,h=>by cases h
 |n+1,0,_,hn,_,_,_=>absurd hn aa
 |n+1,n'+1,e,hn,s,r,h=>by
  rw[cj] at h ⊢
  split at h
  ·rename_i hc;rw[if_pos hc];exact h
  ·rename_i hc
   rw[if_neg hc]
   split at h
   ·cases h
   ·rename_i y s1 h1
    exact rc aa _ _ h
theorem LeM.sep {α:Type} {g g':PM α} (hg:LeM g g'):∀(n:Nat) (l:List α),LeM (hM L g n l) (hM L g' n l)
 |0,_,_,_,h=>by cases h
 |n+1,l,s,r,h=>by
  rw[hM] at h ⊢
  split at h
  ·rename_i hc
   rw[if_pos hc]
   split at h
   ·cases h
   ·rename_i y s1 h1
    rw[hg _ _ h1]
    exact LeM.sep hg n _ _ _ h
  ·rename_i hc;rw[if_neg hc];exact h
variable {f f':Nat->PM Expr} {q q':PM Query} (hf:∀lv,LeM (f lv) (f' lv)) (hq:LeM q q')
include hf
theorem LeM.ors:LeM (mM L f) (mM L f'):=fun s r h=>by
 unfold mM at h ⊢
 split at h
 ·cases h
 ·rename_i y s1 h1
  rw[hf 1 _ _ h1]
  exact LeM.sep (hf 1) _ _ _ _ h
include hq in
theorem LeM.inn (e:Expr) (n:Bool):LeM (vN L f q e n) (vN L f' q' e n):=fun s r h=>by
 unfold vN at h ⊢
 simp only at h ⊢
 split at h
 ·rename_i hc
  rw[if_pos hc]
  split at h
  ·cases h
  ·rename_i y s1 h1
   rw[hq _ _ h1];exact h
 ·rename_i hc
  rw[if_neg hc]
  split at h
  ·cases h
  ·rename_i y s1 h1
   rw[LeM.ors hf _ _ h1];exact h
include hq in
theorem LeM.cmpT (e:Expr):LeM (cmpT L f q e) (cmpT L f' q' e):=fun s r h=>by
 unfold Go.Proofs.YtdmomaomffhidaaGreatDoor.cmpT at h ⊢
 simp only at h ⊢
 split at h
 ·rename_i hc;rw[if_pos hc];exact h
 ·rename_i hc
  rw[if_neg hc]
  split at h
  ·rename_i hd
   rw[if_pos hd]
   split at h
   ·cases h
   ·rename_i y s1 h1
    rw[hf 5 _ _ h1]
    simp only
    split at h
    ·cases h
    ·rename_i z s2 h2
     rw[hf 5 _ _ h2];exact h
  ·rename_i hd
   rw[if_neg hd]
   split at h
   ·rename_i he;rw[if_pos he];exact LeM.inn hf hq _ _ _ _ h
   ·rename_i he;rw[if_neg he];exact h
include hq in
theorem LeM.cmp:LeM (lK L f q) (lK L f' q'):=fun s r h=>by
 unfold lK at h ⊢
 split at h
 ·cases h
 ·rename_i y s1 h1
  rw[hf 5 _ _ h1]
  simp only
  split at h
  ·rename_i hc;rw[if_pos hc];exact LeM.cmpT hf hq _ _ _ h
  ·rename_i hc
   rw[if_neg hc]
   split at h
   ·cases h
   ·rename_i z s2 h2
    rw[hf 5 _ _ h2];exact h
include hq in
theorem LeM.prim:LeM (ed L f q) (ed L f' q'):=fun s r h=>by
 unfold ed at h ⊢
 simp only at h ⊢
 split at h
 ·rename_i hc;rw[if_pos hc];exact h
 rename_i c1
 rw[if_neg c1]
 split at h
 ·rename_i hc;rw[if_pos hc];exact h
 rename_i c2
 rw[if_neg c2]
 split at h
 ·rename_i hc;rw[if_pos hc];exact h
 rename_i c3
 rw[if_neg c3]
 split at h
 ·rename_i hc;rw[if_pos hc];exact h
 rename_i c4
 rw[if_neg c4]
 split at h
 ·rename_i hc;rw[if_pos hc];exact h
 rename_i c5
 rw[if_neg c5]
 split at h
 ·rename_i hc;rw[if_pos hc];exact h
 rename_i c6
 rw[if_neg c6]
 split at h
 ·rename_i hc
  rw[if_pos hc]
  split at h
  ·cases h
  ·rename_i y s1 h1
   rw[hf 1 _ _ h1];exact h
 rename_i c7
 rw[if_neg c7]
 split at h
 ·rename_i hc
  rw[if_pos hc]
  split at h
  ·cases h
  ·rename_i y s1 h1
   rw[hq _ _ h1];exact h
 ·rename_i hc;rw[if_neg hc];exact h
include hq in
theorem LeM.stepE (lv:Nat):LeM (stepE L f q lv) (stepE L f' q' lv):=fun s r h=>by
 unfold Go.Proofs.YtdmomaomffhidaaGreatDoor.stepE at h ⊢
 split at h
 ·rename_i hc
  rw[if_pos hc]
  split at h
  ·rename_i hd
   rw[if_pos hd]
   split at h
   ·cases h
   ·rename_i y s1 h1
    rw[hf 3 _ _ h1];exact h
  ·rename_i hd;rw[if_neg hd];exact hf 4 _ _ h
 rename_i c1
 rw[if_neg c1]
 split at h
 ·rename_i hc;rw[if_pos hc];exact LeM.cmp hf hq _ _ h
 rename_i c2
 rw[if_neg c2]
 split at h
 ·rename_i hc
  rw[if_pos hc]
  split at h
  ·rename_i hd
   rw[if_pos hd]
   split at h
   ·cases h
   ·rename_i y s1 h1
    rw[hf 8 _ _ h1];exact h
  ·rename_i hd;rw[if_neg hd];exact hf 9 _ _ h
 rename_i c3
 rw[if_neg c3]
 split at h
 ·rename_i hc;rw[if_pos hc];exact LeM.prim hf hq _ _ h
 ·rename_i hc
  rw[if_neg hc]
  split at h
  ·cases h
  ·rename_i y s1 h1
   rw[hf _ _ _ h1]
   exact LeM.chain (hf _) _ _ _ _ _ h
theorem LeM.item:LeM (eL L f) (eL L f'):=fun s r h=>by
 unfold eL at h ⊢
 split at h
 ·rename_i hc;rw[if_pos hc];exact h
 rename_i c1
 rw[if_neg c1]
 split at h
 ·rename_i hc;rw[if_pos hc];exact h
 rename_i c2
 rw[if_neg c2]
 split at h
 ·cases h
 ·rename_i y s1 h1
  rw[hf 1 _ _ h1];exact h
theorem LeM.sources:∀(n:Nat) (l:List Source),LeM (bW L f n l) (bW L f' n l)
 |0,_,_,_,h=>by cases h
 |n+1,l,s,r,h=>by
  rw[bW] at h ⊢
  split at h
  ·rename_i hc;rw[if_pos hc];exact LeM.sources n _ _ _ h
  rename_i c1
  rw[if_neg c1]
  simp only at h ⊢
  split at h
  ·rename_i hc
   rw[if_pos hc]
   split at h
   ·cases h
   ·rename_i y s1 h1
    rw[hf 1 _ _ h1]
    exact LeM.sources n _ _ _ h
  ·rename_i hc;rw[if_neg hc];exact h
theorem LeM.wher:LeM (f4 L f) (f4 L f'):=fun s r h=>by
 unfold f4 at h ⊢
 split at h
 ·rename_i hc
  rw[if_pos hc]
  split at h
  ·cases h
  ·rename_i y s1 h1
   rw[hf 1 _ _ h1];exact h
 ·rename_i hc;rw[if_neg hc];exact h
theorem LeM.sort:LeM (fe L f) (fe L f'):=fun s r h=>by
 unfold fe at h ⊢
 split at h
 ·cases h
 ·rename_i y s1 h1
  rw[hf 1 _ _ h1];exact h
theorem LeM.order:LeM (f5 L f) (f5 L f'):=fun s r h=>by
 unfold f5 at h ⊢
 simp only at h ⊢
 split at h
 ·rename_i hc
  rw[if_pos hc]
  split at h
  ·cases h
  ·rename_i y s1 h1
   rw[LeM.sort hf _ _ h1]
   exact LeM.sep (LeM.sort hf) _ _ _ _ h
 ·rename_i hc;rw[if_neg hc];exact h
theorem LeM.items:LeM (fk L f) (fk L f'):=fun s r h=>by
 unfold fk at h ⊢
 split at h
 ·cases h
 ·rename_i y s1 h1
  rw[LeM.item hf _ _ h1]
  exact LeM.sep (LeM.item hf) _ _ _ _ h
theorem LeM.stepQ:LeM (stepQ L f) (stepQ L f'):=fun s r h=>by
 unfold Go.Proofs.YtdmomaomffhidaaGreatDoor.stepQ at h ⊢
 simp only at h ⊢
 split at h
 ·cases h
 rename_i its s2 h1
 rw[LeM.items hf _ _ h1]
 simp only
 split at h
 ·cases h
 rename_i frs s4 h2
 rw[LeM.sources hf _ _ _ _ h2]
 simp only
 split at h
 ·cases h
 rename_i wh s5 h3
 rw[LeM.wher hf _ _ h3]
 simp only
 split at h
 ·cases h
 rename_i od s6 h4
 rw[LeM.order hf _ _ h4]
 exact h
omit hf
theorem nZ:∀k,(∀lv,LeM ((pP L k).1 lv) ((pP L (k+1)).1 lv))/\LeM (pP L k).2 (pP L (k+1)).2
 |0=>⟨fun _ _ _ h=>(by cases h),fun _ _ h=>(by cases h)⟩
 |k+1=>⟨fun lv=>LeM.stepE (nZ k).1 (nZ k).2 lv,LeM.stepQ (nZ k).1⟩
theorem Gz {α:Type} {m m':PM α} (h:LeM m m') (s:PS) (hd:Df m s):m' s=m s:=by
 obtain⟨x,s1,h1⟩:=hd
 rw[h1,h _ _ h1]
theorem lN (lv:Nat) (h1:1<=lv) (h2:lv<=9) (s:PS):bH L lv s=stepE L (bH L) (eM L) lv s:=by
 have:=Gz ((nZ (L:=L) (pD L)).1 lv) s (vQ lv h1 h2 s)
 exact this.symm
theorem AM (s:PS):eM L s=stepQ L (bH L) s:=by
 have:=Gz (nZ (L:=L) (pD L)).2 s (mw s)
 exact this.symm
theorem AN {lv lv' n:Nat} {e:Expr} {s:PS} (h1:1<=lv) (h2:lv<=9) (hn:rm L s<n) (hn':n<=L.length+1):cj L (bH L lv) lv' n e s=cj L (bH L lv) lv' (L.length+1) e s:=by
 obtain⟨x,s1,h⟩:=r9 (R:=L.length) (lv:=lv') (C9 (L:=L) lv) (fun s _=>vQ lv h1 h2 s) n e s (by show L.length-s.a<=_;omega) hn
 rw[h,rc hn' _ _ h]
end
end Go.Proofs.YtdmomaomffhidaaGreatDoor
