/-
  The parser's model.
  Conditions: none.
-/
import Derived.Test.YtbodcedhmccenaaGreatDoorSA
set_option linter.unusedVariables false
set_option linter.unusedSimpArgs false
set_option linter.unusedSectionVars false
set_option maxRecDepth 8000
namespace Go.Proofs.YtbodcedhmccenaaGreatDoor
open Go Go.Dv
open Go.Vc (D d5 d6 cM bo)
def Item.star:Item->Bool | .mk s _ _ _=>s
def Item.e:Item->Expr | .mk _ _ e _=>e
def Source.on:Source->List Expr | .mk _ _ o=>o
def SortKey.e:SortKey->Expr | .mk e _=>e
def bd (l:List Item):List Expr:=(l.filter fun x=>!x.star).map Item.e
def exprsQ:Query->List Expr | .mk _ items from_ where_ order _=>bd items++from_.flatMap Source.on++where_++order.map SortKey.e
theorem oB {l:List Item} {i:Nat} (h:i<l.length):bd (l.take (i+1))=bd (l.take i)++if l[i].star=true then [] else [l[i].e]:=by
 unfold bd
 rw[List.take_succ_eq_append_getElem h,List.filter_append,List.map_append]
 congr 1
 simp only[List.filter_cons,List.filter_nil]
 cases l[i].star<;>rfl
theorem xj {l:List Source} {i:Nat} (h:i<l.length):(l.take (i+1)).flatMap Source.on=(l.take i).flatMap Source.on++l[i].on:=by
 rw[List.take_succ_eq_append_getElem h,List.flatMap_append];simp
theorem uf {l:List SortKey} {i:Nat} (h:i<l.length):(l.take (i+1)).map SortKey.e=(l.take i).map SortKey.e++[l[i].e]:=by
 rw[List.take_succ_eq_append_getElem h,List.map_append];rfl
theorem ee (l:List Item):(bd l).length<=l.length:=by
 unfold bd
 rw[List.length_map];exact List.length_filter_le _ _
theorem A8:∀l:List Source,(l.flatMap Source.on).length+l.length<=cR l
 | []=>by simp [cR]
 |.mk t a o::r=>by
  have:=A8 r
  rw[cR,dF,List.flatMap_cons,aB,List.length_cons,aC]
  show o.length+_+_<=_
  omega
theorem oC (l:List Source) (i:Nat):((l.take i).flatMap Source.on).length<=(l.flatMap Source.on).length:=by
 conv=>rhs;rw[<-List.take_append_drop i l]
 rw[List.flatMap_append,aB];omega
theorem dX {α:Type} (g:α->Nat) {l:List α} {x:α} (h:x∈l):g x<=(l.map g).sum:=by
 induction l with
 |nil=>cases h
 |cons y r ih=>
  rw[List.map_cons,List.sum_cons]
  rcases List.mem_cons.1 h with rfl|h
  ·omega
  ·have:=ih h;omega
theorem nL {q:Query} {x:Expr} (h:x∈exprsQ q):szExpr x<=szQuery q:=by
 obtain⟨d,it,fr,wh,or,li⟩:=q
 rw[cV,cU,bX,aC,bN]
 simp only[exprsQ,List.mem_append] at h
 rcases h with ((h|h)|h)|h
 ·simp only[bd,List.mem_map,List.mem_filter] at h
  obtain⟨⟨s,q,e,a⟩,⟨hm,_⟩,rfl⟩:=h
  have:=dX gV hm
  rw[ja] at this
  show szExpr e<=_
  omega
 ·simp only[List.mem_flatMap] at h
  obtain⟨⟨t,a,o⟩,hm,hx⟩:=h
  have:=dX cA hm
  have h2:=dX szExpr (show x∈o from hx)
  rw[dF,aC] at this
  omega
 ·have:=dX szExpr h;omega
 ·simp only[List.mem_map] at h
  obtain⟨⟨e,d⟩,hm,rfl⟩:=h
  have:=dX dV hm
  rw[gH] at this
  show szExpr e<=_
  omega
theorem yS {q:Query} {x:Expr} (h:x∈exprsQ q):SizeOf.sizeOf x<SizeOf.sizeOf q:=by
 obtain⟨d,it,fr,wh,or,li⟩:=q
 rw[Query.mk.sizeOf_spec]
 simp only[exprsQ,List.mem_append] at h
 rcases h with ((h|h)|h)|h
 ·simp only[bd,List.mem_map,List.mem_filter] at h
  obtain⟨⟨s,q,e,a⟩,⟨hm,_⟩,rfl⟩:=h
  have:=List.sizeOf_lt_of_mem hm
  rw[Item.mk.sizeOf_spec] at this
  show SizeOf.sizeOf e < _
  omega
 ·simp only[List.mem_flatMap] at h
  obtain⟨⟨t,a,o⟩,hm,hx⟩:=h
  have:=List.sizeOf_lt_of_mem hm
  have h2:=List.sizeOf_lt_of_mem (show x∈o from hx)
  rw[Source.mk.sizeOf_spec] at this
  omega
 ·have:=List.sizeOf_lt_of_mem h;omega
 ·simp only[List.mem_map] at h
  obtain⟨⟨e,d⟩,hm,rfl⟩:=h
  have:=List.sizeOf_lt_of_mem hm
  rw[SortKey.mk.sizeOf_spec] at this
  show SizeOf.sizeOf e < _
  omega
theorem eV (q:Query):(exprsQ q).length<=szQuery q:=by
 obtain⟨d,it,fr,wh,or,li⟩:=q
 have h1:=ee it
 have h2:=A8 fr
 rw[cV,cU,aC,bN]
 simp only[exprsQ,aB,List.length_map]
 omega
def fq (x e:Expr):Prop:=x∈e.kids∨∃q∈e.sub,x∈exprsQ q
theorem pI {x e:Expr} (h:fq x e):SizeOf.sizeOf x<SizeOf.sizeOf e:=by
 obtain⟨k,o,n,v,q,m,ks,ss⟩:=e
 rw[Expr.mk.sizeOf_spec]
 rcases h with h|⟨y,hy,h⟩
 ·have:=List.sizeOf_lt_of_mem (show x∈ks from h);omega
 ·have:=List.sizeOf_lt_of_mem (show y∈ss from hy)
  have:=yS h
  omega
theorem gY {x e:Expr} (h:fq x e):szExpr x<=szExpr e:=by
 obtain⟨k,o,n,v,q,m,ks,ss⟩:=e
 rw[bQ,aC,bw]
 rcases h with h|⟨y,hy,h⟩
 ·have:=dX szExpr (show x∈ks from h);omega
 ·have:=dX szQuery (show y∈ss from hy)
  have:=nL h
  omega
theorem lX {q:Query} {e:Expr} (h:q∈e.sub):szQuery q<=szExpr e:=by
 obtain⟨k,o,n,v,q',m,ks,ss⟩:=e
 rw[bQ,aC,bw]
 have:=dX szQuery (show q∈ss from h);omega
noncomputable def f9 {α:Type} [Inhabited α] (F:(Expr->α)->Expr->α) (e:Expr):α:=F (fun x=>if h:SizeOf.sizeOf x<SizeOf.sizeOf e then f9 F x else default) e
termination_by SizeOf.sizeOf e
theorem gM {α:Type} [Inhabited α] {F:(Expr->α)->Expr->α} {P:Expr->α->Prop} (h:∀e g,(∀x,fq x e->P x (g x))->P e (F g e)) (e:Expr):P e (f9 F e):=by
 suffices H:∀n:Nat,∀e:Expr,SizeOf.sizeOf e<n->P e (f9 F e) from H _ e (Nat.lt_succ_self _)
 intro n
 induction n with
 |zero=>exact fun _ h=>absurd h (Nat.not_lt_zero _)
 |succ n ih=>
  intro e he
  rw[f9]
  refine h e _ fun x hx=>?_
  have:=pI hx
  simp only[dif_pos this]
  exact ih x (by omega)
structure PS where
 a:Nat
 b:Bool
abbrev PM (α:Type):=PS->Option (α×PS)
section
variable (L:List Tok)
def gj (s:PS) (k:Nat):Option Tok:=if s.b=true then none else L[s.a+k]?
def iA (s:PS) (k:Nat) (kind:Int) (text:ByteArray):Bool:=match gj L s k with
 |some t=>decide (t.kind=kind)&&decide (t.text=text)
 |none=>false
def jz (s:PS) (kind:Int):Bool:=match gj L s 0 with
 |some t=>decide (t.kind=kind)&&bg t
 |none=>false
def bG (s:PS):ByteArray:=match gj L s 0 with
 |some t=>t.text
 |none=>⟨#[]⟩
def adv (s:PS):PS:=⟨s.a+1,s.b⟩
def fl (s:PS):PS:=⟨s.a,true⟩
def tkIf (c:Bool) (s:PS):PS:=if c=true then adv s else s
def must (c:Bool) (s:PS):PS:=if c=true then adv s else fl s
def ap (s:PS) (k:Nat):Bool:=iA L s 0 1 (kw k)
def aN (s:PS) (c:UInt8):Bool:=iA L s 0 5 ⟨#[c]⟩
def mText (kind:Int) (s:PS):ByteArray×PS:=if jz L s kind=true then (bG L s,adv s) else (⟨#[]⟩,fl s)
def mNum (s:PS):Int×PS:=(jD (mText L 3 s).1,(mText L 3 s).2)
def lD (lv:Nat):List Nat:=if lv=1 then [1] else if lv=2 then [2] else if lv=4 then [3,4,5,6,7,8] else if lv=5 then [9] else if lv=6 then [10,11] else if lv=7 then [12,13,14] else []
def jY (s:PS) (op:Nat):Bool:=iA L s 0 (if op=1∨op=2 then 1 else 5) (qW op)
def gZ (s:PS):List Nat->Nat
 | []=>0
 |op::r=>if jY L s op=true then op else gZ s r
def cI (s:PS) (lv:Nat):Nat:=gZ L s (lD lv)
end
def z0:ByteArray:=⟨#[]⟩
def bC:Val:=⟨0,0,⟨#[]⟩⟩
def zExpr:Expr:=.mk 0 0 false bC z0 z0 [] []
def ft (op:Nat) (a b:Expr):Expr:=.mk 4 op false bC z0 z0 [a,b] []
def nD (op:Int) (e:Expr):Expr:=.mk 3 op false bC z0 z0 [e] []
def cP (kind:Int) (not:Bool) (kids:List Expr) (sub:List Query):Expr:=.mk kind 0 not bC z0 z0 kids sub
def dD (v:Val):Expr:=.mk 1 0 false v z0 z0 [] []
def mG (qual name:ByteArray):Expr:=.mk 2 0 false bC qual name [] []
section
variable (L:List Tok)
def cJ (f:PM Expr) (lv:Nat):Nat->Expr->PM Expr
 |0,_,_=>none
 |n+1,e,s=>if cI L s lv=0 then some (e,s) else match f (adv s) with
  |none=>none
  |some (x,s1)=>cJ f lv n (ft (cI L s lv) e x) s1
def dt {α:Type} (f:PM α):Nat->List α->PM (List α)
 |0,_,_=>none
 | n+1,l,s=>if aN L s 44=true then (match f (adv s) with
  |none=>none
  | some (x,s1)=>dt f n (l++[x]) s1) else some (l,s)
def jb (f:Nat->PM Expr):PM (List Expr):=fun s=>match f 1 s with
 |none=>none
 |some (e,s1)=>dt L (f 1) (L.length+1) [e] s1
def ug (f:Nat->PM Expr) (q:PM Query) (e:Expr) (not:Bool):PM Expr:=fun s=>
 let s1:=must (aN L s 40) s
 if ap L s1 1=true then (match q s1 with
  |none=>none
  | some (x,s2)=>some (cP 8 not [e] [x],must (aN L s2 41) s2))
 else match jb L f s1 with
  |none=>none
  |some (l,s2)=>some (cP 7 not (e::l) [],must (aN L s2 41) s2)
def cmpT (f:Nat->PM Expr) (q:PM Query) (e:Expr):PM Expr:=fun s=>
 if ap L s 16=true then
  let s1:=adv s
  let n:=ap L s1 15
  let s2:=tkIf n s1
  some (cP 5 n [e] [],must (ap L s2 20) s2)
 else
  let n:=ap L s 15
  let s1:=tkIf n s
  if ap L s1 18=true then (match f 5 (adv s1) with
   |none=>none
   |some (lo,s2)=>match f 5 (must (ap L s2 13) s2) with
    |none=>none
    | some (hi,s3)=>some (cP 6 n [e,lo,hi] [],s3))
  else if ap L s1 17=true then ug L f q e n (adv s1)
  else some (e,⟨s1.a,s1.b||n⟩)
def kj (f:Nat->PM Expr) (q:PM Query):PM Expr:=fun s=>match f 5 s with
 |none=>none
 |some (e,s1)=>if cI L s1 4=0 then cmpT L f q e s1 else match f 5 (adv s1) with
  |none=>none
  |some (x,s2)=>some (ft (cI L s1 4) e x,s2)
def fa (f:Nat->PM Expr) (q:PM Query):PM Expr:=fun s=>
 if jz L s 3=true then some (dD ⟨1,jD (bG L s),z0⟩,adv s)
 else if jz L s 4=true then some (dD ⟨2,0,bG L s⟩,adv s)
 else if ap L s 20=true then some (dD bC,adv s)
 else if ap L s 21=true then some (dD ⟨3,1,z0⟩,adv s)
 else if ap L s 22=true then some (dD ⟨3,0,z0⟩,adv s)
 else if jz L s 2=true then
  let s1:=adv s
  if aN L s1 46=true then some (mG (bG L s) (mText L 2 (adv s1)).1,(mText L 2 (adv s1)).2)
  else some (mG z0 (bG L s),s1)
 else if aN L s 40=true then (match f 1 (adv s) with
  |none=>none
  | some (e,s1)=>some (e,must (aN L s1 41) s1))
 else if ap L s 19=true then
  let s1:=must (aN L (adv s) 40) (adv s)
  (match q s1 with
  |none=>none
  | some (x,s2)=>some (cP 9 false [] [x],must (aN L s2 41) s2))
 else some (zExpr,fl s)
def stepE (f:Nat->PM Expr) (q:PM Query) (lv:Nat):PM Expr:=fun s=>
 if lv=3 then (if ap L s 15=true then (match f 3 (adv s) with
  |none=>none
  | some (e,s1)=>some (nD 15 e,s1)) else f 4 s)
 else if lv=4 then kj L f q s
 else if lv=8 then (if aN L s 45=true then (match f 8 (adv s) with
  |none=>none
  | some (e,s1)=>some (nD 16 e,s1)) else f 9 s)
 else if lv=9 then fa L f q s
 else match f (lv+1) s with
  |none=>none
  |some (e,s1)=>cJ L (f (lv+1)) lv (L.length+1) e s1
def asM:PS->ByteArray×PS:=fun s=>if ap L s 12=true then mText L 2 (adv s) else (z0,s)
def dG (s:PS):Bool:=jz L s 2&&(iA L s 1 5 ⟨#[46]⟩&&iA L s 2 5 ⟨#[42]⟩)
def fc (f:Nat->PM Expr):PM Item:=fun s=>
 if aN L s 42=true then some (.mk true z0 zExpr z0,adv s)
 else if dG L s=true then some (.mk true (bG L s) zExpr z0,adv (adv (adv s)))
 else match f 1 s with
  |none=>none
  |some (e,s1)=>some (.mk false z0 e (asM L s1).1,(asM L s1).2)
def sourceM (s:PS):Source×PS:=(.mk (mText L 2 s).1 (asM L (mText L 2 s).2).1 [],(asM L (mText L 2 s).2).2)
def Source.withOn:Source->List Expr->Source | .mk t a _,on=>.mk t a on
def bR (f:Nat->PM Expr):Nat->List Source->PM (List Source)
 |0,_,_=>none
 |n+1,l,s=>
  if aN L s 44=true then bR f n (l++[(sourceM L (adv s)).1]) (sourceM L (adv s)).2
  else if ap L s 4=true then
   let s2:=(sourceM L (adv s)).2
   (match f 1 (must (ap L s2 5) s2) with
   |none=>none
   | some (e,s3)=>bR f n (l++[(sourceM L (adv s)).1.withOn [e]]) s3)
  else some (l,s)
def du (f:Nat->PM Expr):PM (List Expr):=fun s=>if ap L s 6=true then (match f 1 (adv s) with
 |none=>none
 | some (e,s1)=>some ([e],s1)) else some ([],s)
def fe (f:Nat->PM Expr):PM SortKey:=fun s=>match f 1 s with
 |none=>none
 |some (e,s1)=>if ap L s1 9=true then some (.mk e false,adv s1) else some (.mk e (ap L s1 10),tkIf (ap L s1 10) s1)
def eW (f:Nat->PM Expr):PM (List SortKey):=fun s=>if ap L s 7=true then
 let s1:=must (ap L (adv s) 8) (adv s)
 (match fe L f s1 with
 |none=>none
 | some (x,s2)=>dt L (fe L f) (L.length+1) [x] s2) else some ([],s)
def limitM (s:PS):Int×PS:=if ap L s 11=true then mNum L (adv s) else (-1,s)
def eX (f:Nat->PM Expr):PM (List Item):=fun s=>match fc L f s with
 |none=>none
 |some (x,s1)=>dt L (fc L f) (L.length+1) [x] s1
def stepQ (f:Nat->PM Expr):PM Query:=fun s=>
 let s1:=must (ap L s 1) s
 let d:=ap L s1 2
 match eX L f (tkIf d s1) with
 |none=>none
 |some (its,s2)=>
  let s3:=must (ap L s2 3) s2
  match bR L f (L.length+1) [(sourceM L s3).1] (sourceM L s3).2 with
  |none=>none
  |some (frs,s4)=>match du L f s4 with
   |none=>none
   |some (wh,s5)=>match eW L f s5 with
    |none=>none
    |some (ord,s6)=>some (.mk d its frs wh ord (limitM L s6).1,(limitM L s6).2)
def pP:Nat->(Nat->PM Expr)×PM Query
 |0=>(fun _ _=>none,fun _=>none)
 |k+1=>(stepE L (pP k).1 (pP k).2,stepQ L (pP k).1)
end
section
variable (L:List Tok)
def Ok (s s':PS):Prop:=s.a<=s'.a/\(s.a<=L.length->s'.a<=L.length)/\(s.b=true->s'=s)
theorem Ok.refl (s:PS):Ok L s s:=⟨Nat.le_refl _,id,fun _=>rfl⟩
variable {L}
theorem Ok.trans {a b c:PS} (h:Ok L a b) (k:Ok L b c):Ok L a c:=⟨Nat.le_trans h.1 k.1,fun e=>k.2.1 (h.2.1 e),fun e=>by have:=h.2.2 e;subst this;exact k.2.2 e⟩
theorem xk {s:PS} {k:Nat} {t:Tok} (h:gj L s k=some t):s.b=false/\s.a+k<L.length:=by
 unfold gj at h
 split at h
 ·cases h
 ·rename_i hb
  exact⟨by simpa using hb,(List.getElem?_eq_some_iff.1 h).1⟩
theorem lY {s:PS} {k:Nat} {kind:Int} {x:ByteArray} (h:iA L s k kind x=true):s.b=false/\s.a+k<L.length:=by
 unfold iA at h
 split at h
 ·rename_i t ht;exact xk ht
 ·cases h
theorem gu {s:PS} {kind:Int} (h:jz L s kind=true):s.b=false/\s.a<L.length:=by
 unfold jz at h
 split at h
 ·rename_i t ht;exact xk ht
 ·cases h
theorem ao {s:PS} {k:Nat} (h:ap L s k=true):s.b=false/\s.a<L.length:=lY h
theorem ax {s:PS} {c:UInt8} (h:aN L s c=true):s.b=false/\s.a<L.length:=lY h
theorem xl {s:PS}:∀ {l:List Nat},gZ L s l≠0->s.b=false/\s.a<L.length
 | [],h=>absurd rfl h
 |op::r,h=>by
  unfold gZ at h
  split at h
  ·rename_i hh;exact lY hh
  ·exact xl h
theorem d7 {s:PS} {lv:Nat} (h:¬cI L s lv=0):s.b=false/\s.a<L.length:=xl h
theorem Ok.adv {s:PS} (h:s.b=false/\s.a<L.length):Ok L s (adv s):=⟨by simp [Go.Proofs.YtbodcedhmccenaaGreatDoor.adv],fun _=>by simp [Go.Proofs.YtbodcedhmccenaaGreatDoor.adv];omega,fun e=>by rw[h.1] at e;cases e⟩
theorem Ok.fl (s:PS):Ok L s (fl s):=⟨Nat.le_refl _,id,fun e=>by cases s;simp only at e;subst e;rfl⟩
theorem Ok.must {s:PS} {c:Bool} (h:c=true->s.b=false/\s.a<L.length):Ok L s (must c s):=by
 unfold Go.Proofs.YtbodcedhmccenaaGreatDoor.must
 split
 ·rename_i hc;exact Ok.adv (h hc)
 ·exact Ok.fl s
theorem Ok.tkIf {s:PS} {c:Bool} (h:c=true->s.b=false/\s.a<L.length):Ok L s (tkIf c s):=by
 unfold Go.Proofs.YtbodcedhmccenaaGreatDoor.tkIf
 split
 ·rename_i hc;exact Ok.adv (h hc)
 ·exact Ok.refl L s
theorem Ok.mText (kind:Int) (s:PS):Ok L s (mText L kind s).2:=by
 unfold Go.Proofs.YtbodcedhmccenaaGreatDoor.mText
 split
 ·rename_i hc;exact Ok.adv (gu hc)
 ·exact Ok.fl s
theorem Ok.mNum (s:PS):Ok L s (mNum L s).2:=Ok.mText 3 s
theorem Ok.asM (s:PS):Ok L s (asM L s).2:=by
 unfold Go.Proofs.YtbodcedhmccenaaGreatDoor.asM
 split
 ·rename_i hc;exact (Ok.adv (ao hc)).trans (Ok.mText 2 _)
 ·exact Ok.refl L s
theorem Ok.sourceM (s:PS):Ok L s (sourceM L s).2:=(Ok.mText 2 s).trans (Ok.asM _)
theorem Ok.limitM (s:PS):Ok L s (limitM L s).2:=by
 unfold Go.Proofs.YtbodcedhmccenaaGreatDoor.limitM
 split
 ·rename_i hc;exact (Ok.adv (ao hc)).trans (Ok.mNum _)
 ·exact Ok.refl L s
def OkM {α:Type} (m:PM α):Prop:=∀s x s',m s=some (x,s')->Ok L s s'
variable {f:Nat->PM Expr} {q:PM Query}
theorem OkM.chain {g:PM Expr} (hg:OkM (L:=L) g) (lv:Nat):∀(n:Nat) (e:Expr),OkM (L:=L) (cJ L g lv n e)
 |0,_,_,_,_,h=>by cases h
 |n+1,e,s,x,s',h=>by
  rw[cJ] at h
  split at h
  ·injection h with h;injection h with _ h;subst h;exact Ok.refl L s
  ·rename_i ho
   split at h
   ·cases h
   ·rename_i y s1 h1
    exact (Ok.adv (d7 ho)).trans ((hg _ _ _ h1).trans (OkM.chain hg lv n _ _ _ _ h))
theorem OkM.sep {α:Type} {g:PM α} (hg:OkM (L:=L) g):∀(n:Nat) (l:List α),OkM (L:=L) (dt L g n l)
 |0,_,_,_,_,h=>by cases h
 |n+1,l,s,x,s',h=>by
  rw[dt] at h
  split at h
  ·rename_i hc
   split at h
   ·cases h
   ·rename_i y s1 h1
    exact (Ok.adv (ax hc)).trans ((hg _ _ _ h1).trans (OkM.sep hg n _ _ _ _ h))
  ·injection h with h;injection h with _ h;subst h;exact Ok.refl L s
theorem OkM.ors (hf:∀lv,OkM (L:=L) (f lv)):OkM (L:=L) (jb L f):=fun s x s' h=>by
 unfold jb at h
 split at h
 ·cases h
 ·rename_i y s1 h1
  exact (hf 1 _ _ _ h1).trans (OkM.sep (hf 1) _ _ _ _ _ h)
theorem OkM.inn (hf:∀lv,OkM (L:=L) (f lv)) (hq:OkM (L:=L) q) (e:Expr) (n:Bool):OkM (L:=L) (ug L f q e n):=fun s x s' h=>by
 unfold ug at h
 have h0:Ok L s (must (aN L s 40) s):=Ok.must fun h=>ax h
 simp only at h
 split at h
 ·split at h
  ·cases h
  ·rename_i y s1 h1
   injection h with h;injection h with _ h;subst h
   exact h0.trans ((hq _ _ _ h1).trans (Ok.must fun h=>ax h))
 ·split at h
  ·cases h
  ·rename_i y s1 h1
   injection h with h;injection h with _ h;subst h
   exact h0.trans ((OkM.ors hf _ _ _ h1).trans (Ok.must fun h=>ax h))
theorem OkM.cmpT (hf:∀lv,OkM (L:=L) (f lv)) (hq:OkM (L:=L) q) (e:Expr):OkM (L:=L) (cmpT L f q e):=fun s x s' h=>by
 unfold Go.Proofs.YtbodcedhmccenaaGreatDoor.cmpT at h
 simp only at h
 split at h
 ·rename_i hc
  injection h with h;injection h with _ h;subst h
  exact (Ok.adv (ao hc)).trans ((Ok.tkIf fun h=>ao h).trans (Ok.must fun h=>ao h))
 ·have h0:Ok L s (tkIf (ap L s 15) s):=Ok.tkIf fun h=>ao h
  split at h
  ·rename_i hc
   split at h
   ·cases h
   ·rename_i y s1 h1
    split at h
    ·cases h
    ·rename_i z s2 h2
     injection h with h;injection h with _ h;subst h
     exact h0.trans ((Ok.adv (ao hc)).trans ((hf 5 _ _ _ h1).trans ((Ok.must fun h=>ao h).trans (hf 5 _ _ _ h2))))
  ·split at h
   ·rename_i hc
    exact h0.trans ((Ok.adv (ao hc)).trans (OkM.inn hf hq e _ _ _ _ h))
   ·injection h with h;injection h with _ h;subst h
    refine h0.trans ⟨Nat.le_refl _,id,fun e=>?_⟩
    generalize tkIf (ap L s 15) s=u at *
    cases u;simp only at e;subst e;rfl
theorem OkM.cmp (hf:∀lv,OkM (L:=L) (f lv)) (hq:OkM (L:=L) q):OkM (L:=L) (kj L f q):=fun s x s' h=>by
 unfold kj at h
 split at h
 ·cases h
 ·rename_i y s1 h1
  split at h
  ·exact (hf 5 _ _ _ h1).trans (OkM.cmpT hf hq _ _ _ _ h)
  ·rename_i ho
   split at h
   ·cases h
   ·rename_i z s2 h2
    injection h with h;injection h with _ h;subst h
    exact (hf 5 _ _ _ h1).trans ((Ok.adv (d7 ho)).trans (hf 5 _ _ _ h2))
theorem OkM.prim (hf:∀lv,OkM (L:=L) (f lv)) (hq:OkM (L:=L) q):OkM (L:=L) (fa L f q):=fun s x s' h=>by
 unfold fa at h
 simp only at h
 split at h
 ·rename_i hc;injection h with h;injection h with _ h;subst h;exact Ok.adv (gu hc)
 split at h
 ·rename_i hc;injection h with h;injection h with _ h;subst h;exact Ok.adv (gu hc)
 split at h
 ·rename_i hc;injection h with h;injection h with _ h;subst h;exact Ok.adv (ao hc)
 split at h
 ·rename_i hc;injection h with h;injection h with _ h;subst h;exact Ok.adv (ao hc)
 split at h
 ·rename_i hc;injection h with h;injection h with _ h;subst h;exact Ok.adv (ao hc)
 split at h
 ·rename_i hc
  split at h
  ·rename_i hd;injection h with h;injection h with _ h;subst h;exact (Ok.adv (gu hc)).trans ((Ok.adv (ax hd)).trans (Ok.mText 2 _))
  ·injection h with h;injection h with _ h;subst h;exact Ok.adv (gu hc)
 split at h
 ·rename_i hc
  split at h
  ·cases h
  ·rename_i y s1 h1
   injection h with h;injection h with _ h;subst h
   exact (Ok.adv (ax hc)).trans ((hf 1 _ _ _ h1).trans (Ok.must fun h=>ax h))
 split at h
 ·rename_i hc
  split at h
  ·cases h
  ·rename_i y s1 h1
   injection h with h;injection h with _ h;subst h
   exact (Ok.adv (ao hc)).trans ((Ok.must fun h=>ax h).trans ((hq _ _ _ h1).trans (Ok.must fun h=>ax h)))
 ·injection h with h;injection h with _ h;subst h;exact Ok.fl s
theorem OkM.stepE (hf:∀lv,OkM (L:=L) (f lv)) (hq:OkM (L:=L) q) (lv:Nat):OkM (L:=L) (stepE L f q lv):=fun s x s' h=>by
 unfold Go.Proofs.YtbodcedhmccenaaGreatDoor.stepE at h
 split at h
 ·split at h
  ·rename_i hc
   split at h
   ·cases h
   ·rename_i y s1 h1
    injection h with h;injection h with _ h;subst h
    exact (Ok.adv (ao hc)).trans (hf 3 _ _ _ h1)
  ·exact hf 4 _ _ _ h
 split at h
 ·exact OkM.cmp hf hq _ _ _ h
 split at h
 ·split at h
  ·rename_i hc
   split at h
   ·cases h
   ·rename_i y s1 h1
    injection h with h;injection h with _ h;subst h
    exact (Ok.adv (ax hc)).trans (hf 8 _ _ _ h1)
  ·exact hf 9 _ _ _ h
 split at h
 ·exact OkM.prim hf hq _ _ _ h
 ·split at h
  ·cases h
  ·rename_i y s1 h1
   exact (hf _ _ _ _ h1).trans (OkM.chain (hf _) lv _ _ _ _ _ h)
theorem pJ {s:PS} (h:dG L s=true):s.b=false/\s.a+2<L.length:=by
 unfold dG at h
 simp only[Bool.and_eq_true] at h
 exact lY h.2.2
theorem OkM.item (hf:∀lv,OkM (L:=L) (f lv)):OkM (L:=L) (fc L f):=fun s x s' h=>by
 unfold fc at h
 split at h
 ·rename_i hc;injection h with h;injection h with _ h;subst h;exact Ok.adv (ax hc)
 split at h
 ·rename_i hc;injection h with h;injection h with _ h;subst h
  have:=pJ hc
  have a1:Ok L s (adv s):=Ok.adv ⟨this.1,by omega⟩
  have a2:Ok L (adv s) (adv (adv s)):=Ok.adv ⟨this.1,show s.a+1 < _ by omega⟩
  have a3:Ok L (adv (adv s)) (adv (adv (adv s))):=Ok.adv ⟨this.1,show s.a+1+1 < _ by omega⟩
  exact a1.trans (a2.trans a3)
 split at h
 ·cases h
 ·rename_i y s1 h1
  injection h with h;injection h with _ h;subst h
  exact (hf 1 _ _ _ h1).trans (Ok.asM _)
theorem OkM.sources (hf:∀lv,OkM (L:=L) (f lv)):∀(n:Nat) (l:List Source),OkM (L:=L) (bR L f n l)
 |0,_,_,_,_,h=>by cases h
 |n+1,l,s,x,s',h=>by
  rw[bR] at h
  split at h
  ·rename_i hc
   exact (Ok.adv (ax hc)).trans ((Ok.sourceM _).trans (OkM.sources hf n _ _ _ _ h))
  simp only at h
  split at h
  ·rename_i hc
   split at h
   ·cases h
   ·rename_i y s1 h1
    exact (Ok.adv (ao hc)).trans ((Ok.sourceM _).trans ((Ok.must fun h=>ao h).trans ((hf 1 _ _ _ h1).trans (OkM.sources hf n _ _ _ _ h))))
  ·injection h with h;injection h with _ h;subst h;exact Ok.refl L s
theorem OkM.wher (hf:∀lv,OkM (L:=L) (f lv)):OkM (L:=L) (du L f):=fun s x s' h=>by
 unfold du at h
 split at h
 ·rename_i hc
  split at h
  ·cases h
  ·rename_i y s1 h1
   injection h with h;injection h with _ h;subst h
   exact (Ok.adv (ao hc)).trans (hf 1 _ _ _ h1)
 ·injection h with h;injection h with _ h;subst h;exact Ok.refl L s
theorem OkM.sort (hf:∀lv,OkM (L:=L) (f lv)):OkM (L:=L) (fe L f):=fun s x s' h=>by
 unfold fe at h
 split at h
 ·cases h
 ·rename_i y s1 h1
  split at h
  ·rename_i hc;injection h with h;injection h with _ h;subst h
   exact (hf 1 _ _ _ h1).trans (Ok.adv (ao hc))
  ·injection h with h;injection h with _ h;subst h
   exact (hf 1 _ _ _ h1).trans (Ok.tkIf fun h=>ao h)
theorem OkM.order (hf:∀lv,OkM (L:=L) (f lv)):OkM (L:=L) (eW L f):=fun s x s' h=>by
 unfold eW at h
 simp only at h
 split at h
 ·rename_i hc
  split at h
  ·cases h
  ·rename_i y s1 h1
   exact (Ok.adv (ao hc)).trans ((Ok.must fun h=>ao h).trans ((OkM.sort hf _ _ _ h1).trans (OkM.sep (OkM.sort hf) _ _ _ _ _ h)))
 ·injection h with h;injection h with _ h;subst h;exact Ok.refl L s
theorem OkM.items (hf:∀lv,OkM (L:=L) (f lv)):OkM (L:=L) (eX L f):=fun s x s' h=>by
 unfold eX at h
 split at h
 ·cases h
 ·rename_i y s1 h1
  exact (OkM.item hf _ _ _ h1).trans (OkM.sep (OkM.item hf) _ _ _ _ _ h)
theorem OkM.stepQ (hf:∀lv,OkM (L:=L) (f lv)):OkM (L:=L) (stepQ L f):=fun s x s' h=>by
 unfold Go.Proofs.YtbodcedhmccenaaGreatDoor.stepQ at h
 simp only at h
 split at h
 ·cases h
 rename_i its s2 h1
 split at h
 ·cases h
 rename_i frs s4 h2
 split at h
 ·cases h
 rename_i wh s5 h3
 split at h
 ·cases h
 rename_i od s6 h4
 injection h with h;injection h with _ h;subst h
 exact (Ok.must fun h=>ao h).trans ((Ok.tkIf fun h=>ao h).trans ((OkM.items hf _ _ _ h1).trans ((Ok.must fun h=>ao h).trans ((Ok.sourceM _).trans ((OkM.sources hf _ _ _ _ _ h2).trans ((OkM.wher hf _ _ _ h3).trans ((OkM.order hf _ _ _ h4).trans (Ok.limitM _))))))))
theorem jZ:∀k,(∀lv,OkM (L:=L) ((pP L k).1 lv))/\OkM (L:=L) (pP L k).2
 |0=>⟨fun _ _ _ _ h=>(by cases h),fun _ _ _ h=>(by cases h)⟩
 |k+1=>⟨fun lv=>OkM.stepE (jZ k).1 (jZ k).2 lv,OkM.stepQ (jZ k).1⟩
end
section
variable {L:List Tok}
abbrev rm (L:List Tok) (s:PS):Nat:=L.length-s.a
def Df {α:Type} (m:PM α) (s:PS):Prop:=∃x s',m s=some (x,s')
theorem fK {s:PS} (h:s.b=false/\s.a<L.length):rm L (adv s)<rm L s:=by show L.length-(s.a+1)<L.length-s.a;omega
theorem Ok.rm {s s':PS} (h:Ok L s s'):rm L s'<=rm L s:=by have:=h.1;show L.length-s'.a<=L.length-s.a;omega
variable {f:Nat->PM Expr} {q:PM Query}
theorem uh {g:PM Expr} {R lv:Nat} (hk:OkM (L:=L) g) (hg:∀s,rm L s<R->Df g s):∀(n:Nat) (e:Expr) (s:PS),rm L s<=R->rm L s<n->Df (cJ L g lv n e) s
 |0,_,_,_,h=>absurd h (Nat.not_lt_zero _)
 |n+1,e,s,h,h'=>by
  unfold Df
  rw[cJ]
  split
  ·exact⟨_,_,rfl⟩
  ·rename_i ho
   have ha:=fK (d7 ho)
   obtain⟨x,s1,h1⟩:=hg (adv s) (by omega)
   have:=(hk _ _ _ h1).rm
   rw[h1]
   exact uh hk hg n _ s1 (by omega) (by omega)
theorem lZ {α:Type} {g:PM α} {R:Nat} (hk:OkM (L:=L) g) (hg:∀s,rm L s<R->Df g s):∀(n:Nat) (l:List α) (s:PS),rm L s<=R->rm L s<n->Df (dt L g n l) s
 |0,_,_,_,h=>absurd h (Nat.not_lt_zero _)
 |n+1,l,s,h,h'=>by
  unfold Df
  rw[dt]
  split
  ·rename_i ho
   have ha:=fK (ax ho)
   obtain⟨x,s1,h1⟩:=hg (adv s) (by omega)
   have:=(hk _ _ _ h1).rm
   rw[h1]
   exact lZ hk hg n _ s1 (by omega) (by omega)
  ·exact⟨_,_,rfl⟩
theorem oD (s:PS):rm L s<L.length+1:=by show L.length-s.a < _;omega
section
variable (hk:∀lv,OkM (L:=L) (f lv)) (hkq:OkM (L:=L) q) {R:Nat} (hf:∀lv,1<=lv->lv<=9->∀s,rm L s<R->Df (f lv) s) (hq:∀s,rm L s<R->Df q s)
include hk hf
theorem DT {s:PS} (h:rm L s<R):Df (jb L f) s:=by
 obtain⟨x,s1,h1⟩:=hf 1 (by omega) (by omega) s h
 have:=(hk 1 _ _ _ h1).rm
 unfold Df jb
 rw[h1]
 exact lZ (hk 1) (hf 1 (by omega) (by omega)) _ _ s1 (by omega) (oD s1)
include hkq hq
theorem Ez {s:PS} (e:Expr) (n:Bool) (h:rm L s<R):Df (ug L f q e n) s:=by
 unfold Df ug
 simp only
 have h0:Ok L s (must (aN L s 40) s):=Ok.must fun h=>ax h
 have:=h0.rm
 split
 ·obtain⟨x,s1,h1⟩:=hq (must (aN L s 40) s) (by omega)
  rw[h1];exact⟨_,_,rfl⟩
 ·obtain⟨x,s1,h1⟩:=DT hk hf (s:=must (aN L s 40) s) (by omega)
  rw[h1];exact⟨_,_,rfl⟩
theorem Ct {s:PS} (e:Expr) (h:rm L s<=R):Df (cmpT L f q e) s:=by
 unfold Df cmpT
 simp only
 split
 ·exact⟨_,_,rfl⟩
 have h0:Ok L s (tkIf (ap L s 15) s):=Ok.tkIf fun h=>ao h
 have h0':=h0.rm
 split
 ·rename_i hc
  have ha:=fK (ao hc)
  obtain⟨x,s1,h1⟩:=hf 5 (by omega) (by omega) _ (by omega:rm L (adv (tkIf (ap L s 15) s))<R)
  have h2:=(hk 5 _ _ _ h1).rm
  rw[h1]
  have h3:Ok L s1 (must (ap L s1 13) s1):=Ok.must fun h=>ao h
  have h4:=h3.rm
  obtain⟨y,s2,h5⟩:=hf 5 (by omega) (by omega) _ (by omega:rm L (must (ap L s1 13) s1)<R)
  simp only[h5]
  exact⟨_,_,rfl⟩
 split
 ·rename_i hc
  have ha:=fK (ao hc)
  exact Ez hk hkq hf hq e _ (by omega)
 ·exact⟨_,_,rfl⟩
theorem Cu {s:PS} (h:rm L s<=R):Df (fa L f q) s:=by
 unfold Df fa
 simp only
 split
 ·exact⟨_,_,rfl⟩
 split
 ·exact⟨_,_,rfl⟩
 split
 ·exact⟨_,_,rfl⟩
 split
 ·exact⟨_,_,rfl⟩
 split
 ·exact⟨_,_,rfl⟩
 split
 ·split<;>exact⟨_,_,rfl⟩
 split
 ·rename_i hc
  have ha:=fK (ax hc)
  obtain⟨x,s1,h1⟩:=hf 1 (by omega) (by omega) _ (by omega:rm L (adv s)<R)
  rw[h1];exact⟨_,_,rfl⟩
 split
 ·rename_i hc
  have ha:=fK (ao hc)
  have h3:Ok L (adv s) (must (aN L (adv s) 40) (adv s)):=Ok.must fun h=>ax h
  have h4:=h3.rm
  obtain⟨x,s1,h1⟩:=hq (must (aN L (adv s) 40) (adv s)) (by omega)
  rw[h1];exact⟨_,_,rfl⟩
 ·exact⟨_,_,rfl⟩
theorem A9 {s:PS} {lv:Nat} (h:rm L s<=R) (hlv:lv<=9) (hn:lv≠9->Df (f (lv+1)) s):Df (stepE L f q lv) s:=by
 unfold Df stepE
 split
 ·rename_i e;subst e
  split
  ·rename_i hc
   have ha:=fK (ao hc)
   obtain⟨x,s1,h1⟩:=hf 3 (by omega) (by omega) _ (by omega:rm L (adv s)<R)
   rw[h1];exact⟨_,_,rfl⟩
  ·exact hn (by omega)
 split
 ·rename_i e;subst e
  unfold kj
  obtain⟨x,s1,h1⟩:=hn (by omega)
  have h2:=(hk 5 _ _ _ h1).rm
  simp only[h1]
  split
  ·exact Ct hk hkq hf hq _ (by omega)
  ·rename_i ho
   have ha:=fK (d7 ho)
   obtain⟨y,s2,h3⟩:=hf 5 (by omega) (by omega) _ (by omega:rm L (adv s1)<R)
   rw[h3];exact⟨_,_,rfl⟩
 split
 ·rename_i e;subst e
  split
  ·rename_i hc
   have ha:=fK (ax hc)
   obtain⟨x,s1,h1⟩:=hf 8 (by omega) (by omega) _ (by omega:rm L (adv s)<R)
   rw[h1];exact⟨_,_,rfl⟩
  ·exact hn (by omega)
 split
 ·exact Cu hk hkq hf hq h
 ·rename_i e9
  obtain⟨x,s1,h1⟩:=hn e9
  have h2:=(hk _ _ _ _ h1).rm
  rw[h1]
  exact uh (hk _) (fun s' hs'=>hf _ (by omega) (by omega) s' hs') _ _ s1 (by omega) (oD s1)
end
section
variable (hk:∀lv,OkM (L:=L) (f lv)) {R:Nat} (hf:∀s,rm L s<=R->Df (f 1) s)
include hk hf
theorem xm {s:PS} (h:rm L s<=R):Df (fc L f) s:=by
 unfold Df fc
 split
 ·exact⟨_,_,rfl⟩
 split
 ·exact⟨_,_,rfl⟩
 obtain⟨x,s1,h1⟩:=hf s h
 rw[h1];exact⟨_,_,rfl⟩
theorem m6:∀(n:Nat) (l:List Source) (s:PS),rm L s<=R->rm L s<n->Df (bR L f n l) s
 |0,_,_,_,h=>absurd h (Nat.not_lt_zero _)
 |n+1,l,s,h,h'=>by
  unfold Df
  rw[bR]
  split
  ·rename_i ho
   have ha:=fK (ax ho)
   have hb:=(Ok.sourceM (L:=L) (adv s)).rm
   exact m6 n _ _ (by omega) (by omega)
  simp only
  split
  ·rename_i ho
   have ha:=fK (ao ho)
   have hb:=(Ok.sourceM (L:=L) (adv s)).rm
   have h3:Ok L (sourceM L (adv s)).2 (must (ap L (sourceM L (adv s)).2 5) (sourceM L (adv s)).2):=Ok.must fun h=>ao h
   have h4:=h3.rm
   obtain⟨x,s1,h1⟩:=hf _ (by omega:rm L (must (ap L (sourceM L (adv s)).2 5) (sourceM L (adv s)).2)<=R)
   have h5:=(hk 1 _ _ _ h1).rm
   rw[h1]
   exact m6 n _ s1 (by omega) (by omega)
  ·exact⟨_,_,rfl⟩
theorem ui {s:PS} (h:rm L s<=R):Df (du L f) s:=by
 unfold Df du
 split
 ·rename_i hc
  have ha:=fK (ao hc)
  obtain⟨x,s1,h1⟩:=hf (adv s) (by omega)
  rw[h1];exact⟨_,_,rfl⟩
 ·exact⟨_,_,rfl⟩
theorem xo {s:PS} (h:rm L s<=R):Df (fe L f) s:=by
 unfold Df fe
 obtain⟨x,s1,h1⟩:=hf s h
 simp only[h1]
 split<;>exact⟨_,_,rfl⟩
theorem Aa {s:PS} (h:rm L s<=R):Df (eW L f) s:=by
 unfold Df eW
 simp only
 split
 ·rename_i hc
  have ha:=fK (ao hc)
  have h3:Ok L (adv s) (must (ap L (adv s) 8) (adv s)):=Ok.must fun h=>ao h
  have h4:=h3.rm
  obtain⟨x,s1,h1⟩:=xo hk hf (s:=must (ap L (adv s) 8) (adv s)) (by omega)
  have h5:=(OkM.sort hk _ _ _ h1).rm
  rw[h1]
  exact lZ (R:=R) (OkM.sort hk) (fun s' hs'=>xo hk hf (by omega)) _ _ s1 (by omega) (oD s1)
 ·exact⟨_,_,rfl⟩
theorem Ab {s:PS} (h:rm L s<=R):Df (eX L f) s:=by
 unfold Df eX
 obtain⟨x,s1,h1⟩:=xm hk hf h
 have h5:=(OkM.item hk _ _ _ h1).rm
 rw[h1]
 exact lZ (R:=R) (OkM.item hk) (fun s' hs'=>xm hk hf (by omega)) _ _ s1 (by omega) (oD s1)
theorem Ac {s:PS} (h:rm L s<=R):Df (stepQ L f) s:=by
 unfold Df stepQ
 simp only
 have k1:Ok L s (must (ap L s 1) s):=Ok.must fun h=>ao h
 have k2:Ok L (must (ap L s 1) s) (tkIf (ap L (must (ap L s 1) s) 2) (must (ap L s 1) s)):=Ok.tkIf fun h=>ao h
 have k3:=(k1.trans k2).rm
 obtain⟨its,s2,h1⟩:=Ab hk hf (s:=tkIf (ap L (must (ap L s 1) s) 2) (must (ap L s 1) s)) (by omega)
 have h2:=(OkM.items hk _ _ _ h1).rm
 simp only[h1]
 have k4:Ok L s2 (must (ap L s2 3) s2):=Ok.must fun h=>ao h
 have k5:=(k4.trans (Ok.sourceM _)).rm
 obtain⟨frs,s4,h3⟩:=m6 hk hf (L.length+1) [(sourceM L (must (ap L s2 3) s2)).1] (sourceM L (must (ap L s2 3) s2)).2 (by omega) (oD _)
 have h4:=(OkM.sources hk _ _ _ _ _ h3).rm
 simp only[h3]
 obtain⟨wh,s5,h5⟩:=ui hk hf (s:=s4) (by omega)
 have h6:=(OkM.wher hk _ _ _ h5).rm
 simp only[h5]
 obtain⟨od,s6,h7⟩:=Aa hk hf (s:=s5) (by omega)
 simp only[h7]
 exact⟨_,_,rfl⟩
end
theorem Ad:∀k,(∀lv,1<=lv->lv<=9->∀s,16*rm L s+10<=k+lv->Df ((pP L k).1 lv) s)/\(∀s,16*rm L s+11<=k->Df (pP L k).2 s)
 |0=>⟨fun lv _ h2 s h=>by omega,fun s h=>by omega⟩
 |k+1=>by
  obtain⟨i1,i2⟩:=Ad k
  obtain⟨o1,o2⟩:=jZ (L:=L) k
  refine⟨fun lv h1 h2 s h=>?_,fun s h=>?_⟩
  ·exact A9 o1 o2 (R:=rm L s) (fun lv' a b s' hs=>i1 lv' a b s' (by omega)) (fun s' hs=>i2 s' (by omega)) (Nat.le_refl _) h2 (fun hn=>i1 _ (by omega) (by omega) s (by omega))
  ·exact Ac o1 (R:=rm L s) (fun s' hs=>i1 1 (by omega) (by omega) s' (by omega)) (Nat.le_refl _)
def pD (L:List Tok):Nat:=16*L.length+16
def hD (L:List Tok):Nat->PM Expr:=(pP L (pD L)).1
def iX (L:List Tok):PM Query:=(pP L (pD L)).2
theorem jc (lv:Nat) (h1:1<=lv) (h2:lv<=9) (s:PS):Df (hD L lv) s:=(Ad (pD L)).1 lv h1 h2 s (by unfold pD rm;omega)
theorem jd (s:PS):Df (iX L) s:=(Ad (pD L)).2 s (by unfold pD rm;omega)
end
def uj (b:UInt8):Bool:=b==32||b==9||b==10||b==13
def fu (b:UInt8):Bool:=ki (b.toNat:Int)
def gz (b:UInt8):Bool:=decide (48<=(b.toNat:Int)/\(b.toNat:Int)<=57)
section
variable (B:List UInt8)
def da (at_:Nat):Nat:=at_+((B.drop at_).takeWhile fun b=>!(b==10)).length
def lM:Nat->Nat->Option Nat
 |0,_=>none
 |n+1,i=>if B[i]?=some 42/\B[i+1]?=some 47 then some i else if i<B.length then lM n (i+1) else none
def fv:Nat->Nat->Option (Nat×Bool)
 |0,_=>none
 |n+1,i=>match B[i]? with
  |none=>some (i,true)
  |some b=>if uj b=true then fv n (i+1)
   else if b=45/\B[i+1]?=some 45 then fv n (da B i)
   else if b=47/\B[i+1]?=some 42 then (match lM B (B.length+1) (i+2) with
    |some e=>fv n (e+2)
    | none=>some (i,false))
   else some (i,true)
def bf (i:Nat):Nat:=i+((B.drop i).takeWhile fun b=>fu b||gz b).length
def dv (q:UInt8):Nat->Nat->List UInt8->Option (List UInt8×Nat)
 |0,_,_=>none
 |n+1,i,l=>match B[i]? with
  |none=>none
  |some b=>if b=q then (if B[i+1]?=some q then dv q n (i+2) (l++[q]) else some (l,i+1)) else dv q n (i+1) (l++[b])
def aZ (i j:Nat):ByteArray:=⟨((B.drop i).take (j-i)).toArray⟩
def dk (i:Nat):Nat:=if i+2<=B.length/\fp (aZ B i (i+2))=true then i+2 else i+1
def cB (i:Nat) (b:UInt8):Option (Tok×Nat):=
 if fu b=true then
  let x:=aZ B i (bf B i)
  some (if lK x=0 then ⟨2,x,i⟩ else ⟨1,bW x,i⟩,bf B i)
 else if gz b=true then some (⟨3,aZ B i (bf B i),i⟩,bf B i)
 else if b=34 then (dv B 34 (B.length+1) (i+1) []).map fun x=>(⟨2,⟨x.1.toArray⟩,i⟩,x.2)
 else if b=39 then (dv B 39 (B.length+1) (i+1) []).map fun x=>(⟨4,⟨x.1.toArray⟩,i⟩,x.2)
 else some (⟨5,aZ B i (dk B i),i⟩,dk B i)
def bk (i:Nat) (b:UInt8):Option (Tok×Nat):=match cB B i b with
 |some (t,e)=>if bg t=true then some (t,e) else none
 |none=>none
def oW:Nat->Nat->List Tok->Option (List Tok ⊕ Nat)
 |0,_,_=>none
 |n+1,i,l=>match fv B (B.length+1) i with
  |none=>none
  |some (p,ok)=>if ok=false then some (.inr p) else match B[p]? with
   |none=>some (.inl l)
   |some b=>match bk B p b with
    |none=>some (.inr p)
    |some (t,e)=>oW n e (l++[t])
end
theorem Ds {α:Type} (p:α->Bool) (l:List α):(l.takeWhile p).length<=l.length:=(List.takeWhile_sublist p).length_le
section
variable {B:List UInt8}
theorem mH (i:Nat):i<=da B i:=Nat.le_add_right _ _
theorem uk {i:Nat} (h:i<=B.length):da B i<=B.length:=by
 have:=Ds (fun b=>!(b==10)) (B.drop i)
 rw[List.length_drop] at this
 unfold da;omega
theorem mI (i:Nat):i<=bf B i:=Nat.le_add_right _ _
theorem mJ {i:Nat} (h:i<=B.length):bf B i<=B.length:=by
 have:=Ds (fun b=>fu b||gz b) (B.drop i)
 rw[List.length_drop] at this
 unfold bf;omega
theorem xp {α:Type} (p:α->Bool) (B:List α) (i:Nat):((B.drop i).takeWhile p).length=(match B[i]? with|some b=>if p b=true then ((B.drop (i+1)).takeWhile p).length+1 else 0|none=>0):=by
 cases h:B[i]? with
 |none=>
  rw[List.drop_eq_nil_of_le (List.getElem?_eq_none_iff.1 h)];rfl
 |some b=>
  obtain⟨hl,rfl⟩:=List.getElem?_eq_some_iff.1 h
  rw[List.drop_eq_getElem_cons hl,List.takeWhile_cons]
  split<;>simp_all
theorem eY (i:Nat):da B i=(match B[i]? with|some b=>if b=10 then i else da B (i+1)|none=>i):=by
 unfold da
 rw[xp]
 cases B[i]? with
 |none=>rfl
 |some b=>
  by_cases h:b=10
  ·simp [h]
  ·simp [h];omega
theorem jG (i:Nat):bf B i=(match B[i]? with|some b=>if (fu b||gz b)=true then bf B (i+1) else i|none=>i):=by
 unfold bf
 rw[xp]
 cases B[i]? with
 |none=>rfl
 |some b=>
  by_cases h:(fu b||gz b)=true
  ·simp only[h,if_true];omega
  ·simp only[h];rfl
theorem m8:∀ {n i e:Nat},lM B n i=some e->i<=e/\e+1<B.length
 |0,_,_,h=>by cases h
 |n+1,i,e,h=>by
  rw[lM] at h
  split at h
  ·rename_i hc
   injection h with h;subst h
   exact⟨Nat.le_refl _,(List.getElem?_eq_some_iff.1 hc.2).1⟩
  ·split at h
   ·have:=m8 h;omega
   ·cases h
theorem eu:∀(n i:Nat),i<=B.length->B.length-i<n->∃p ok,fv B n i=some (p,ok)/\i<=p/\p<=B.length
 |0,_,_,h=>absurd h (Nat.not_lt_zero _)
 |n+1,i,hi,h=>by
  rw[fv]
  cases hb:B[i]? with
  |none=>exact⟨i,true,rfl,Nat.le_refl _,hi⟩
  |some b=>
   have hlt:i<B.length:=(List.getElem?_eq_some_iff.1 hb).1
   simp only
   split
   ·obtain⟨p,ok,h1,h2,h3⟩:=eu n (i+1) (by omega) (by omega)
    exact⟨p,ok,h1,by omega,h3⟩
   split
   ·rename_i hc
    have h10:¬b=10:=by rw[hc.1];decide
    have e1:=eY (B:=B) i
    rw[hb] at e1
    simp only[h10,if_false] at e1
    have g1:=mH (B:=B) (i+1)
    have g2:=uk (B:=B) (i:=i+1) (by omega)
    obtain⟨p,ok,h1,h2,h3⟩:=eu n (da B i) (by omega) (by omega)
    exact⟨p,ok,h1,by omega,h3⟩
   split
   ·rename_i hc
    cases he:lM B (B.length+1) (i+2) with
    |none=>exact⟨i,false,rfl,Nat.le_refl _,hi⟩
    |some e=>
     have:=m8 he
     obtain⟨p,ok,h1,h2,h3⟩:=eu n (e+2) (by omega) (by omega)
     exact⟨p,ok,h1,by omega,h3⟩
   ·exact⟨i,true,rfl,Nat.le_refl _,hi⟩
theorem dH {q:UInt8}:∀ {n i:Nat} {l:List UInt8} {x:List UInt8} {e:Nat},dv B q n i l=some (x,e)->i<e/\e<=B.length/\x.length+i<l.length+e
 |0,_,_,_,_,h=>by cases h
 |n+1,i,l,x,e,h=>by
  rw[dv] at h
  cases hb:B[i]? with
  |none=>rw[hb] at h;cases h
  |some b=>
   have hlt:i<B.length:=(List.getElem?_eq_some_iff.1 hb).1
   rw[hb] at h
   simp only at h
   split at h
   ·split at h
    ·have:=dH h
     simp only[aB,List.length_cons,List.length_nil] at this;omega
    ·injection h with h;injection h with h1 h2;subst h1;omega
   ·have:=dH h
    simp only[aB,List.length_cons,List.length_nil] at this;omega
theorem rA {i:Nat} (h:i<B.length):i<dk B i/\dk B i<=B.length:=by
 unfold dk
 split<;>omega
theorem vY {i e:Nat} {b:UInt8} {t:Tok} (hb:B[i]?=some b) (h:cB B i b=some (t,e)):i<e/\e<=B.length:=by
 have hlt:i<B.length:=(List.getElem?_eq_some_iff.1 hb).1
 unfold cB at h
 simp only at h
 have run:fu b=true∨gz b=true->i<bf B i/\bf B i<=B.length:=fun hc=>by
  have e1:=jG (B:=B) i
  have h1:(fu b||gz b)=true:=by rcases hc with h|h<;>simp [h]
  rw[hb] at e1
  simp only[h1,if_true] at e1
  have:=mI (B:=B) (i+1)
  exact⟨by omega,mJ (by omega)⟩
 split at h
 ·rename_i hc
  injection h with h;injection h with _ h;subst h
  exact run (.inl hc)
 split at h
 ·rename_i hc
  injection h with h;injection h with _ h;subst h
  exact run (.inr hc)
 split at h
 ·rw[Option.map_eq_some_iff] at h
  obtain⟨⟨x,y⟩,h1,h2⟩:=h
  injection h2 with _ h2;subst h2
  have:=dH h1;omega
 split at h
 ·rw[Option.map_eq_some_iff] at h
  obtain⟨⟨x,y⟩,h1,h2⟩:=h
  injection h2 with _ h2;subst h2
  have:=dH h1;omega
 ·injection h with h;injection h with _ h;subst h
  exact rA hlt
theorem hJ {i e:Nat} {b:UInt8} {t:Tok} (hb:B[i]?=some b) (h:bk B i b=some (t,e)):i<e/\e<=B.length/\bg t=true:=by
 unfold bk at h
 split at h
 ·rename_i t' e' hr
  split at h
  ·rename_i ho
   injection h with h;injection h with h1 h2;subst h1 h2
   have:=vY hb hr
   exact⟨this.1,this.2,ho⟩
  ·cases h
 ·cases h
theorem mK:∀(n i:Nat) (l:List Tok),i<=B.length->B.length-i<n->∃r,oW B n i l=some r
 |0,_,_,_,h=>absurd h (Nat.not_lt_zero _)
 |n+1,i,l,hi,h=>by
  rw[oW]
  obtain⟨p,ok,h1,h2,h3⟩:=eu (B:=B) (B.length+1) i hi (by omega)
  rw[h1]
  simp only
  split
  ·exact⟨_,rfl⟩
  cases hb:B[p]? with
  |none=>exact⟨_,rfl⟩
  |some b=>
   simp only
   cases ho:bk B p b with
   |none=>exact⟨_,rfl⟩
   |some x=>
    obtain⟨t,e⟩:=x
    have:=hJ hb ho
    exact mK n e _ (by omega) (by omega)
theorem rB:∀ {n i:Nat} {l m:List Tok},i<=B.length->oW B n i l=some (.inl m)->(∀t∈l,bg t=true)->(∀t∈m,bg t=true)/\m.length<=l.length+(B.length-i)
 |0,_,_,_,_,h,_=>by cases h
 |n+1,i,l,m,hi,h,hl=>by
  rw[oW] at h
  obtain⟨p,ok,h1,h2,h3⟩:=eu (B:=B) (B.length+1) i hi (by omega)
  rw[h1] at h
  simp only at h
  split at h
  ·cases h
  cases hb:B[p]? with
  |none=>rw[hb] at h;injection h with h;injection h with h;subst h;exact⟨hl,by omega⟩
  |some b=>
   rw[hb] at h
   simp only at h
   cases ho:bk B p b with
   |none=>rw[ho] at h;cases h
   |some x=>
    obtain⟨t,e⟩:=x
    rw[ho] at h
    have:=hJ hb ho
    obtain⟨k1,k2⟩:=rB (by omega) h (fun t' ht'=>by
     rcases List.mem_append.1 ht' with h|h
     ·exact hl t' h
     ·rw[List.mem_singleton.1 h];exact this.2.2)
    refine⟨k1,?_⟩
    simp only[aB,List.length_cons,List.length_nil] at k2
    omega
end
def fw (s:ByteArray):List Tok ⊕ Nat:=if 2000<s.size then .inr 2000 else (oW s.data.toList (s.data.toList.length+1) 0 []).getD (.inr 0)
def bY:Query:=.mk false [] [] [] [] 0
def eg:Stmt:=.mk 0 bY z0 [] [] [] []
section
variable (L:List Tok)
def mb (f:Nat->PM Expr):PM ERow:=fun s=>match jb L f (must (aN L s 40) s) with
 |none=>none
 |some (l,s1)=>some (.mk l,must (aN L s1 41) s1)
def lN (f:Nat->PM Expr):PM (List ERow):=fun s=>match mb L f s with
 |none=>none
 |some (x,s1)=>dt L (mb L f) (L.length+1) [x] s1
def lE (f:Nat->PM Expr):PM (ByteArray×Expr):=fun s=>
 let s1:=(mText L 2 s).2
 match f 1 (must (aN L s1 61) s1) with
 |none=>none
 |some (e,s2)=>some (((mText L 2 s).1,e),s2)
def mL (f:Nat->PM Expr):PM (List (ByteArray×Expr)):=fun s=>match lE L f s with
 |none=>none
 |some (x,s1)=>dt L (lE L f) (L.length+1) [x] s1
def fW (f:Nat->PM Expr):PM Stmt:=fun s=>
 let s1:=must (ap L s 24) s
 let s2:=(mText L 2 s1).2
 match lN L f (must (ap L s2 25) s2) with
 |none=>none
 |some (rs,s3)=>some (.mk 2 bY (mText L 2 s1).1 rs [] [] [],s3)
def fX (f:Nat->PM Expr):PM Stmt:=fun s=>
 let s1:=(mText L 2 s).2
 match mL L f (must (ap L s1 27) s1) with
 |none=>none
 |some (l,s2)=>match du L f s2 with
  |none=>none
  |some (w,s3)=>some (.mk 3 bY (mText L 2 s).1 [] (l.map (·.1)) (l.map (·.2)) w,s3)
def gI (f:Nat->PM Expr):PM Stmt:=fun s=>
 let s1:=must (ap L s 3) s
 match du L f (mText L 2 s1).2 with
 |none=>none
 |some (w,s2)=>some (.mk 4 bY (mText L 2 s1).1 [] [] [] w,s2)
def gA (f:Nat->PM Expr) (q:PM Query):PM Stmt:=fun s=>
 if ap L s 1=true then (match q s with
  |none=>none
  | some (x,s1)=>some (.mk 1 x z0 [] [] [] [],s1))
 else if ap L s 23=true then fW L f (adv s)
 else if ap L s 26=true then fX L f (adv s)
 else if ap L s 28=true then gI L f (adv s)
 else some (eg,fl s)
def fM (s:PS):Int:=if s.b=false/\L.length<=s.a then -1 else s.a
def s0:PS:=⟨0,false⟩
def ff {α:Type} (z:α):Option (α×PS)->α×Int
 |none=>(z,0)
 |some (x,s)=>if 0<=fM L s then (z,fM L s) else (x,-1)
def bK:Expr×Int:=ff L zExpr (hD L 1 s0)
def eG:Stmt×Int:=ff L eg (gA L (hD L) (iX L) s0)
end
section
variable {L:List Tok} {f:Nat->PM Expr} {q:PM Query}
theorem OkM.row (hf:∀lv,OkM (L:=L) (f lv)):OkM (L:=L) (mb L f):=fun s x s' h=>by
 unfold mb at h
 split at h
 ·cases h
 ·rename_i l s1 h1
  injection h with h;injection h with _ h;subst h
  exact (Ok.must fun h=>ax h).trans ((OkM.ors hf _ _ _ h1).trans (Ok.must fun h=>ax h))
theorem OkM.rows (hf:∀lv,OkM (L:=L) (f lv)):OkM (L:=L) (lN L f):=fun s x s' h=>by
 unfold lN at h
 split at h
 ·cases h
 ·rename_i y s1 h1
  exact (OkM.row hf _ _ _ h1).trans (OkM.sep (OkM.row hf) _ _ _ _ _ h)
theorem OkM.set1 (hf:∀lv,OkM (L:=L) (f lv)):OkM (L:=L) (lE L f):=fun s x s' h=>by
 unfold lE at h
 simp only at h
 split at h
 ·cases h
 ·rename_i y s1 h1
  injection h with h;injection h with _ h;subst h
  exact (Ok.mText 2 s).trans ((Ok.must fun h=>ax h).trans (hf 1 _ _ _ h1))
theorem OkM.sets (hf:∀lv,OkM (L:=L) (f lv)):OkM (L:=L) (mL L f):=fun s x s' h=>by
 unfold mL at h
 split at h
 ·cases h
 ·rename_i y s1 h1
  exact (OkM.set1 hf _ _ _ h1).trans (OkM.sep (OkM.set1 hf) _ _ _ _ _ h)
theorem OkM.insert (hf:∀lv,OkM (L:=L) (f lv)):OkM (L:=L) (fW L f):=fun s x s' h=>by
 unfold fW at h
 simp only at h
 split at h
 ·cases h
 ·rename_i y s1 h1
  injection h with h;injection h with _ h;subst h
  exact (Ok.must fun h=>ao h).trans ((Ok.mText 2 _).trans ((Ok.must fun h=>ao h).trans (OkM.rows hf _ _ _ h1)))
theorem OkM.update (hf:∀lv,OkM (L:=L) (f lv)):OkM (L:=L) (fX L f):=fun s x s' h=>by
 unfold fX at h
 simp only at h
 split at h
 ·cases h
 ·rename_i y s1 h1
  split at h
  ·cases h
  ·rename_i z s2 h2
   injection h with h;injection h with _ h;subst h
   exact (Ok.mText 2 _).trans ((Ok.must fun h=>ao h).trans ((OkM.sets hf _ _ _ h1).trans (OkM.wher hf _ _ _ h2)))
theorem OkM.delete (hf:∀lv,OkM (L:=L) (f lv)):OkM (L:=L) (gI L f):=fun s x s' h=>by
 unfold gI at h
 simp only at h
 split at h
 ·cases h
 ·rename_i y s1 h1
  injection h with h;injection h with _ h;subst h
  exact (Ok.must fun h=>ao h).trans ((Ok.mText 2 _).trans (OkM.wher hf _ _ _ h1))
theorem OkM.stmt (hf:∀lv,OkM (L:=L) (f lv)) (hq:OkM (L:=L) q):OkM (L:=L) (gA L f q):=fun s x s' h=>by
 unfold gA at h
 split at h
 ·split at h
  ·cases h
  ·rename_i y s1 h1
   injection h with h;injection h with _ h;subst h
   exact hq _ _ _ h1
 split at h
 ·rename_i hc;exact (Ok.adv (ao hc)).trans (OkM.insert hf _ _ _ h)
 split at h
 ·rename_i hc;exact (Ok.adv (ao hc)).trans (OkM.update hf _ _ _ h)
 split at h
 ·rename_i hc;exact (Ok.adv (ao hc)).trans (OkM.delete hf _ _ _ h)
 ·injection h with h;injection h with _ h;subst h;exact Ok.fl s
theorem eh (lv:Nat):OkM (L:=L) (hD L lv):=(jZ (pD L)).1 lv
theorem je:OkM (L:=L) (iX L):=(jZ (pD L)).2
section
variable (hk:∀lv,OkM (L:=L) (f lv)) (hf:∀s,Df (f 1) s)
include hk hf
theorem Cw (s:PS):Df (jb L f) s:=by
 obtain⟨x,s1,h1⟩:=hf s
 unfold Df jb
 rw[h1]
 exact lZ (R:=L.length) (hk 1) (fun s _=>hf s) _ _ s1 (by show L.length-s1.a<=_;omega) (oD s1)
theorem xq (s:PS):Df (mb L f) s:=by
 obtain⟨x,s1,h1⟩:=Cw hk hf (must (aN L s 40) s)
 unfold Df mb
 rw[h1];exact⟨_,_,rfl⟩
theorem Ae (s:PS):Df (lN L f) s:=by
 obtain⟨x,s1,h1⟩:=xq hk hf s
 unfold Df lN
 rw[h1]
 exact lZ (R:=L.length) (OkM.row hk) (fun s _=>xq hk hf s) _ _ s1 (by show L.length-s1.a<=_;omega) (oD s1)
theorem xr (s:PS):Df (lE L f) s:=by
 unfold Df lE
 simp only
 obtain⟨x,s1,h1⟩:=hf (must (aN L (mText L 2 s).2 61) (mText L 2 s).2)
 rw[h1];exact⟨_,_,rfl⟩
theorem Af (s:PS):Df (mL L f) s:=by
 obtain⟨x,s1,h1⟩:=xr hk hf s
 unfold Df mL
 rw[h1]
 exact lZ (R:=L.length) (OkM.set1 hk) (fun s _=>xr hk hf s) _ _ s1 (by show L.length-s1.a<=_;omega) (oD s1)
theorem rC (s:PS):Df (du L f) s:=ui hk (R:=L.length) (fun s _=>hf s) (by show L.length-s.a<=_;omega)
theorem pK (hq:∀s,Df q s) (s:PS):Df (gA L f q) s:=by
 unfold Df gA
 split
 ·obtain⟨x,s1,h1⟩:=hq s
  rw[h1];exact⟨_,_,rfl⟩
 split
 ·unfold fW
  simp only
  obtain⟨x,s1,h1⟩:=Ae hk hf (must (ap L (mText L 2 (must (ap L (adv s) 24) (adv s))).2 25) (mText L 2 (must (ap L (adv s) 24) (adv s))).2)
  rw[h1];exact⟨_,_,rfl⟩
 split
 ·unfold fX
  simp only
  obtain⟨x,s1,h1⟩:=Af hk hf (must (ap L (mText L 2 (adv s)).2 27) (mText L 2 (adv s)).2)
  simp only[h1]
  obtain⟨y,s2,h2⟩:=rC hk hf s1
  rw[h2];exact⟨_,_,rfl⟩
 split
 ·unfold gI
  simp only
  obtain⟨y,s2,h2⟩:=rC hk hf (mText L 2 (must (ap L (adv s) 3) (adv s))).2
  rw[h2];exact⟨_,_,rfl⟩
 ·exact⟨_,_,rfl⟩
end
end
section
variable {L:List Tok}
def LeM {α:Type} (m m':PM α):Prop:=∀s r,m s=some r->m' s=some r
theorem LeM.chain {g g':PM Expr} (hg:LeM g g') (lv:Nat):∀(n:Nat) (e:Expr),LeM (cJ L g lv n e) (cJ L g' lv n e)
 |0,_,_,_,h=>by cases h
 |n+1,e,s,r,h=>by
  rw[cJ] at h ⊢
  split at h
  ·rename_i hc;rw[if_pos hc];exact h
  ·rename_i hc
   rw[if_neg hc]
   split at h
   ·cases h
   ·rename_i y s1 h1
    rw[hg _ _ h1]
    exact LeM.chain hg lv n _ _ _ h
theorem LeM.sep {α:Type} {g g':PM α} (hg:LeM g g'):∀(n:Nat) (l:List α),LeM (dt L g n l) (dt L g' n l)
 |0,_,_,_,h=>by cases h
 |n+1,l,s,r,h=>by
  rw[dt] at h ⊢
  split at h
  ·rename_i hc
   rw[if_pos hc]
   split at h
   ·cases h
   ·rename_i y s1 h1
    rw[hg _ _ h1]
    exact LeM.sep hg n _ _ _ h
  ·rename_i hc;rw[if_neg hc];exact h
variable {f f':Nat->PM Expr} {q q':PM Query} (hf:∀lv,LeM (f lv) (f' lv)) (hq:LeM q q')
include hf
theorem LeM.ors:LeM (jb L f) (jb L f'):=fun s r h=>by
 unfold jb at h ⊢
 split at h
 ·cases h
 ·rename_i y s1 h1
  rw[hf 1 _ _ h1]
  exact LeM.sep (hf 1) _ _ _ _ h
include hq in
theorem LeM.inn (e:Expr) (n:Bool):LeM (ug L f q e n) (ug L f' q' e n):=fun s r h=>by
 unfold ug at h ⊢
 simp only at h ⊢
 split at h
 ·rename_i hc
  rw[if_pos hc]
  split at h
  ·cases h
  ·rename_i y s1 h1
   rw[hq _ _ h1];exact h
 ·rename_i hc
  rw[if_neg hc]
  split at h
  ·cases h
  ·rename_i y s1 h1
   rw[LeM.ors hf _ _ h1];exact h
include hq in
theorem LeM.cmpT (e:Expr):LeM (cmpT L f q e) (cmpT L f' q' e):=fun s r h=>by
 unfold Go.Proofs.YtbodcedhmccenaaGreatDoor.cmpT at h ⊢
 simp only at h ⊢
 split at h
 ·rename_i hc;rw[if_pos hc];exact h
 ·rename_i hc
  rw[if_neg hc]
  split at h
  ·rename_i hd
   rw[if_pos hd]
   split at h
   ·cases h
   ·rename_i y s1 h1
    rw[hf 5 _ _ h1]
    simp only
    split at h
    ·cases h
    ·rename_i z s2 h2
     rw[hf 5 _ _ h2];exact h
  ·rename_i hd
   rw[if_neg hd]
   split at h
   ·rename_i he;rw[if_pos he];exact LeM.inn hf hq _ _ _ _ h
   ·rename_i he;rw[if_neg he];exact h
include hq in
theorem LeM.cmp:LeM (kj L f q) (kj L f' q'):=fun s r h=>by
 unfold kj at h ⊢
 split at h
 ·cases h
 ·rename_i y s1 h1
  rw[hf 5 _ _ h1]
  simp only
  split at h
  ·rename_i hc;rw[if_pos hc];exact LeM.cmpT hf hq _ _ _ h
  ·rename_i hc
   rw[if_neg hc]
   split at h
   ·cases h
   ·rename_i z s2 h2
    rw[hf 5 _ _ h2];exact h
include hq in
theorem LeM.prim:LeM (fa L f q) (fa L f' q'):=fun s r h=>by
 unfold fa at h ⊢
 simp only at h ⊢
 split at h
 ·rename_i hc;rw[if_pos hc];exact h
 rename_i c1
 rw[if_neg c1]
 split at h
 ·rename_i hc;rw[if_pos hc];exact h
 rename_i c2
 rw[if_neg c2]
 split at h
 ·rename_i hc;rw[if_pos hc];exact h
 rename_i c3
 rw[if_neg c3]
 split at h
 ·rename_i hc;rw[if_pos hc];exact h
 rename_i c4
 rw[if_neg c4]
 split at h
 ·rename_i hc;rw[if_pos hc];exact h
 rename_i c5
 rw[if_neg c5]
 split at h
 ·rename_i hc;rw[if_pos hc];exact h
 rename_i c6
 rw[if_neg c6]
 split at h
 ·rename_i hc
  rw[if_pos hc]
  split at h
  ·cases h
  ·rename_i y s1 h1
   rw[hf 1 _ _ h1];exact h
 rename_i c7
 rw[if_neg c7]
 split at h
 ·rename_i hc
  rw[if_pos hc]
  split at h
  ·cases h
  ·rename_i y s1 h1
   rw[hq _ _ h1];exact h
 ·rename_i hc;rw[if_neg hc];exact h
include hq in
theorem LeM.stepE (lv:Nat):LeM (stepE L f q lv) (stepE L f' q' lv):=fun s r h=>by
 unfold Go.Proofs.YtbodcedhmccenaaGreatDoor.stepE at h ⊢
 split at h
 ·rename_i hc
  rw[if_pos hc]
  split at h
  ·rename_i hd
   rw[if_pos hd]
   split at h
   ·cases h
   ·rename_i y s1 h1
    rw[hf 3 _ _ h1];exact h
  ·rename_i hd;rw[if_neg hd];exact hf 4 _ _ h
 rename_i c1
 rw[if_neg c1]
 split at h
 ·rename_i hc;rw[if_pos hc];exact LeM.cmp hf hq _ _ h
 rename_i c2
 rw[if_neg c2]
 split at h
 ·rename_i hc
  rw[if_pos hc]
  split at h
  ·rename_i hd
   rw[if_pos hd]
   split at h
   ·cases h
   ·rename_i y s1 h1
    rw[hf 8 _ _ h1];exact h
  ·rename_i hd;rw[if_neg hd];exact hf 9 _ _ h
 rename_i c3
 rw[if_neg c3]
 split at h
 ·rename_i hc;rw[if_pos hc];exact LeM.prim hf hq _ _ h
 ·rename_i hc
  rw[if_neg hc]
  split at h
  ·cases h
  ·rename_i y s1 h1
   rw[hf _ _ _ h1]
   exact LeM.chain (hf _) _ _ _ _ _ h
theorem LeM.item:LeM (fc L f) (fc L f'):=fun s r h=>by
 unfold fc at h ⊢
 split at h
 ·rename_i hc;rw[if_pos hc];exact h
 rename_i c1
 rw[if_neg c1]
 split at h
 ·rename_i hc;rw[if_pos hc];exact h
 rename_i c2
 rw[if_neg c2]
 split at h
 ·cases h
 ·rename_i y s1 h1
  rw[hf 1 _ _ h1];exact h
theorem LeM.sources:∀(n:Nat) (l:List Source),LeM (bR L f n l) (bR L f' n l)
 |0,_,_,_,h=>by cases h
 |n+1,l,s,r,h=>by
  rw[bR] at h ⊢
  split at h
  ·rename_i hc;rw[if_pos hc];exact LeM.sources n _ _ _ h
  rename_i c1
  rw[if_neg c1]
  simp only at h ⊢
  split at h
  ·rename_i hc
   rw[if_pos hc]
   split at h
   ·cases h
   ·rename_i y s1 h1
    rw[hf 1 _ _ h1]
    exact LeM.sources n _ _ _ h
  ·rename_i hc;rw[if_neg hc];exact h
theorem LeM.wher:LeM (du L f) (du L f'):=fun s r h=>by
 unfold du at h ⊢
 split at h
 ·rename_i hc
  rw[if_pos hc]
  split at h
  ·cases h
  ·rename_i y s1 h1
   rw[hf 1 _ _ h1];exact h
 ·rename_i hc;rw[if_neg hc];exact h
theorem LeM.sort:LeM (fe L f) (fe L f'):=fun s r h=>by
 unfold fe at h ⊢
 split at h
 ·cases h
 ·rename_i y s1 h1
  rw[hf 1 _ _ h1];exact h
theorem LeM.order:LeM (eW L f) (eW L f'):=fun s r h=>by
 unfold eW at h ⊢
 simp only at h ⊢
 split at h
 ·rename_i hc
  rw[if_pos hc]
  split at h
  ·cases h
  ·rename_i y s1 h1
   rw[LeM.sort hf _ _ h1]
   exact LeM.sep (LeM.sort hf) _ _ _ _ h
 ·rename_i hc;rw[if_neg hc];exact h
theorem LeM.items:LeM (eX L f) (eX L f'):=fun s r h=>by
 unfold eX at h ⊢
 split at h
 ·cases h
 ·rename_i y s1 h1
  rw[LeM.item hf _ _ h1]
  exact LeM.sep (LeM.item hf) _ _ _ _ h
theorem LeM.stepQ:LeM (stepQ L f) (stepQ L f'):=fun s r h=>by
 unfold Go.Proofs.YtbodcedhmccenaaGreatDoor.stepQ at h ⊢
 simp only at h ⊢
 split at h
 ·cases h
 rename_i its s2 h1
 rw[LeM.items hf _ _ h1]
 simp only
 split at h
 ·cases h
 rename_i frs s4 h2
 rw[LeM.sources hf _ _ _ _ h2]
 simp only
 split at h
 ·cases h
 rename_i wh s5 h3
 rw[LeM.wher hf _ _ h3]
 simp only
 split at h
 ·cases h
 rename_i od s6 h4
 rw[LeM.order hf _ _ h4]
 exact h
omit hf
theorem pj:∀k,(∀lv,LeM ((pP L k).1 lv) ((pP L (k+1)).1 lv))/\LeM (pP L k).2 (pP L (k+1)).2
 |0=>⟨fun _ _ _ h=>(by cases h),fun _ _ h=>(by cases h)⟩
 |k+1=>⟨fun lv=>LeM.stepE (pj k).1 (pj k).2 lv,LeM.stepQ (pj k).1⟩
theorem EA {α:Type} {m m':PM α} (h:LeM m m') (s:PS) (hd:Df m s):m' s=m s:=by
 obtain⟨x,s1,h1⟩:=hd
 rw[h1,h _ _ h1]
theorem yT (s:PS):iX L s=stepQ L (hD L) s:=by
 have:=EA (pj (L:=L) (pD L)).2 s (jd s)
 exact this.symm
end
end Go.Proofs.YtbodcedhmccenaaGreatDoor
