/-
  What is printed is read again.
  Conditions: none.
-/
import Derived.Test.YtbodcedhmccenaaGreatDoorPFJ1
set_option linter.unusedVariables false
set_option linter.unusedSimpArgs false
set_option linter.unnecessarySimpa false
set_option linter.unusedSectionVars false
set_option maxRecDepth 8000
namespace Go.Proofs.YtbodcedhmccenaaGreatDoor
open Go Go.Dv
open Go.Vc (D dg dh cX bk)
section
variable {L:List Tok}
def hd (L:List Tok) (a:Nat):Option (Int×ByteArray):=L[a]?.map fun t=>(t.kind,t.text)
def gw (L:List Tok):Nat->List Tok->Prop
 |_,[]=>True
 |a,t::r=>hd L a=some (t.kind,t.text)/\gw L (a+1) r
theorem bN:∀ {l m:List Tok} {a:Nat},gw L a (l++m)↔gw L a l/\gw L (a+l.length) m
 | [],m,a=>by simp [gw]
 |t::r,m,a=>by
  rw[List.cons_append,gw,gw,bN,and_assoc,List.length_cons,show a+1+r.length=a+(r.length+1) by omega]
abbrev P0 (a:Nat):PS:=⟨a,false⟩
theorem mX (a k:Nat) (kind:Int) (x:ByteArray):jp L (P0 a) k kind x=decide (hd L (a+k)=some (kind,x)):=by
 unfold jp gK hd
 simp only[Bool.false_eq_true,if_false]
 cases L[a+k]? with
 |none=>simp
 |some t=>simp only[Option.map_some,Option.some.injEq,Prod.mk.injEq,Bool.decide_and]
theorem Ey (t:Tok):aJ t=aJ ⟨t.kind,t.text,0⟩:=by cases t;rfl
theorem mY {a:Nat} {kind k:Int} {x:ByteArray} (h:hd L a=some (k,x)):iZ L (P0 a) kind=(decide (k=kind)&&aJ ⟨k,x,0⟩):=by
 unfold iZ gK
 unfold hd at h
 simp only[Bool.false_eq_true,if_false,Nat.add_zero]
 cases hl:L[a]? with
 |none=>rw[hl] at h;cases h
 |some t=>
  rw[hl] at h
  injection h with h;injection h with h1 h2
  subst h1 h2
  simp only
  rw[Ey t]
theorem gc {a:Nat} {k:Int} {x:ByteArray} (h:hd L a=some (k,x)):bv L (P0 a)=x:=by
 unfold bv gK
 unfold hd at h
 simp only[Bool.false_eq_true,if_false,Nat.add_zero]
 cases hl:L[a]? with
 |none=>rw[hl] at h;cases h
 |some t=>
  rw[hl] at h
  injection h with h;injection h with h1 h2
theorem C2 (a k:Nat):aw L (P0 a) k=decide (hd L a=some (1,kw k)):=mX a 0 1 _
theorem Gu (a:Nat) (c:UInt8):bt L (P0 a) c=decide (hd L a=some (5,⟨#[c]⟩)):=mX a 0 5 _
theorem d6 (a:Nat):adv (P0 a)=P0 (a+1):=rfl
def fw (op:Nat):Int:=if op=1∨op=2 then 1 else 5
theorem C3 (a op:Nat):j0 L (P0 a) op=decide (hd L a=some (fw op,iJ op)):=mX a 0 _ _
def St (lv:Nat) (h:Option (Int×ByteArray)):Prop:=
 h≠some (5,⟨#[46]⟩)/\(lv<=4->h≠some (1,kw 15)/\h≠some (1,kw 16)/\h≠some (1,kw 17)/\h≠some (1,kw 18))/\∀op:Fin 15,1<=op.1->(lv:Int)<=bl op.1->h≠some (fw op.1,iJ op.1)
theorem St.mono {lv lv':Nat} {h:Option (Int×ByteArray)} (k:lv<=lv') (s:St lv h):St lv' h:=⟨s.1,fun e=>s.2.1 aa,fun op h1 h2=>s.2.2 op h1 aa⟩
theorem oS {s:PS}:∀ {l:List Nat},(∀op∈l,j0 L s op=false)->fI L s l=0
 | [],_=>rfl
 |op::r,h=>by
  rw[fI,h op (by simp),if_neg (by simp)]
  exact oS fun x hx=>h x (by simp [hx])
theorem zc:∀lv:Fin 10,∀op∈fX lv.1,1<=op/\op<=14/\bl op=lv.1:=by decide
theorem St.noop {lv l a:Nat} (s:St lv (hd L a)) (h:lv<=l) (h9:l<=9):cn L (P0 a) l=0:=oS fun op hop=>by
 obtain⟨h1,h2,h3⟩:=zc ⟨l,aa⟩ op hop
 rw[C3,decide_eq_false_iff_not]
 exact s.2.2 ⟨op,aa⟩ h1 (by show (lv:Int)<=bl op;rw[h3];show (lv:Int)<=l;omega)
theorem ze:∀i j:Fin 15,1<=i.1->1<=j.1->fw i.1=fw j.1->iJ i.1=iJ j.1->i=j:=by decide +kernel
theorem vE {a op:Nat} (h1:1<=op) (h2:op<=14) (hh:hd L a=some (fw op,iJ op)):∀ {l:List Nat},op∈l->(∀x∈l,1<=x/\x<=14)->fI L (P0 a) l=op
 | [],h,_=>by cases h
 |x::r,h,hb=>by
  rw[fI,C3]
  obtain⟨b1,b2⟩:=hb x (by simp)
  by_cases e:x=op
  ·subst e;rw[if_pos (by simp [hh])]
  ·rw[if_neg]
   ·exact vE h1 h2 hh (by simpa [Ne.symm e] using h) fun y hy=>hb y (by simp [hy])
   ·rw[hh,decide_eq_true_eq]
    intro h3
    injection h3 with h3;injection h3 with h3 h4
    exact e (congrArg Fin.val (ze ⟨op,aa⟩ ⟨x,aa⟩ h1 b1 h3 h4)).symm
theorem C4:∀op:Fin 15,1<=op.1->op.1∈fX (bl op.1).toNat:=by decide
theorem vF {a op:Nat} (h1:1<=op) (h2:op<=14) (hh:hd L a=some (fw op,iJ op)):cn L (P0 a) (bl op).toNat=op:=by
 have hl:=C4 ⟨op,aa⟩ h1
 have h9:(bl op).toNat<10:=by have:=mh 4 op;unfold lv at this;simp only[if_true] at this;omega
 exact vE h1 h2 hh hl fun x hx=>by
  obtain⟨b1,b2,_⟩:=zc ⟨_,h9⟩ x hx
  exact⟨b1,b2⟩
theorem Ez (lv:Nat):St lv none:=⟨by simp,fun _=>by simp,fun _ _ _=>by simp⟩
theorem vG (c:UInt8) (h:(c=41∨c=44)) (lv:Nat):St lv (some (5,⟨#[c]⟩)):=by
 rcases h with rfl|rfl
 ·exact⟨ah,fun _=>by decide,fun op _ _=>(by decide:∀op:Fin 15,(some (5,⟨#[41]⟩):Option (Int×ByteArray))≠some (fw op.1,iJ op.1)) op⟩
 ·exact⟨ah,fun _=>by decide,fun op _ _=>(by decide:∀op:Fin 15,(some (5,⟨#[44]⟩):Option (Int×ByteArray))≠some (fw op.1,iJ op.1)) op⟩
theorem xN (k lv:Nat) (h:k=3∨k=4∨k=6∨k=7∨k=9∨k=10∨k=11∨k=12):St lv (some (1,kw k)):=by
 have h1:∀k∈[3,4,6,7,9,10,11,12],((some (1,kw k):Option (Int×ByteArray))≠some (5,⟨#[46]⟩))/\((some (1,kw k):Option (Int×ByteArray))≠some (1,kw 15)/\(some (1,kw k):Option (Int×ByteArray))≠some (1,kw 16)/\(some (1,kw k):Option (Int×ByteArray))≠some (1,kw 17)/\(some (1,kw k):Option (Int×ByteArray))≠some (1,kw 18))/\∀op:Fin 15,(some (1,kw k):Option (Int×ByteArray))≠some (fw op.1,iJ op.1):=by decide +kernel
 obtain⟨a,b,c⟩:=h1 k (by simpa using h)
 exact⟨a,fun _=>b,fun op _ _=>c op⟩
theorem ml (k:Nat) (h:k=13∨k=15∨k=16∨k=17∨k=18):St 5 (some (1,kw k)):=by
 have h1:∀k∈[13,15,16,17,18],((some (1,kw k):Option (Int×ByteArray))≠some (5,⟨#[46]⟩))/\∀op:Fin 15,5<=bl op.1->(some (1,kw k):Option (Int×ByteArray))≠some (fw op.1,iJ op.1):=by decide +kernel
 obtain⟨a,c⟩:=h1 k (by simpa using h)
 exact⟨a,fun e=>by omega,fun op _ h=>c op h⟩
theorem Gv (op:Nat) (h1:1<=op) (h2:op<=14) (lv:Nat) (hl:bl op<lv) (h4:bl op=4->5<=lv) (h3:bl op<=2->5<=lv∨lv<=4):St lv (some (fw op,iJ op)):=by
 have k1:∀op:Fin 15,1<=op.1->((some (fw op.1,iJ op.1):Option (Int×ByteArray))≠some (5,⟨#[46]⟩))/\((some (fw op.1,iJ op.1):Option (Int×ByteArray))≠some (1,kw 15)/\(some (fw op.1,iJ op.1):Option (Int×ByteArray))≠some (1,kw 16)/\(some (fw op.1,iJ op.1):Option (Int×ByteArray))≠some (1,kw 17)/\(some (fw op.1,iJ op.1):Option (Int×ByteArray))≠some (1,kw 18)):=by decide +kernel
 obtain⟨a,b⟩:=k1 ⟨op,aa⟩ h1
 refine⟨a,fun _=>b,fun op' h1' hb e=>?_⟩
 injection e with e;injection e with e1 e2
 have:=congrArg Fin.val (ze ⟨op,aa⟩ op' h1 h1' e1 e2)
 simp only at this
 rw[<-this] at hb
 omega
end
def vf (lv:Nat):Prop:=lv=1∨lv=2∨lv=5∨lv=6∨lv=7
def Jt (L:List Tok) (e:Expr) (l:List Tok) (lv a:Nat):Prop:=St lv (hd L (a+l.length))->bM L lv (P0 a)=some (e,P0 (a+l.length))
def IF (L:List Tok) (e:Expr) (l:List Tok) (lv a:Nat):Prop:=St (lv+1) (hd L (a+l.length))->bM L lv (P0 a)=bP L (bM L (lv+1)) lv (L.length+1) e (P0 (a+l.length))
def Itm (e:Expr) (l:List Tok) (n:Nat):Prop:=∀L a,gw L a l->∀lv,1<=lv->lv<=n->Jt L e l lv a/\(vf lv->IF L e l lv a)
theorem Itm.mono {e:Expr} {l:List Tok} {n m:Nat} (h:Itm e l n) (k:m<=n):Itm e l m:=fun L a hl lv h1 h2=>h L a hl lv h1 aa
section
variable {L:List Tok}
theorem C5 {lv:Nat} (h:vf lv) (s:PS):bM L lv s=match bM L (lv+1) s with
 |none=>none
 |some (e,s1)=>bP L (bM L (lv+1)) lv (L.length+1) e s1:=by
 unfold vf at h
 rw[lr lv aa aa]
 unfold stepE
 rw[if_neg aa,if_neg aa,if_neg aa,if_neg aa]
 rcases bM L (lv+1) s with _|⟨e,s1⟩<;>rfl
theorem qO {g:PM Expr} {lv n:Nat} {e:Expr} {s:PS} (h:cn L s lv=0):bP L g lv (n+1) e s=some (e,s):=by rw[bP,if_pos h]
theorem H6 (s:PS):bM L 4 s=iP L (bM L) (ey L) s:=by rw[lr 4 aa aa];rfl
theorem EA (s:PS):bM L 9 s=dk L (bM L) (ey L) s:=by rw[lr 9 aa aa];rfl
theorem IG (s:PS):bM L 3 s=(if aw L s 15=true then (match bM L 3 (adv s) with
 |none=>none
 | some (e,s1)=>some (se 15 e,s1)) else bM L 4 s):=by rw[lr 3 aa aa];rfl
theorem IH (s:PS):bM L 8 s=(if bt L s 45=true then (match bM L 8 (adv s) with
 |none=>none
 | some (e,s1)=>some (se 16 e,s1)) else bM L 9 s):=by rw[lr 8 aa aa];rfl
theorem cx {a k:Nat} (h:hd L a≠some (1,kw k)):aw L (P0 a) k=false:=by rw[C2,decide_eq_false_iff_not];exact h
theorem cv {a k:Nat} (h:hd L a=some (1,kw k)):aw L (P0 a) k=true:=by rw[C2,decide_eq_true_eq];exact h
theorem pE {a:Nat} {c:UInt8} (h:hd L a≠some (5,⟨#[c]⟩)):bt L (P0 a) c=false:=by rw[Gu,decide_eq_false_iff_not];exact h
theorem ge {a:Nat} {c:UInt8} (h:hd L a=some (5,⟨#[c]⟩)):bt L (P0 a) c=true:=by rw[Gu,decide_eq_true_eq];exact h
theorem C6 {a:Nat} {e:Expr} (h:St 4 (hd L a)):cmpT L (bM L) (ey L) e (P0 a)=some (e,P0 a):=by
 obtain⟨_,h2,_⟩:=h
 obtain⟨k15,k16,k17,k18⟩:=h2 aa
 unfold cmpT
 simp only[cx k16,cx k15,Bool.false_eq_true,if_false,tkIf,cx k18,cx k17,Bool.or_self]
theorem AF {a b:Nat} {e:Expr} (h:bM L 5 (P0 a)=some (e,P0 b)) (hs:St 4 (hd L b)):bM L 4 (P0 a)=some (e,P0 b):=by
 rw[H6]
 unfold iP
 rw[h]
 simp only[hs.noop (Nat.le_refl 4) aa,if_true]
 exact C6 hs
end
theorem kg {e:Expr} {l:List Tok} {n:Nat} (hn9:n<=9) (hA:∀L a,gw L a l->Jt L e l n a) (hB:∀L a,gw L a l->vf n->IF L e l n a)
 (hC:∀L a,gw L a l->(4<=n->hd L a≠some (1,kw 15))/\(n=9->hd L a≠some (5,⟨#[45]⟩))):Itm e l n:=by
 intro L a hl
 have key:∀d lv,lv+d=n->1<=lv->Jt L e l lv a/\(vf lv->IF L e l lv a):=by
  intro d
  induction d with
  |zero=>intro lv h _;obtain rfl:lv=n:=aa;exact⟨hA L a hl,hB L a hl⟩
  |succ d ih=>
   intro lv h h1
   obtain⟨i1,i2⟩:=ih (lv+1) aa aa
   have B:vf lv->IF L e l lv a:=fun hc hs=>by
    rw[C5 hc,i1 hs]
   refine⟨fun hs=>?_,B⟩
   by_cases hc:vf lv
   ·rw[B hc (hs.mono aa),qO (hs.noop (Nat.le_refl lv) aa)]
   ·unfold vf at hc
    rcases (show lv=3∨lv=4∨lv=8 by omega) with rfl|rfl|rfl
    ·rw[IG,cx ((hC L a hl).1 aa),if_neg (by simp)]
     exact i1 (hs.mono aa)
    ·exact AF (i1 (hs.mono aa)) hs
    ·rw[IH,pE ((hC L a hl).2 aa),if_neg (by simp)]
     exact i1 (hs.mono aa)
 exact fun lv h1 h2=>key (n-lv) lv aa h1
theorem db {L:List Tok} {a:Nat} {k k':Int} {x x':ByteArray} (h:hd L a=some (k,x)) (hk:k≠k'):hd L a≠some (k',x'):=by rw[h];intro e;injection e with e;injection e with e _;exact hk e
theorem f8 {L:List Tok} {a:Nat} {k k':Int} {x x':ByteArray} (h:hd L a=some (k,x)) (hk:x≠x'):hd L a≠some (k',x'):=by rw[h];intro e;injection e with e;injection e with _ e;exact hk e
theorem eA {L:List Tok} {a:Nat} {k kind:Int} {x:ByteArray} (h:hd L a=some (k,x)) (hk:k≠kind):iZ L (P0 a) kind=false:=by rw[mY h,au hk];rfl
theorem EB {e:Expr} {l:List Tok} {n:Nat} (h:Itm e l n) (h1:1<=n):Itm e (iN::(l++[iQ])) 9:=by
 have tk:∀L a,gw L a (iN::(l++[iQ]))->hd L a=some (5,⟨#[40]⟩)/\gw L (a+1) l/\hd L (a+1+l.length)=some (5,⟨#[41]⟩):=fun L a hl=>by
  rw[gw,bN,gw] at hl
  exact⟨hl.1,hl.2.1,hl.2.2.1⟩
 refine kg (Nat.le_refl 9) (fun L a hl hs=>?_) (fun L a _ hc=>by unfold vf at hc;omega) fun L a hl=>?_
 ·obtain⟨t1,t2,t3⟩:=tk L a hl
  rw[EA]
  unfold dk
  have hst:St 1 (hd L (a+1+l.length)):=by rw[t3];exact vG 41 (.inl rfl) 1
  have:=(h L (a+1) t2 1 (Nat.le_refl 1) h1).1 hst
  simp only[eA t1 (by decide:(5:Int)≠3),eA t1 (by decide:(5:Int)≠4),eA t1 (by decide:(5:Int)≠2),cx (db t1 (by decide:(5:Int)≠1)),ge t1,Bool.false_eq_true,if_false,if_true,d6,this,must,ge t3,List.length_cons,aC,List.length_nil]
  congr 3
  omega
 ·obtain⟨t1,_,_⟩:=tk L a hl
  exact⟨fun _=>db t1 ah,fun _=>f8 t1 ah⟩
theorem EC {full:Bool} {g:Expr->List Tok} {kind op:Int} {kids:List Expr} {k:Nat} (hx:Itm (kids.getD k zeroX) (g (kids.getD k zeroX)) (kP (kids.getD k zeroX)).toNat) (h1:1<=kP (kids.getD k zeroX)) (hn:nd kind op k<=9) :
 Itm (kids.getD k zeroX) (aP full g kind op kids k) (nd kind op k).toNat:=by
 unfold aP jP
 split
 ·exact (EB hx aa).mono aa
 ·rename_i hw
  refine hx.mono ?_
  unfold Bf at hw
  simp only[Bool.or_eq_true,not_or] at hw
  have:=hw.1
  unfold kE at this
  simp only[decide_eq_true_eq] at this
  have e:(Expr.mk 0 0 false ⟨0,0,⟨#[]⟩⟩ ⟨#[]⟩ ⟨#[]⟩ [] [])=zeroX:=rfl
  rw[e] at this
  omega
theorem mZ {L:List Tok} {a:Nat} {t:Tok} {r:List Tok} (h:gw L a (t::r)):hd L a=some (t.kind,t.text):=h.1
theorem Gx {v:Val} (h:zV v=true):v=zVal:=by
 obtain⟨a,b,c⟩:=v
 simp only[zV,Bool.and_eq_true,decide_eq_true_eq] at h
 simp only[zVal,Val.mk.injEq]
 exact⟨h.1,h.2⟩
theorem xO {kind op:Int} {not:Bool} {val:Val} {qual name:ByteArray} {nk ns:Int} (h:aI kind op not val qual name nk ns=true) :
 ((bV kind).1=false->op=0)/\((bV kind).2.1=false->not=false)/\((bV kind).2.2.1=false->val=zVal)/\((bV kind).2.2.2.1=false->qual=z0/\name=z0):=by
 simp only[aI,Bool.and_eq_true] at h
 obtain⟨_,h1,h2,h3,h4,_⟩:=h
 refine⟨fun e=>?_,fun e=>?_,fun e=>?_,fun e=>?_⟩
 ·rw[e] at h1;simpa using h1
 ·rw[e] at h2;simpa using h2
 ·rw[e] at h3;exact Gx (by simpa using h3)
 ·rw[e] at h4;simpa [z0] using h4
theorem sZ {n:Int} (h0:0<=n) (h1:n<=9223372036854775807):iY (d5 n)=true/\fG (d5 n)=n:=by
 obtain⟨m,rfl⟩:=Int.eq_ofNat_of_zero_le h0
 have e:gJ (d5 m).data.toList=some m:=d7.2 ⟨aa,by show _=(Lib.itoa m);rw[l8]⟩
 exact⟨by rw[iY,e];rfl,by rw[fG,e];rfl⟩
theorem ED {v:Val} (h:jh v=true) (hr:v.num<=9223372036854775807):Itm (dj v) [eR v] 9:=by
 simp only[jh,Bool.and_eq_true] at h
 obtain⟨hv,hn,ht⟩:=h
 obtain⟨kind,num,text⟩:=v
 simp only[decide_eq_true_eq,Bool.or_eq_true] at hn ht hr
 unfold dE at hv
 simp only at hv
 have done:∀k x,eR ⟨kind,num,text⟩=⟨k,x,0⟩->(k=1->x≠kw 15)->k≠5->(∀L a,hd L a=some (k,x)->dk L (bM L) (ey L) (P0 a)=some (dj ⟨kind,num,text⟩,P0 (a+1)))->Itm (dj ⟨kind,num,text⟩) [eR ⟨kind,num,text⟩] 9:=fun k x e h15 h5 hp=>by
  rw[e]
  refine kg (Nat.le_refl 9) (fun L a hl _=>?_) (fun L a _ hc=>by unfold vf at hc;omega) fun L a hl=>⟨fun _=>?_,fun _=>db hl.1 h5⟩
  ·rw[EA];exact hp L a hl.1
  ·by_cases k1:k=1
   ·exact f8 hl.1 (h15 k1)
   ·exact db hl.1 k1
 by_cases k0:kind=0
 ·subst k0
  rw[if_pos rfl] at hv
  simp only[Bool.and_eq_true,decide_eq_true_eq] at hv
  obtain⟨rfl,rfl⟩:=hv
  refine done 1 (kw 20) rfl (fun _=>by decide) ah fun L a hh=>?_
  unfold dk
  simp only[eA hh (by decide:(1:Int)≠3),eA hh (by decide:(1:Int)≠4),cv hh,Bool.false_eq_true,if_false,if_true,d6]
  rfl
 rw[if_neg k0] at hv
 by_cases k1:kind=1
 ·subst k1
  rw[if_pos rfl] at hv
  simp only[decide_eq_true_eq] at hv
  subst hv
  have h0:0<=num:=hn.resolve_left (fun h=>h rfl)
  obtain⟨o1,o2⟩:=sZ h0 hr
  refine done 3 (d5 num) rfl (fun h=>absurd h ah) ah fun L a hh=>?_
  have hk:iZ L (P0 a) 3=true:=by rw[mY hh];simp only[decide_true,Bool.true_and];exact o1
  unfold dk
  simp only[hk,if_true,gc hh,o2,d6]
  rfl
 rw[if_neg k1] at hv
 by_cases k2:kind=2
 ·subst k2
  rw[if_pos rfl] at hv
  simp only[Bool.and_eq_true,decide_eq_true_eq] at hv
  obtain⟨rfl,_⟩:=hv
  refine done 4 text rfl (fun h=>absurd h ah) ah fun L a hh=>?_
  have hk:iZ L (P0 a) 4=true:=by rw[mY hh];simp only[decide_true,Bool.true_and];exact az ht
  unfold dk
  simp only[eA hh (by decide:(4:Int)≠3),hk,if_true,if_false,Bool.false_eq_true,gc hh,d6]
 rw[if_neg k2] at hv
 by_cases k3:kind=3
 ·subst k3
  rw[if_pos rfl] at hv
  simp only[Bool.and_eq_true,decide_eq_true_eq] at hv
  obtain⟨h01,rfl⟩:=hv
  rcases (show num=1∨num=0 by omega) with rfl|rfl
  ·refine done 1 (kw 21) rfl (fun _=>by decide) ah fun L a hh=>?_
   unfold dk
   simp only[eA hh (by decide:(1:Int)≠3),eA hh (by decide:(1:Int)≠4),cx (f8 hh (by decide:kw 21≠kw 20)),cv hh,Bool.false_eq_true,if_false,if_true,d6]
   rfl
  ·refine done 1 (kw 22) rfl (fun _=>by decide) ah fun L a hh=>?_
   unfold dk
   simp only[eA hh (by decide:(1:Int)≠3),eA hh (by decide:(1:Int)≠4),cx (f8 hh (by decide:kw 22≠kw 20)),cx (f8 hh (by decide:kw 22≠kw 21)),cv hh,Bool.false_eq_true,if_false,if_true,d6]
   rfl
 ·rw[if_neg k3] at hv;cases hv
theorem ub {x:ByteArray} (h:bK x=true):aJ ⟨2,x,0⟩=true:=by
 unfold bK at h
 exact h
theorem qP {L:List Tok} {a:Nat} {x:ByteArray} (h:hd L a=some (2,x)) (hx:bK x=true):mText L 2 (P0 a)=(x,P0 (a+1)):=by
 have hk:iZ L (P0 a) 2=true:=by rw[mY h,ub hx];rfl
 unfold mText
 rw[if_pos hk,gc h]
 rfl
theorem EE {q n:ByteArray} (hn:bK n=true) (hq:d9 q=true):Itm (lg q n) (cF q++[nT n]) 9:=by
 have hb:∀L a,gw L a (cF q++[nT n])->∃x,bK x=true/\hd L a=some (2,x)/\((q=z0/\x=n/\(cF q++[nT n]).length=1)∨(x=q/\hd L (a+1)=some (5,⟨#[46]⟩)/\hd L (a+1+1)=some (2,n)/\(cF q++[nT n]).length=3)):=fun L a hl=>by
  unfold cF at hl ⊢
  split at hl
  ·rename_i e
   rw[if_pos e]
   exact⟨n,hn,hl.1,.inl ⟨e,rfl,rfl⟩⟩
  ·rename_i e
   rw[if_neg e]
   unfold d9 at hq
   simp only[Bool.or_eq_true,decide_eq_true_eq,e,false_or] at hq
   exact⟨q,hq,hl.1,.inr ⟨rfl,hl.2.1,hl.2.2.1,rfl⟩⟩
 refine kg (Nat.le_refl 9) (fun L a hl hs=>?_) (fun L a _ hc=>by unfold vf at hc;omega) fun L a hl=>?_
 ·obtain⟨x,hx,hh,hc⟩:=hb L a hl
  have hk:iZ L (P0 a) 2=true:=by rw[mY hh,ub hx];rfl
  rw[EA]
  unfold dk
  have n1:(2:Int)≠1:=by decide
  rcases hc with⟨rfl,rfl,hlen⟩|⟨rfl,h1,h2,hlen⟩
  ·rw[hlen] at hs ⊢
   simp only[eA hh (by decide:(2:Int)≠3),eA hh (by decide:(2:Int)≠4),cx (db hh n1),hk,Bool.false_eq_true,if_false,if_true,d6,pE hs.1,gc hh]
  ·rw[hlen]
   simp only[eA hh (by decide:(2:Int)≠3),eA hh (by decide:(2:Int)≠4),cx (db hh n1),hk,Bool.false_eq_true,if_false,if_true,d6,ge h1,gc hh,qP h2 hn]
 ·obtain⟨x,hx,hh,_⟩:=hb L a hl
  exact⟨fun _=>db hh ah,fun _=>db hh ah⟩
def Fs (l:List Tok) (n:Int):Prop:=∀L a,gw L a l->hd L a≠some (1,kw 1)/\hd L a≠some (5,⟨#[42]⟩)/\(hd L (a+l.length)≠some (5,⟨#[46]⟩)->dK L (P0 a)=false)/\(4<=n->hd L a≠some (1,kw 15))/\hd L a≠some (1,kw 2)
theorem Fs.mono {l:List Tok} {n m:Int} (h:Fs l n) (k:4<=m->4<=n):Fs l m:=fun L a hl=>⟨(h L a hl).1,(h L a hl).2.1,(h L a hl).2.2.1,fun e=>(h L a hl).2.2.2.1 (k e),(h L a hl).2.2.2.2⟩
theorem C7 {L:List Tok} {a:Nat} {k:Int} {x:ByteArray} (h:hd L a=some (k,x)) (hk:k≠2):dK L (P0 a)=false:=by
 unfold dK;rw[eA h hk];rfl
theorem gV {t:Tok} {r:List Tok} {n:Int} (h2:t.kind≠2) (h1:t.kind=1->t.text≠kw 1/\(4<=n->t.text≠kw 15)/\t.text≠kw 2) (h5:t.kind=5->t.text≠⟨#[42]⟩):Fs (t::r) n:=fun L a hl=>by
 have hh:=mZ hl
 refine⟨?_,?_,fun _=>C7 hh h2,fun h4=>?_,?_⟩
 ·by_cases e:t.kind=1
  ·exact f8 hh (h1 e).1
  ·exact db hh e
 ·by_cases e:t.kind=5
  ·exact f8 hh (h5 e)
  ·exact db hh e
 ·by_cases e:t.kind=1
  ·exact f8 hh ((h1 e).2.1 h4)
  ·exact db hh e
 ·by_cases e:t.kind=1
  ·exact f8 hh (h1 e).2.2
  ·exact db hh e
theorem lw {l r:List Tok} {t:Tok} {n:Int} (h:Fs l n) (ht:t.kind=5->t.text≠⟨#[46]⟩):Fs (l++t::r) n:=fun L a hl=>by
 obtain⟨h1,h2⟩:=bN.1 hl
 obtain⟨k1,k2,k3,k4⟩:=h L a h1
 refine⟨k1,k2,fun _=>k3 ?_,k4⟩
 by_cases e:t.kind=5
 ·exact f8 h2.1 (ht e)
 ·exact db h2.1 e
theorem H7 (l:List Tok) (n:Int):Fs (iN::l) n:=gV ah (fun e=>absurd e ah) (fun _=>by decide)
theorem H8 {full:Bool} {g:Expr->List Tok} {kind op:Int} {kids:List Expr} {k:Nat} (h:Fs (g (kids.getD k zeroX)) (kP (kids.getD k zeroX))):Fs (aP full g kind op kids k) (nd kind op k):=by
 unfold aP jP
 split
 ·exact H7 _ _
 ·rename_i hw
  refine h.mono fun h4=>?_
  unfold Bf at hw
  simp only[Bool.or_eq_true,not_or] at hw
  have:=hw.1
  unfold kE at this
  simp only[decide_eq_true_eq] at this
  have e:(Expr.mk 0 0 false ⟨0,0,⟨#[]⟩⟩ ⟨#[]⟩ ⟨#[]⟩ [] [])=zeroX:=rfl
  rw[e] at this
  omega
theorem H9 {v:Val} (n:Int):Fs [eR v] n:=by
 unfold eR
 split
 ·exact gV (by decide:(3:Int)≠2) (fun e=>absurd e (by decide:(3:Int)≠1)) (fun e=>absurd e (by decide:(3:Int)≠5))
 split
 ·exact gV (by decide:(4:Int)≠2) (fun e=>absurd e (by decide:(4:Int)≠1)) (fun e=>absurd e (by decide:(4:Int)≠5))
 split
 ·split
  ·exact gV ah (fun _=>⟨ah,fun _=>by decide,ah⟩) (fun e=>absurd e (by decide:(1:Int)≠5))
  ·exact gV ah (fun _=>⟨ah,fun _=>by decide,ah⟩) (fun e=>absurd e (by decide:(1:Int)≠5))
 ·exact gV ah (fun _=>⟨ah,fun _=>by decide,ah⟩) (fun e=>absurd e (by decide:(1:Int)≠5))
theorem Ha {q n:ByteArray} (m:Int):Fs (cF q++[nT n]) m:=fun L a hl=>by
 unfold cF at hl ⊢
 split at hl
 ·rename_i e
  rw[if_pos e]
  have hh:=mZ hl
  refine⟨db hh (by decide:(2:Int)≠1),db hh (by decide:(2:Int)≠5),fun hd'=>?_,fun _=>db hh (by decide:(2:Int)≠1),db hh (by decide:(2:Int)≠1)⟩
  unfold dK
  have:jp L (P0 a) 1 5 ⟨#[46]⟩=false:=by rw[mX,decide_eq_false_iff_not];exact hd'
  rw[this];simp
 ·rename_i e
  rw[if_neg e]
  have hh:=mZ hl
  refine⟨db hh (by decide:(2:Int)≠1),db hh (by decide:(2:Int)≠5),fun _=>?_,fun _=>db hh (by decide:(2:Int)≠1),db hh (by decide:(2:Int)≠1)⟩
  unfold dK
  have h3:hd L (a+2)=some (2,n):=hl.2.2.1
  have:jp L (P0 a) 2 5 ⟨#[42]⟩=false:=by rw[mX,decide_eq_false_iff_not];exact db h3 ah
  rw[this];simp
theorem C8 {L:List Tok} {a:Nat} {x:ByteArray} (h:hd L a=some (1,x)):cn L (P0 a) 4=0:=oS fun op hop=>by
 rw[C3,decide_eq_false_iff_not]
 refine db h ?_
 have:op=3∨op=4∨op=5∨op=6∨op=7∨op=8:=by simpa [fX] using hop
 unfold fw
 rw[if_neg aa];decide
theorem EF {L:List Tok} {a:Nat} {op:Int} {r:List Tok} (h0:1<=op) (h1:op<=14) (h:gw L a (cy op::r)):hd L a=some (fw op.toNat,iJ op.toNat):=by
 have hh:=mZ h
 have e:((op.toNat:Nat):Int)=op:=by omega
 rw[hh,cy,fw,e]
 congr 2
 by_cases c:op=1∨op=2
 ·rw[if_pos aa,if_pos aa]
 ·rw[if_neg aa,if_neg aa]
section
variable {full:Bool} {g:Expr->List Tok}
def KidsOk (g:Expr->List Tok) (kids:List Expr):Prop:=∀k,k<kids.length->Itm (kids.getD k zeroX) (g (kids.getD k zeroX)) (kP (kids.getD k zeroX)).toNat/\1<=kP (kids.getD k zeroX)/\Fs (g (kids.getD k zeroX)) (kP (kids.getD k zeroX))
theorem KidsOk.itm {kids:List Expr} (h:KidsOk g kids) {k:Nat} (hk:k<kids.length) (full:Bool) (kind op:Int) {n:Nat} (hn:(nd kind op k).toNat=n) (h9:n<=9):Itm (kids.getD k zeroX) (aP full g kind op kids k) n:=by
 obtain⟨h1,h2,_⟩:=h k hk
 rw[<-hn];exact EC h1 h2 aa
theorem KidsOk.fs {kids:List Expr} (h:KidsOk g kids) {k:Nat} (hk:k<kids.length) (full:Bool) (kind op:Int):Fs (aP full g kind op kids k) (nd kind op k):=H8 (h k hk).2.2
theorem Hb {k:Expr} {op:Int} (ho:op=15∨op=16) (h:KidsOk g [k]):Itm (se op k) (cy op::aP full g 3 op [k] 0) (lv 3 op).toNat:=by
 rcases ho with rfl|rfl
 ·have hk:=h.itm (k:=0) (by simp) full 3 15 (n:=3) ah aa
  refine kg (n:=3) aa (fun L a hl hs=>?_) (fun L a _ hc=>by unfold vf at hc;omega) fun L a _=>⟨fun h=>by omega,fun h=>by omega⟩
  have hh:hd L a=some (1,kw 15):=hl.1
  rw[IG,cv hh,if_pos rfl,d6]
  have e:a+(cy 15::aP full g 3 15 [k] 0).length=a+1+(aP full g 3 15 [k] 0).length:=by rw[List.length_cons];omega
  rw[e] at hs ⊢
  rw[(hk L (a+1) hl.2 3 aa aa).1 hs]
  rfl
 ·have hk:=h.itm (k:=0) (by simp) full 3 16 (n:=8) ah aa
  refine kg (n:=8) aa (fun L a hl hs=>?_) (fun L a _ hc=>by unfold vf at hc;omega) fun L a hl=>⟨fun _=>db (mZ hl) ah,fun h=>by omega⟩
  have hh:hd L a=some (5,⟨#[45]⟩):=hl.1
  rw[IH,ge hh,if_pos rfl,d6]
  have e:a+(cy 16::aP full g 3 16 [k] 0).length=a+1+(aP full g 3 16 [k] 0).length:=by rw[List.length_cons];omega
  rw[e] at hs ⊢
  rw[(hk L (a+1) hl.2 8 aa aa).1 hs]
  rfl
theorem nM {op:Int} (h0:1<=op) (h1:op<=14):(bl op=1∨bl op=2∨bl op=4∨bl op=5∨bl op=6∨bl op=7):=by unfold bl;(repeat' split)<;>omega
theorem EG {x y:Expr} {op:Int} (h0:1<=op) (h1:op<=14) (h:KidsOk g [x,y]):Itm (ed op.toNat x y) (aP full g 4 op [x,y] 0++cy op::aP full g 4 op [x,y] 1) (lv 4 op).toNat:=by
 have hbl:=nM h0 h1
 have e4:lv 4 op=bl op:=by unfold lv;rw[if_pos rfl]
 have eop:((op.toNat:Nat):Int)=op:=by omega
 have hf:=h.fs (k:=0) (by simp) full 4 op
 have tk:∀L a,gw L a (aP full g 4 op [x,y] 0++cy op::aP full g 4 op [x,y] 1)->gw L a (aP full g 4 op [x,y] 0)/\hd L (a+(aP full g 4 op [x,y] 0).length)=some (fw op.toNat,iJ op.toNat)/\gw L (a+(aP full g 4 op [x,y] 0).length+1) (aP full g 4 op [x,y] 1):=fun L a hl=>by
  obtain⟨a1,a2⟩:=bN.1 hl
  exact⟨a1,EF h0 h1 a2,a2.2⟩
 have len:∀a,a+(aP full g 4 op [x,y] 0++cy op::aP full g 4 op [x,y] 1).length=a+(aP full g 4 op [x,y] 0).length+1+(aP full g 4 op [x,y] 1).length:=fun a=>by rw[aC,List.length_cons];omega
 have n0:nd 4 op 0=if bl op=4 then 5 else bl op:=by
  unfold nd;rw[e4,if_neg aa,if_pos rfl];simp
 have n1:nd 4 op 1=if bl op=4 then 5 else bl op+1:=by
  unfold nd;rw[e4,if_neg aa,if_pos rfl];simp
 rw[e4]
 by_cases b4:bl op=4
 ·rw[if_pos b4] at n0 n1
  have k0:=h.itm (k:=0) (by simp) full 4 op (n:=5) aa aa
  have k1:=h.itm (k:=1) (by simp) full 4 op (n:=5) aa aa
  rw[b4]
  refine kg (n:=4) aa (fun L a hl hs=>?_) (fun L a _ hc=>by unfold vf at hc;omega) fun L a hl=>⟨fun _=>(hf L a (tk L a hl).1).2.2.2.1 aa,fun h=>by omega⟩
  obtain⟨t1,t2,t3⟩:=tk L a hl
  rw[len] at hs ⊢
  have s0:St 5 (hd L (a+(aP full g 4 op [x,y] 0).length)):=by rw[t2];exact Gv op.toNat aa aa 5 (by rw[eop];omega) (fun _=>by omega) (fun _=>by omega)
  rw[H6]
  unfold iP
  rw[(k0 L a t1 5 aa aa).1 s0]
  have ho:=vF (L:=L) (op:=op.toNat) aa aa t2
  rw[eop,b4] at ho
  have ho:cn L (P0 (a+(aP full g 4 op [x,y] 0).length)) 4=op.toNat:=ho
  simp only[ho]
  rw[if_neg aa,d6,(k1 L _ t3 5 aa aa).1 (hs.mono aa)]
  rfl
 ·rw[if_neg b4] at n0 n1
  obtain⟨l,hl⟩:∃l:Nat,bl op=l:=⟨(bl op).toNat,aa⟩
  have hc:vf l:=by unfold vf;omega
  have k0:=h.itm (k:=0) (by simp) full 4 op (n:=l) aa aa
  have k1:=h.itm (k:=1) (by simp) full 4 op (n:=l+1) aa aa
  have el:(bl op).toNat=l:=by omega
  rw[el]
  have B:∀L a,gw L a (aP full g 4 op [x,y] 0++cy op::aP full g 4 op [x,y] 1)->IF L (ed op.toNat x y) (aP full g 4 op [x,y] 0++cy op::aP full g 4 op [x,y] 1) l a:=fun L a hl' hs=>by
   obtain⟨t1,t2,t3⟩:=tk L a hl'
   rw[len] at hs ⊢
   have s0:St (l+1) (hd L (a+(aP full g 4 op [x,y] 0).length)):=by rw[t2];exact Gv op.toNat aa aa (l+1) (by rw[eop];omega) (fun _=>by rw[eop] at *;omega) (fun _=>by omega)
   rw[(k0 L a t1 l aa (Nat.le_refl l)).2 hc s0,bP]
   have ho:=vF (L:=L) (op:=op.toNat) aa aa t2
   rw[eop,el] at ho
   rw[ho,if_neg aa,d6,(k1 L _ t3 (l+1) aa (Nat.le_refl _)).1 hs]
   have hlt:a+(aP full g 4 op [x,y] 0).length<L.length:=by
    unfold hd at t2
    by_cases e:a+(aP full g 4 op [x,y] 0).length<L.length
    ·exact e
    ·rw[List.getElem?_eq_none_iff.2 aa] at t2;cases t2
   exact AE aa aa (by show L.length-(a+(aP full g 4 op [x,y] 0).length+1+(aP full g 4 op [x,y] 1).length)<L.length;omega) aa
  refine kg (n:=l) aa (fun L a hl' hs=>?_) (fun L a hl' _=>B L a hl') fun L a hl'=>⟨fun _=>(hf L a (tk L a hl').1).2.2.2.1 aa,fun h=>by omega⟩
  rw[B L a hl' (hs.mono aa),qO (hs.noop (Nat.le_refl l) aa)]
theorem Hc {x y:Expr} {op:Int} (h0:1<=op) (h1:op<=14) (h:KidsOk g [x,y]):Fs (aP full g 4 op [x,y] 0++cy op::aP full g 4 op [x,y] 1) (lv 4 op):=by
 have hbl:=nM h0 h1
 have e4:lv 4 op=bl op:=by unfold lv;rw[if_pos rfl]
 refine lw ((h.fs (k:=0) (by simp) full 4 op).mono fun h4=>?_) fun _=>?_
 ·unfold nd;rw[e4] at h4 ⊢;rw[if_neg aa,if_pos rfl];split<;>simp<;>omega
 ·show iJ op≠_
  have:∀i:Fin 15,iJ i.1≠⟨#[46]⟩:=by decide
  have:=this ⟨op.toNat,aa⟩
  rwa[show ((op.toNat:Nat):Int)=op by omega] at this
theorem lx {k0 e:Expr} {l m:List Tok} {t:Tok} {r:List Tok} (hm:m=t::r) (hk:Itm k0 l 5) (hf:Fs l 5) (ht:t.kind=1) (h5:∀h,h=some (t.kind,t.text)->St 5 h)
 (hp:∀L a,gw L a m->St 4 (hd L (a+m.length))->cmpT L (bM L) (ey L) k0 (P0 a)=some (e,P0 (a+m.length))):Itm e (l++m) 4:=by
 refine kg (n:=4) aa (fun L a hl hs=>?_) (fun L a _ hc=>by unfold vf at hc;omega) fun L a hl=>⟨fun _=>(hf L a (bN.1 hl).1).2.2.2.1 aa,fun h=>by omega⟩
 obtain⟨t1,t2⟩:=bN.1 hl
 have hh:hd L (a+l.length)=some (t.kind,t.text):=by rw[hm] at t2;exact t2.1
 rw[aC,<-Nat.add_assoc] at hs ⊢
 rw[H6]
 unfold iP
 rw[(hk L a t1 5 aa aa).1 (h5 _ hh)]
 have hn:cn L (P0 (a+l.length)) 4=0:=by rw[ht] at hh;exact C8 hh
 simp only[hn,if_true]
 exact hp L _ t2 hs
end
theorem qh {L:List Tok}:∀ {l:List Tok} {a:Nat},gw L a l->l=[]∨a+l.length<=L.length
 | [],_,_=>.inl rfl
 |t::r,a,h=>by
  have hlt:a<L.length:=by
   have:=h.1
   unfold hd at this
   by_cases e:a<L.length
   ·exact e
   ·rw[List.getElem?_eq_none_iff.2 aa] at this;cases this
  rw[List.length_cons]
  rcases qh h.2 with h1|h1
  ·subst h1;simp;omega
  ·exact .inr aa
def El {α:Type} (f:List Tok->PM α) (Sx:Option (Int×ByteArray)->Prop) (x:α) (l:List Tok):Prop:=∀L a,gw L a l->(hd L (a+l.length)=some (5,⟨#[44]⟩)∨Sx (hd L (a+l.length)))->f L (P0 a)=some (x,P0 (a+l.length))
theorem qQ {α:Type} {f:List Tok->PM α} {Sx:Option (Int×ByteArray)->Prop} (hS:∀h,Sx h->h≠some (5,⟨#[44]⟩)):∀(rest:List (α×List Tok)) (n:Nat) (acc:List α) (L:List Tok) (a:Nat),
 (∀p∈rest,El f Sx p.1 p.2)->rest.length<n->gw L a (rest.flatMap fun p=>dQ::p.2)->Sx (hd L (a+(rest.flatMap fun p=>dQ::p.2).length)) ->
 f9 L (f L) n acc (P0 a)=some (acc++rest.map (·.1),P0 (a+(rest.flatMap fun p=>dQ::p.2).length))
 | [],n+1,acc,L,a,_,_,_,hs=>by
  rw[List.flatMap_nil,List.length_nil,Nat.add_zero] at hs ⊢
  rw[f9,pE (hS _ hs),if_neg (by simp)]
  simp
 |p::r,n+1,acc,L,a,hr,hn,hl,hs=>by
  rw[List.flatMap_cons,List.cons_append,gw] at hl
  obtain⟨h1,h2⟩:=hl
  obtain⟨h3,h4⟩:=bN.1 h2
  rw[f9,ge h1,if_pos rfl,d6]
  have len:a+((p::r).flatMap fun p=>dQ::p.2).length=a+1+p.2.length+(r.flatMap fun p=>dQ::p.2).length:=by rw[List.flatMap_cons,aC,List.length_cons];omega
  rw[len] at hs ⊢
  have hst:hd L (a+1+p.2.length)=some (5,⟨#[44]⟩)∨Sx (hd L (a+1+p.2.length)):=by
   cases r with
   |nil=>exact .inr hs
   |cons q r'=>
    rw[List.flatMap_cons,List.cons_append,gw] at h4
    exact .inl h4.1
  rw[hr p (by simp) L (a+1) h3 hst]
  simp only
  rw[qQ hS r n (acc++[p.1]) L _ (fun q hq=>hr q (by simp [hq])) (by simpa using hn) h4 hs]
  simp
theorem Hd {b:Nat->List Tok} (m:Nat):bd (fun i=>jQ i++b i) (m+1)=b 0++(List.range m).flatMap fun j=>dQ::b (j+1):=by
 unfold bd
 rw[List.range_succ_eq_map,List.flatMap_cons,List.flatMap_map]
 rfl
section
variable {full:Bool} {g:Expr->List Tok}
theorem qR:St 1 (some (5,⟨#[44]⟩)):=vG 44 (.inr rfl) 1
theorem He {e:Expr} {l:List Tok} {n:Nat} {Sx:Option (Int×ByteArray)->Prop} (h:Itm e l n) (h1:1<=n) (hS:∀h,Sx h->St 1 h):El (fun L=>bM L 1) Sx e l:=fun L a hl hs=>(h L a hl 1 (Nat.le_refl 1) h1).1 (by
 rcases hs with hs|hs
 ·rw[hs];exact qR
 ·exact hS _ hs)
theorem xP {α:Type} (l:List α) (d:α) (m:Nat) (h:l.length=m+1):(List.range m).map (fun j=>l.getD (j+1) d)=l.tail:=by
 cases l with
 |nil=>simp at h
 |cons x r=>
  simp only[List.length_cons,Nat.add_right_cancel_iff] at h
  subst h
  refine List.ext_getElem (by simp) fun i h1 h2=>?_
  simp at h1 h2 ⊢
  rw[aD h1];rfl
theorem qS {L:List Tok} {a:Nat} (n:Bool) {m:List Tok} {t:Tok} (h:gw L a (bw n++t::m)) (ht:t.text≠kw 15):aw L (P0 a) 15=n/\tkIf (aw L (P0 a) 15) (P0 a)=P0 (a+(bw n).length)/\hd L (a+(bw n).length)=some (t.kind,t.text)/\gw L (a+(bw n).length+1) m:=by
 obtain⟨h1,h2⟩:=bN.1 h
 cases n with
 |true=>
  have hh:hd L a=some (1,kw 15):=h1.1
  refine⟨cv hh,?_,h2.1,h2.2⟩
  rw[cv hh];rfl
 |false=>
  have hk:aw L (P0 a) 15=false:=cx (f8 (k:=t.kind) (x:=t.text) h2.1 ht)
  refine⟨hk,?_,h2.1,h2.2⟩
  rw[hk];rfl
theorem Hf {k:Expr} {not:Bool} (h:KidsOk g [k]):Itm (bR 5 not [k] []) (aP full g 5 0 [k] 0++kT 16::(bw not++[kT 20])) 4:=by
 have hk:=h.itm (k:=0) (by simp) full 5 0 (n:=5) ah aa
 have hf:=h.fs (k:=0) (by simp) full 5 0
 refine lx rfl hk (hf.mono fun _=>by decide) rfl (fun h e=>by rw[e];exact ml 16 aa) fun L a hl _=>?_
 obtain⟨h1,h2⟩:=hl
 have h1:hd L a=some (1,kw 16):=h1
 obtain⟨n1,n2,n3,_⟩:=qS not h2 ah
 have n3:hd L (a+1+(bw not).length)=some (1,kw 20):=n3
 unfold cmpT
 simp only[cv h1,if_true,d6]
 rw[n2,n1]
 unfold must
 rw[if_pos (cv n3)]
 simp only[List.length_cons,aC,List.length_nil,d6]
 congr 3;omega
theorem EH {x y z:Expr} {not:Bool} (h:KidsOk g [x,y,z]):Itm (bR 6 not [x,y,z] []) (aP full g 6 0 [x,y,z] 0++(bw not++(kT 18::(aP full g 6 0 [x,y,z] 1++(kT 13::aP full g 6 0 [x,y,z] 2))))) 4:=by
 have k0:=h.itm (k:=0) (by simp) full 6 0 (n:=5) ah aa
 have k1:=h.itm (k:=1) (by simp) full 6 0 (n:=5) ah aa
 have k2:=h.itm (k:=2) (by simp) full 6 0 (n:=5) ah aa
 have hf:=h.fs (k:=0) (by simp) full 6 0
 have body:∀L a,gw L a (bw not++(kT 18::(aP full g 6 0 [x,y,z] 1++(kT 13::aP full g 6 0 [x,y,z] 2))))->St 4 (hd L (a+(bw not++(kT 18::(aP full g 6 0 [x,y,z] 1++(kT 13::aP full g 6 0 [x,y,z] 2)))).length)) ->
  cmpT L (bM L) (ey L) x (P0 a)=some (bR 6 not [x,y,z] [],P0 (a+(bw not++(kT 18::(aP full g 6 0 [x,y,z] 1++(kT 13::aP full g 6 0 [x,y,z] 2)))).length)):=fun L a hl hs=>by
  obtain⟨n1,n2,n3,n4⟩:=qS not hl ah
  obtain⟨t1,t2⟩:=bN.1 n4
  have no16:aw L (P0 a) 16=false:=by
   cases not with
   |true=>exact cx (f8 (k:=1) (x:=kw 15) hl.1 ah)
   |false=>exact cx (f8 (k:=1) (x:=kw 18) hl.1 ah)
  have len:a+(bw not++(kT 18::(aP full g 6 0 [x,y,z] 1++(kT 13::aP full g 6 0 [x,y,z] 2)))).length=a+(bw not).length+1+(aP full g 6 0 [x,y,z] 1).length+1+(aP full g 6 0 [x,y,z] 2).length:=by
   simp only[List.length_cons,aC];omega
  rw[len] at hs ⊢
  have h13:hd L (a+(bw not).length+1+(aP full g 6 0 [x,y,z] 1).length)=some (1,kw 13):=t2.1
  unfold cmpT
  simp only[no16,Bool.false_eq_true,if_false]
  rw[n2,n1,if_pos (cv n3),d6,(k1 L _ t1 5 aa aa).1 (by rw[h13];exact ml 13 aa)]
  simp only
  unfold must
  rw[if_pos (cv h13),d6,(k2 L _ t2.2 5 aa aa).1 (hs.mono aa)]
  rfl
 cases not with
 |true=>exact lx rfl k0 (hf.mono fun _=>by decide) rfl (fun h e=>by rw[e];exact ml 15 aa) body
 |false=>exact lx rfl k0 (hf.mono fun _=>by decide) rfl (fun h e=>by rw[e];exact ml 18 aa) body
theorem tc {k0 e:Expr} {l m:List Tok} {not:Bool} (hk:Itm k0 l 5) (hf:Fs l 5)
 (hp:∀L a,gw L a (iN::(m++[iQ]))->sf L (bM L) (ey L) k0 not (P0 a)=some (e,P0 (a+1+m.length+1))):Itm e (l++(bw not++(kT 17::iN::(m++[iQ])))) 4:=by
 have body:∀L a,gw L a (bw not++(kT 17::iN::(m++[iQ])))->St 4 (hd L (a+(bw not++(kT 17::iN::(m++[iQ]))).length))->cmpT L (bM L) (ey L) k0 (P0 a)=some (e,P0 (a+(bw not++(kT 17::iN::(m++[iQ]))).length)):=fun L a hl hs=>by
  obtain⟨n1,n2,n3,n4⟩:=qS not hl ah
  have no16:aw L (P0 a) 16=false:=by
   cases not with
   |true=>exact cx (f8 (k:=1) (x:=kw 15) hl.1 ah)
   |false=>exact cx (f8 (k:=1) (x:=kw 17) hl.1 ah)
  have len:a+(bw not++(kT 17::iN::(m++[iQ]))).length=a+(bw not).length+1+1+m.length+1:=by
   simp only[List.length_cons,aC,List.length_nil];omega
  rw[len]
  unfold cmpT
  simp only[no16,Bool.false_eq_true,if_false]
  rw[n2,n1,if_neg (by rw[cx (f8 n3 ah)];simp),if_pos (cv n3),d6]
  exact hp L _ n4
 cases not with
 |true=>exact lx rfl hk hf rfl (fun h e=>by rw[e];exact ml 15 aa) body
 |false=>exact lx rfl hk hf rfl (fun h e=>by rw[e];exact ml 17 aa) body
theorem Hg {kids:List Expr} {not:Bool} (h2:2<=kids.length) (h9:kids.length<=9) (h:KidsOk g kids):Itm (bR 7 not kids []) (aP full g 7 0 kids 0++(bw not++(kT 17::iN::(bd (oN full g 7 0 kids) (kids.length-1)++[iQ])))) 4:=by
 have hk:=h.itm (k:=0) aa full 7 0 (n:=5) ah aa
 have hf:=h.fs (k:=0) aa full 7 0
 obtain⟨m,hm⟩:∃m,kids.length=m+2:=⟨kids.length-2,aa⟩
 have nd1:∀j,nd 7 0 (j+1)=1:=fun j=>by unfold nd;rw[if_neg ah,if_neg ah,if_neg ah,if_pos ⟨rfl,aa⟩]
 have kj:∀j,j+1<kids.length->Itm (kids.getD (j+1) zeroX) (aP full g 7 0 kids (j+1)) 1:=fun j hj=>h.itm hj full 7 0 (by rw[nd1];rfl) aa
 refine tc hk (hf.mono fun _=>by decide) fun L a hl=>?_
 obtain⟨t1,t2⟩:=hl
 obtain⟨t3,t4⟩:=bN.1 t2
 have e1:kids.length-1=m+1:=by omega
 have e2:oN full g 7 0 kids=fun i=>jQ i++aP full g 7 0 kids (i+1):=rfl
 rw[e1,e2,Hd] at t3 t4 ⊢
 obtain⟨t5,t6⟩:=bN.1 t3
 have hrp:hd L (a+1+(aP full g 7 0 kids (0+1)++(List.range m).flatMap fun j=>dQ::aP full g 7 0 kids (j+1+1)).length)=some (5,⟨#[41]⟩):=t4.1
 generalize hrest:(List.range m).map (fun j=>(kids.getD (j+1+1) zeroX,aP full g 7 0 kids (j+1+1)))=rest
 have hfl:((List.range m).flatMap fun j=>dQ::aP full g 7 0 kids (j+1+1))=rest.flatMap fun p=>dQ::p.2:=by rw[<-hrest,List.flatMap_map]
 rw[hfl] at t6 hrp ⊢
 unfold sf
 have hsel:aw L (P0 (a+1)) 1=false:=cx ((h.fs (k:=1) aa full 7 0) L (a+1) t5).1
 simp only[must,ge t1,if_true,d6,hsel,Bool.false_eq_true,if_false]
 have st0:St 1 (hd L (a+1+(aP full g 7 0 kids (0+1)).length)):=by
  cases rest with
  |nil=>rw[List.flatMap_nil,List.append_nil] at hrp;rw[hrp];exact vG 41 (.inl rfl) 1
  |cons p r=>rw[List.flatMap_cons,List.cons_append,gw] at t6;rw[t6.1];exact qR
 have hor:kd L (bM L) (P0 (a+1))=some (kids.tail,P0 (a+1+(aP full g 7 0 kids (0+1)++rest.flatMap fun p=>dQ::p.2).length)):=by
  unfold kd
  rw[((kj 0 aa) L (a+1) t5 1 aa aa).1 st0]
  simp only
  have hlen:rest.length<L.length+1:=by
   rw[<-hrest,List.length_map,List.length_range]
   have h4:∀r:List (Expr×List Tok),r.length<=(r.flatMap fun p=>dQ::p.2).length:=fun r=>by
    induction r with
    |nil=>simp
    |cons p r ih=>rw[List.flatMap_cons,aC,List.length_cons,List.length_cons];omega
   have h5:=h4 rest
   rw[<-hrest,List.length_map,List.length_range,hrest] at h5
   rcases qh t6 with h6|h6
   ·rw[h6] at h5;simp at h5;omega
   ·omega
  have:=qQ (f:=fun L=>bM L 1) (Sx:=fun h=>h=some (5,⟨#[41]⟩)) (fun h e=>by rw[e];decide) rest (L.length+1) [kids.getD (0+1) zeroX] L _ (fun p hp=>by
   rw[<-hrest,List.mem_map] at hp
   obtain⟨j,hj,rfl⟩:=hp
   rw[List.mem_range] at hj
   exact He (kj (j+1) aa) aa (fun h e=>by rw[e];exact vG 41 (.inl rfl) 1)) hlen t6 (by rw[aC,<-Nat.add_assoc] at hrp;exact hrp)
  rw[this]
  rw[aC,<-Nat.add_assoc]
  congr 2
  rw[<-hrest,List.map_map]
  have e3:(List.range m).map ((fun p:Expr×List Tok=>p.1) ∘ fun j=>(kids.getD (j+1+1) zeroX,aP full g 7 0 kids (j+1+1)))=kids.tail.tail:=by
   have:=xP kids.tail zeroX m (by rw[List.length_tail];omega)
   rw[<-this]
   refine List.map_congr_left fun j _=>?_
   simp only[Function.comp]
   cases kids with
   |nil=>simp at hm
   |cons x r=>rfl
  rw[e3]
  cases kids with
  |nil=>simp at hm
  |cons x r=>cases r with
   |nil=>simp at hm
   |cons y r'=>rfl
 rw[hor]
 simp only[ge hrp,if_true,d6]
 congr 2
 cases kids with
 |nil=>simp at hm
 |cons x r=>rfl
def II (q:Query) (l:List Tok):Prop:=∀L a,gw L a l->(hd L (a+l.length)=none∨hd L (a+l.length)=some (5,⟨#[41]⟩))->ey L (P0 a)=some (q,P0 (a+l.length))
theorem EI {k:Expr} {q:Query} {not:Bool} {r:List Tok} (h:KidsOk g [k]) (hr:dP g q=kT 1::r) (hq:II q (dP g q)):Itm (bR 8 not [k] [q]) (aP full g 8 0 [k] 0++(bw not++(kT 17::iN::(dP g q++[iQ])))) 4:=by
 have hk:=h.itm (k:=0) (by simp) full 8 0 (n:=5) ah aa
 have hf:=h.fs (k:=0) (by simp) full 8 0
 refine tc hk (hf.mono fun _=>by decide) fun L a hl=>?_
 obtain⟨t1,t2⟩:=hl
 obtain⟨t3,t4⟩:=bN.1 t2
 have hrp:hd L (a+1+(dP g q).length)=some (5,⟨#[41]⟩):=t4.1
 have hsel:hd L (a+1)=some (1,kw 1):=by rw[hr] at t3;exact t3.1
 unfold sf
 simp only[must,ge t1,if_true,d6,cv hsel]
 rw[hq L (a+1) t3 (.inr hrp)]
 simp only[ge hrp,if_true,d6]
 rfl
theorem Hh {q:Query} (hq:II q (dP g q)):Itm (bR 9 false [] [q]) (kT 19::iN::(dP g q++[iQ])) 9:=by
 refine kg (Nat.le_refl 9) (fun L a hl hs=>?_) (fun L a _ hc=>by unfold vf at hc;omega) fun L a hl=>⟨fun _=>f8 (mZ hl) ah,fun _=>db (mZ hl) ah⟩
 obtain⟨t1,t2,t3⟩:=hl
 obtain⟨t4,t5⟩:=bN.1 t3
 have h19:hd L a=some (1,kw 19):=t1
 have hlp:hd L (a+1)=some (5,⟨#[40]⟩):=t2
 have hrp:hd L (a+1+1+(dP g q).length)=some (5,⟨#[41]⟩):=t5.1
 rw[EA]
 unfold dk
 simp only[eA h19 (by decide:(1:Int)≠3),eA h19 (by decide:(1:Int)≠4),eA h19 (by decide:(1:Int)≠2),cx (f8 h19 (by decide:kw 19≠kw 20)),cx (f8 h19 (by decide:kw 19≠kw 21)),cx (f8 h19 (by decide:kw 19≠kw 22)),pE (db h19 (by decide:(1:Int)≠5)),cv h19,Bool.false_eq_true,if_false,if_true,d6,must,ge hlp]
 rw[hq L _ t4 (.inr hrp)]
 simp only[ge hrp,if_true,d6,List.length_cons,aC,List.length_nil]
 congr 3;omega
end
def En (ks:List Nat) (h:Option (Int×ByteArray)):Prop:=h=none∨h=some (5,⟨#[41]⟩)∨∃k∈ks,h=some (1,kw k)
theorem En.mono {ks ks':List Nat} {h:Option (Int×ByteArray)} (e:En ks h) (s:∀k∈ks,k∈ks'):En ks' h:=e.imp id fun e=>e.imp id fun ⟨k,h1,h2⟩=>⟨k,s k h1,h2⟩
theorem En.st {ks:List Nat} {h:Option (Int×ByteArray)} (e:En ks h) (s:∀k∈ks,k=3∨k=4∨k=6∨k=7∨k=9∨k=10∨k=11∨k=12) (lv:Nat):St lv h:=by
 rcases e with rfl|rfl|⟨k,hk,rfl⟩
 ·exact Ez lv
 ·exact vG 41 (.inl rfl) lv
 ·exact xN k lv (s k hk)
theorem En.key {ks:List Nat} {h:Option (Int×ByteArray)} (e:En ks h) {x:ByteArray} (s:∀k∈ks,kw k≠x):h≠some (1,x):=by
 rcases e with rfl|rfl|⟨k,hk,rfl⟩
 ·simp
 ·simp
 ·intro h;injection h with h;injection h with _ h;exact s k hk h
theorem En.sg {ks:List Nat} {h:Option (Int×ByteArray)} (e:En ks h) {x:ByteArray} (s:x≠⟨#[41]⟩):h≠some (5,x):=by
 rcases e with rfl|rfl|⟨k,hk,rfl⟩
 ·simp
 ·intro h;injection h with h;injection h with _ h;exact s h.symm
 ·simp
theorem En.one {k:Nat} {ks:List Nat} {h:Option (Int×ByteArray)} (e:h=some (1,kw k)) (hk:k∈ks):En ks h:=.inr (.inr ⟨k,hk,e⟩)
theorem Gy {e:Expr} (h:lU e=true):e=zExpr:=by
 obtain⟨kind,op,not,val,qual,name,kids,sub⟩:=e
 simp only[lU,ee,Bool.and_eq_true,decide_eq_true_eq] at h
 obtain⟨h1,h2,h3,h4,h5,h6,h7,h8⟩:=h
 have e1:=Gx h4
 have e2:kids=[]:=List.eq_nil_of_length_eq_zero aa
 have e3:sub=[]:=List.eq_nil_of_length_eq_zero aa
 rw[h1,h2,h3,e1,h5,h6,e2,e3];rfl
section
variable {g:Expr->List Tok}
def XOk (g:Expr->List Tok) (e:Expr):Prop:=Itm e (g e) (kP e).toNat/\1<=kP e/\Fs (g e) (kP e)
theorem XOk.el {e:Expr} (h:XOk g e) {L:List Tok} {a:Nat} (hl:gw L a (g e)) (hs:St 1 (hd L (a+(g e).length))):bM L 1 (P0 a)=some (e,P0 (a+(g e).length)):=(h.1 L a hl 1 (Nat.le_refl 1) (by have:=h.2.1;omega)).1 hs
theorem vH {L:List Tok} {a:Nat} {x:ByteArray} (hx:d9 x=true) (h:gw L a (cQ x)) (hn:hd L (a+(cQ x).length)≠some (1,kw 12)):asM L (P0 a)=(x,P0 (a+(cQ x).length)):=by
 unfold cQ at h hn ⊢
 unfold asM
 split at h
 ·rename_i e
  rw[if_pos e] at hn ⊢
  rw[cx (by simpa using hn),if_neg (by simp),e];rfl
 ·rename_i e
  rw[if_neg e]
  unfold d9 at hx
  simp only[Bool.or_eq_true,decide_eq_true_eq,e,false_or] at hx
  rw[cv h.1,if_pos rfl,d6,qP h.2.1 hx];rfl
theorem IJ {L:List Tok} {a:Nat} {x:ByteArray} (h:gw L a (cQ x)):hd L a=some (1,kw 12)∨hd L a=hd L (a+(cQ x).length):=by
 unfold cQ at h ⊢
 split at h
 ·rename_i e;rw[if_pos e];exact .inr rfl
 ·exact .inl h.1
theorem td {x:Item} (hx:nu x=true) (h:x.star=false->XOk g x.e):El (fun L=>dF L (bM L)) (fun h=>h=some (1,kw 3)) x (cK g x):=fun L a hl hs=>by
 obtain⟨star,qual,e,as_⟩:=x
 have hs':En [3] (hd L (a+(cK g (.mk star qual e as_)).length))∨hd L (a+(cK g (.mk star qual e as_)).length)=some (5,⟨#[44]⟩):=hs.symm.imp (fun h=>En.one h (by simp)) id
 cases star with
 |true=>
  unfold nu at hx
  simp only[if_true,Bool.and_eq_true,decide_eq_true_eq] at hx
  obtain⟨hq,rfl,hz⟩:=hx
  rw[Gy hz]
  have e1:cK g (.mk true qual e ⟨#[]⟩)=cF qual++[Dp]:=rfl
  have e2:cK g (.mk true qual zExpr ⟨#[]⟩)=cF qual++[Dp]:=rfl
  rw[Gy hz,e2] at hl
  rw[e2]
  show dF L (bM L) (P0 a)=_
  unfold dF
  unfold cF at hl ⊢
  split at hl
  ·rename_i e
   rw[if_pos e,ge hl.1,if_pos rfl,e];rfl
  ·rename_i e
   rw[if_neg e]
   unfold d9 at hq
   simp only[Bool.or_eq_true,decide_eq_true_eq,e,false_or] at hq
   have h1:hd L a=some (2,qual):=hl.1
   have h2:hd L (a+1)=some (5,⟨#[46]⟩):=hl.2.1
   have h3:hd L (a+2)=some (5,⟨#[42]⟩):=hl.2.2.1
   have hst:dK L (P0 a)=true:=by
    unfold dK
    rw[mY h1,ub hq,mX,mX,h2,h3];simp
   rw[pE (db h1 ah),if_neg (by simp),hst,if_pos rfl,gc h1];rfl
 |false=>
  unfold nu at hx
  simp only[Bool.false_eq_true,if_false,Bool.and_eq_true,decide_eq_true_eq] at hx
  obtain⟨rfl,ha⟩:=hx
  have hX:XOk g e:=h rfl
  have e1:cK g (.mk false ⟨#[]⟩ e as_)=g e++cQ as_:=rfl
  rw[e1] at hl hs' ⊢
  obtain⟨h1,h2⟩:=bN.1 hl
  rw[aC,<-Nat.add_assoc] at hs' ⊢
  have hst:St 1 (hd L (a+(g e).length)):=by
   rcases IJ h2 with h3|h3
   ·rw[h3];exact xN 12 1 aa
   ·rw[h3]
    rcases hs' with h4|h4
    ·exact h4.st (by simp) 1
    ·rw[h4];exact qR
  have hf:=hX.2.2 L a h1
  show dF L (bM L) (P0 a)=_
  unfold dF
  rw[pE hf.2.1,if_neg (by simp),hf.2.2.1 hst.1,if_neg (by simp),hX.el h1 hst]
  simp only
  rw[vH ha h2 (by
   rcases hs' with h4|h4
   ·exact h4.key ah
   ·rw[h4];simp)]
  rfl
theorem qT {α:Type} {F:Nat->List Tok} {A:List Tok} {h:α->List Tok} {r:List α} (h0:F 0=A) (h1:∀i (hi:i<r.length),F (i+1)=h r[i]):bd F (r.length+1)=A++r.flatMap h:=by
 have:bd F (r.length+1)=F 0++(List.range r.length).flatMap fun i=>F (i+1):=by
  unfold bd
  rw[List.range_succ_eq_map,List.flatMap_cons,List.flatMap_map]
 rw[this,h0]
 congr 1
 have e:(List.range r.length).map (fun i=>F (i+1))=r.map h:=List.ext_getElem (by simp) fun i a b=>by simp at a b ⊢;rw[h1 i a]
 rw[List.flatMap_def,e,<-List.flatMap_def]
theorem C9 {α:Type} {L:List Tok} {a:Nat} {r:List α} {tk:α->List Tok} (h:gw L a (r.flatMap fun x=>dQ::tk x)):r.length<L.length+1:=by
 have h4:∀r:List α,r.length<=(r.flatMap fun p=>dQ::tk p).length:=fun r=>by
  induction r with
  |nil=>simp
  |cons p r ih=>rw[List.flatMap_cons,aC,List.length_cons,List.length_cons];omega
 have:=h4 r
 rcases qh h with h5|h5
 ·rw[h5] at this;simp at this;simp [this]
 ·omega
theorem zf {α:Type} {f:List Tok->PM α} {Sx:Option (Int×ByteArray)->Prop} {tk:α->List Tok} (hS:∀h,Sx h->h≠some (5,⟨#[44]⟩)) {r:List α} {acc:List α} {L:List Tok} {a:Nat} (hE:∀x∈r,El f Sx x (tk x))
 (hl:gw L a (r.flatMap fun x=>dQ::tk x)) (hs:Sx (hd L (a+(r.flatMap fun x=>dQ::tk x).length))):f9 L (f L) (L.length+1) acc (P0 a)=some (acc++r,P0 (a+(r.flatMap fun x=>dQ::tk x).length)):=by
 have e:(r.map fun x=>(x,tk x)).flatMap (fun p=>dQ::p.2)=r.flatMap fun x=>dQ::tk x:=by rw[List.flatMap_map]
 have:=qQ (f:=f) hS (r.map fun x=>(x,tk x)) (L.length+1) acc L a (fun p hp=>by
  obtain⟨x,hx,rfl⟩:=List.mem_map.1 hp
  exact hE x hx) (by rw[List.length_map];exact C9 hl) (by rw[e];exact hl) (by rw[e];exact hs)
 rw[this,e,List.map_map]
 congr 2
 congr 1
 have:((fun p:α×List Tok=>p.1) ∘ fun x=>(x,tk x))=id:=rfl
 rw[this,List.map_id]
theorem zg {α:Type} {Sx:Option (Int×ByteArray)->Prop} {tk:α->List Tok} {r:List α} {L:List Tok} {a:Nat} (hl:gw L a (r.flatMap fun x=>dQ::tk x)) (hs:Sx (hd L (a+(r.flatMap fun x=>dQ::tk x).length))):hd L a=some (5,⟨#[44]⟩)∨Sx (hd L a):=by
 cases r with
 |nil=>exact .inr hs
 |cons x r'=>rw[List.flatMap_cons,List.cons_append] at hl;exact .inl hl.1
theorem xQ {items:List Item} (h0:1<=items.length) (hi:∀x∈items,nu x=true) (hx:∀x∈items,x.star=false->XOk g x.e) {L:List Tok} {a:Nat} (hl:gw L a (bd (dd g items) items.length)) (hs:hd L (a+(bd (dd g items) items.length).length)=some (1,kw 3)) :
 eu L (bM L) (P0 a)=some (items,P0 (a+(bd (dd g items) items.length).length)):=by
 obtain⟨x,r,rfl⟩:∃x r,items=x::r:=by
  cases items with
  |nil=>simp at h0
  |cons x r=>exact⟨x,r,rfl⟩
 have e:bd (dd g (x::r)) (r.length+1)=cK g x++r.flatMap fun y=>dQ::cK g y:=qT rfl fun i hi=>by
  show jQ (i+1)++q8 (x::r) (cK g) (i+1)=_
  rw[ea (by simpa using hi)];rfl
 rw[List.length_cons,e] at hl hs ⊢
 obtain⟨h1,h2⟩:=bN.1 hl
 rw[aC,<-Nat.add_assoc] at hs ⊢
 unfold eu
 have hI:dF L (bM L) (P0 a)=_:=td (hi x (by simp)) (hx x (by simp)) L a h1 (zg (Sx:=fun h=>h=some (1,kw 3)) h2 hs)
 rw[hI]
 exact zf (f:=fun L=>dF L (bM L)) (Sx:=fun h=>h=some (1,kw 3)) (fun h e=>by rw[e];decide) (fun y hy=>td (hi y (by simp [hy])) (hx y (by simp [hy]))) h2 hs
theorem ly {table as_:ByteArray} (ht:bK table=true) (ha:d9 as_=true) {L:List Tok} {a:Nat} (hl:gw L a (nT table::cQ as_)) (hn:hd L (a+1+(cQ as_).length)≠some (1,kw 12)):sourceM L (P0 a)=(.mk table as_ [],P0 (a+1+(cQ as_).length)):=by
 unfold sourceM
 rw[qP hl.1 ht]
 simp only
 rw[vH ha hl.2 hn]
 rfl
def kh (g:Expr->List Tok) (x:Source):List Tok:=fy g 1 x
theorem nN {ks:List Nat} (hks:∀k∈ks,k=6∨k=7∨k=11):∀(r:List Source) (n:Nat) (acc:List Source) {L:List Tok} {a:Nat},(∀x∈r,nv 1 x=true)->(∀x∈r,∀y∈x.on,XOk g y)->r.length<n->gw L a (r.flatMap (kh g))->En ks (hd L (a+(r.flatMap (kh g)).length)) ->
 bE L (bM L) n acc (P0 a)=some (acc++r,P0 (a+(r.flatMap (kh g)).length))
 | [],n+1,acc,L,a,_,_,_,_,hs=>by
  rw[List.flatMap_nil,List.length_nil,Nat.add_zero] at hs ⊢
  have h4:∀k∈ks,kw k≠kw 4:=fun k hk=>by rcases hks k hk with rfl|rfl|rfl<;>decide
  rw[bE,pE (hs.sg ah),if_neg (by simp),cx (hs.key h4)]
  simp
 |x::r,n+1,acc,L,a,hb,hX,hn,hl,hs=>by
  rw[List.flatMap_cons] at hl hs ⊢
  rw[aC,<-Nat.add_assoc] at hs ⊢
  obtain⟨h1,h2⟩:=bN.1 hl
  have hx:=hb x (by simp)
  obtain⟨table,as_,on⟩:=x
  unfold nv at hx
  simp only[Bool.and_eq_true,decide_eq_true_eq] at hx
  obtain⟨ht,ha,ho,_⟩:=hx
  have hst:En (4::ks) (hd L (a+(kh g (.mk table as_ on)).length))∨hd L (a+(kh g (.mk table as_ on)).length)=some (5,⟨#[44]⟩):=by
   cases r with
   |nil=>exact .inl (hs.mono fun k hk=>by simp [hk])
   |cons y r'=>
    obtain⟨ty,ay,oy⟩:=y
    rw[List.flatMap_cons] at h2
    have h3:=(bN.1 h2).1
    have e3:kh g (.mk ty ay oy)=(if 0<oy.length then [kT 4] else [dQ])++(nT ty::(cQ ay++rE g oy)):=rfl
    rw[e3] at h3
    by_cases e:0<oy.length
    ·rw[if_pos e] at h3;exact .inl (En.one (k:=4) h3.1 (by simp))
    ·rw[if_neg e] at h3;exact .inr h3.1
  have n12:hd L (a+(kh g (.mk table as_ on)).length)≠some (1,kw 12):=by
   rcases hst with h|h
   ·refine h.key fun k hk=>?_
    rcases List.mem_cons.1 hk with rfl|hk
    ·decide
    ·rcases hks k hk with rfl|rfl|rfl<;>decide
   ·rw[h];simp
  have rec_:=fun acc=>nN hks r n acc (fun y hy=>hb y (by simp [hy])) (fun y hy=>hX y (by simp [hy])) (by simpa using hn) h2 hs
  cases on with
  |nil=>
   have e:kh g (.mk table as_ [])=dQ::nT table::(cQ as_++[]):=rfl
   rw[List.append_nil] at e
   rw[e] at h1 n12 rec_ ⊢
   have len:a+(dQ::nT table::cQ as_).length=a+1+1+(cQ as_).length:=by simp only[List.length_cons];omega
   rw[len] at n12 rec_ ⊢
   rw[bE,ge h1.1,if_pos rfl,d6,ly ht ha h1.2 n12]
   simp only
   rw[rec_];simp
  |cons y on'=>
   have hon':on'=[]:=List.eq_nil_of_length_eq_zero (by simp only[List.length_cons] at ho;omega)
   subst hon'
   have e:kh g (.mk table as_ [y])=kT 4::nT table::(cQ as_++kT 5::g y):=rfl
   rw[e] at h1 n12 rec_ hst ⊢
   have len:a+(kT 4::nT table::(cQ as_++kT 5::g y)).length=a+1+1+(cQ as_).length+1+(g y).length:=by simp only[List.length_cons,aC];omega
   rw[len] at n12 rec_ hst ⊢
   obtain⟨t1,t2,t3⟩:=h1
   obtain⟨t4,t5⟩:=bN.1 t3
   have h4:hd L a=some (1,kw 4):=t1
   have h5:hd L (a+1+1+(cQ as_).length)=some (1,kw 5):=t5.1
   rw[bE,pE (db h4 ah),if_neg (by simp),cv h4,if_pos rfl,d6,ly ht ha ⟨t2,t4⟩ (by rw[h5];decide)]
   simp only
   unfold must
   rw[if_pos (cv h5),d6]
   have hX1:XOk g y:=hX (.mk table as_ [y]) (by simp) y (by simp [Source.on])
   rw[hX1.el t5.2 (by
    rcases hst with h|h
    ·exact h.st (fun k hk=>by
      rcases List.mem_cons.1 hk with rfl|hk
      ·omega
      ·have:=hks k hk;omega) 1
    ·rw[h];exact qR)]
   simp only
   rw[rec_]
   simp [Source.withOn]
theorem tf {x:SortKey} (hX:XOk g x.e):El (fun L=>dV L (bM L)) (En [11]) x (iF g x):=fun L a hl hs=>by
 obtain⟨e,desc⟩:=x
 have hX':XOk g e:=hX
 clear hX
 show dV L (bM L) (P0 a)=_
 have e1:iF g (.mk e desc)=g e++(if desc=true then [kT 10] else []):=rfl
 rw[e1] at hl hs ⊢
 obtain⟨h1,h2⟩:=bN.1 hl
 rw[aC,<-Nat.add_assoc] at hs ⊢
 have st11:∀h,En [11] h->St 1 h:=fun h e=>e.st (by simp) 1
 unfold dV
 cases desc with
 |true=>
  rw[if_pos rfl] at h2 hs ⊢
  have h10:hd L (a+(g e).length)=some (1,kw 10):=h2.1
  rw[hX'.el h1 (by rw[h10];exact xN 10 1 aa)]
  simp only
  rw[cx (f8 h10 ah),if_neg (by simp),cv h10]
  rfl
 |false=>
  rw[if_neg (by simp)] at h2 hs ⊢
  simp only[List.length_nil,Nat.add_zero] at hs ⊢
  rw[hX'.el h1 (by
   rcases hs with h|h
   ·rw[h];exact qR
   ·exact st11 _ h)]
  simp only
  have n9:∀k,k=9∨k=10->hd L (a+(g e).length)≠some (1,kw k):=fun k hk=>by
   rcases hs with h|h
   ·rw[h];simp
   ·exact h.key (by rcases hk with rfl|rfl<;>decide)
  rw[cx (n9 9 (.inl rfl)),if_neg (by simp),cx (n9 10 (.inr rfl))]
  rfl
theorem xR {order:List SortKey} (hX:∀x∈order,XOk g x.e) {L:List Tok} {a:Nat} (hl:gw L a (bd (eY g order) order.length)) (hs:En [11] (hd L (a+(bd (eY g order) order.length).length))) :
 dY L (bM L) (P0 a)=some (order,P0 (a+(bd (eY g order) order.length).length)):=by
 cases order with
 |nil=>
  have e:bd (eY g []) ([]:List SortKey).length=[]:=rfl
  rw[e] at hs ⊢
  simp only[List.length_nil,Nat.add_zero] at hs ⊢
  unfold dY
  rw[cx (hs.key ah),if_neg (by simp)]
 |cons x r=>
  have e:bd (eY g (x::r)) (r.length+1)=kT 7::kT 8::(iF g x++r.flatMap fun y=>dQ::iF g y):=by
   have:=qT (F:=eY g (x::r)) (A:=kT 7::kT 8::iF g x) (h:=fun y=>dQ::iF g y) (r:=r) rfl fun i hi=>by
    show (if i+1=0 then [kT 7,kT 8] else [dQ])++q8 (x::r) (iF g) (i+1)=_
    rw[ea (by simpa using hi),if_neg aa];rfl
   rw[this];rfl
  rw[List.length_cons,e] at hl hs ⊢
  obtain⟨t1,t2,t3⟩:=hl
  obtain⟨t4,t5⟩:=bN.1 t3
  have len:a+(kT 7::kT 8::(iF g x++r.flatMap fun y=>dQ::iF g y)).length=a+1+1+(iF g x).length+(r.flatMap fun y=>dQ::iF g y).length:=by simp only[List.length_cons,aC];omega
  rw[len] at hs ⊢
  have h7:hd L a=some (1,kw 7):=t1
  have h8:hd L (a+1)=some (1,kw 8):=t2
  have hS:∀h,En [11] h->h≠some (5,⟨#[44]⟩):=fun h e=>e.sg ah
  unfold dY
  simp only
  rw[if_pos (cv h7),d6]
  unfold must
  rw[if_pos (cv h8),d6]
  have hI:dV L (bM L) (P0 (a+1+1))=_:=tf (hX x (by simp)) L _ t4 (zg (Sx:=En [11]) t5 hs)
  rw[hI]
  exact zf (f:=fun L=>dV L (bM L)) (Sx:=En [11]) hS (fun y hy=>tf (hX y (by simp [hy]))) t5 hs
theorem xS {n:Int} (h0 : -1<=n) (h1:n<=9223372036854775807) {L:List Tok} {a:Nat} (hl:gw L a (iR n)) (hs:En [] (hd L (a+(iR n).length))):limitM L (P0 a)=(n,P0 (a+(iR n).length)):=by
 unfold iR at hl hs ⊢
 unfold limitM
 split at hl
 ·rename_i hn
  rw[if_pos hn]
  have h11:hd L a=some (1,kw 11):=hl.1
  have hi:hd L (a+1)=some (3,d5 n):=hl.2.1
  obtain⟨o1,o2⟩:=sZ hn h1
  have hk:iZ L (P0 (a+1)) 3=true:=by rw[mY hi];simp only[decide_true,Bool.true_and];exact o1
  rw[if_pos (cv h11),d6]
  unfold mNum mText
  rw[if_pos hk,gc hi]
  simp only[o2];rfl
 ·rename_i hn
  rw[if_neg hn] at hs ⊢
  rw[cx (by simpa using hs.key (by simp)),if_neg (by simp)]
  have:n = -1:=by omega
  rw[this];rfl
theorem xT {l:List Expr} (h1:l.length<=1) (hX:∀x∈l,XOk g x) {L:List Tok} {a:Nat} (hl:gw L a (nA g l)) (hs:En [7,11] (hd L (a+(nA g l).length))):dL L (bM L) (P0 a)=some (l,P0 (a+(nA g l).length)):=by
 unfold dL
 cases l with
 |nil=>
  rw[cx (by have:En [7,11] (hd L a):=hs;exact this.key ah),if_neg (by simp)]
  rfl
 |cons x r=>
  have hr:r=[]:=List.eq_nil_of_length_eq_zero (by simp only[List.length_cons] at h1;omega)
  subst hr
  have e:nA g [x]=kT 6::g x:=rfl
  rw[e] at hl hs ⊢
  have len:a+(kT 6::g x).length=a+1+(g x).length:=by rw[List.length_cons];omega
  rw[len] at hs ⊢
  have h6:hd L a=some (1,kw 6):=hl.1
  rw[if_pos (cv h6),d6,(hX x (by simp)).el hl.2 (hs.st (by simp) 1)]
theorem Hi {n:Int} {L:List Tok} {a:Nat} (hl:gw L a (iR n)) (hs:En [] (hd L (a+(iR n).length))):En [11] (hd L a):=by
 unfold iR at hl hs
 split at hl
 ·exact En.one (k:=11) hl.1 (by simp)
 ·rename_i hn
  rw[if_neg hn] at hs
  exact En.mono hs (by simp)
theorem Hj {order:List SortKey} {L:List Tok} {a:Nat} (hl:gw L a (bd (eY g order) order.length)) (hs:En [11] (hd L (a+(bd (eY g order) order.length).length))):En [7,11] (hd L a):=by
 cases order with
 |nil=>exact En.mono (ks:=[11]) hs (by simp)
 |cons x r=>
  have e:bd (eY g (x::r)) (r.length+1)=(kT 7::kT 8::iF g x)++r.flatMap fun y=>dQ::iF g y:=qT (F:=eY g (x::r)) rfl fun i hi=>by
   show (if i+1=0 then [kT 7,kT 8] else [dQ])++q8 (x::r) (iF g) (i+1)=_
   rw[ea (by simpa using hi),if_neg aa];rfl
  rw[List.length_cons,e] at hl
  exact En.one (k:=7) hl.1 (by simp)
theorem IK {l:List Expr} {L:List Tok} {a:Nat} (hl:gw L a (nA g l)) (hs:En [7,11] (hd L (a+(nA g l).length))):En [6,7,11] (hd L a):=by
 cases l with
 |nil=>exact En.mono (ks:=[7,11]) hs (by simp)
 |cons x r=>exact En.one (k:=6) hl.1 (by simp)
theorem EJ {x:Item} (hx:nu x=true) (h:x.star=false->XOk g x.e) {L:List Tok} {a:Nat} (hl:gw L a (cK g x)):hd L a≠some (1,kw 2):=by
 obtain⟨star,qual,e,as_⟩:=x
 cases star with
 |true=>
  have e1:cK g (.mk true qual e as_)=cF qual++[Dp]:=rfl
  rw[e1] at hl
  unfold cF at hl
  split at hl
  ·exact db (k:=5) (x:=⟨#[42]⟩) hl.1 ah
  ·exact db (k:=2) (x:=qual) hl.1 ah
 |false=>
  have e1:cK g (.mk false qual e as_)=g e++cQ as_:=rfl
  rw[e1] at hl
  exact ((h rfl).2.2 L a (bN.1 hl).1).2.2.2.2
theorem qU {gf:Expr->Bool} {q:Query} (hq:hZ gf q=true) (hlim:q.lim<=9223372036854775807) (hX:∀x∈exprsQ q,XOk g x):II q (dP g q):=fun L a hl hs=>by
 obtain⟨distinct,items,from_,where_,order,limit⟩:=q
 obtain⟨hi,hf,hw,ho,hlm,bu,hsr,_⟩:=ff hq
 have hlim:limit<=9223372036854775807:=hlim
 have xi:∀x∈items,x.star=false->XOk g x.e:=fun x hx hst=>hX _ (by
  show x.e∈aY items++from_.flatMap Source.on++where_++order.map SortKey.e
  simp only[List.mem_append,aY,List.mem_map,List.mem_filter]
  exact .inl (.inl (.inl ⟨x,⟨hx,by simp [hst]⟩,rfl⟩)))
 have xf:∀x∈from_,∀y∈x.on,XOk g y:=fun x hx y hy=>hX _ (by
  show y∈aY items++from_.flatMap Source.on++where_++order.map SortKey.e
  simp only[List.mem_append,List.mem_flatMap]
  exact .inl (.inl (.inr ⟨x,hx,hy⟩)))
 have xw:∀x∈where_,XOk g x:=fun x hx=>hX _ (by
  show x∈aY items++from_.flatMap Source.on++where_++order.map SortKey.e
  simp only[List.mem_append]
  exact .inl (.inr hx))
 have xo:∀x∈order,XOk g x.e:=fun x hx=>hX _ (by
  show x.e∈aY items++from_.flatMap Source.on++where_++order.map SortKey.e
  simp only[List.mem_append,List.mem_map]
  exact .inr ⟨x,hx,rfl⟩)
 have eq:dP g (.mk distinct items from_ where_ order limit)=kT 1::((if distinct=true then [kT 2] else [])++(bd (dd g items) items.length++(kT 3::(bd (dR g from_) from_.length++(nA g where_++(bd (eY g order) order.length++iR limit)))))):=rfl
 rw[eq] at hl hs ⊢
 obtain⟨s0,rf,rfl⟩:∃x r,from_=x::r:=by
  cases from_ with
  |nil=>simp at hf
  |cons x r=>exact⟨x,r,rfl⟩
 have es:bd (dR g (s0::rf)) (rf.length+1)=fy g 0 s0++rf.flatMap (kh g):=qT rfl fun i hi=>by
  show q8 (s0::rf) (fy g (i+1)) (i+1)=_
  rw[ea (by simpa using hi)]
  have e2:(s0::rf)[i+1]'(by simpa using hi)=rf[i]:=rfl
  rw[e2]
  obtain⟨t,a',o⟩:=rf[i]
  show (if 0<i+1 then (if 0<o.length then [kT 4] else [dQ]) else [])++(nT t::(cQ a'++rE g o))=(if 0<1 then (if 0<o.length then [kT 4] else [dQ]) else [])++(nT t::(cQ a'++rE g o))
  rw[if_pos (show 0<i+1 by omega),if_pos (show 0<1 by omega)]
 have ec:(s0::rf).length=rf.length+1:=rfl
 rw[ec,es] at hl hs ⊢
 generalize hd1:(if distinct=true then [kT 2] else [])=D at *
 generalize hI:bd (dd g items) items.length=I at *
 generalize hO:bd (eY g order) order.length=O at *
 obtain⟨t1,t2⟩:=hl
 obtain⟨t3,t4⟩:=bN.1 t2
 obtain⟨t5,t6⟩:=bN.1 t4
 obtain⟨t7,t8⟩:=t6
 obtain⟨t9,JO⟩:=bN.1 t8
 obtain⟨Jq,GV⟩:=bN.1 t9
 obtain⟨Iz,JP⟩:=bN.1 JO
 obtain⟨t15,t16⟩:=bN.1 JP
 have len:a+(kT 1::(D++(I++(kT 3::(fy g 0 s0++rf.flatMap (kh g)++(nA g where_++(O++iR limit))))))).length=a+1+D.length+I.length+1+(fy g 0 s0++rf.flatMap (kh g)).length+(nA g where_).length+O.length+(iR limit).length:=by
  simp only[List.length_cons,aC];omega
 rw[len] at hs ⊢
 have E0:En [] (hd L (a+1+D.length+I.length+1+(fy g 0 s0++rf.flatMap (kh g)).length+(nA g where_).length+O.length+(iR limit).length)):=hs.imp id .inl
 have E1:=Hi t16 E0
 have E2:=Hj (g:=g) (order:=order) (by rw[hO];exact t15) (by rw[hO];exact E1)
 have E3:=IK Iz E2
 have hs0:=hsr 0 (by simp)
 obtain⟨table,as_,on⟩:=s0
 have hs0:nv 0 (.mk table as_ on)=true:=hs0
 unfold nv at hs0
 simp only[Bool.and_eq_true,decide_eq_true_eq,Bool.or_eq_true] at hs0
 obtain⟨ht,ha,_,hon⟩:=hs0
 have hon:on=[]:=by simpa using hon
 subst hon
 have e0:fy g 0 (.mk table as_ [])=nT table::(cQ as_++[]):=rfl
 rw[List.append_nil] at e0
 rw[e0] at Jq GV Iz t15 t16 E0 E1 E2 E3 ⊢
 have ls:∀p,p+(nT table::cQ as_++rf.flatMap (kh g)).length=p+1+(cQ as_).length+(rf.flatMap (kh g)).length:=fun p=>by simp only[List.length_cons,aC];omega
 simp only[ls] at Iz t15 t16 E0 E1 E2 E3 ⊢
 have l1:a+1+D.length+I.length+1+(nT table::cQ as_).length=a+1+D.length+I.length+1+1+(cQ as_).length:=by rw[List.length_cons];omega
 rw[l1] at GV
 have n12:hd L (a+1+D.length+I.length+1+1+(cQ as_).length)≠some (1,kw 12):=by
  cases rf with
  |nil=>exact E3.key ah
  |cons y r=>
   obtain⟨ty,ay,oy⟩:=y
   rw[List.flatMap_cons] at GV
   have h3:=(bN.1 GV).1
   have e3:kh g (.mk ty ay oy)=(if 0<oy.length then [kT 4] else [dQ])++(nT ty::(cQ ay++rE g oy)):=rfl
   rw[e3] at h3
   by_cases e:0<oy.length
   ·rw[if_pos e] at h3;exact f8 (k:=1) (x:=kw 4) h3.1 ah
   ·rw[if_neg e] at h3;exact db (k:=5) (x:=⟨#[44]⟩) h3.1 ah
 have h1:hd L a=some (1,kw 1):=t1
 have h3:hd L (a+1+D.length+I.length)=some (1,kw 3):=t7
 have dis:aw L (P0 (a+1)) 2=distinct/\tkIf (aw L (P0 (a+1)) 2) (P0 (a+1))=P0 (a+1+D.length):=by
  cases distinct with
  |true=>
   rw[if_pos rfl] at hd1
   subst hd1
   have h2:hd L (a+1)=some (1,kw 2):=t3.1
   refine⟨cv h2,?_⟩
   rw[cv h2];rfl
  |false=>
   rw[if_neg (by simp)] at hd1
   subst hd1
   have n2:hd L (a+1)≠some (1,kw 2):=by
    cases items with
    |nil=>simp at hi
    |cons x r=>
     have e:bd (dd g (x::r)) (r.length+1)=cK g x++r.flatMap fun y=>dQ::cK g y:=qT rfl fun i hi=>by
      show jQ (i+1)++q8 (x::r) (cK g) (i+1)=_
      rw[ea (by simpa using hi)];rfl
     rw[List.length_cons,e] at hI
     rw[<-hI] at t5
     have t5:=(bN.1 t5).1
     exact EJ (bu x (by simp)) (xi x (by simp)) t5
   refine⟨cx n2,?_⟩
   rw[cx n2];rfl
 rw[AD]
 unfold stepQ
 simp only
 have m1:must (aw L (P0 a) 1) (P0 a)=P0 (a+1):=by unfold must;rw[if_pos (cv h1)];rfl
 rw[m1,dis.2,dis.1]
 have R1:=xQ (g:=g) hi.1 bu xi (L:=L) (a:=a+1+D.length) (by rw[hI];exact t5) (by rw[hI];exact h3)
 rw[hI] at R1
 rw[R1]
 simp only
 have m3:must (aw L (P0 (a+1+D.length+I.length)) 3) (P0 (a+1+D.length+I.length))=P0 (a+1+D.length+I.length+1):=by unfold must;rw[if_pos (cv h3)];rfl
 rw[m3,ly ht ha Jq n12]
 simp only
 have hrl:rf.length<L.length+1:=by
  have h4:∀r:List Source,r.length<=(r.flatMap (kh g)).length:=fun r=>by
   induction r with
   |nil=>simp
   |cons p r ih=>
    obtain⟨ty,ay,oy⟩:=p
    have e3:kh g (.mk ty ay oy)=(if 0<oy.length then [kT 4] else [dQ])++(nT ty::(cQ ay++rE g oy)):=rfl
    rw[List.flatMap_cons,aC,List.length_cons,e3,aC,List.length_cons];omega
  have:=h4 rf
  rcases qh GV with h5|h5
  ·rw[h5] at this;simp at this;simp [this]
  ·omega
 have R2:=nN (g:=g) (ks:=[6,7,11]) (by simp) rf (L.length+1) [.mk table as_ []] (L:=L) (a:=a+1+D.length+I.length+1+1+(cQ as_).length) (fun x hx=>by
  obtain⟨i,hi',rfl⟩:=List.getElem_of_mem hx
  have:=hsr (i+1) (by simpa using hi')
  have e:(Source.mk table as_ []::rf)[i+1]'(by simpa using hi')=rf[i]:=rfl
  rw[e] at this
  generalize rf[i]=y at *
  obtain⟨ty,ay,oy⟩:=y
  unfold nv at this ⊢
  simp only[Bool.and_eq_true,decide_eq_true_eq,Bool.or_eq_true] at this ⊢
  exact⟨this.1,this.2.1,this.2.2.1,.inl aa⟩) (fun x hx=>xf x (by simp [hx])) hrl GV E3
 rw[R2]
 simp only
 have R3:=xT (g:=g) hw xw Iz E2
 rw[R3]
 simp only
 have R4:=xR (g:=g) xo (L:=L) (a:=a+1+D.length+I.length+1+1+(cQ as_).length+(rf.flatMap (kh g)).length+(nA g where_).length) (by rw[hO];exact t15) (by rw[hO];exact E1)
 rw[hO] at R4
 rw[R4]
 simp only
 have R5:=xS hlm hlim t16 E0
 rw[R5]
 rfl
end
def XO (e:Expr) (l:List Tok):Prop:=Itm e l (kP e).toNat/\1<=kP e/\Fs l (kP e)
theorem EK {full:Bool} {gf:Expr->Bool} {g:Expr->List Tok} {e:Expr} (hf:tJ gf e=true) (hr:Rg e) (hg:∀x,f6 x e->gf x=true->Rg x->XO x (g x)):XO e (iO full g e):=by
 have hb:∀x,f6 x e->Rg x:=fun x hx=>qp hr hx
 have hlim:∀q∈e.sub,q.lim<=9223372036854775807:=fun q hq=>(uL hr hq).1
 obtain⟨kind,op,not,val,qual,name,kids,sub⟩:=e
 have hnum:=hr.num
 obtain⟨hs,hk,hq⟩:=jR hf
 have hkid:KidsOk g kids:=fun k hk'=>by
  have hm:=aO hk'
  have e:kids.getD k zeroX=kids[k]:=by rw[List.getD_eq_getElem?_getD,aD hk'];rfl
  rw[e]
  exact hg _ (.inl hm) (hk _ hm) (hb _ (.inl hm))
 have hqs:∀q∈sub,II q (dP g q):=fun q hm=>qU (hq q hm) (hlim q hm) fun x hx=>hg x (.inr ⟨q,hm,hx⟩) (by
  have h1:=hq q hm
  simp only[hZ,Bool.and_eq_true,List.all_eq_true] at h1
  exact h1.2 x hx) (hb _ (.inr ⟨q,hm,hx⟩))
 obtain⟨z1,z2,z3,z4⟩:=xO hs
 rcases j5 hs with⟨rfl,hl,nk,ns⟩|⟨rfl,hn,hm,nk,ns⟩|⟨rfl,ho,nk,ns⟩|⟨rfl,ho,nk,ns⟩|⟨rfl,nk,ns⟩|⟨rfl,nk,ns⟩|⟨rfl,nk,ns⟩|⟨rfl,nk,ns⟩|⟨rfl,nk,ns⟩
 ·obtain rfl:=z1 rfl
  obtain rfl:=z2 rfl
  obtain⟨rfl,rfl⟩:=z4 rfl
  obtain rfl:=mK nk
  obtain rfl:=mK ns
  exact⟨ED hl hnum.2,by show (1:Int)<=9;decide,H9 _⟩
 ·obtain rfl:=z1 rfl
  obtain rfl:=z2 rfl
  obtain rfl:=z3 rfl
  obtain rfl:=mK nk
  obtain rfl:=mK ns
  exact⟨EE hn hm,by show (1:Int)<=9;decide,Ha _⟩
 ·obtain rfl:=z2 rfl
  obtain rfl:=z3 rfl
  obtain⟨rfl,rfl⟩:=z4 rfl
  obtain⟨k,rfl⟩:=j6 nk
  obtain rfl:=mK ns
  refine⟨Hb ho hkid,?_,?_⟩
  ·rcases ho with rfl|rfl
   ·show (1:Int)<=3;decide
   ·show (1:Int)<=8;decide
  ·rcases ho with rfl|rfl
   ·exact gV ah (fun _=>⟨ah,fun h=>absurd h (by show ¬(4:Int)<=3;decide),ah⟩) (fun h=>absurd h ah)
   ·exact gV ah (fun h=>absurd h ah) (fun _=>by decide)
 ·obtain rfl:=z2 rfl
  obtain rfl:=z3 rfl
  obtain⟨rfl,rfl⟩:=z4 rfl
  obtain⟨x,y,rfl⟩:=GM nk
  obtain rfl:=mK ns
  have e1:(Expr.mk 4 op false zVal z0 z0 [x,y] [])=ed op.toNat x y:=by unfold ed;rw[show ((op.toNat:Nat):Int)=op by omega]
  have e2:kP (Expr.mk 4 op false zVal z0 z0 [x,y] [])=lv 4 op:=rfl
  unfold XO
  rw[e2]
  have:=nM ho.1 ho.2
  refine⟨?_,by unfold lv;rw[if_pos rfl];omega,Hc ho.1 ho.2 hkid⟩
  rw[e1]
  have e3:iO full g (ed op.toNat x y)=aP full g 4 op [x,y] 0++cy op::aP full g 4 op [x,y] 1:=by rw[<-e1];rfl
  rw[e3]
  exact EG ho.1 ho.2 hkid
 ·obtain rfl:=z1 rfl
  obtain rfl:=z3 rfl
  obtain⟨rfl,rfl⟩:=z4 rfl
  obtain⟨x,rfl⟩:=j6 nk
  obtain rfl:=mK ns
  exact⟨Hf hkid,by show (1:Int)<=4;decide,lw ((hkid.fs (k:=0) (by simp) full 5 0).mono fun _=>by decide) (fun h=>absurd h ah)⟩
 ·obtain rfl:=z1 rfl
  obtain rfl:=z3 rfl
  obtain⟨rfl,rfl⟩:=z4 rfl
  obtain⟨x,y,z,rfl⟩:=GN nk
  obtain rfl:=mK ns
  refine⟨EH hkid,by show (1:Int)<=4;decide,?_⟩
  have hF:=(hkid.fs (k:=0) (by simp) full 6 0).mono (m:=4) fun _=>by decide
  cases not with
  |true=>exact lw (t:=kT 15) hF (fun h=>absurd h ah)
  |false=>exact lw (t:=kT 18) hF (fun h=>absurd h ah)
 ·obtain rfl:=z1 rfl
  obtain rfl:=z3 rfl
  obtain⟨rfl,rfl⟩:=z4 rfl
  obtain rfl:=mK ns
  refine⟨Hg aa aa hkid,by show (1:Int)<=4;decide,?_⟩
  have hF:=(hkid.fs (k:=0) aa full 7 0).mono (m:=4) fun _=>by decide
  cases not with
  |true=>exact lw (t:=kT 15) hF (fun h=>absurd h ah)
  |false=>exact lw (t:=kT 17) hF (fun h=>absurd h ah)
 ·obtain rfl:=z1 rfl
  obtain rfl:=z3 rfl
  obtain⟨rfl,rfl⟩:=z4 rfl
  obtain⟨x,rfl⟩:=j6 nk
  obtain⟨q,rfl⟩:=j6 ns
  have hqt:∃r,dP g q=kT 1::r:=by
   obtain⟨d,it,fr,wh,od,lm⟩:=q
   exact⟨_,rfl⟩
  obtain⟨r,hqt⟩:=hqt
  refine⟨EI hkid hqt (hqs q (by simp)),by show (1:Int)<=4;decide,?_⟩
  have hF:=(hkid.fs (k:=0) (by simp) full 8 0).mono (m:=4) fun _=>by decide
  cases not with
  |true=>exact lw (t:=kT 15) hF (fun h=>absurd h ah)
  |false=>exact lw (t:=kT 17) hF (fun h=>absurd h ah)
 ·obtain rfl:=z1 rfl
  obtain rfl:=z2 rfl
  obtain rfl:=z3 rfl
  obtain⟨rfl,rfl⟩:=z4 rfl
  obtain rfl:=mK nk
  obtain⟨q,rfl⟩:=j6 ns
  exact⟨Hh (hqs q (by simp)),by show (1:Int)<=9;decide,gV ah (fun _=>⟨ah,fun _=>by decide,ah⟩) (fun h=>absurd h ah)⟩
theorem Ca (full:Bool) (e:Expr):fmE e=true->Rg e->XO e (dH full e):=
 ku (F1:=tJ) (F2:=zU) (F3:=iO full) (P:=fun e f n t=>f=true->Rg e->XO e t) (fun e gf gn g hg hf hr=>EK hf hr hg) e
def SameK (L l:List Tok):Prop:=L.map (fun t=>(t.kind,t.text))=l.map fun t=>(t.kind,t.text)
theorem SameK.len {L l:List Tok} (h:SameK L l):L.length=l.length:=by have:=congrArg List.length h;simpa using this
theorem SameK.has {L l:List Tok} (h:SameK L l):gw L 0 l:=by
 have key:∀(l:List Tok) (a:Nat),(L.map fun t=>(t.kind,t.text)).drop a=l.map (fun t=>(t.kind,t.text))->gw L a l:=by
  intro l
  induction l with
  |nil=>intro _ _;trivial
  |cons t r ih=>
   intro a h
   have h1:(L.map fun t=>(t.kind,t.text))[a]?=some (t.kind,t.text):=by
    have:=congrArg (fun x=>x[0]?) h
    simpa [List.getElem?_drop] using this
   refine⟨?_,ih (a+1) ?_⟩
   ·unfold hd;rw[<-List.getElem?_map];exact h1
   ·have:=congrArg List.tail h
    rw[List.tail_drop] at this
    simpa using this
 exact key l 0 (by rw[List.drop_zero];exact h)
theorem SameK.end_ {L l:List Tok} (h:SameK L l):hd L (0+l.length)=none:=by
 unfold hd
 rw[List.getElem?_eq_none_iff.2 (by have:=h.len;omega)];rfl
theorem Cb {L:List Tok} {a:Nat} (h:L.length=a):kf L (P0 a) = -1:=by unfold kf;rw[if_pos ⟨rfl,by show L.length<=a;omega⟩]
theorem Cc {α:Type} {L:List Tok} {z x:α} {a:Nat} (h:L.length=a):f7 L z (some (x,P0 a))=(x,-1):=by
 unfold f7
 simp only[Cb h]
 rw[if_neg aa]
theorem xU {full:Bool} {q:Query} {L:List Tok} (hf:hZ fmE q=true) (hr:RgQ q) (h:SameK L (dP (dH full) q)):bI L=(q,-1):=by
 have h1:II q (dP (dH full) q):=qU hf hr.1 fun x hx=>Ca full x (by
  simp only[hZ,Bool.and_eq_true,List.all_eq_true] at hf
  exact hf.2 x hx) (hr.2 x hx)
 unfold bI
 have:ey L s0=some (q,P0 (0+(dP (dH full) q).length)):=h1 L 0 h.has (.inl h.end_)
 rw[this]
 exact Cc (by rw[h.len];omega)
theorem Cd {x:ByteArray} {l:List UInt8} (h:x.data.toList=l):x=⟨l.toArray⟩:=by
 obtain⟨⟨xs⟩⟩:=x
 have h:xs=l:=h
 rw[h]
theorem uc (x:ByteArray):(⟨x.data.toList.toArray⟩:ByteArray)=x:=(Cd rfl).symm
theorem ud {A X C:List UInt8} (i:Nat) (h:i<X.length):(A++X++C)[A.length+i]?=X[i]?:=by
 rw[aL,List.getElem?_append_right aa,Nat.add_sub_cancel_left,List.getElem?_append_left h]
theorem EL {A X C:List UInt8} (i:Nat):(A++X++C)[A.length+X.length+i]?=C[i]?:=by
 rw[List.getElem?_append_right (by rw[aC];omega),aC,Nat.add_sub_cancel_left]
theorem Hl {p:UInt8->Bool} {X C:List UInt8} (h:∀b,b∈X->p b=true) (hc:∀c,C.head?=some c->p c=false):((X++C).takeWhile p)=X:=by
 induction X with
 |nil=>
  cases C with
  |nil=>rfl
  |cons c r=>rw[List.nil_append,List.takeWhile_cons,hc c rfl];rfl
 |cons y r ih=>
  rw[List.cons_append,List.takeWhile_cons,h y (by simp)]
  simp only[if_true]
  rw[ih fun b hb=>h b (by simp [hb])]
theorem EM {A X C:List UInt8} (h:∀b,b∈X->(bB b||bX b)=true) (hc:∀c,C.head?=some c->(bB c||bX c)=false):aS (A++X++C) A.length=A.length+X.length:=by
 unfold aS
 rw[aL,List.drop_left,Hl h hc]
theorem qj {A X C:List UInt8}:aN (A++X++C) A.length (A.length+X.length)=⟨X.toArray⟩:=by
 unfold aN
 rw[aL,List.drop_left,Nat.add_sub_cancel_left,List.take_left]
theorem qV (q:UInt8):∀(X:List UInt8) (B A C l:List UInt8) (n:Nat),B=A++be q X++(q::C)->(∀c,C.head?=some c->c≠q)->B.length<A.length+n->cN B q n A.length l=some (l++X,A.length+(be q X).length+1)
 | [],B,A,C,l,n,hB,hc,hn=>by
  have e0:be q []=[]:=rfl
  rw[e0] at hB ⊢
  rw[List.append_nil] at hB
  have hl:B.length=A.length+(C.length+1):=by rw[hB,aC,List.length_cons]
  obtain⟨n,rfl⟩:∃m,n=m+1:=⟨n-1,aa⟩
  have h0:B[A.length]?=some q:=by rw[hB,List.getElem?_append_right (Nat.le_refl _),Nat.sub_self];rfl
  have h1:B[A.length+1]?=C[0]?:=by
   rw[hB,List.getElem?_append_right aa,Nat.add_sub_cancel_left];rfl
  rw[cN,h0]
  simp only[if_true]
  rw[h1,if_neg]
  ·simp
  ·intro h
   cases C with
   |nil=>cases h
   |cons c r=>
    injection h with h
    exact hc c rfl h
 |y::X,B,A,C,l,n,hB,hc,hn=>by
  have hl:B.length=A.length+((be q (y::X)).length+(C.length+1)):=by rw[hB,aC,aC,List.length_cons];omega
  obtain⟨n,rfl⟩:∃m,n=m+1:=⟨n-1,aa⟩
  by_cases hy:y=q
  ·subst hy
   have e:be y (y::X)=y::y::be y X:=by simp [be]
   rw[e] at hB hl ⊢
   have h0:B[A.length]?=some y:=by rw[hB,aL,List.getElem?_append_right (Nat.le_refl _),Nat.sub_self];rfl
   have h1:B[A.length+1]?=some y:=by rw[hB,aL,List.getElem?_append_right aa,Nat.add_sub_cancel_left];rfl
   have hB2:B=(A++[y,y])++be y X++(y::C):=by rw[hB];simp
   have:=qV y X B (A++[y,y]) C (l++[y]) n hB2 hc (by rw[aC];simp only[List.length_cons,List.length_nil] at hl ⊢;omega)
   rw[cN,h0]
   simp only[if_true]
   rw[if_pos h1]
   have e2:(A++[y,y]).length=A.length+2:=by simp
   rw[e2] at this
   rw[this]
   simp only[List.length_cons,aL,lc]
   congr 2
   omega
  ·have e:be q (y::X)=y::be q X:=by simp [be,hy]
   rw[e] at hB hl ⊢
   have h0:B[A.length]?=some y:=by rw[hB,aL,List.getElem?_append_right (Nat.le_refl _),Nat.sub_self];rfl
   have hB2:B=(A++[y])++be q X++(q::C):=by rw[hB];simp
   have:=qV q X B (A++[y]) C (l++[y]) n hB2 hc (by rw[aC];simp only[List.length_cons,List.length_nil] at hl ⊢;omega)
   rw[cN,h0]
   simp only
   rw[if_neg hy]
   have e2:(A++[y]).length=A.length+1:=by simp
   rw[e2] at this
   rw[this]
   simp only[List.length_cons,aL,lc]
   congr 2
   omega
def gg (t:Tok) (c:UInt8):Bool:=
 if t.kind=5 then !((decide (t.text=⟨#[45]⟩)&&decide (c=45))||(decide (t.text=⟨#[47]⟩)&&decide (c=42))||(decide (t.text=⟨#[60]⟩)&&(decide (c=61)||decide (c=62)))||(decide (t.text=⟨#[62]⟩)&&decide (c=61)))
 else if t.kind=4 then !(decide (c=39)) else if aZ t=true then !(bB c||bX c) else !(decide (c=34))
def tb (t:Tok):List UInt8:=(bU t).data.toList
def vI (B:List UInt8) (i:Nat) (t:Tok) (n:Nat):Prop:=(∃b,B[i]?=some b/\(∀k,dq B (k+1) i=some (i,true))/\bg B i b=some (⟨t.kind,t.text,i⟩,i+n))
theorem jx {B:List UInt8} {i:Nat} {b:UInt8} (h:B[i]?=some b) (hw:mW b=false) (h1:¬(b=45/\B[i+1]?=some 45)) (h2:¬(b=47/\B[i+1]?=some 42)) (k:Nat):dq B (k+1) i=some (i,true):=by
 rw[dq,h]
 simp only
 rw[if_neg (by rw[hw];simp),if_neg h1,if_neg h2]
theorem ue {b:UInt8} (h:(bB b||bX b)=true):mW b=false/\b≠45/\b≠47/\b≠34/\b≠39:=by
 have h2:∀n:Fin 256,(bB (UInt8.ofNat n.1)||bX (UInt8.ofNat n.1))=true->(mW (UInt8.ofNat n.1)=false/\UInt8.ofNat n.1≠45/\UInt8.ofNat n.1≠47/\UInt8.ofNat n.1≠34/\UInt8.ofNat n.1≠39):=by decide
 have:=h2 ⟨b.toNat,UInt8.toNat_lt b⟩
 simp only[UInt8.ofNat_toNat] at this
 exact this h
theorem vJ (k:Int) (x:ByteArray) (a b:Int):aJ ⟨k,x,a⟩=aJ ⟨k,x,b⟩:=rfl
theorem uf {A C:List UInt8} {t:Tok} (ok:aJ t=true) (hX:tb t=t.text.data.toList) (hne:t.text.data.toList≠[]) (hall:∀b,b∈t.text.data.toList->(bB b||bX b)=true) (hc:∀c,C.head?=some c->(bB c||bX c)=false)
 (hk:∀b,t.text.data.toList.head?=some b->(bB b=true/\((t.kind=2/\key t.text=0)∨(t.kind=1/\key t.text≠0/\bW t.text=t.text)))∨(bB b=false/\bX b=true/\t.kind=3)):vI (A++tb t++C) A.length t (tb t).length:=by
 rw[hX]
 obtain⟨kind,text,at_⟩:=t
 simp only at *
 obtain⟨b,r,hb⟩:∃b r,text.data.toList=b::r:=by
  cases h:text.data.toList with
  |nil=>exact absurd h hne
  |cons b r=>exact⟨b,r,rfl⟩
 have h0:(A++text.data.toList++C)[A.length]?=some b:=by
  have:=ud (A:=A) (X:=text.data.toList) (C:=C) 0 (by rw[hb];simp)
  rw[Nat.add_zero] at this
  rw[this,hb];rfl
 obtain⟨n1,n2,n3,n4,n5⟩:=ue (hall b (by rw[hb];simp))
 refine⟨b,h0,jx h0 n1 (fun h=>n2 h.1) (fun h=>n3 h.1),?_⟩
 unfold bg cD
 simp only[EM hall hc,qj,uc]
 rcases hk b (by rw[hb];rfl) with⟨hl,⟨rfl,h1⟩|⟨rfl,h1,hf⟩⟩|⟨hl,hf,rfl⟩
 ·rw[if_pos hl,if_pos h1]
  simp only[vJ _ _ _ at_,ok,if_true]
 ·rw[if_pos hl,if_neg h1,hf]
  simp only[vJ _ _ _ at_,ok,if_true]
 ·rw[if_neg (by rw[hl];simp),if_pos hf]
  simp only[vJ _ _ _ at_,ok,if_true]
theorem zh {A C:List UInt8} {t:Tok} {q:UInt8} (ok:aJ t=true) (hX:tb t=q::(be q t.text.data.toList++[q])) (hc:∀c,C.head?=some c->c≠q) (hq:(q=34/\t.kind=2)∨(q=39/\t.kind=4)):vI (A++tb t++C) A.length t (tb t).length:=by
 obtain⟨kind,text,at_⟩:=t
 simp only at *
 have h0:(A++tb ⟨kind,text,at_⟩++C)[A.length]?=some q:=by
  have:=ud (A:=A) (X:=tb ⟨kind,text,at_⟩) (C:=C) 0 (by rw[hX];simp)
  rw[Nat.add_zero] at this
  rw[this,hX];rfl
 have hB:A++tb ⟨kind,text,at_⟩++C=(A++[q])++be q text.data.toList++(q::C):=by rw[hX];simp
 have hQ:=qV q text.data.toList _ (A++[q]) C [] ((A++tb ⟨kind,text,at_⟩++C).length+1) hB hc (by rw[show (A++[q]).length=A.length+1 by simp];omega)
 have e1:(A++[q]).length=A.length+1:=by simp
 rw[e1,List.nil_append] at hQ
 have e2:A.length+1+(be q text.data.toList).length+1=A.length+(tb ⟨kind,text,at_⟩).length:=by rw[hX];simp;omega
 rw[e2] at hQ
 generalize tb ⟨kind,text,at_⟩=T at *
 generalize A++T++C=B at *
 have w1:bB 34=false:=by decide
 have w2:bB 39=false:=by decide
 have w3:bX 34=false:=by decide
 have w4:bX 39=false:=by decide
 rcases hq with⟨rfl,rfl⟩|⟨rfl,rfl⟩
 ·refine⟨34,h0,jx h0 ah (fun h=>absurd h.1 ah) (fun h=>absurd h.1 ah),?_⟩
  unfold bg cD
  simp only[w1,w3,hQ,Bool.false_eq_true,if_false,if_true,Option.map_some,uc,vJ _ _ _ at_,ok]
 ·refine⟨39,h0,jx h0 ah (fun h=>absurd h.1 ah) (fun h=>absurd h.1 ah),?_⟩
  unfold bg cD
  simp only[w2,w4,hQ,Bool.false_eq_true,if_false,if_true,Option.map_some,uc,vJ _ _ _ at_,ok,show ¬((39:UInt8)=34) by decide]
theorem tg (a c:UInt8):cW ⟨#[a,c]⟩=((decide (a=60)&&(decide (c=62)||decide (c=61)))||(decide (a=62)&&decide (c=61))||(decide (a=124)&&decide (c=124))):=by
 unfold cW signs
 simp only[List.any_cons,List.any_nil,ByteArray.mk.injEq,Array.mk.injEq,List.cons.injEq,and_true,and_false,reduceCtorEq,decide_false,Bool.false_or,Bool.or_false,Bool.decide_and]
 cases decide (a=60)<;>cases decide (a=62)<;>cases decide (c=62)<;>cases decide (c=61)<;>simp
theorem IL {A C:List UInt8} {c0:UInt8} {a:Int} (hs:cW ⟨#[c0]⟩=true) (hn:bB c0=false/\bX c0=false /\ ¬c0=34 /\ ¬c0=39/\mW c0=false) (hc:∀c,C.head?=some c->cW ⟨#[c0,c]⟩=false /\ ¬(c0=45/\c=45) /\ ¬(c0=47/\c=42)):vI (A++[c0]++C) A.length ⟨5,⟨#[c0]⟩,a⟩ 1:=by
 obtain⟨n1,n2,n3,n4,n5⟩:=hn
 have h0:(A++[c0]++C)[A.length]?=some c0:=by simpa using ud (A:=A) (X:=[c0]) (C:=C) 0 (by simp)
 have h1:(A++[c0]++C)[A.length+1]?=C[0]?:=by simpa using EL (A:=A) (X:=[c0]) (C:=C) 0
 have h1':∀c,(A++[c0]++C)[A.length+1]?=some c->C.head?=some c:=fun c h=>by rw[h1] at h;rw[List.head?_eq_getElem?];exact h
 refine⟨c0,h0,jx h0 n5 (fun h=>(hc _ (h1' _ h.2)).2.1 ⟨h.1,rfl⟩) (fun h=>(hc _ (h1' _ h.2)).2.2 ⟨h.1,rfl⟩),?_⟩
 have hcut:aN (A++[c0]++C) A.length (A.length+1)=⟨#[c0]⟩:=qj (A:=A) (X:=[c0]) (C:=C)
 have hsg:bQ (A++[c0]++C) A.length=A.length+1:=by
  unfold bQ
  cases C with
  |nil=>exact if_neg fun h=>by have:=h.1;simp at this
  |cons c r=>
   have e:aN (A++[c0]++c::r) A.length (A.length+2)=⟨#[c0,c]⟩:=by
    have:=qj (A:=A) (X:=[c0,c]) (C:=r)
    simpa using this
   rw[e,(hc c rfl).1]
   exact if_neg fun h=>by cases h.2
 unfold bg cD
 rw[if_neg (by rw[n1];simp),if_neg (by rw[n2];simp),if_neg n3,if_neg n4,hsg]
 simp only[hcut]
 rw[if_pos (show aJ ⟨5,⟨#[c0]⟩,(A.length:Int)⟩=true from hs)]
theorem IM {A C:List UInt8} {c0 c1:UInt8} {a:Int} (hs:cW ⟨#[c0,c1]⟩=true) (hn:bB c0=false/\bX c0=false /\ ¬c0=34 /\ ¬c0=39/\mW c0=false /\ ¬c0=45 /\ ¬c0=47):vI (A++[c0,c1]++C) A.length ⟨5,⟨#[c0,c1]⟩,a⟩ 2:=by
 obtain⟨n1,n2,n3,n4,n5,n6,n7⟩:=hn
 have h0:(A++[c0,c1]++C)[A.length]?=some c0:=by simpa using ud (A:=A) (X:=[c0,c1]) (C:=C) 0 (by simp)
 refine⟨c0,h0,jx h0 n5 (fun h=>n6 h.1) (fun h=>n7 h.1),?_⟩
 have hcut:aN (A++[c0,c1]++C) A.length (A.length+2)=⟨#[c0,c1]⟩:=qj (A:=A) (X:=[c0,c1]) (C:=C)
 have hsg:bQ (A++[c0,c1]++C) A.length=A.length+2:=by
  unfold bQ
  rw[hcut]
  exact if_pos ⟨by simp,hs⟩
 unfold bg cD
 rw[if_neg (by rw[n1];simp),if_neg (by rw[n2];simp),if_neg n3,if_neg n4,hsg]
 simp only[hcut]
 rw[if_pos (show aJ ⟨5,⟨#[c0,c1]⟩,(A.length:Int)⟩=true from hs)]
theorem EN {A C:List UInt8} {x:ByteArray} {a:Int} (hs:cW x=true) (hc:∀c,C.head?=some c->gg ⟨5,x,a⟩ c=true):vI (A++x.data.toList++C) A.length ⟨5,x,a⟩ x.data.toList.length:=by
 have hm:x∈signs:=by
  unfold cW at hs
  obtain⟨y,hy,e⟩:=List.any_eq_true.1 hs
  rw[decide_eq_true_eq] at e
  rw[e];exact hy
 have one:∀c0:UInt8,x=⟨#[c0]⟩->(bB c0=false/\bX c0=false /\ ¬c0=34 /\ ¬c0=39/\mW c0=false)->c0≠124->vI (A++x.data.toList++C) A.length ⟨5,x,a⟩ x.data.toList.length:=fun c0 e hn hb=>by
  subst e
  refine IL hs hn fun c h=>?_
  have:=hc c h
  unfold gg at this
  simp only[if_true,ByteArray.mk.injEq,Array.mk.injEq,List.cons.injEq,and_true] at this
  rw[tg]
  revert this
  by_cases e1:c0=45<;>by_cases e2:c0=47<;>by_cases e3:c0=60<;>by_cases e4:c0=62<;>simp_all
 have two:∀c0 c1:UInt8,x=⟨#[c0,c1]⟩->(bB c0=false/\bX c0=false /\ ¬c0=34 /\ ¬c0=39/\mW c0=false /\ ¬c0=45 /\ ¬c0=47)->vI (A++x.data.toList++C) A.length ⟨5,x,a⟩ x.data.toList.length:=fun c0 c1 e hn=>by
  subst e
  exact IM hs hn
 unfold signs at hm
 simp only[List.mem_cons,List.not_mem_nil,or_false] at hm
 rcases hm with h|h|h|h|h|h|h|h|h|h|h|h|h|h|h|h
 all_goals first
  |exact one _ h ah ah
  |exact two _ _ h ah
theorem zi:∀x∈kws,x.data.toList≠[]/\∀b∈x.data.toList,bB b=true:=by decide
theorem zj {x:ByteArray} (h:key x≠0):bW x∈kws:=by
 unfold key mP at h
 split at h
 ·rename_i hl
  have:=List.findIdx_getElem (w:=hl)
  simp only[decide_eq_true_eq] at this
  rw[<-this]
  exact aO hl
 ·exact absurd rfl h
theorem vK (n:Nat):Go.Lib.decDigits n≠[]/\∀b∈Go.Lib.decDigits n,bX b=true/\bB b=false:=by
 have h1:∀i:Fin 10,bX (UInt8.ofNat (48+i.1))=true/\bB (UInt8.ofNat (48+i.1))=false:=by decide
 induction n using Nat.strongRecOn with
 |_ n ih=>
  rw[Go.Lib.decDigits]
  by_cases h:n<10
  ·rw[dif_pos h]
   exact⟨by simp,fun b hb=>by rw[List.mem_singleton.1 hb];exact h1 ⟨n,h⟩⟩
  ·rw[dif_neg h]
   refine⟨by simp,fun b hb=>?_⟩
   rcases List.mem_append.1 hb with hb|hb
   ·exact (ih (n / 10) aa).2 b hb
   ·rw[List.mem_singleton.1 hb];exact h1 ⟨n % 10,aa⟩
theorem Hm {A C:List UInt8} {t:Tok} (ok:aJ t=true) (hc:∀c,C.head?=some c->gg t c=true):tb t≠[]/\vI (A++tb t++C) A.length t (tb t).length:=by
 have okf:¬aJ t=false:=by rw[ok];simp
 by_cases k1:t.kind=1
 ·have o:=ok
  unfold aJ at o
  rw[if_pos k1,Bool.and_eq_true,decide_eq_true_eq,decide_eq_true_eq] at o
  have hX:tb t=t.text.data.toList:=by
   unfold tb bU
   rw[if_neg okf,if_neg aa,if_neg aa]
  obtain⟨m1,m2⟩:=zi _ (by have:=zj o.1;rwa[o.2] at this)
  refine⟨by rw[hX];exact m1,uf ok hX m1 (fun b hb=>by rw[m2 b hb];rfl) (fun c h=>?_) fun b hb=>.inl ⟨m2 b (List.mem_of_mem_head? hb),.inr ⟨k1,o.1,o.2⟩⟩⟩
  have:=hc c h
  unfold gg at this
  rw[if_neg aa,if_neg aa,if_pos (by unfold aZ;rw[az k1];rfl)] at this
  simpa using this
 by_cases k3:t.kind=3
 ·have o:=ok
  unfold aJ at o
  rw[if_neg k1,if_neg aa,if_pos k3] at o
  have hX:tb t=t.text.data.toList:=by
   unfold tb bU
   rw[if_neg okf,if_neg aa,if_neg aa]
  obtain⟨m,hm⟩:=Option.isSome_iff_exists.1 (show (gJ t.text.data.toList).isSome=true from o)
  have hm:=(d7.1 hm).2
  obtain⟨m1,m2⟩:=vK m
  rw[hm] at m1 m2
  refine⟨by rw[hX];exact m1,uf ok hX m1 (fun b hb=>by rw[(m2 b hb).1];simp) (fun c h=>?_) fun b hb=>.inr ⟨(m2 b (List.mem_of_mem_head? hb)).2,(m2 b (List.mem_of_mem_head? hb)).1,k3⟩⟩
  have:=hc c h
  unfold gg at this
  rw[if_neg aa,if_neg aa,if_pos (by unfold aZ;rw[az k3];simp)] at this
  simpa using this
 by_cases k4:t.kind=4
 ·have hX:tb t=39::(be 39 t.text.data.toList++[39]):=by
   unfold tb bU
   rw[if_neg okf,if_neg aa,if_pos k4];rfl
  refine⟨by rw[hX];simp,zh ok hX (fun c h=>?_) (.inr ⟨rfl,k4⟩)⟩
  have:=hc c h
  unfold gg at this
  rw[if_neg aa,if_pos k4] at this
  simpa using this
 by_cases k2:t.kind=2
 ·have o:=ok
  unfold aJ at o
  rw[if_neg k1,if_pos k2,decide_eq_true_eq] at o
  cases hp:dm t.text with
  |true=>
   have hX:tb t=t.text.data.toList:=by
    unfold tb bU gA
    rw[if_neg okf,if_pos k2,if_pos o,if_pos hp]
   have hp':=hp
   simp only[dm,Bool.and_eq_true,Bool.not_eq_true',decide_eq_true_eq,decide_eq_false_iff_not,List.all_eq_true] at hp
   obtain⟨_,h1,h2,h3⟩:=hp
   have hne:t.text.data.toList≠[]:=fun e=>by
    have:=aE t.text
    rw[e] at this;simp at this;omega
   refine⟨by rw[hX];exact hne,uf ok hX hne (fun b hb=>h3 b hb) (fun c h=>?_) fun b hb=>.inl ⟨?_,.inl ⟨k2,h2⟩⟩⟩
   ·have:=hc c h
    unfold gg at this
    rw[if_neg aa,if_neg aa,if_pos (by unfold aZ;rw[az k2,hp'];simp)] at this
    simpa using this
   ·have e:=h3 b (List.mem_of_mem_head? hb)
    have e2:t.text.data.toList.headD 0=b:=by
     cases hl:t.text.data.toList with
     |nil=>exact absurd hl hne
     |cons y r=>rw[hl] at hb;injection hb with hb
    rw[e2] at h1
    unfold kW at e
    rw[au h1,Bool.or_false] at e
    exact e
  |false=>
   have hX:tb t=34::(be 34 t.text.data.toList++[34]):=by
    unfold tb bU gA
    rw[if_neg okf,if_pos k2,if_pos o,if_neg (by rw[hp];simp)];rfl
   refine⟨by rw[hX];simp,zh ok hX (fun c h=>?_) (.inl ⟨rfl,k2⟩)⟩
   have:=hc c h
   unfold gg at this
   rw[if_neg aa,if_neg aa,if_neg (by unfold aZ;rw[au k1,au k3,hp];simp)] at this
   simpa using this
 ·have o:=ok
  unfold aJ at o
  rw[if_neg k1,if_neg k2,if_neg k3,if_neg k4] at o
  by_cases k5:t.kind=5
  ·rw[if_pos k5] at o
   have hX:tb t=t.text.data.toList:=by
    unfold tb bU
    rw[if_neg okf,if_neg k2,if_neg k4]
   rw[hX]
   obtain⟨kind,text,a⟩:=t
   have k5:kind=5:=k5
   subst k5
   refine⟨fun e=>?_,EN o hc⟩
   have:text=⟨#[]⟩:=Cd e
   rw[this] at o
   exact absurd (show cW ⟨#[]⟩=true from o) ah
  ·rw[if_neg k5] at o;cases o
theorem AG (t:Tok):gg t 32=true:=by
 unfold gg
 split
 ·simp
 split
 ·rfl
 split
 ·decide
 ·rfl
theorem EO {b:UInt8} (h:(bB b||bX b)=true):b≠42/\b≠61/\b≠62:=by
 have h2:∀n:Fin 256,(bB (UInt8.ofNat n.1)||bX (UInt8.ofNat n.1))=true->(UInt8.ofNat n.1≠42/\UInt8.ofNat n.1≠61/\UInt8.ofNat n.1≠62):=by decide
 have:=h2 ⟨b.toNat,UInt8.toNat_lt b⟩
 simp only[UInt8.ofNat_toNat] at this
 exact this h
theorem jy:∀x∈signs,x.data.toList≠[]/\(bB (x.data.toList.headD 0)||bX (x.data.toList.headD 0))=false/\x.data.toList.headD 0≠34/\x.data.toList.headD 0≠39/\(x.data.toList.headD 0=45->x=⟨#[45]⟩)/\(x.data.toList.headD 0=42->x=⟨#[42]⟩):=by decide
theorem Ce {x:ByteArray} (hs:cW x=true):x∈signs:=by
 unfold cW at hs
 obtain⟨y,hy,e⟩:=List.any_eq_true.1 hs
 rw[decide_eq_true_eq] at e
 rw[e];exact hy
theorem iq {u:Tok} (ok:aJ u=true):∃c r,tb u=c::r/\((aZ u=true/\u.kind≠5/\u.kind≠4/\(bB c||bX c)=true)∨(cj u=true/\aZ u=false/\u.kind≠5/\u.kind≠4/\c=34)∨(u.kind=4/\c=39)∨(u.kind=5/\u.text∈signs/\u.text.data.toList.headD 0=c)):=by
 have okf:¬aJ u=false:=by rw[ok];simp
 have o:=ok
 unfold aJ at o
 by_cases k1:u.kind=1
 ·rw[if_pos k1,Bool.and_eq_true,decide_eq_true_eq,decide_eq_true_eq] at o
  obtain⟨m1,m2⟩:=zi _ (by have:=zj o.1;rwa[o.2] at this)
  have hX:tb u=u.text.data.toList:=by
   unfold tb bU
   rw[if_neg okf,if_neg aa,if_neg aa]
  obtain⟨c,r,hc⟩:=List.exists_cons_of_ne_nil m1
  exact⟨c,r,by rw[hX,hc],.inl ⟨by unfold aZ;rw[az k1];rfl,aa,aa,by rw[m2 c (by rw[hc];simp)];rfl⟩⟩
 rw[if_neg k1] at o
 by_cases k2:u.kind=2
 ·rw[if_pos k2,decide_eq_true_eq] at o
  cases hp:dm u.text with
  |true=>
   have hX:tb u=u.text.data.toList:=by
    unfold tb bU gA
    rw[if_neg okf,if_pos k2,if_pos o,if_pos hp]
   have hp':=hp
   simp only[dm,Bool.and_eq_true,List.all_eq_true] at hp
   have hne:u.text.data.toList≠[]:=fun e=>by
    have:=aE u.text
    rw[e] at this;simp at this;omega
   obtain⟨c,r,hc⟩:=List.exists_cons_of_ne_nil hne
   exact⟨c,r,by rw[hX,hc],.inl ⟨by unfold aZ;rw[az k2,hp'];simp,aa,aa,hp.2.2.2 c (by rw[hc];simp)⟩⟩
  |false=>
   have hX:tb u=34::(be 34 u.text.data.toList++[34]):=by
    unfold tb bU gA
    rw[if_neg okf,if_pos k2,if_pos o,if_neg (by rw[hp];simp)];rfl
   exact⟨34,_,hX,.inr (.inl ⟨by unfold cj;rw[az k2,hp];rfl,by unfold aZ;rw[au k1,au aa,hp];simp,aa,aa,rfl⟩)⟩
 rw[if_neg k2] at o
 by_cases k3:u.kind=3
 ·rw[if_pos k3] at o
  have hX:tb u=u.text.data.toList:=by
   unfold tb bU
   rw[if_neg okf,if_neg aa,if_neg aa]
  obtain⟨m,hm⟩:=Option.isSome_iff_exists.1 (show (gJ u.text.data.toList).isSome=true from o)
  have hm:=(d7.1 hm).2
  obtain⟨m1,m2⟩:=vK m
  rw[hm] at m1 m2
  obtain⟨c,r,hc⟩:=List.exists_cons_of_ne_nil m1
  exact⟨c,r,by rw[hX,hc],.inl ⟨by unfold aZ;rw[az k3];simp,aa,aa,by rw[(m2 c (by rw[hc];simp)).1];simp⟩⟩
 rw[if_neg k3] at o
 by_cases k4:u.kind=4
 ·have hX:tb u=39::(be 39 u.text.data.toList++[39]):=by
   unfold tb bU
   rw[if_neg okf,if_neg aa,if_pos k4];rfl
  exact⟨39,_,hX,.inr (.inr (.inl ⟨k4,rfl⟩))⟩
 rw[if_neg k4] at o
 by_cases k5:u.kind=5
 ·rw[if_pos k5] at o
  have hX:tb u=u.text.data.toList:=by
   unfold tb bU
   rw[if_neg okf,if_neg aa,if_neg aa]
  have hm:=Ce o
  obtain⟨c,r,hc⟩:=List.exists_cons_of_ne_nil (jy _ hm).1
  exact⟨c,r,by rw[hX,hc],.inr (.inr (.inr ⟨k5,hm,by rw[hc];rfl⟩))⟩
 ·rw[if_neg k5] at o;cases o
theorem EP {t u:Tok} (ot:aJ t=true) (ou:aJ u=true) (hg:gU t u=false) {c:UInt8} (hc:(tb u).head?=some c):gg t c=true:=by
 obtain⟨c',r,e,hk⟩:=iq ou
 rw[e] at hc
 injection hc with hc
 subst hc
 unfold gU ja at hg
 rw[ot,ou] at hg
 simp only[Bool.and_self,Bool.not_true,Bool.false_eq_true,if_false] at hg
 split at hg
 ·cases hg
 rename_i hh
 simp only[Bool.not_eq_true,Bool.or_eq_false_iff,Bool.and_eq_false_iff,decide_eq_false_iff_not] at hh
 obtain⟨⟨hw,hq⟩,ht⟩:=hh
 unfold gg
 by_cases k5:t.kind=5
 ·rw[if_pos k5]
  rcases hk with⟨_,_,_,hl⟩|⟨_,_,_,_,rfl⟩|⟨_,rfl⟩|⟨h5,hm,hh⟩
  ·obtain⟨_,a1,_,_,_⟩:=ue hl
   obtain⟨a2,a3,a4⟩:=EO hl
   simp [a1,a2,a3,a4]
  ·simp
  ·simp
  ·obtain⟨_,_,_,_,s1,s2⟩:=jy _ hm
   rw[hh] at s1 s2
   unfold xI at hg
   rw[if_neg (not_not_intro k5),if_neg (not_not_intro h5),hh] at hg
   by_cases e1:t.text=⟨#[45]⟩
   ·rw[if_pos e1,decide_eq_false_iff_not] at hg
    have:¬c'=45:=fun h=>hg (s1 h)
    rw[e1];simp [this]
   rw[if_neg e1] at hg
   by_cases e2:t.text=⟨#[47]⟩
   ·rw[if_pos e2,decide_eq_false_iff_not] at hg
    have:¬c'=42:=fun h=>hg (s2 h)
    rw[e2];simp [this]
   rw[if_neg e2] at hg
   by_cases e3:t.text=⟨#[60]⟩
   ·rw[if_pos e3,Bool.or_eq_false_iff,decide_eq_false_iff_not,decide_eq_false_iff_not] at hg
    rw[e3];simp [hg.1,hg.2]
   rw[if_neg e3] at hg
   by_cases e4:t.text=⟨#[62]⟩
   ·rw[if_pos e4,decide_eq_false_iff_not] at hg
    rw[e4];simp [hg]
   simp [e1,e2,e3,e4]
 rw[if_neg k5]
 by_cases k4:t.kind=4
 ·rw[if_pos k4]
  rcases hk with⟨_,_,_,hl⟩|⟨_,_,_,_,rfl⟩|⟨h4,rfl⟩|⟨h5,hm,hh⟩
  ·obtain⟨_,_,_,_,a1⟩:=ue hl
   simp [a1]
  ·rfl
  ·rcases ht with ht|ht
   ·exact absurd k4 ht
   ·exact absurd h4 ht
  ·obtain⟨_,_,_,s1,_⟩:=jy _ hm
   rw[hh] at s1
   simp [s1]
 rw[if_neg k4]
 cases wt:aZ t with
 |true=>
  rw[if_pos rfl]
  rcases hk with⟨wu,_,_,hl⟩|⟨_,_,_,_,rfl⟩|⟨h4,rfl⟩|⟨h5,hm,hh⟩
  ·rcases hw with hw|hw
   ·rw[wt] at hw;cases hw
   ·rw[wu] at hw;cases hw
  ·decide
  ·decide
  ·obtain⟨_,s1,_⟩:=jy _ hm
   rw[hh] at s1
   rw[s1];rfl
 |false=>
  rw[if_neg (by simp)]
  have qt:cj t=true:=by
   obtain⟨_,_,_,hk⟩:=iq ot
   rcases hk with⟨a,_⟩|⟨a,_⟩|⟨a,_⟩|⟨a,_⟩
   ·rw[wt] at a;cases a
   ·exact a
   ·exact absurd a k4
   ·exact absurd a k5
  rcases hk with⟨wu,_,_,hl⟩|⟨qu,_,_,_,rfl⟩|⟨h4,rfl⟩|⟨h5,hm,hh⟩
  ·obtain⟨_,_,_,a1,_⟩:=ue hl
   simp [a1]
  ·rcases hq with hq|hq
   ·rw[qt] at hq;cases hq
   ·rw[qu] at hq;cases hq
  ·rfl
  ·obtain⟨_,_,s1,_⟩:=jy _ hm
   rw[hh] at s1
   simp [s1]
def ir (p:Option Tok) (u:Tok):List UInt8:=match p with|some t=>if gU t u=true then [32] else []|none=>[]
def jl:Option Tok->List Tok->List UInt8
 |_,[]=>[]
 |p,u::r=>ir p u++(tb u++jl (some u) r)
theorem vL (l:List Tok):∀k,k<=l.length->eE l k++jl (if k=0 then none else l[k-1]?) (l.drop k)=jl none l
 |0,_=>by simp [eE]
 |k+1,h=>by
  have hk:k<l.length:=h
  rw[<-vL l k aa,cV,List.drop_eq_getElem_cons hk]
  have e1:(if k+1=0 then none else l[k+1-1]?)=some l[k]:=by
   rw[if_neg aa,Nat.add_sub_cancel];exact aD hk
  rw[e1]
  show _=eE l k++(ir _ l[k]++(tb l[k]++jl (some l[k]) (l.drop (k+1))))
  have e2:jn l k=ir (if k=0 then none else l[k-1]?) l[k]++tb l[k]:=by
   rw[yT l hk]
   congr 1
   by_cases h0:k=0
   ·subst h0;rfl
   ·rw[if_neg h0,aD aa]
    unfold ir
    simp only[show 0<k by omega,true_and]
  rw[e2];simp only[aL]
theorem oT (l:List Tok):eE l l.length=jl none l:=by
 have:=vL l l.length (Nat.le_refl _)
 rw[List.drop_length] at this
 rw[<-this];simp [jl]
theorem Hn {u:Tok} {r:List Tok} (ou:aJ u=true) (hr:∀v,v∈r->aJ v=true):∀c,(jl (some u) r).head?=some c->gg u c=true:=fun c h=>by
 cases r with
 |nil=>cases h
 |cons v r=>
  have ov:=hr v (by simp)
  obtain⟨c',r',e,_⟩:=iq ov
  simp only[jl,ir] at h
  by_cases hg:gU u v=true
  ·rw[if_pos hg] at h
   injection h with h
   rw[<-h];exact AG u
  ·rw[if_neg hg,e] at h
   exact EP ou ov (by simpa using hg) (by rw[e];exact h)
theorem Cf:∀(r:List Tok) (p:Option Tok) (B A:List UInt8) (acc:List Tok) (n:Nat),(∀u,u∈r->aJ u=true)->B=A++jl p r->r.length<n->∃r',lj B n A.length acc=some (.inl (acc++r'))/\SameK r' r
 | [],p,B,A,acc,n,_,hB,hn=>by
  obtain⟨n,rfl⟩:∃m,n=m+1:=⟨n-1,aa⟩
  have hB:B=A:=by rw[hB];simp [jl]
  subst hB
  have h0:B[B.length]?=none:=List.getElem?_eq_none_iff.2 (Nat.le_refl _)
  refine⟨[],?_,rfl⟩
  rw[lj,dq,h0]
  simp only[Bool.true_eq_false,if_false]
  rw[h0,List.append_nil]
 |u::r,p,B,A,acc,n,hok,hB,hn=>by
  obtain⟨n,rfl⟩:∃m,n=m+1:=⟨n-1,aa⟩
  have ou:=hok u (by simp)
  have hr:∀v,v∈r->aJ v=true:=fun v hv=>hok v (by simp [hv])
  have hB2:B=(A++ir p u)++tb u++jl (some u) r:=by rw[hB];simp [jl]
  obtain⟨hne,b,hb,hp,ho⟩:=Hm (A:=A++ir p u) ou (Hn ou hr)
  rw[<-hB2] at hb hp ho
  have hpass:dq B (B.length+1) A.length=some ((A++ir p u).length,true):=by
   have hg:ir p u=[]∨ir p u=[32]:=by
    unfold ir
    split
    ·split
     ·exact .inr rfl
     ·exact .inl rfl
    ·exact .inl rfl
   rcases hg with hg|hg
   ·have e:A++ir p u=A:=by rw[hg,List.append_nil]
    rw[e] at hp ⊢
    exact hp _
   ·have e:(A++ir p u).length=A.length+1:=by rw[hg];simp
    have h32:B[A.length]?=some 32:=by
     rw[hB2,hg,aL,aL,List.getElem?_append_right (Nat.le_refl _),Nat.sub_self];rfl
    have hl:1<=B.length:=by have:=(List.getElem?_eq_some_iff.1 h32).1;omega
    obtain⟨m,hm⟩:∃m,B.length=m+1:=⟨B.length-1,aa⟩
    rw[e] at hp ⊢
    rw[hm,dq,h32]
    simp only
    rw[if_pos ah]
    exact hp _
  obtain⟨r',h1,h2⟩:=Cf r (some u) B (A++ir p u++tb u) (acc++[⟨u.kind,u.text,(A++ir p u).length⟩]) n hr (by rw[hB2]) (by simp only[List.length_cons] at hn;omega)
  refine⟨⟨u.kind,u.text,(A++ir p u).length⟩::r',?_,?_⟩
  ·rw[lj,hpass]
   simp only[Bool.true_eq_false,if_false,hb,ho]
   have e9:(A++ir p u++tb u).length=(A++ir p u).length+(tb u).length:=aC
   rw[e9] at h1
   rw[h1];simp
  ·unfold SameK at h2 ⊢
   rw[List.map_cons,List.map_cons,h2]
theorem xV:∀(r:List Tok) (p:Option Tok),(∀u,u∈r->aJ u=true)->r.length<=(jl p r).length
 | [],_,_=>Nat.zero_le _
 |u::r,p,h=>by
  have h1:=xV r (some u) fun v hv=>h v (by simp [hv])
  obtain⟨c,x,e,_⟩:=iq (h u (by simp))
  simp only[jl,aC,e,List.length_cons]
  omega
theorem xW {l:List Tok} (hok:l.all aJ=true) (hl:(eE l l.length).length<=2000):∃L,fJ (bS l) = .inl L/\SameK L l:=by
 have ho:=List.all_eq_true.1 hok
 have e:bS l=⟨(jl none l).toArray⟩:=by
  unfold bS
  rw[if_pos hok,if_neg aa,oT]
 rw[oT] at hl
 have hlen:=xV l none ho
 obtain⟨r',h1,h2⟩:=Cf l none (jl none l) [] [] ((jl none l).length+1) ho rfl aa
 refine⟨r',?_,h2⟩
 rw[e]
 unfold fJ
 rw[if_neg (by rw[<-aE];show ¬ 2000<(jl none l).length;omega)]
 show (lj (jl none l) ((jl none l).length+1) 0 []).getD (.inr 0)=_
 rw[show (0:Nat)=([]:List UInt8).length from rfl,h1];rfl
theorem AH {l:List Tok} (h:bS l≠⟨#[]⟩):l.all aJ=true/\(eE l l.length).length<=2000:=by
 unfold bS at h
 split at h
 ·rename_i h1
  split at h
  ·exact absurd rfl h
  ·exact⟨h1,aa⟩
 ·exact absurd rfl h
end Go.Proofs.YtbodcedhmccenaaGreatDoor
