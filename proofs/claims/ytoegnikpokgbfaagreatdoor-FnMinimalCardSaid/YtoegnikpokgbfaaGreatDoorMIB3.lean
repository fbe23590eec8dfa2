/-
  What is printed is read again.
  Conditions: none.
-/
import Derived.Test.YtoegnikpokgbfaaGreatDoorMIJ1
set_option linter.unusedVariables false
set_option linter.unusedSimpArgs false
set_option linter.unusedSectionVars false
set_option linter.unnecessarySimpa false
set_option maxRecDepth 8000
namespace Go.Proofs.YtoegnikpokgbfaaGreatDoor
open Go Go.Dv
open Go.Vc (D cF cG cv aX)
section
variable {L1 L2:List Tok} {k:Nat}
def Ag (k:Nat) (L1 L2:List Tok):Prop:=∀i,i<k->L1[i]?=L2[i]?
def IB {α:Type} (k:Nat) (m1 m2:PM α):Prop:=∀s x s1 r,m1 s=some (x,s1)->s1.a<k->m2 s=some r->r=(x,s1)
variable (h:Ag k L1 L2)
variable {f1 f2:Nat->PM Expr} {q1 q2:PM Query} (okf:∀lv,OkM (L:=L1) (f1 lv)) (okq:OkM (L:=L1) q1) (hf:∀lv,IB k (f1 lv) (f2 lv)) (hq:IB k q1 q2)
theorem sY {L:List Tok} {s:PS} (hs:ez L s=true):kH L s 2=true/\jL L s 1 5 ⟨#[46]⟩=true/\jL L s 2 5 ⟨#[42]⟩=true:=by
 unfold ez at hs
 simpa [Bool.and_eq_true] using hs
end
section
variable {L:List Tok}
def hd (L:List Tok) (a:Nat):Option (Int×ByteArray):=L[a]?.map fun t=>(t.kind,t.text)
def fu (L:List Tok):Nat->List Tok->Prop
 |_,[]=>True
 |a,t::r=>hd L a=some (t.kind,t.text)/\fu L (a+1) r
theorem bG:∀ {l m:List Tok} {a:Nat},fu L a (l++m)↔fu L a l/\fu L (a+l.length) m
 | [],m,a=>by simp [fu]
 |t::r,m,a=>by
  rw[List.cons_append,fu,fu,bG,and_assoc,List.length_cons,show a+1+r.length=a+(r.length+1) by omega]
abbrev P0 (a:Nat):PS:=⟨a,false⟩
theorem lB (a k:Nat) (kind:Int) (x:ByteArray):jL L (P0 a) k kind x=decide (hd L (a+k)=some (kind,x)):=by
 unfold jL j9 hd
 simp only[Bool.false_eq_true,if_false]
 cases L[a+k]? with
 |none=>simp
 |some t=>simp only[Option.map_some,Option.some.injEq,Prod.mk.injEq,Bool.decide_and]
theorem BS (t:Tok):eN t=eN ⟨t.kind,t.text,0⟩:=by cases t;rfl
theorem lC {a:Nat} {kind k:Int} {x:ByteArray} (h:hd L a=some (k,x)):kH L (P0 a) kind=(decide (k=kind)&&eN ⟨k,x,0⟩):=by
 unfold kH j9
 unfold hd at h
 simp only[Bool.false_eq_true,if_false,Nat.add_zero]
 cases hl:L[a]? with
 |none=>rw[hl] at h;cases h
 |some t=>
  rw[hl] at h
  injection h with h;injection h with h1 h2
  subst h1 h2
  simp only
  rw[BS t]
theorem eX {a:Nat} {k:Int} {x:ByteArray} (h:hd L a=some (k,x)):bM L (P0 a)=x:=by
 unfold bM j9
 unfold hd at h
 simp only[Bool.false_eq_true,if_false,Nat.add_zero]
 cases hl:L[a]? with
 |none=>rw[hl] at h;cases h
 |some t=>
  rw[hl] at h
  injection h with h;injection h with h1 h2
theorem zI (a k:Nat):az L (P0 a) k=decide (hd L a=some (1,kw k)):=lB a 0 1 _
theorem Dk (a:Nat) (c:UInt8):cu L (P0 a) c=decide (hd L a=some (5,⟨#[c]⟩)):=lB a 0 5 _
theorem cJ (a:Nat):adv (P0 a)=P0 (a+1):=rfl
def eA (op:Nat):Int:=if op=1∨op=2 then 1 else 5
theorem zJ (a op:Nat):jM L (P0 a) op=decide (hd L a=some (eA op,iC op)):=lB a 0 _ _
def St (lv:Nat) (h:Option (Int×ByteArray)):Prop:=
 h≠some (5,⟨#[46]⟩)/\(lv<=4->h≠some (1,kw 15)/\h≠some (1,kw 16)/\h≠some (1,kw 17)/\h≠some (1,kw 18))/\∀op:Fin 15,1<=op.1->(lv:Int)<=bl op.1->h≠some (eA op.1,iC op.1)
theorem St.mono {lv lv':Nat} {h:Option (Int×ByteArray)} (k:lv<=lv') (s:St lv h):St lv' h:=⟨s.1,fun e=>s.2.1 aa,fun op h1 h2=>s.2.2 op h1 aa⟩
theorem mJ {s:PS}:∀ {l:List Nat},(∀op∈l,jM L s op=false)->gR L s l=0
 | [],_=>rfl
 |op::r,h=>by
  rw[gR,h op (by simp),if_neg (by simp)]
  exact mJ fun x hx=>h x (by simp [hx])
theorem wM:∀lv:Fin 10,∀op∈eU lv.1,1<=op/\op<=14/\bl op=lv.1:=by decide
theorem St.noop {lv l a:Nat} (s:St lv (hd L a)) (h:lv<=l) (h9:l<=9):d5 L (P0 a) l=0:=mJ fun op hop=>by
 obtain⟨h1,h2,h3⟩:=wM ⟨l,aa⟩ op hop
 rw[zJ,decide_eq_false_iff_not]
 exact s.2.2 ⟨op,aa⟩ h1 (by show (lv:Int)<=bl op;rw[h3];show (lv:Int)<=l;omega)
theorem wN:∀i j:Fin 15,1<=i.1->1<=j.1->eA i.1=eA j.1->iC i.1=iC j.1->i=j:=by decide +kernel
theorem sZ {a op:Nat} (h1:1<=op) (h2:op<=14) (hh:hd L a=some (eA op,iC op)):∀ {l:List Nat},op∈l->(∀x∈l,1<=x/\x<=14)->gR L (P0 a) l=op
 | [],h,_=>by cases h
 |x::r,h,hb=>by
  rw[gR,zJ]
  obtain⟨b1,b2⟩:=hb x (by simp)
  by_cases e:x=op
  ·subst e;rw[if_pos (by simp [hh])]
  ·rw[if_neg]
   ·exact sZ h1 h2 hh (by simpa [Ne.symm e] using h) fun y hy=>hb y (by simp [hy])
   ·rw[hh,decide_eq_true_eq]
    intro h3
    injection h3 with h3;injection h3 with h3 h4
    exact e (congrArg Fin.val (wN ⟨op,aa⟩ ⟨x,aa⟩ h1 b1 h3 h4)).symm
theorem zK:∀op:Fin 15,1<=op.1->op.1∈eU (bl op.1).toNat:=by decide
theorem td {a op:Nat} (h1:1<=op) (h2:op<=14) (hh:hd L a=some (eA op,iC op)):d5 L (P0 a) (bl op).toNat=op:=by
 have hl:=zK ⟨op,aa⟩ h1
 have h9:(bl op).toNat<10:=by have:=mG 4 op;unfold lv at this;simp only[if_true] at this;omega
 exact sZ h1 h2 hh hl fun x hx=>by
  obtain⟨b1,b2,_⟩:=wM ⟨_,h9⟩ x hx
  exact⟨b1,b2⟩
theorem wO (lv:Nat):St lv none:=⟨by simp,fun _=>by simp,fun _ _ _=>by simp⟩
theorem tg (c:UInt8) (h:(c=41∨c=44)) (lv:Nat):St lv (some (5,⟨#[c]⟩)):=by
 rcases h with rfl|rfl
 ·exact⟨ae,fun _=>by decide,fun op _ _=>(by decide:∀op:Fin 15,(some (5,⟨#[41]⟩):Option (Int×ByteArray))≠some (eA op.1,iC op.1)) op⟩
 ·exact⟨ae,fun _=>by decide,fun op _ _=>(by decide:∀op:Fin 15,(some (5,⟨#[44]⟩):Option (Int×ByteArray))≠some (eA op.1,iC op.1)) op⟩
theorem v8 (k lv:Nat) (h:k=3∨k=4∨k=6∨k=7∨k=9∨k=10∨k=11∨k=12):St lv (some (1,kw k)):=by
 have h1:∀k∈[3,4,6,7,9,10,11,12],((some (1,kw k):Option (Int×ByteArray))≠some (5,⟨#[46]⟩))/\((some (1,kw k):Option (Int×ByteArray))≠some (1,kw 15)/\(some (1,kw k):Option (Int×ByteArray))≠some (1,kw 16)/\(some (1,kw k):Option (Int×ByteArray))≠some (1,kw 17)/\(some (1,kw k):Option (Int×ByteArray))≠some (1,kw 18))/\∀op:Fin 15,(some (1,kw k):Option (Int×ByteArray))≠some (eA op.1,iC op.1):=by decide +kernel
 obtain⟨a,b,c⟩:=h1 k (by simpa using h)
 exact⟨a,fun _=>b,fun op _ _=>c op⟩
theorem kI (k:Nat) (h:k=13∨k=15∨k=16∨k=17∨k=18):St 5 (some (1,kw k)):=by
 have h1:∀k∈[13,15,16,17,18],((some (1,kw k):Option (Int×ByteArray))≠some (5,⟨#[46]⟩))/\∀op:Fin 15,5<=bl op.1->(some (1,kw k):Option (Int×ByteArray))≠some (eA op.1,iC op.1):=by decide +kernel
 obtain⟨a,c⟩:=h1 k (by simpa using h)
 exact⟨a,fun e=>by omega,fun op _ h=>c op h⟩
theorem Dl (op:Nat) (h1:1<=op) (h2:op<=14) (lv:Nat) (hl:bl op<lv) (h4:bl op=4->5<=lv) (h3:bl op<=2->5<=lv∨lv<=4):St lv (some (eA op,iC op)):=by
 have k1:∀op:Fin 15,1<=op.1->((some (eA op.1,iC op.1):Option (Int×ByteArray))≠some (5,⟨#[46]⟩))/\((some (eA op.1,iC op.1):Option (Int×ByteArray))≠some (1,kw 15)/\(some (eA op.1,iC op.1):Option (Int×ByteArray))≠some (1,kw 16)/\(some (eA op.1,iC op.1):Option (Int×ByteArray))≠some (1,kw 17)/\(some (eA op.1,iC op.1):Option (Int×ByteArray))≠some (1,kw 18)):=by decide +kernel
 obtain⟨a,b⟩:=k1 ⟨op,aa⟩ h1
 refine⟨a,fun _=>b,fun op' h1' hb e=>?_⟩
 injection e with e;injection e with e1 e2
 have:=congrArg Fin.val (wN ⟨op,aa⟩ op' h1 h1' e1 e2)
 simp only at this
 rw[<-this] at hb
 omega
end
def sH (lv:Nat):Prop:=lv=1∨lv=2∨lv=5∨lv=6∨lv=7
def Hv (L:List Tok) (e:Expr) (l:List Tok) (lv a:Nat):Prop:=St lv (hd L (a+l.length))->bA L lv (P0 a)=some (e,P0 (a+l.length))
def Gj (L:List Tok) (e:Expr) (l:List Tok) (lv a:Nat):Prop:=St (lv+1) (hd L (a+l.length))->bA L lv (P0 a)=cg L (bA L (lv+1)) lv (L.length+1) e (P0 (a+l.length))
def Itm (e:Expr) (l:List Tok) (n:Nat):Prop:=∀L a,fu L a l->∀lv,1<=lv->lv<=n->Hv L e l lv a/\(sH lv->Gj L e l lv a)
theorem Itm.mono {e:Expr} {l:List Tok} {n m:Nat} (h:Itm e l n) (k:m<=n):Itm e l m:=fun L a hl lv h1 h2=>h L a hl lv h1 aa
section
variable {L:List Tok}
theorem zL {lv:Nat} (h:sH lv) (s:PS):bA L lv s=match bA L (lv+1) s with
 |none=>none
 |some (e,s1)=>cg L (bA L (lv+1)) lv (L.length+1) e s1:=by
 unfold sH at h
 rw[jO lv aa aa]
 unfold stepE
 rw[if_neg aa,if_neg aa,if_neg aa,if_neg aa]
 rcases bA L (lv+1) s with _|⟨e,s1⟩<;>rfl
theorem oS {g:PM Expr} {lv n:Nat} {e:Expr} {s:PS} (h:d5 L s lv=0):cg L g lv (n+1) e s=some (e,s):=by rw[cg,if_pos h]
theorem DV (s:PS):bA L 4 s=ly L (bA L) (fP L) s:=by rw[jO 4 aa aa];rfl
theorem BT (s:PS):bA L 9 s=dA L (bA L) (fP L) s:=by rw[jO 9 aa aa];rfl
theorem Gl (s:PS):bA L 3 s=(if az L s 15=true then (match bA L 3 (adv s) with
 |none=>none
 | some (e,s1)=>some (nB 15 e,s1)) else bA L 4 s):=by rw[jO 3 aa aa];rfl
theorem Gm (s:PS):bA L 8 s=(if cu L s 45=true then (match bA L 8 (adv s) with
 |none=>none
 | some (e,s1)=>some (nB 16 e,s1)) else bA L 9 s):=by rw[jO 8 aa aa];rfl
theorem bZ {a k:Nat} (h:hd L a≠some (1,kw k)):az L (P0 a) k=false:=by rw[zI,decide_eq_false_iff_not];exact h
theorem bV {a k:Nat} (h:hd L a=some (1,kw k)):az L (P0 a) k=true:=by rw[zI,decide_eq_true_eq];exact h
theorem nC {a:Nat} {c:UInt8} (h:hd L a≠some (5,⟨#[c]⟩)):cu L (P0 a) c=false:=by rw[Dk,decide_eq_false_iff_not];exact h
theorem eY {a:Nat} {c:UInt8} (h:hd L a=some (5,⟨#[c]⟩)):cu L (P0 a) c=true:=by rw[Dk,decide_eq_true_eq];exact h
theorem zM {a:Nat} {e:Expr} (h:St 4 (hd L a)):cmpT L (bA L) (fP L) e (P0 a)=some (e,P0 a):=by
 obtain⟨_,h2,_⟩:=h
 obtain⟨k15,k16,k17,k18⟩:=h2 aa
 unfold cmpT
 simp only[bZ k16,bZ k15,Bool.false_eq_true,if_false,tkIf,bZ k18,bZ k17,Bool.or_self]
theorem yf {a b:Nat} {e:Expr} (h:bA L 5 (P0 a)=some (e,P0 b)) (hs:St 4 (hd L b)):bA L 4 (P0 a)=some (e,P0 b):=by
 rw[DV]
 unfold ly
 rw[h]
 simp only[hs.noop (Nat.le_refl 4) aa,if_true]
 exact zM hs
end
theorem ja {e:Expr} {l:List Tok} {n:Nat} (hn9:n<=9) (hA:∀L a,fu L a l->Hv L e l n a) (hB:∀L a,fu L a l->sH n->Gj L e l n a)
 (hC:∀L a,fu L a l->(4<=n->hd L a≠some (1,kw 15))/\(n=9->hd L a≠some (5,⟨#[45]⟩))):Itm e l n:=by
 intro L a hl
 have key:∀d lv,lv+d=n->1<=lv->Hv L e l lv a/\(sH lv->Gj L e l lv a):=by
  intro d
  induction d with
  |zero=>intro lv h _;obtain rfl:lv=n:=aa;exact⟨hA L a hl,hB L a hl⟩
  |succ d ih=>
   intro lv h h1
   obtain⟨i1,i2⟩:=ih (lv+1) aa aa
   have B:sH lv->Gj L e l lv a:=fun hc hs=>by
    rw[zL hc,i1 hs]
   refine⟨fun hs=>?_,B⟩
   by_cases hc:sH lv
   ·rw[B hc (hs.mono aa),oS (hs.noop (Nat.le_refl lv) aa)]
   ·unfold sH at hc
    rcases (show lv=3∨lv=4∨lv=8 by omega) with rfl|rfl|rfl
    ·rw[Gl,bZ ((hC L a hl).1 aa),if_neg (by simp)]
     exact i1 (hs.mono aa)
    ·exact yf (i1 (hs.mono aa)) hs
    ·rw[Gm,nC ((hC L a hl).2 aa),if_neg (by simp)]
     exact i1 (hs.mono aa)
 exact fun lv h1 h2=>key (n-lv) lv aa h1
theorem cN {L:List Tok} {a:Nat} {k k':Int} {x x':ByteArray} (h:hd L a=some (k,x)) (hk:k≠k'):hd L a≠some (k',x'):=by rw[h];intro e;injection e with e;injection e with e _;exact hk e
theorem dR {L:List Tok} {a:Nat} {k k':Int} {x x':ByteArray} (h:hd L a=some (k,x)) (hk:x≠x'):hd L a≠some (k',x'):=by rw[h];intro e;injection e with e;injection e with _ e;exact hk e
theorem dn {L:List Tok} {a:Nat} {k kind:Int} {x:ByteArray} (h:hd L a=some (k,x)) (hk:k≠kind):kH L (P0 a) kind=false:=by rw[lC h,aG hk];rfl
theorem BU {e:Expr} {l:List Tok} {n:Nat} (h:Itm e l n) (h1:1<=n):Itm e (jj::(l++[jy])) 9:=by
 have tk:∀L a,fu L a (jj::(l++[jy]))->hd L a=some (5,⟨#[40]⟩)/\fu L (a+1) l/\hd L (a+1+l.length)=some (5,⟨#[41]⟩):=fun L a hl=>by
  rw[fu,bG,fu] at hl
  exact⟨hl.1,hl.2.1,hl.2.2.1⟩
 refine ja (Nat.le_refl 9) (fun L a hl hs=>?_) (fun L a _ hc=>by unfold sH at hc;omega) fun L a hl=>?_
 ·obtain⟨t1,t2,t3⟩:=tk L a hl
  rw[BT]
  unfold dA
  have hst:St 1 (hd L (a+1+l.length)):=by rw[t3];exact tg 41 (.inl rfl) 1
  have:=(h L (a+1) t2 1 (Nat.le_refl 1) h1).1 hst
  simp only[dn t1 (by decide:(5:Int)≠3),dn t1 (by decide:(5:Int)≠4),dn t1 (by decide:(5:Int)≠2),bZ (cN t1 (by decide:(5:Int)≠1)),eY t1,Bool.false_eq_true,if_false,if_true,cJ,this,must,eY t3,List.length_cons,aA,List.length_nil]
  congr 3
  omega
 ·obtain⟨t1,_,_⟩:=tk L a hl
  exact⟨fun _=>cN t1 ae,fun _=>dR t1 ae⟩
theorem BV {full:Bool} {g:Expr->List Tok} {kind op:Int} {kids:List Expr} {k:Nat} (hx:Itm (kids.getD k zeroX) (g (kids.getD k zeroX)) (lT (kids.getD k zeroX)).toNat) (h1:1<=lT (kids.getD k zeroX)) (hn:nd kind op k<=9) :
 Itm (kids.getD k zeroX) (aN full g kind op kids k) (nd kind op k).toNat:=by
 unfold aN ng
 split
 ·exact (BU hx aa).mono aa
 ·rename_i hw
  refine hx.mono ?_
  unfold DC at hw
  simp only[Bool.or_eq_true,not_or] at hw
  have:=hw.1
  unfold nw at this
  simp only[decide_eq_true_eq] at this
  have e:(Expr.mk 0 0 false ⟨0,0,⟨#[]⟩⟩ ⟨#[]⟩ ⟨#[]⟩ [] [])=zeroX:=rfl
  rw[e] at this
  omega
theorem lD {L:List Tok} {a:Nat} {t:Tok} {r:List Tok} (h:fu L a (t::r)):hd L a=some (t.kind,t.text):=h.1
theorem Dm {v:Val} (h:zV v=true):v=zVal:=by
 obtain⟨a,b,c⟩:=v
 simp only[zV,Bool.and_eq_true,decide_eq_true_eq] at h
 simp only[zVal,Val.mk.injEq]
 exact⟨h.1,h.2⟩
theorem vd {kind op:Int} {not:Bool} {val:Val} {qual name:ByteArray} {nk ns:Int} (h:ax kind op not val qual name nk ns=true) :
 ((bJ kind).1=false->op=0)/\((bJ kind).2.1=false->not=false)/\((bJ kind).2.2.1=false->val=zVal)/\((bJ kind).2.2.2.1=false->qual=z0/\name=z0):=by
 simp only[ax,Bool.and_eq_true] at h
 obtain⟨_,h1,h2,h3,h4,_⟩:=h
 refine⟨fun e=>?_,fun e=>?_,fun e=>?_,fun e=>?_⟩
 ·rw[e] at h1;simpa using h1
 ·rw[e] at h2;simpa using h2
 ·rw[e] at h3;exact Dm (by simpa using h3)
 ·rw[e] at h4;simpa [z0] using h4
theorem qM {n:Int} (h0:0<=n) (h1:n<=9223372036854775807):jI (dX n)=true/\j8 (dX n)=n:=by
 obtain⟨m,rfl⟩:=Int.eq_ofNat_of_zero_le h0
 have e:mE (dX m).data.toList=some m:=iE.2 ⟨aa,by show _=(Lib.itoa m);rw[oN]⟩
 exact⟨by rw[jI,e];rfl,by rw[j8,e];rfl⟩
theorem BW {v:Val} (h:ir v=true) (hr:v.num<=9223372036854775807):Itm (eE v) [gK v] 9:=by
 simp only[ir,Bool.and_eq_true] at h
 obtain⟨hv,hn,ht⟩:=h
 obtain⟨kind,num,text⟩:=v
 simp only[decide_eq_true_eq,Bool.or_eq_true] at hn ht hr
 unfold d4 at hv
 simp only at hv
 have done:∀k x,gK ⟨kind,num,text⟩=⟨k,x,0⟩->(k=1->x≠kw 15)->k≠5->(∀L a,hd L a=some (k,x)->dA L (bA L) (fP L) (P0 a)=some (eE ⟨kind,num,text⟩,P0 (a+1)))->Itm (eE ⟨kind,num,text⟩) [gK ⟨kind,num,text⟩] 9:=fun k x e h15 h5 hp=>by
  rw[e]
  refine ja (Nat.le_refl 9) (fun L a hl _=>?_) (fun L a _ hc=>by unfold sH at hc;omega) fun L a hl=>⟨fun _=>?_,fun _=>cN hl.1 h5⟩
  ·rw[BT];exact hp L a hl.1
  ·by_cases k1:k=1
   ·exact dR hl.1 (h15 k1)
   ·exact cN hl.1 k1
 by_cases k0:kind=0
 ·subst k0
  rw[if_pos rfl] at hv
  simp only[Bool.and_eq_true,decide_eq_true_eq] at hv
  obtain⟨rfl,rfl⟩:=hv
  refine done 1 (kw 20) rfl (fun _=>by decide) ae fun L a hh=>?_
  unfold dA
  simp only[dn hh (by decide:(1:Int)≠3),dn hh (by decide:(1:Int)≠4),bV hh,Bool.false_eq_true,if_false,if_true,cJ]
  rfl
 rw[if_neg k0] at hv
 by_cases k1:kind=1
 ·subst k1
  rw[if_pos rfl] at hv
  simp only[decide_eq_true_eq] at hv
  subst hv
  have h0:0<=num:=hn.resolve_left (fun h=>h rfl)
  obtain⟨o1,o2⟩:=qM h0 hr
  refine done 3 (dX num) rfl (fun h=>absurd h ae) ae fun L a hh=>?_
  have hk:kH L (P0 a) 3=true:=by rw[lC hh];simp only[decide_true,Bool.true_and];exact o1
  unfold dA
  simp only[hk,if_true,eX hh,o2,cJ]
  rfl
 rw[if_neg k1] at hv
 by_cases k2:kind=2
 ·subst k2
  rw[if_pos rfl] at hv
  simp only[Bool.and_eq_true,decide_eq_true_eq] at hv
  obtain⟨rfl,_⟩:=hv
  refine done 4 text rfl (fun h=>absurd h ae) ae fun L a hh=>?_
  have hk:kH L (P0 a) 4=true:=by rw[lC hh];simp only[decide_true,Bool.true_and];exact aF ht
  unfold dA
  simp only[dn hh (by decide:(4:Int)≠3),hk,if_true,if_false,Bool.false_eq_true,eX hh,cJ]
 rw[if_neg k2] at hv
 by_cases k3:kind=3
 ·subst k3
  rw[if_pos rfl] at hv
  simp only[Bool.and_eq_true,decide_eq_true_eq] at hv
  obtain⟨h01,rfl⟩:=hv
  rcases (show num=1∨num=0 by omega) with rfl|rfl
  ·refine done 1 (kw 21) rfl (fun _=>by decide) ae fun L a hh=>?_
   unfold dA
   simp only[dn hh (by decide:(1:Int)≠3),dn hh (by decide:(1:Int)≠4),bZ (dR hh (by decide:kw 21≠kw 20)),bV hh,Bool.false_eq_true,if_false,if_true,cJ]
   rfl
  ·refine done 1 (kw 22) rfl (fun _=>by decide) ae fun L a hh=>?_
   unfold dA
   simp only[dn hh (by decide:(1:Int)≠3),dn hh (by decide:(1:Int)≠4),bZ (dR hh (by decide:kw 22≠kw 20)),bZ (dR hh (by decide:kw 22≠kw 21)),bV hh,Bool.false_eq_true,if_false,if_true,cJ]
   rfl
 ·rw[if_neg k3] at hv;cases hv
theorem rz {x:ByteArray} (h:bD x=true):eN ⟨2,x,0⟩=true:=by
 unfold bD at h
 exact h
theorem oT {L:List Tok} {a:Nat} {x:ByteArray} (h:hd L a=some (2,x)) (hx:bD x=true):mText L 2 (P0 a)=(x,P0 (a+1)):=by
 have hk:kH L (P0 a) 2=true:=by rw[lC h,rz hx];rfl
 unfold mText
 rw[if_pos hk,eX h]
 rfl
theorem BX {q n:ByteArray} (hn:bD n=true) (hq:cE q=true):Itm (qp q n) (cC q++[nT n]) 9:=by
 have hb:∀L a,fu L a (cC q++[nT n])->∃x,bD x=true/\hd L a=some (2,x)/\((q=z0/\x=n/\(cC q++[nT n]).length=1)∨(x=q/\hd L (a+1)=some (5,⟨#[46]⟩)/\hd L (a+1+1)=some (2,n)/\(cC q++[nT n]).length=3)):=fun L a hl=>by
  unfold cC at hl ⊢
  split at hl
  ·rename_i e
   rw[if_pos e]
   exact⟨n,hn,hl.1,.inl ⟨e,rfl,rfl⟩⟩
  ·rename_i e
   rw[if_neg e]
   unfold cE at hq
   simp only[Bool.or_eq_true,decide_eq_true_eq,e,false_or] at hq
   exact⟨q,hq,hl.1,.inr ⟨rfl,hl.2.1,hl.2.2.1,rfl⟩⟩
 refine ja (Nat.le_refl 9) (fun L a hl hs=>?_) (fun L a _ hc=>by unfold sH at hc;omega) fun L a hl=>?_
 ·obtain⟨x,hx,hh,hc⟩:=hb L a hl
  have hk:kH L (P0 a) 2=true:=by rw[lC hh,rz hx];rfl
  rw[BT]
  unfold dA
  have n1:(2:Int)≠1:=by decide
  rcases hc with⟨rfl,rfl,hlen⟩|⟨rfl,h1,h2,hlen⟩
  ·rw[hlen] at hs ⊢
   simp only[dn hh (by decide:(2:Int)≠3),dn hh (by decide:(2:Int)≠4),bZ (cN hh n1),hk,Bool.false_eq_true,if_false,if_true,cJ,nC hs.1,eX hh]
  ·rw[hlen]
   simp only[dn hh (by decide:(2:Int)≠3),dn hh (by decide:(2:Int)≠4),bZ (cN hh n1),hk,Bool.false_eq_true,if_false,if_true,cJ,eY h1,eX hh,oT h2 hn]
 ·obtain⟨x,hx,hh,_⟩:=hb L a hl
  exact⟨fun _=>cN hh ae,fun _=>cN hh ae⟩
def Fs (l:List Tok) (n:Int):Prop:=∀L a,fu L a l->hd L a≠some (1,kw 1)/\hd L a≠some (5,⟨#[42]⟩)/\(hd L (a+l.length)≠some (5,⟨#[46]⟩)->ez L (P0 a)=false)/\(4<=n->hd L a≠some (1,kw 15))/\hd L a≠some (1,kw 2)
theorem Fs.mono {l:List Tok} {n m:Int} (h:Fs l n) (k:4<=m->4<=n):Fs l m:=fun L a hl=>⟨(h L a hl).1,(h L a hl).2.1,(h L a hl).2.2.1,fun e=>(h L a hl).2.2.2.1 (k e),(h L a hl).2.2.2.2⟩
theorem zN {L:List Tok} {a:Nat} {k:Int} {x:ByteArray} (h:hd L a=some (k,x)) (hk:k≠2):ez L (P0 a)=false:=by
 unfold ez;rw[dn h hk];rfl
theorem fZ {t:Tok} {r:List Tok} {n:Int} (h2:t.kind≠2) (h1:t.kind=1->t.text≠kw 1/\(4<=n->t.text≠kw 15)/\t.text≠kw 2) (h5:t.kind=5->t.text≠⟨#[42]⟩):Fs (t::r) n:=fun L a hl=>by
 have hh:=lD hl
 refine⟨?_,?_,fun _=>zN hh h2,fun h4=>?_,?_⟩
 ·by_cases e:t.kind=1
  ·exact dR hh (h1 e).1
  ·exact cN hh e
 ·by_cases e:t.kind=5
  ·exact dR hh (h5 e)
  ·exact cN hh e
 ·by_cases e:t.kind=1
  ·exact dR hh ((h1 e).2.1 h4)
  ·exact cN hh e
 ·by_cases e:t.kind=1
  ·exact dR hh (h1 e).2.2
  ·exact cN hh e
theorem jP {l r:List Tok} {t:Tok} {n:Int} (h:Fs l n) (ht:t.kind=5->t.text≠⟨#[46]⟩):Fs (l++t::r) n:=fun L a hl=>by
 obtain⟨h1,h2⟩:=bG.1 hl
 obtain⟨k1,k2,k3,k4⟩:=h L a h1
 refine⟨k1,k2,fun _=>k3 ?_,k4⟩
 by_cases e:t.kind=5
 ·exact dR h2.1 (ht e)
 ·exact cN h2.1 e
theorem DW (l:List Tok) (n:Int):Fs (jj::l) n:=fZ ae (fun e=>absurd e ae) (fun _=>by decide)
theorem DX {full:Bool} {g:Expr->List Tok} {kind op:Int} {kids:List Expr} {k:Nat} (h:Fs (g (kids.getD k zeroX)) (lT (kids.getD k zeroX))):Fs (aN full g kind op kids k) (nd kind op k):=by
 unfold aN ng
 split
 ·exact DW _ _
 ·rename_i hw
  refine h.mono fun h4=>?_
  unfold DC at hw
  simp only[Bool.or_eq_true,not_or] at hw
  have:=hw.1
  unfold nw at this
  simp only[decide_eq_true_eq] at this
  have e:(Expr.mk 0 0 false ⟨0,0,⟨#[]⟩⟩ ⟨#[]⟩ ⟨#[]⟩ [] [])=zeroX:=rfl
  rw[e] at this
  omega
theorem DY {v:Val} (n:Int):Fs [gK v] n:=by
 unfold gK
 split
 ·exact fZ (by decide:(3:Int)≠2) (fun e=>absurd e (by decide:(3:Int)≠1)) (fun e=>absurd e (by decide:(3:Int)≠5))
 split
 ·exact fZ (by decide:(4:Int)≠2) (fun e=>absurd e (by decide:(4:Int)≠1)) (fun e=>absurd e (by decide:(4:Int)≠5))
 split
 ·split
  ·exact fZ ae (fun _=>⟨ae,fun _=>by decide,ae⟩) (fun e=>absurd e (by decide:(1:Int)≠5))
  ·exact fZ ae (fun _=>⟨ae,fun _=>by decide,ae⟩) (fun e=>absurd e (by decide:(1:Int)≠5))
 ·exact fZ ae (fun _=>⟨ae,fun _=>by decide,ae⟩) (fun e=>absurd e (by decide:(1:Int)≠5))
theorem DZ {q n:ByteArray} (m:Int):Fs (cC q++[nT n]) m:=fun L a hl=>by
 unfold cC at hl ⊢
 split at hl
 ·rename_i e
  rw[if_pos e]
  have hh:=lD hl
  refine⟨cN hh (by decide:(2:Int)≠1),cN hh (by decide:(2:Int)≠5),fun hd'=>?_,fun _=>cN hh (by decide:(2:Int)≠1),cN hh (by decide:(2:Int)≠1)⟩
  unfold ez
  have:jL L (P0 a) 1 5 ⟨#[46]⟩=false:=by rw[lB,decide_eq_false_iff_not];exact hd'
  rw[this];simp
 ·rename_i e
  rw[if_neg e]
  have hh:=lD hl
  refine⟨cN hh (by decide:(2:Int)≠1),cN hh (by decide:(2:Int)≠5),fun _=>?_,fun _=>cN hh (by decide:(2:Int)≠1),cN hh (by decide:(2:Int)≠1)⟩
  unfold ez
  have h3:hd L (a+2)=some (2,n):=hl.2.2.1
  have:jL L (P0 a) 2 5 ⟨#[42]⟩=false:=by rw[lB,decide_eq_false_iff_not];exact cN h3 ae
  rw[this];simp
theorem zO {L:List Tok} {a:Nat} {x:ByteArray} (h:hd L a=some (1,x)):d5 L (P0 a) 4=0:=mJ fun op hop=>by
 rw[zJ,decide_eq_false_iff_not]
 refine cN h ?_
 have:op=3∨op=4∨op=5∨op=6∨op=7∨op=8:=by simpa [eU] using hop
 unfold eA
 rw[if_neg aa];decide
theorem BZ {L:List Tok} {a:Nat} {op:Int} {r:List Tok} (h0:1<=op) (h1:op<=14) (h:fu L a (dJ op::r)):hd L a=some (eA op.toNat,iC op.toNat):=by
 have hh:=lD h
 have e:((op.toNat:Nat):Int)=op:=by omega
 rw[hh,dJ,eA,e]
 congr 2
 by_cases c:op=1∨op=2
 ·rw[if_pos aa,if_pos aa]
 ·rw[if_neg aa,if_neg aa]
section
variable {full:Bool} {g:Expr->List Tok}
def KidsOk (g:Expr->List Tok) (kids:List Expr):Prop:=∀k,k<kids.length->Itm (kids.getD k zeroX) (g (kids.getD k zeroX)) (lT (kids.getD k zeroX)).toNat/\1<=lT (kids.getD k zeroX)/\Fs (g (kids.getD k zeroX)) (lT (kids.getD k zeroX))
theorem KidsOk.itm {kids:List Expr} (h:KidsOk g kids) {k:Nat} (hk:k<kids.length) (full:Bool) (kind op:Int) {n:Nat} (hn:(nd kind op k).toNat=n) (h9:n<=9):Itm (kids.getD k zeroX) (aN full g kind op kids k) n:=by
 obtain⟨h1,h2,_⟩:=h k hk
 rw[<-hn];exact BV h1 h2 aa
theorem KidsOk.fs {kids:List Expr} (h:KidsOk g kids) {k:Nat} (hk:k<kids.length) (full:Bool) (kind op:Int):Fs (aN full g kind op kids k) (nd kind op k):=DX (h k hk).2.2
theorem E4 {k:Expr} {op:Int} (ho:op=15∨op=16) (h:KidsOk g [k]):Itm (nB op k) (dJ op::aN full g 3 op [k] 0) (lv 3 op).toNat:=by
 rcases ho with rfl|rfl
 ·have hk:=h.itm (k:=0) (by simp) full 3 15 (n:=3) ae aa
  refine ja (n:=3) aa (fun L a hl hs=>?_) (fun L a _ hc=>by unfold sH at hc;omega) fun L a _=>⟨fun h=>by omega,fun h=>by omega⟩
  have hh:hd L a=some (1,kw 15):=hl.1
  rw[Gl,bV hh,if_pos rfl,cJ]
  have e:a+(dJ 15::aN full g 3 15 [k] 0).length=a+1+(aN full g 3 15 [k] 0).length:=by rw[List.length_cons];omega
  rw[e] at hs ⊢
  rw[(hk L (a+1) hl.2 3 aa aa).1 hs]
  rfl
 ·have hk:=h.itm (k:=0) (by simp) full 3 16 (n:=8) ae aa
  refine ja (n:=8) aa (fun L a hl hs=>?_) (fun L a _ hc=>by unfold sH at hc;omega) fun L a hl=>⟨fun _=>cN (lD hl) ae,fun h=>by omega⟩
  have hh:hd L a=some (5,⟨#[45]⟩):=hl.1
  rw[Gm,eY hh,if_pos rfl,cJ]
  have e:a+(dJ 16::aN full g 3 16 [k] 0).length=a+1+(aN full g 3 16 [k] 0).length:=by rw[List.length_cons];omega
  rw[e] at hs ⊢
  rw[(hk L (a+1) hl.2 8 aa aa).1 hs]
  rfl
theorem m5 {op:Int} (h0:1<=op) (h1:op<=14):(bl op=1∨bl op=2∨bl op=4∨bl op=5∨bl op=6∨bl op=7):=by unfold bl;(repeat' split)<;>omega
theorem C0 {x y:Expr} {op:Int} (h0:1<=op) (h1:op<=14) (h:KidsOk g [x,y]):Itm (il op.toNat x y) (aN full g 4 op [x,y] 0++dJ op::aN full g 4 op [x,y] 1) (lv 4 op).toNat:=by
 have hbl:=m5 h0 h1
 have e4:lv 4 op=bl op:=by unfold lv;rw[if_pos rfl]
 have eop:((op.toNat:Nat):Int)=op:=by omega
 have hf:=h.fs (k:=0) (by simp) full 4 op
 have tk:∀L a,fu L a (aN full g 4 op [x,y] 0++dJ op::aN full g 4 op [x,y] 1)->fu L a (aN full g 4 op [x,y] 0)/\hd L (a+(aN full g 4 op [x,y] 0).length)=some (eA op.toNat,iC op.toNat)/\fu L (a+(aN full g 4 op [x,y] 0).length+1) (aN full g 4 op [x,y] 1):=fun L a hl=>by
  obtain⟨a1,a2⟩:=bG.1 hl
  exact⟨a1,BZ h0 h1 a2,a2.2⟩
 have len:∀a,a+(aN full g 4 op [x,y] 0++dJ op::aN full g 4 op [x,y] 1).length=a+(aN full g 4 op [x,y] 0).length+1+(aN full g 4 op [x,y] 1).length:=fun a=>by rw[aA,List.length_cons];omega
 have n0:nd 4 op 0=if bl op=4 then 5 else bl op:=by
  unfold nd;rw[e4,if_neg aa,if_pos rfl];simp
 have n1:nd 4 op 1=if bl op=4 then 5 else bl op+1:=by
  unfold nd;rw[e4,if_neg aa,if_pos rfl];simp
 rw[e4]
 by_cases b4:bl op=4
 ·rw[if_pos b4] at n0 n1
  have k0:=h.itm (k:=0) (by simp) full 4 op (n:=5) aa aa
  have k1:=h.itm (k:=1) (by simp) full 4 op (n:=5) aa aa
  rw[b4]
  refine ja (n:=4) aa (fun L a hl hs=>?_) (fun L a _ hc=>by unfold sH at hc;omega) fun L a hl=>⟨fun _=>(hf L a (tk L a hl).1).2.2.2.1 aa,fun h=>by omega⟩
  obtain⟨t1,t2,t3⟩:=tk L a hl
  rw[len] at hs ⊢
  have s0:St 5 (hd L (a+(aN full g 4 op [x,y] 0).length)):=by rw[t2];exact Dl op.toNat aa aa 5 (by rw[eop];omega) (fun _=>by omega) (fun _=>by omega)
  rw[DV]
  unfold ly
  rw[(k0 L a t1 5 aa aa).1 s0]
  have ho:=td (L:=L) (op:=op.toNat) aa aa t2
  rw[eop,b4] at ho
  have ho:d5 L (P0 (a+(aN full g 4 op [x,y] 0).length)) 4=op.toNat:=ho
  simp only[ho]
  rw[if_neg aa,cJ,(k1 L _ t3 5 aa aa).1 (hs.mono aa)]
  rfl
 ·rw[if_neg b4] at n0 n1
  obtain⟨l,hl⟩:∃l:Nat,bl op=l:=⟨(bl op).toNat,aa⟩
  have hc:sH l:=by unfold sH;omega
  have k0:=h.itm (k:=0) (by simp) full 4 op (n:=l) aa aa
  have k1:=h.itm (k:=1) (by simp) full 4 op (n:=l+1) aa aa
  have el:(bl op).toNat=l:=by omega
  rw[el]
  have B:∀L a,fu L a (aN full g 4 op [x,y] 0++dJ op::aN full g 4 op [x,y] 1)->Gj L (il op.toNat x y) (aN full g 4 op [x,y] 0++dJ op::aN full g 4 op [x,y] 1) l a:=fun L a hl' hs=>by
   obtain⟨t1,t2,t3⟩:=tk L a hl'
   rw[len] at hs ⊢
   have s0:St (l+1) (hd L (a+(aN full g 4 op [x,y] 0).length)):=by rw[t2];exact Dl op.toNat aa aa (l+1) (by rw[eop];omega) (fun _=>by rw[eop] at *;omega) (fun _=>by omega)
   rw[(k0 L a t1 l aa (Nat.le_refl l)).2 hc s0,cg]
   have ho:=td (L:=L) (op:=op.toNat) aa aa t2
   rw[eop,el] at ho
   rw[ho,if_neg aa,cJ,(k1 L _ t3 (l+1) aa (Nat.le_refl _)).1 hs]
   have hlt:a+(aN full g 4 op [x,y] 0).length<L.length:=by
    unfold hd at t2
    by_cases e:a+(aN full g 4 op [x,y] 0).length<L.length
    ·exact e
    ·rw[List.getElem?_eq_none_iff.2 aa] at t2;cases t2
   exact ye aa aa (by show L.length-(a+(aN full g 4 op [x,y] 0).length+1+(aN full g 4 op [x,y] 1).length)<L.length;omega) aa
  refine ja (n:=l) aa (fun L a hl' hs=>?_) (fun L a hl' _=>B L a hl') fun L a hl'=>⟨fun _=>(hf L a (tk L a hl').1).2.2.2.1 aa,fun h=>by omega⟩
  rw[B L a hl' (hs.mono aa),oS (hs.noop (Nat.le_refl l) aa)]
theorem E5 {x y:Expr} {op:Int} (h0:1<=op) (h1:op<=14) (h:KidsOk g [x,y]):Fs (aN full g 4 op [x,y] 0++dJ op::aN full g 4 op [x,y] 1) (lv 4 op):=by
 have hbl:=m5 h0 h1
 have e4:lv 4 op=bl op:=by unfold lv;rw[if_pos rfl]
 refine jP ((h.fs (k:=0) (by simp) full 4 op).mono fun h4=>?_) fun _=>?_
 ·unfold nd;rw[e4] at h4 ⊢;rw[if_neg aa,if_pos rfl];split<;>simp<;>omega
 ·show iC op≠_
  have:∀i:Fin 15,iC i.1≠⟨#[46]⟩:=by decide
  have:=this ⟨op.toNat,aa⟩
  rwa[show ((op.toNat:Nat):Int)=op by omega] at this
theorem jQ {k0 e:Expr} {l m:List Tok} {t:Tok} {r:List Tok} (hm:m=t::r) (hk:Itm k0 l 5) (hf:Fs l 5) (ht:t.kind=1) (h5:∀h,h=some (t.kind,t.text)->St 5 h)
 (hp:∀L a,fu L a m->St 4 (hd L (a+m.length))->cmpT L (bA L) (fP L) k0 (P0 a)=some (e,P0 (a+m.length))):Itm e (l++m) 4:=by
 refine ja (n:=4) aa (fun L a hl hs=>?_) (fun L a _ hc=>by unfold sH at hc;omega) fun L a hl=>⟨fun _=>(hf L a (bG.1 hl).1).2.2.2.1 aa,fun h=>by omega⟩
 obtain⟨t1,t2⟩:=bG.1 hl
 have hh:hd L (a+l.length)=some (t.kind,t.text):=by rw[hm] at t2;exact t2.1
 rw[aA,<-Nat.add_assoc] at hs ⊢
 rw[DV]
 unfold ly
 rw[(hk L a t1 5 aa aa).1 (h5 _ hh)]
 have hn:d5 L (P0 (a+l.length)) 4=0:=by rw[ht] at hh;exact zO hh
 simp only[hn,if_true]
 exact hp L _ t2 hs
end
def kt (t:Tok):Int×ByteArray:=(t.kind,t.text)
def E6 (L:List Tok) (a b:Nat):List Tok:=(L.drop a).take (b-a)
def Su (L l:List Tok) (a b:Nat):Prop:=a<=b/\(l.map kt).Sublist ((E6 L a b).map kt)
section
variable {L:List Tok}
theorem C1 {a b c:Nat} (h:a<=b) (k:b<=c):E6 L a c=E6 L a b++E6 L b c:=by
 unfold E6
 have e:c-a=(b-a)+(c-b):=by omega
 rw[e,List.take_add,List.drop_drop,show a+(b-a)=b by omega]
theorem Su.app {l m:List Tok} {a b c:Nat} (h:Su L l a b) (k:Su L m b c):Su L (l++m) a c:=⟨Nat.le_trans h.1 k.1,by
 rw[C1 h.1 k.1,List.map_append,List.map_append]
 exact h.2.append k.2⟩
theorem Su.nil {a b:Nat} (h:a<=b):Su L [] a b:=⟨h,List.nil_sublist _⟩
theorem Su.sub {l m:List Tok} {a b:Nat} (h:Su L l a b) (k:m.Sublist l):Su L m a b:=⟨h.1,(k.map kt).trans h.2⟩
theorem Su.one {t u:Tok} {a:Nat} (h:L[a]?=some u) (k:u.kind=t.kind) (m:u.text=t.text):Su L [t] a (a+1):=by
 obtain⟨hl,e⟩:=List.getElem?_eq_some_iff.1 h
 refine⟨Nat.le_succ _,?_⟩
 unfold E6
 rw[List.drop_eq_getElem_cons hl,show a+1-a=1 by omega,List.take_succ_cons,List.take_zero,e]
 show List.Sublist [kt t] [kt u]
 rw[show kt u=kt t by unfold kt;rw[k,m]]
 exact List.Sublist.refl _
theorem zP {s:PS} {j:Nat} {kind:Int} {x:ByteArray} (h:jL L s j kind x=true) (a:Int):Su L [⟨kind,x,a⟩] (s.a+j) (s.a+j+1):=by
 unfold jL at h
 split at h
 ·rename_i t ht
  unfold j9 at ht
  split at ht
  ·cases ht
  ·simp only[Bool.and_eq_true,decide_eq_true_eq] at h
   exact Su.one ht h.1 h.2
 ·cases h
theorem ep {s:PS} {k:Nat} (h:az L s k=true):Su L [kT k] s.a (s.a+1):=zP (j:=0) h 0
theorem oU {s:PS} {c:UInt8} (h:cu L s c=true):Su L [gT ⟨#[c]⟩] s.a (s.a+1):=zP (j:=0) h 0
theorem yg {s:PS} {kind:Int} (h:kH L s kind=true) (a:Int):Su L [⟨kind,bM L s,a⟩] s.a (s.a+1):=by
 unfold kH at h
 unfold bM
 split at h
 ·rename_i t ht
  simp only[Bool.and_eq_true,decide_eq_true_eq] at h
  unfold j9 at ht
  split at ht
  ·cases ht
  ·exact Su.one ht h.1 rfl
 ·cases h
theorem E7 {s:PS} {kind:Int} (h:kH L s kind=true):eN ⟨kind,bM L s,0⟩=true:=by
 unfold kH at h
 unfold bM
 split at h
 ·rename_i t ht
  simp only[Bool.and_eq_true,decide_eq_true_eq] at h
  obtain⟨rfl,h2⟩:=h
  exact h2
 ·cases h
theorem Dn {s:PS} {op:Nat} (h:jM L s op=true) (h1:op<=14):Su L [dJ op] s.a (s.a+1):=by
 have:=zP (j:=0) h 0
 unfold dJ
 by_cases c:op=1∨op=2
 ·rw[if_pos c] at this
  rw[if_pos aa];exact this
 ·rw[if_neg c] at this
  rw[if_neg aa];exact this
theorem mK {s:PS}:∀ {l:List Nat},gR L s l≠0->jM L s (gR L s l)=true/\gR L s l∈l
 | [],h=>absurd rfl h
 |op::r,h=>by
  unfold gR at h ⊢
  split
  ·rename_i hh;exact⟨hh,by simp⟩
  ·rename_i hh
   rw[if_neg hh] at h
   have:=mK h
   exact⟨this.1,by simp [this.2]⟩
theorem Ok.nb {s t:PS} (h:Ok L s t) (hb:t.b=false):s.b=false:=by
 cases e:s.b with
 |false=>rfl
 |true=>rw[h.2.2 e,e] at hb;cases hb
theorem wP {c:Bool} {s:PS} (h:(must c s).b=false):c=true/\must c s=adv s:=by
 cases c with
 |true=>exact⟨rfl,rfl⟩
 |false=>cases h
theorem th {kind:Int} {s:PS} (h:(mText L kind s).2.b=false):kH L s kind=true/\mText L kind s=(bM L s,adv s):=by
 unfold mText at h ⊢
 split
 ·rename_i hc;exact⟨hc,rfl⟩
 ·rename_i hc;rw[if_neg hc] at h;cases h
theorem zQ {kind:Int} {s:PS} (h:(mText L kind s).2.b=false) (a:Int):Su L [⟨kind,(mText L kind s).1,a⟩] s.a (mText L kind s).2.a:=by
 obtain⟨h1,h2⟩:=th h
 rw[h2];exact yg h1 a
theorem kJ {k:Nat} {s:PS} (h:(must (az L s k) s).b=false):Su L [kT k] s.a (must (az L s k) s).a:=by
 obtain⟨h1,h2⟩:=wP h
 rw[h2];exact ep h1
theorem gC {c:UInt8} {s:PS} (h:(must (cu L s c) s).b=false):Su L [gT ⟨#[c]⟩] s.a (must (cu L s c) s).a:=by
 obtain⟨h1,h2⟩:=wP h
 rw[h2];exact oU h1
theorem oh {k:Nat} {s:PS}:Su L (if az L s k=true then [kT k] else []) s.a (tkIf (az L s k) s).a:=by
 unfold tkIf
 by_cases h:az L s k=true
 ·rw[if_pos h,if_pos h];exact ep h
 ·rw[if_neg h,if_neg h];exact Su.nil (Nat.le_refl _)
theorem m6 {full:Bool} {g g':Expr->List Tok} {kind op:Int} {kids:List Expr} {k:Nat} (hk:k<kids.length) (h:∀x,x∈kids->g x=g' x):aN full g kind op kids k=aN full g' kind op kids k:=by
 unfold aN
 rw[h _ (by rw[List.getD_eq_getElem?_getD,aC hk];exact aH hk)]
theorem gV {f f':Nat->List Tok} {n:Nat} (h:∀i,i<n->f i=f' i):bB f n=bB f' n:=by
 unfold bB
 rw[List.flatMap_def,List.flatMap_def,List.map_congr_left fun i hi=>h i (List.mem_range.1 hi)]
theorem ve {α:Type} {l:List α} {h h':α->List Tok} {i:Nat} (e:∀x,x∈l->h x=h' x):nX l h i=nX l h' i:=by
 unfold nX
 cases hx:l[i]? with
 |none=>rfl
 |some x=>exact e x (List.mem_of_getElem? hx)
theorem E8 {g g':Expr->List Tok} {q:Query} (h:∀x,x∈exprsQ q->g x=g' x):gb g q=gb g' q:=by
 obtain⟨d,it,fr,wh,od,li⟩:=q
 have e:exprsQ (.mk d it fr wh od li)=aU it++fr.flatMap Source.on++wh++od.map SortKey.e:=rfl
 rw[e] at h
 have h1:∀i,dC g it i=dC g' it i:=fun i=>by
  unfold dC
  rw[ve fun x hx=>?_]
  obtain⟨st,ql,e,a⟩:=x
  cases st with
  |true=>rfl
  |false=>
   have:e∈aU it:=List.mem_map.2 ⟨_,List.mem_filter.2 ⟨hx,rfl⟩,rfl⟩
   simp only[df,h e (by simp [this])]
 have h2:∀i,fI g fr i=fI g' fr i:=fun i=>by
  unfold fI
  rw[ve fun x hx=>?_]
  obtain⟨tb,a,on⟩:=x
  cases on with
  |nil=>rfl
  |cons y r=>
   have:y∈fr.flatMap Source.on:=List.mem_flatMap.2 ⟨_,hx,by simp [Source.on]⟩
   simp only[fU,uK,h y (by simp [this])]
 have h3:pQ g wh=pQ g' wh:=by
  cases wh with
  |nil=>rfl
  |cons y r=>simp only[pQ,h y (by simp)]
 have h4:∀i,fJ g od i=fJ g' od i:=fun i=>by
  unfold fJ
  rw[ve fun x hx=>?_]
  obtain⟨e,d⟩:=x
  have:e∈od.map SortKey.e:=List.mem_map.2 ⟨_,hx,rfl⟩
  simp only[iv,h e (by simp [this])]
 simp only[gb]
 rw[gV fun i _=>h1 i,gV fun i _=>h2 i,h3,gV fun i _=>h4 i]
def IQ (kind:Int) (n:Nat):Prop:=¬kind=1 -> ¬kind=2 -> ¬kind=9->1<=n/\(kind=4->2<=n)/\(kind=6->3<=n)
theorem jb {full:Bool} {kind op:Int} {not:Bool} {val:Val} {qual name:ByteArray} {kids:List Expr} {sub:List Query} (hs:IQ kind kids.length):dL full (.mk kind op not val qual name kids sub)=jz full (dL full) (.mk kind op not val qual name kids sub):=by
 unfold dL
 rw[d7]
 suffices H:∀g:Expr->List Tok,(∀x,x∈kids->g x=d7 (jz full) x)->(∀q,q∈sub->∀x,x∈exprsQ q->g x=d7 (jz full) x)->jz full g (.mk kind op not val qual name kids sub)=jz full (d7 (jz full)) (.mk kind op not val qual name kids sub) from
  H _ (fun x hx=>dif_pos (jK (e:=.mk kind op not val qual name kids sub) (.inl hx))) (fun q hq x hx=>dif_pos (jK (e:=.mk kind op not val qual name kids sub) (.inr ⟨q,hq,hx⟩)))
 intro g hk hq
 have hsub:nM g sub=nM (d7 (jz full)) sub:=by
  cases sub with
  |nil=>rfl
  |cons q r=>exact E8 (hq q (by simp))
 simp only[jz]
 by_cases k1:kind=1
 ·simp only[if_pos k1]
 by_cases k2:kind=2
 ·simp only[if_neg k1,if_pos k2]
 by_cases k9:kind=9
 ·have k3:¬kind=3:=by omega
  simp only[if_neg k1,if_neg k2,if_neg k3,if_pos k9,hsub]
 obtain⟨n1,n4,n6⟩:=hs k1 k2 k9
 have c0:=m6 (full:=full) (kind:=kind) (op:=op) (k:=0) aa hk
 have cin:bB (sI full g kind op kids) (kids.length-1)=bB (sI full (d7 (jz full)) kind op kids) (kids.length-1):=gV fun i hi=>by
  unfold sI
  rw[m6 aa hk]
 simp only[if_neg k1,if_neg k2,if_neg k9,c0,hsub,cin]
 by_cases k4:kind=4
 ·rw[m6 (full:=full) (kind:=kind) (op:=op) (k:=1) (by have:=n4 k4;omega) hk]
  simp only[if_pos k4]
 by_cases k6:kind=6
 ·rw[m6 (full:=full) (kind:=kind) (op:=op) (k:=1) (by have:=n6 k6;omega) hk,m6 (full:=full) (kind:=kind) (op:=op) (k:=2) (by have:=n6 k6;omega) hk]
 ·simp only[if_neg k4,if_neg k6]
noncomputable def wr (n:Int) (e:Expr):List Tok:=ng (decide (lT e<n)) (dL false e)
theorem lE {kind op:Int} {kids:List Expr} {k:Nat}:aN false (dL false) kind op kids k=wr (nd kind op k) (kids.getD k zeroX):=by
 unfold aN wr DC nw
 rw[Bool.false_and,Bool.or_false];rfl
theorem rA {n m:Int} (h:n<=m) (e:Expr):(wr n e).Sublist (wr m e):=by
 unfold wr ng
 by_cases h1:lT e<n
 ·rw[if_pos (aF h1),if_pos (aF aa)]
  exact List.Sublist.refl _
 ·rw[if_neg (by simpa using h1)]
  split
  ·exact (List.sublist_append_left _ _).cons _
  ·exact List.Sublist.refl _
theorem E9 (n:Int) (e:Expr):(wr n e).Sublist (jj::(dL false e++[jy])):=by
 unfold wr ng
 split
 ·exact List.Sublist.refl _
 ·exact (List.sublist_append_left _ _).cons _
theorem ju {n:Int} {e:Expr} (h:n<=lT e):wr n e=dL false e:=by
 unfold wr ng
 rw[if_neg (by simpa using h)]
theorem oV {n:Int} {e:Expr}:(dL false e).Sublist (wr n e):=by
 unfold wr ng
 split
 ·exact (List.sublist_append_left _ _).cons _
 ·exact List.Sublist.refl _
end
theorem ol {L:List Tok}:∀ {l:List Tok} {a:Nat},fu L a l->l=[]∨a+l.length<=L.length
 | [],_,_=>.inl rfl
 |t::r,a,h=>by
  have hlt:a<L.length:=by
   have:=h.1
   unfold hd at this
   by_cases e:a<L.length
   ·exact e
   ·rw[List.getElem?_eq_none_iff.2 aa] at this;cases this
  rw[List.length_cons]
  rcases ol h.2 with h1|h1
  ·subst h1;simp;omega
  ·exact .inr aa
def El {α:Type} (f:List Tok->PM α) (Sx:Option (Int×ByteArray)->Prop) (x:α) (l:List Tok):Prop:=∀L a,fu L a l->(hd L (a+l.length)=some (5,⟨#[44]⟩)∨Sx (hd L (a+l.length)))->f L (P0 a)=some (x,P0 (a+l.length))
theorem oW {α:Type} {f:List Tok->PM α} {Sx:Option (Int×ByteArray)->Prop} (hS:∀h,Sx h->h≠some (5,⟨#[44]⟩)):∀(rest:List (α×List Tok)) (n:Nat) (acc:List α) (L:List Tok) (a:Nat),
 (∀p∈rest,El f Sx p.1 p.2)->rest.length<n->fu L a (rest.flatMap fun p=>dv::p.2)->Sx (hd L (a+(rest.flatMap fun p=>dv::p.2).length)) ->
 gy L (f L) n acc (P0 a)=some (acc++rest.map (·.1),P0 (a+(rest.flatMap fun p=>dv::p.2).length))
 | [],n+1,acc,L,a,_,_,_,hs=>by
  rw[List.flatMap_nil,List.length_nil,Nat.add_zero] at hs ⊢
  rw[gy,nC (hS _ hs),if_neg (by simp)]
  simp
 |p::r,n+1,acc,L,a,hr,hn,hl,hs=>by
  rw[List.flatMap_cons,List.cons_append,fu] at hl
  obtain⟨h1,h2⟩:=hl
  obtain⟨h3,h4⟩:=bG.1 h2
  rw[gy,eY h1,if_pos rfl,cJ]
  have len:a+((p::r).flatMap fun p=>dv::p.2).length=a+1+p.2.length+(r.flatMap fun p=>dv::p.2).length:=by rw[List.flatMap_cons,aA,List.length_cons];omega
  rw[len] at hs ⊢
  have hst:hd L (a+1+p.2.length)=some (5,⟨#[44]⟩)∨Sx (hd L (a+1+p.2.length)):=by
   cases r with
   |nil=>exact .inr hs
   |cons q r'=>
    rw[List.flatMap_cons,List.cons_append,fu] at h4
    exact .inl h4.1
  rw[hr p (by simp) L (a+1) h3 hst]
  simp only
  rw[oW hS r n (acc++[p.1]) L _ (fun q hq=>hr q (by simp [hq])) (by simpa using hn) h4 hs]
  simp
theorem Ea {b:Nat->List Tok} (m:Nat):bB (fun i=>jB i++b i) (m+1)=b 0++(List.range m).flatMap fun j=>dv::b (j+1):=by
 unfold bB
 rw[List.range_succ_eq_map,List.flatMap_cons,List.flatMap_map]
 rfl
section
variable {full:Bool} {g:Expr->List Tok}
theorem oX:St 1 (some (5,⟨#[44]⟩)):=tg 44 (.inr rfl) 1
theorem Eb {e:Expr} {l:List Tok} {n:Nat} {Sx:Option (Int×ByteArray)->Prop} (h:Itm e l n) (h1:1<=n) (hS:∀h,Sx h->St 1 h):El (fun L=>bA L 1) Sx e l:=fun L a hl hs=>(h L a hl 1 (Nat.le_refl 1) h1).1 (by
 rcases hs with hs|hs
 ·rw[hs];exact oX
 ·exact hS _ hs)
theorem vf {α:Type} (l:List α) (d:α) (m:Nat) (h:l.length=m+1):(List.range m).map (fun j=>l.getD (j+1) d)=l.tail:=by
 cases l with
 |nil=>simp at h
 |cons x r=>
  simp only[List.length_cons,Nat.add_right_cancel_iff] at h
  subst h
  refine List.ext_getElem (by simp) fun i h1 h2=>?_
  simp at h1 h2 ⊢
  rw[aC h1];rfl
theorem oY {L:List Tok} {a:Nat} (n:Bool) {m:List Tok} {t:Tok} (h:fu L a (cm n++t::m)) (ht:t.text≠kw 15):az L (P0 a) 15=n/\tkIf (az L (P0 a) 15) (P0 a)=P0 (a+(cm n).length)/\hd L (a+(cm n).length)=some (t.kind,t.text)/\fu L (a+(cm n).length+1) m:=by
 obtain⟨h1,h2⟩:=bG.1 h
 cases n with
 |true=>
  have hh:hd L a=some (1,kw 15):=h1.1
  refine⟨bV hh,?_,h2.1,h2.2⟩
  rw[bV hh];rfl
 |false=>
  have hk:az L (P0 a) 15=false:=bZ (dR (k:=t.kind) (x:=t.text) h2.1 ht)
  refine⟨hk,?_,h2.1,h2.2⟩
  rw[hk];rfl
theorem Ec {k:Expr} {not:Bool} (h:KidsOk g [k]):Itm (cH 5 not [k] []) (aN full g 5 0 [k] 0++kT 16::(cm not++[kT 20])) 4:=by
 have hk:=h.itm (k:=0) (by simp) full 5 0 (n:=5) ae aa
 have hf:=h.fs (k:=0) (by simp) full 5 0
 refine jQ rfl hk (hf.mono fun _=>by decide) rfl (fun h e=>by rw[e];exact kI 16 aa) fun L a hl _=>?_
 obtain⟨h1,h2⟩:=hl
 have h1:hd L a=some (1,kw 16):=h1
 obtain⟨n1,n2,n3,_⟩:=oY not h2 ae
 have n3:hd L (a+1+(cm not).length)=some (1,kw 20):=n3
 unfold cmpT
 simp only[bV h1,if_true,cJ]
 rw[n2,n1]
 unfold must
 rw[if_pos (bV n3)]
 simp only[List.length_cons,aA,List.length_nil,cJ]
 congr 3;omega
theorem C2 {x y z:Expr} {not:Bool} (h:KidsOk g [x,y,z]):Itm (cH 6 not [x,y,z] []) (aN full g 6 0 [x,y,z] 0++(cm not++(kT 18::(aN full g 6 0 [x,y,z] 1++(kT 13::aN full g 6 0 [x,y,z] 2))))) 4:=by
 have k0:=h.itm (k:=0) (by simp) full 6 0 (n:=5) ae aa
 have k1:=h.itm (k:=1) (by simp) full 6 0 (n:=5) ae aa
 have k2:=h.itm (k:=2) (by simp) full 6 0 (n:=5) ae aa
 have hf:=h.fs (k:=0) (by simp) full 6 0
 have body:∀L a,fu L a (cm not++(kT 18::(aN full g 6 0 [x,y,z] 1++(kT 13::aN full g 6 0 [x,y,z] 2))))->St 4 (hd L (a+(cm not++(kT 18::(aN full g 6 0 [x,y,z] 1++(kT 13::aN full g 6 0 [x,y,z] 2)))).length)) ->
  cmpT L (bA L) (fP L) x (P0 a)=some (cH 6 not [x,y,z] [],P0 (a+(cm not++(kT 18::(aN full g 6 0 [x,y,z] 1++(kT 13::aN full g 6 0 [x,y,z] 2)))).length)):=fun L a hl hs=>by
  obtain⟨n1,n2,n3,n4⟩:=oY not hl ae
  obtain⟨t1,t2⟩:=bG.1 n4
  have no16:az L (P0 a) 16=false:=by
   cases not with
   |true=>exact bZ (dR (k:=1) (x:=kw 15) hl.1 ae)
   |false=>exact bZ (dR (k:=1) (x:=kw 18) hl.1 ae)
  have len:a+(cm not++(kT 18::(aN full g 6 0 [x,y,z] 1++(kT 13::aN full g 6 0 [x,y,z] 2)))).length=a+(cm not).length+1+(aN full g 6 0 [x,y,z] 1).length+1+(aN full g 6 0 [x,y,z] 2).length:=by
   simp only[List.length_cons,aA];omega
  rw[len] at hs ⊢
  have h13:hd L (a+(cm not).length+1+(aN full g 6 0 [x,y,z] 1).length)=some (1,kw 13):=t2.1
  unfold cmpT
  simp only[no16,Bool.false_eq_true,if_false]
  rw[n2,n1,if_pos (bV n3),cJ,(k1 L _ t1 5 aa aa).1 (by rw[h13];exact kI 13 aa)]
  simp only
  unfold must
  rw[if_pos (bV h13),cJ,(k2 L _ t2.2 5 aa aa).1 (hs.mono aa)]
  rfl
 cases not with
 |true=>exact jQ rfl k0 (hf.mono fun _=>by decide) rfl (fun h e=>by rw[e];exact kI 15 aa) body
 |false=>exact jQ rfl k0 (hf.mono fun _=>by decide) rfl (fun h e=>by rw[e];exact kI 18 aa) body
theorem qN {k0 e:Expr} {l m:List Tok} {not:Bool} (hk:Itm k0 l 5) (hf:Fs l 5)
 (hp:∀L a,fu L a (jj::(m++[jy]))->v7 L (bA L) (fP L) k0 not (P0 a)=some (e,P0 (a+1+m.length+1))):Itm e (l++(cm not++(kT 17::jj::(m++[jy])))) 4:=by
 have body:∀L a,fu L a (cm not++(kT 17::jj::(m++[jy])))->St 4 (hd L (a+(cm not++(kT 17::jj::(m++[jy]))).length))->cmpT L (bA L) (fP L) k0 (P0 a)=some (e,P0 (a+(cm not++(kT 17::jj::(m++[jy]))).length)):=fun L a hl hs=>by
  obtain⟨n1,n2,n3,n4⟩:=oY not hl ae
  have no16:az L (P0 a) 16=false:=by
   cases not with
   |true=>exact bZ (dR (k:=1) (x:=kw 15) hl.1 ae)
   |false=>exact bZ (dR (k:=1) (x:=kw 17) hl.1 ae)
  have len:a+(cm not++(kT 17::jj::(m++[jy]))).length=a+(cm not).length+1+1+m.length+1:=by
   simp only[List.length_cons,aA,List.length_nil];omega
  rw[len]
  unfold cmpT
  simp only[no16,Bool.false_eq_true,if_false]
  rw[n2,n1,if_neg (by rw[bZ (dR n3 ae)];simp),if_pos (bV n3),cJ]
  exact hp L _ n4
 cases not with
 |true=>exact jQ rfl hk hf rfl (fun h e=>by rw[e];exact kI 15 aa) body
 |false=>exact jQ rfl hk hf rfl (fun h e=>by rw[e];exact kI 17 aa) body
theorem Ed {kids:List Expr} {not:Bool} (h2:2<=kids.length) (h9:kids.length<=9) (h:KidsOk g kids):Itm (cH 7 not kids []) (aN full g 7 0 kids 0++(cm not++(kT 17::jj::(bB (sI full g 7 0 kids) (kids.length-1)++[jy])))) 4:=by
 have hk:=h.itm (k:=0) aa full 7 0 (n:=5) ae aa
 have hf:=h.fs (k:=0) aa full 7 0
 obtain⟨m,hm⟩:∃m,kids.length=m+2:=⟨kids.length-2,aa⟩
 have nd1:∀j,nd 7 0 (j+1)=1:=fun j=>by unfold nd;rw[if_neg ae,if_neg ae,if_neg ae,if_pos ⟨rfl,aa⟩]
 have kj:∀j,j+1<kids.length->Itm (kids.getD (j+1) zeroX) (aN full g 7 0 kids (j+1)) 1:=fun j hj=>h.itm hj full 7 0 (by rw[nd1];rfl) aa
 refine qN hk (hf.mono fun _=>by decide) fun L a hl=>?_
 obtain⟨t1,t2⟩:=hl
 obtain⟨t3,t4⟩:=bG.1 t2
 have e1:kids.length-1=m+1:=by omega
 have e2:sI full g 7 0 kids=fun i=>jB i++aN full g 7 0 kids (i+1):=rfl
 rw[e1,e2,Ea] at t3 t4 ⊢
 obtain⟨t5,t6⟩:=bG.1 t3
 have hrp:hd L (a+1+(aN full g 7 0 kids (0+1)++(List.range m).flatMap fun j=>dv::aN full g 7 0 kids (j+1+1)).length)=some (5,⟨#[41]⟩):=t4.1
 generalize hrest:(List.range m).map (fun j=>(kids.getD (j+1+1) zeroX,aN full g 7 0 kids (j+1+1)))=rest
 have hfl:((List.range m).flatMap fun j=>dv::aN full g 7 0 kids (j+1+1))=rest.flatMap fun p=>dv::p.2:=by rw[<-hrest,List.flatMap_map]
 rw[hfl] at t6 hrp ⊢
 unfold v7
 have hsel:az L (P0 (a+1)) 1=false:=bZ ((h.fs (k:=1) aa full 7 0) L (a+1) t5).1
 simp only[must,eY t1,if_true,cJ,hsel,Bool.false_eq_true,if_false]
 have st0:St 1 (hd L (a+1+(aN full g 7 0 kids (0+1)).length)):=by
  cases rest with
  |nil=>rw[List.flatMap_nil,List.append_nil] at hrp;rw[hrp];exact tg 41 (.inl rfl) 1
  |cons p r=>rw[List.flatMap_cons,List.cons_append,fu] at t6;rw[t6.1];exact oX
 have hor:lX L (bA L) (P0 (a+1))=some (kids.tail,P0 (a+1+(aN full g 7 0 kids (0+1)++rest.flatMap fun p=>dv::p.2).length)):=by
  unfold lX
  rw[((kj 0 aa) L (a+1) t5 1 aa aa).1 st0]
  simp only
  have hlen:rest.length<L.length+1:=by
   rw[<-hrest,List.length_map,List.length_range]
   have h4:∀r:List (Expr×List Tok),r.length<=(r.flatMap fun p=>dv::p.2).length:=fun r=>by
    induction r with
    |nil=>simp
    |cons p r ih=>rw[List.flatMap_cons,aA,List.length_cons,List.length_cons];omega
   have h5:=h4 rest
   rw[<-hrest,List.length_map,List.length_range,hrest] at h5
   rcases ol t6 with h6|h6
   ·rw[h6] at h5;simp at h5;omega
   ·omega
  have:=oW (f:=fun L=>bA L 1) (Sx:=fun h=>h=some (5,⟨#[41]⟩)) (fun h e=>by rw[e];decide) rest (L.length+1) [kids.getD (0+1) zeroX] L _ (fun p hp=>by
   rw[<-hrest,List.mem_map] at hp
   obtain⟨j,hj,rfl⟩:=hp
   rw[List.mem_range] at hj
   exact Eb (kj (j+1) aa) aa (fun h e=>by rw[e];exact tg 41 (.inl rfl) 1)) hlen t6 (by rw[aA,<-Nat.add_assoc] at hrp;exact hrp)
  rw[this]
  rw[aA,<-Nat.add_assoc]
  congr 2
  rw[<-hrest,List.map_map]
  have e3:(List.range m).map ((fun p:Expr×List Tok=>p.1) ∘ fun j=>(kids.getD (j+1+1) zeroX,aN full g 7 0 kids (j+1+1)))=kids.tail.tail:=by
   have:=vf kids.tail zeroX m (by rw[List.length_tail];omega)
   rw[<-this]
   refine List.map_congr_left fun j _=>?_
   simp only[Function.comp]
   cases kids with
   |nil=>simp at hm
   |cons x r=>rfl
  rw[e3]
  cases kids with
  |nil=>simp at hm
  |cons x r=>cases r with
   |nil=>simp at hm
   |cons y r'=>rfl
 rw[hor]
 simp only[eY hrp,if_true,cJ]
 congr 2
 cases kids with
 |nil=>simp at hm
 |cons x r=>rfl
def Hg (q:Query) (l:List Tok):Prop:=∀L a,fu L a l->(hd L (a+l.length)=none∨hd L (a+l.length)=some (5,⟨#[41]⟩))->fP L (P0 a)=some (q,P0 (a+l.length))
theorem C3 {k:Expr} {q:Query} {not:Bool} {r:List Tok} (h:KidsOk g [k]) (hr:gb g q=kT 1::r) (hq:Hg q (gb g q)):Itm (cH 8 not [k] [q]) (aN full g 8 0 [k] 0++(cm not++(kT 17::jj::(gb g q++[jy])))) 4:=by
 have hk:=h.itm (k:=0) (by simp) full 8 0 (n:=5) ae aa
 have hf:=h.fs (k:=0) (by simp) full 8 0
 refine qN hk (hf.mono fun _=>by decide) fun L a hl=>?_
 obtain⟨t1,t2⟩:=hl
 obtain⟨t3,t4⟩:=bG.1 t2
 have hrp:hd L (a+1+(gb g q).length)=some (5,⟨#[41]⟩):=t4.1
 have hsel:hd L (a+1)=some (1,kw 1):=by rw[hr] at t3;exact t3.1
 unfold v7
 simp only[must,eY t1,if_true,cJ,bV hsel]
 rw[hq L (a+1) t3 (.inr hrp)]
 simp only[eY hrp,if_true,cJ]
 rfl
theorem Ee {q:Query} (hq:Hg q (gb g q)):Itm (cH 9 false [] [q]) (kT 19::jj::(gb g q++[jy])) 9:=by
 refine ja (Nat.le_refl 9) (fun L a hl hs=>?_) (fun L a _ hc=>by unfold sH at hc;omega) fun L a hl=>⟨fun _=>dR (lD hl) ae,fun _=>cN (lD hl) ae⟩
 obtain⟨t1,t2,t3⟩:=hl
 obtain⟨t4,t5⟩:=bG.1 t3
 have h19:hd L a=some (1,kw 19):=t1
 have hlp:hd L (a+1)=some (5,⟨#[40]⟩):=t2
 have hrp:hd L (a+1+1+(gb g q).length)=some (5,⟨#[41]⟩):=t5.1
 rw[BT]
 unfold dA
 simp only[dn h19 (by decide:(1:Int)≠3),dn h19 (by decide:(1:Int)≠4),dn h19 (by decide:(1:Int)≠2),bZ (dR h19 (by decide:kw 19≠kw 20)),bZ (dR h19 (by decide:kw 19≠kw 21)),bZ (dR h19 (by decide:kw 19≠kw 22)),nC (cN h19 (by decide:(1:Int)≠5)),bV h19,Bool.false_eq_true,if_false,if_true,cJ,must,eY hlp]
 rw[hq L _ t4 (.inr hrp)]
 simp only[eY hrp,if_true,cJ,List.length_cons,aA,List.length_nil]
 congr 3;omega
end
def En (ks:List Nat) (h:Option (Int×ByteArray)):Prop:=h=none∨h=some (5,⟨#[41]⟩)∨∃k∈ks,h=some (1,kw k)
theorem En.mono {ks ks':List Nat} {h:Option (Int×ByteArray)} (e:En ks h) (s:∀k∈ks,k∈ks'):En ks' h:=e.imp id fun e=>e.imp id fun ⟨k,h1,h2⟩=>⟨k,s k h1,h2⟩
theorem En.st {ks:List Nat} {h:Option (Int×ByteArray)} (e:En ks h) (s:∀k∈ks,k=3∨k=4∨k=6∨k=7∨k=9∨k=10∨k=11∨k=12) (lv:Nat):St lv h:=by
 rcases e with rfl|rfl|⟨k,hk,rfl⟩
 ·exact wO lv
 ·exact tg 41 (.inl rfl) lv
 ·exact v8 k lv (s k hk)
theorem En.key {ks:List Nat} {h:Option (Int×ByteArray)} (e:En ks h) {x:ByteArray} (s:∀k∈ks,kw k≠x):h≠some (1,x):=by
 rcases e with rfl|rfl|⟨k,hk,rfl⟩
 ·simp
 ·simp
 ·intro h;injection h with h;injection h with _ h;exact s k hk h
theorem En.sg {ks:List Nat} {h:Option (Int×ByteArray)} (e:En ks h) {x:ByteArray} (s:x≠⟨#[41]⟩):h≠some (5,x):=by
 rcases e with rfl|rfl|⟨k,hk,rfl⟩
 ·simp
 ·intro h;injection h with h;injection h with _ h;exact s h.symm
 ·simp
theorem En.one {k:Nat} {ks:List Nat} {h:Option (Int×ByteArray)} (e:h=some (1,kw k)) (hk:k∈ks):En ks h:=.inr (.inr ⟨k,hk,e⟩)
theorem Do {e:Expr} (h:ko e=true):e=zExpr:=by
 obtain⟨kind,op,not,val,qual,name,kids,sub⟩:=e
 simp only[ko,dd,Bool.and_eq_true,decide_eq_true_eq] at h
 obtain⟨h1,h2,h3,h4,h5,h6,h7,h8⟩:=h
 have e1:=Dm h4
 have e2:kids=[]:=List.eq_nil_of_length_eq_zero aa
 have e3:sub=[]:=List.eq_nil_of_length_eq_zero aa
 rw[h1,h2,h3,e1,h5,h6,e2,e3];rfl
section
variable {g:Expr->List Tok}
def XOk (g:Expr->List Tok) (e:Expr):Prop:=Itm e (g e) (lT e).toNat/\1<=lT e/\Fs (g e) (lT e)
theorem XOk.el {e:Expr} (h:XOk g e) {L:List Tok} {a:Nat} (hl:fu L a (g e)) (hs:St 1 (hd L (a+(g e).length))):bA L 1 (P0 a)=some (e,P0 (a+(g e).length)):=(h.1 L a hl 1 (Nat.le_refl 1) (by have:=h.2.1;omega)).1 hs
theorem tj {L:List Tok} {a:Nat} {x:ByteArray} (hx:cE x=true) (h:fu L a (du x)) (hn:hd L (a+(du x).length)≠some (1,kw 12)):asM L (P0 a)=(x,P0 (a+(du x).length)):=by
 unfold du at h hn ⊢
 unfold asM
 split at h
 ·rename_i e
  rw[if_pos e] at hn ⊢
  rw[bZ (by simpa using hn),if_neg (by simp),e];rfl
 ·rename_i e
  rw[if_neg e]
  unfold cE at hx
  simp only[Bool.or_eq_true,decide_eq_true_eq,e,false_or] at hx
  rw[bV h.1,if_pos rfl,cJ,oT h.2.1 hx];rfl
theorem Gn {L:List Tok} {a:Nat} {x:ByteArray} (h:fu L a (du x)):hd L a=some (1,kw 12)∨hd L a=hd L (a+(du x).length):=by
 unfold du at h ⊢
 split at h
 ·rename_i e;rw[if_pos e];exact .inr rfl
 ·exact .inl h.1
theorem qO {x:Item} (hx:lN x=true) (h:x.star=false->XOk g x.e):El (fun L=>eb L (bA L)) (fun h=>h=some (1,kw 3)) x (df g x):=fun L a hl hs=>by
 obtain⟨star,qual,e,as_⟩:=x
 have hs':En [3] (hd L (a+(df g (.mk star qual e as_)).length))∨hd L (a+(df g (.mk star qual e as_)).length)=some (5,⟨#[44]⟩):=hs.symm.imp (fun h=>En.one h (by simp)) id
 cases star with
 |true=>
  unfold lN at hx
  simp only[if_true,Bool.and_eq_true,decide_eq_true_eq] at hx
  obtain⟨hq,rfl,hz⟩:=hx
  rw[Do hz]
  have e1:df g (.mk true qual e ⟨#[]⟩)=cC qual++[DB]:=rfl
  have e2:df g (.mk true qual zExpr ⟨#[]⟩)=cC qual++[DB]:=rfl
  rw[Do hz,e2] at hl
  rw[e2]
  show eb L (bA L) (P0 a)=_
  unfold eb
  unfold cC at hl ⊢
  split at hl
  ·rename_i e
   rw[if_pos e,eY hl.1,if_pos rfl,e];rfl
  ·rename_i e
   rw[if_neg e]
   unfold cE at hq
   simp only[Bool.or_eq_true,decide_eq_true_eq,e,false_or] at hq
   have h1:hd L a=some (2,qual):=hl.1
   have h2:hd L (a+1)=some (5,⟨#[46]⟩):=hl.2.1
   have h3:hd L (a+2)=some (5,⟨#[42]⟩):=hl.2.2.1
   have hst:ez L (P0 a)=true:=by
    unfold ez
    rw[lC h1,rz hq,lB,lB,h2,h3];simp
   rw[nC (cN h1 ae),if_neg (by simp),hst,if_pos rfl,eX h1];rfl
 |false=>
  unfold lN at hx
  simp only[Bool.false_eq_true,if_false,Bool.and_eq_true,decide_eq_true_eq] at hx
  obtain⟨rfl,ha⟩:=hx
  have hX:XOk g e:=h rfl
  have e1:df g (.mk false ⟨#[]⟩ e as_)=g e++du as_:=rfl
  rw[e1] at hl hs' ⊢
  obtain⟨h1,h2⟩:=bG.1 hl
  rw[aA,<-Nat.add_assoc] at hs' ⊢
  have hst:St 1 (hd L (a+(g e).length)):=by
   rcases Gn h2 with h3|h3
   ·rw[h3];exact v8 12 1 aa
   ·rw[h3]
    rcases hs' with h4|h4
    ·exact h4.st (by simp) 1
    ·rw[h4];exact oX
  have hf:=hX.2.2 L a h1
  show eb L (bA L) (P0 a)=_
  unfold eb
  rw[nC hf.2.1,if_neg (by simp),hf.2.2.1 hst.1,if_neg (by simp),hX.el h1 hst]
  simp only
  rw[tj ha h2 (by
   rcases hs' with h4|h4
   ·exact h4.key ae
   ·rw[h4];simp)]
  rfl
theorem oZ {α:Type} {F:Nat->List Tok} {A:List Tok} {h:α->List Tok} {r:List α} (h0:F 0=A) (h1:∀i (hi:i<r.length),F (i+1)=h r[i]):bB F (r.length+1)=A++r.flatMap h:=by
 have:bB F (r.length+1)=F 0++(List.range r.length).flatMap fun i=>F (i+1):=by
  unfold bB
  rw[List.range_succ_eq_map,List.flatMap_cons,List.flatMap_map]
 rw[this,h0]
 congr 1
 have e:(List.range r.length).map (fun i=>F (i+1))=r.map h:=List.ext_getElem (by simp) fun i a b=>by simp at a b ⊢;rw[h1 i a]
 rw[List.flatMap_def,e,<-List.flatMap_def]
theorem zR {α:Type} {L:List Tok} {a:Nat} {r:List α} {tk:α->List Tok} (h:fu L a (r.flatMap fun x=>dv::tk x)):r.length<L.length+1:=by
 have h4:∀r:List α,r.length<=(r.flatMap fun p=>dv::tk p).length:=fun r=>by
  induction r with
  |nil=>simp
  |cons p r ih=>rw[List.flatMap_cons,aA,List.length_cons,List.length_cons];omega
 have:=h4 r
 rcases ol h with h5|h5
 ·rw[h5] at this;simp at this;simp [this]
 ·omega
theorem wQ {α:Type} {f:List Tok->PM α} {Sx:Option (Int×ByteArray)->Prop} {tk:α->List Tok} (hS:∀h,Sx h->h≠some (5,⟨#[44]⟩)) {r:List α} {acc:List α} {L:List Tok} {a:Nat} (hE:∀x∈r,El f Sx x (tk x))
 (hl:fu L a (r.flatMap fun x=>dv::tk x)) (hs:Sx (hd L (a+(r.flatMap fun x=>dv::tk x).length))):gy L (f L) (L.length+1) acc (P0 a)=some (acc++r,P0 (a+(r.flatMap fun x=>dv::tk x).length)):=by
 have e:(r.map fun x=>(x,tk x)).flatMap (fun p=>dv::p.2)=r.flatMap fun x=>dv::tk x:=by rw[List.flatMap_map]
 have:=oW (f:=f) hS (r.map fun x=>(x,tk x)) (L.length+1) acc L a (fun p hp=>by
  obtain⟨x,hx,rfl⟩:=List.mem_map.1 hp
  exact hE x hx) (by rw[List.length_map];exact zR hl) (by rw[e];exact hl) (by rw[e];exact hs)
 rw[this,e,List.map_map]
 congr 2
 congr 1
 have:((fun p:α×List Tok=>p.1) ∘ fun x=>(x,tk x))=id:=rfl
 rw[this,List.map_id]
theorem wR {α:Type} {Sx:Option (Int×ByteArray)->Prop} {tk:α->List Tok} {r:List α} {L:List Tok} {a:Nat} (hl:fu L a (r.flatMap fun x=>dv::tk x)) (hs:Sx (hd L (a+(r.flatMap fun x=>dv::tk x).length))):hd L a=some (5,⟨#[44]⟩)∨Sx (hd L a):=by
 cases r with
 |nil=>exact .inr hs
 |cons x r'=>rw[List.flatMap_cons,List.cons_append] at hl;exact .inl hl.1
theorem vg {items:List Item} (h0:1<=items.length) (hi:∀x∈items,lN x=true) (hx:∀x∈items,x.star=false->XOk g x.e) {L:List Tok} {a:Nat} (hl:fu L a (bB (dC g items) items.length)) (hs:hd L (a+(bB (dC g items) items.length).length)=some (1,kw 3)) :
 eV L (bA L) (P0 a)=some (items,P0 (a+(bB (dC g items) items.length).length)):=by
 obtain⟨x,r,rfl⟩:∃x r,items=x::r:=by
  cases items with
  |nil=>simp at h0
  |cons x r=>exact⟨x,r,rfl⟩
 have e:bB (dC g (x::r)) (r.length+1)=df g x++r.flatMap fun y=>dv::df g y:=oZ rfl fun i hi=>by
  show jB (i+1)++nX (x::r) (df g) (i+1)=_
  rw[ef (by simpa using hi)];rfl
 rw[List.length_cons,e] at hl hs ⊢
 obtain⟨h1,h2⟩:=bG.1 hl
 rw[aA,<-Nat.add_assoc] at hs ⊢
 unfold eV
 have hI:eb L (bA L) (P0 a)=_:=qO (hi x (by simp)) (hx x (by simp)) L a h1 (wR (Sx:=fun h=>h=some (1,kw 3)) h2 hs)
 rw[hI]
 exact wQ (f:=fun L=>eb L (bA L)) (Sx:=fun h=>h=some (1,kw 3)) (fun h e=>by rw[e];decide) (fun y hy=>qO (hi y (by simp [hy])) (hx y (by simp [hy]))) h2 hs
theorem jR {table as_:ByteArray} (ht:bD table=true) (ha:cE as_=true) {L:List Tok} {a:Nat} (hl:fu L a (nT table::du as_)) (hn:hd L (a+1+(du as_).length)≠some (1,kw 12)):sourceM L (P0 a)=(.mk table as_ [],P0 (a+1+(du as_).length)):=by
 unfold sourceM
 rw[oT hl.1 ht]
 simp only
 rw[tj ha hl.2 hn]
 rfl
def jc (g:Expr->List Tok) (x:Source):List Tok:=fU g 1 x
theorem m8 {ks:List Nat} (hks:∀k∈ks,k=6∨k=7∨k=11):∀(r:List Source) (n:Nat) (acc:List Source) {L:List Tok} {a:Nat},(∀x∈r,lO 1 x=true)->(∀x∈r,∀y∈x.on,XOk g y)->r.length<n->fu L a (r.flatMap (jc g))->En ks (hd L (a+(r.flatMap (jc g)).length)) ->
 cj L (bA L) n acc (P0 a)=some (acc++r,P0 (a+(r.flatMap (jc g)).length))
 | [],n+1,acc,L,a,_,_,_,_,hs=>by
  rw[List.flatMap_nil,List.length_nil,Nat.add_zero] at hs ⊢
  have h4:∀k∈ks,kw k≠kw 4:=fun k hk=>by rcases hks k hk with rfl|rfl|rfl<;>decide
  rw[cj,nC (hs.sg ae),if_neg (by simp),bZ (hs.key h4)]
  simp
 |x::r,n+1,acc,L,a,hb,hX,hn,hl,hs=>by
  rw[List.flatMap_cons] at hl hs ⊢
  rw[aA,<-Nat.add_assoc] at hs ⊢
  obtain⟨h1,h2⟩:=bG.1 hl
  have hx:=hb x (by simp)
  obtain⟨table,as_,on⟩:=x
  unfold lO at hx
  simp only[Bool.and_eq_true,decide_eq_true_eq] at hx
  obtain⟨ht,ha,ho,_⟩:=hx
  have hst:En (4::ks) (hd L (a+(jc g (.mk table as_ on)).length))∨hd L (a+(jc g (.mk table as_ on)).length)=some (5,⟨#[44]⟩):=by
   cases r with
   |nil=>exact .inl (hs.mono fun k hk=>by simp [hk])
   |cons y r'=>
    obtain⟨ty,ay,oy⟩:=y
    rw[List.flatMap_cons] at h2
    have h3:=(bG.1 h2).1
    have e3:jc g (.mk ty ay oy)=(if 0<oy.length then [kT 4] else [dv])++(nT ty::(du ay++uK g oy)):=rfl
    rw[e3] at h3
    by_cases e:0<oy.length
    ·rw[if_pos e] at h3;exact .inl (En.one (k:=4) h3.1 (by simp))
    ·rw[if_neg e] at h3;exact .inr h3.1
  have n12:hd L (a+(jc g (.mk table as_ on)).length)≠some (1,kw 12):=by
   rcases hst with h|h
   ·refine h.key fun k hk=>?_
    rcases List.mem_cons.1 hk with rfl|hk
    ·decide
    ·rcases hks k hk with rfl|rfl|rfl<;>decide
   ·rw[h];simp
  have rec_:=fun acc=>m8 hks r n acc (fun y hy=>hb y (by simp [hy])) (fun y hy=>hX y (by simp [hy])) (by simpa using hn) h2 hs
  cases on with
  |nil=>
   have e:jc g (.mk table as_ [])=dv::nT table::(du as_++[]):=rfl
   rw[List.append_nil] at e
   rw[e] at h1 n12 rec_ ⊢
   have len:a+(dv::nT table::du as_).length=a+1+1+(du as_).length:=by simp only[List.length_cons];omega
   rw[len] at n12 rec_ ⊢
   rw[cj,eY h1.1,if_pos rfl,cJ,jR ht ha h1.2 n12]
   simp only
   rw[rec_];simp
  |cons y on'=>
   have hon':on'=[]:=List.eq_nil_of_length_eq_zero (by simp only[List.length_cons] at ho;omega)
   subst hon'
   have e:jc g (.mk table as_ [y])=kT 4::nT table::(du as_++kT 5::g y):=rfl
   rw[e] at h1 n12 rec_ hst ⊢
   have len:a+(kT 4::nT table::(du as_++kT 5::g y)).length=a+1+1+(du as_).length+1+(g y).length:=by simp only[List.length_cons,aA];omega
   rw[len] at n12 rec_ hst ⊢
   obtain⟨t1,t2,t3⟩:=h1
   obtain⟨t4,t5⟩:=bG.1 t3
   have h4:hd L a=some (1,kw 4):=t1
   have h5:hd L (a+1+1+(du as_).length)=some (1,kw 5):=t5.1
   rw[cj,nC (cN h4 ae),if_neg (by simp),bV h4,if_pos rfl,cJ,jR ht ha ⟨t2,t4⟩ (by rw[h5];decide)]
   simp only
   unfold must
   rw[if_pos (bV h5),cJ]
   have hX1:XOk g y:=hX (.mk table as_ [y]) (by simp) y (by simp [Source.on])
   rw[hX1.el t5.2 (by
    rcases hst with h|h
    ·exact h.st (fun k hk=>by
      rcases List.mem_cons.1 hk with rfl|hk
      ·omega
      ·have:=hks k hk;omega) 1
    ·rw[h];exact oX)]
   simp only
   rw[rec_]
   simp [Source.withOn]
theorem qP {x:SortKey} (hX:XOk g x.e):El (fun L=>eG L (bA L)) (En [11]) x (iv g x):=fun L a hl hs=>by
 obtain⟨e,desc⟩:=x
 have hX':XOk g e:=hX
 clear hX
 show eG L (bA L) (P0 a)=_
 have e1:iv g (.mk e desc)=g e++(if desc=true then [kT 10] else []):=rfl
 rw[e1] at hl hs ⊢
 obtain⟨h1,h2⟩:=bG.1 hl
 rw[aA,<-Nat.add_assoc] at hs ⊢
 have st11:∀h,En [11] h->St 1 h:=fun h e=>e.st (by simp) 1
 unfold eG
 cases desc with
 |true=>
  rw[if_pos rfl] at h2 hs ⊢
  have h10:hd L (a+(g e).length)=some (1,kw 10):=h2.1
  rw[hX'.el h1 (by rw[h10];exact v8 10 1 aa)]
  simp only
  rw[bZ (dR h10 ae),if_neg (by simp),bV h10]
  rfl
 |false=>
  rw[if_neg (by simp)] at h2 hs ⊢
  simp only[List.length_nil,Nat.add_zero] at hs ⊢
  rw[hX'.el h1 (by
   rcases hs with h|h
   ·rw[h];exact oX
   ·exact st11 _ h)]
  simp only
  have n9:∀k,k=9∨k=10->hd L (a+(g e).length)≠some (1,kw k):=fun k hk=>by
   rcases hs with h|h
   ·rw[h];simp
   ·exact h.key (by rcases hk with rfl|rfl<;>decide)
  rw[bZ (n9 9 (.inl rfl)),if_neg (by simp),bZ (n9 10 (.inr rfl))]
  rfl
theorem vh {order:List SortKey} (hX:∀x∈order,XOk g x.e) {L:List Tok} {a:Nat} (hl:fu L a (bB (fJ g order) order.length)) (hs:En [11] (hd L (a+(bB (fJ g order) order.length).length))) :
 eH L (bA L) (P0 a)=some (order,P0 (a+(bB (fJ g order) order.length).length)):=by
 cases order with
 |nil=>
  have e:bB (fJ g []) ([]:List SortKey).length=[]:=rfl
  rw[e] at hs ⊢
  simp only[List.length_nil,Nat.add_zero] at hs ⊢
  unfold eH
  rw[bZ (hs.key ae),if_neg (by simp)]
 |cons x r=>
  have e:bB (fJ g (x::r)) (r.length+1)=kT 7::kT 8::(iv g x++r.flatMap fun y=>dv::iv g y):=by
   have:=oZ (F:=fJ g (x::r)) (A:=kT 7::kT 8::iv g x) (h:=fun y=>dv::iv g y) (r:=r) rfl fun i hi=>by
    show (if i+1=0 then [kT 7,kT 8] else [dv])++nX (x::r) (iv g) (i+1)=_
    rw[ef (by simpa using hi),if_neg aa];rfl
   rw[this];rfl
  rw[List.length_cons,e] at hl hs ⊢
  obtain⟨t1,t2,t3⟩:=hl
  obtain⟨t4,t5⟩:=bG.1 t3
  have len:a+(kT 7::kT 8::(iv g x++r.flatMap fun y=>dv::iv g y)).length=a+1+1+(iv g x).length+(r.flatMap fun y=>dv::iv g y).length:=by simp only[List.length_cons,aA];omega
  rw[len] at hs ⊢
  have h7:hd L a=some (1,kw 7):=t1
  have h8:hd L (a+1)=some (1,kw 8):=t2
  have hS:∀h,En [11] h->h≠some (5,⟨#[44]⟩):=fun h e=>e.sg ae
  unfold eH
  simp only
  rw[if_pos (bV h7),cJ]
  unfold must
  rw[if_pos (bV h8),cJ]
  have hI:eG L (bA L) (P0 (a+1+1))=_:=qP (hX x (by simp)) L _ t4 (wR (Sx:=En [11]) t5 hs)
  rw[hI]
  exact wQ (f:=fun L=>eG L (bA L)) (Sx:=En [11]) hS (fun y hy=>qP (hX y (by simp [hy]))) t5 hs
theorem vj {n:Int} (h0 : -1<=n) (h1:n<=9223372036854775807) {L:List Tok} {a:Nat} (hl:fu L a (jk n)) (hs:En [] (hd L (a+(jk n).length))):limitM L (P0 a)=(n,P0 (a+(jk n).length)):=by
 unfold jk at hl hs ⊢
 unfold limitM
 split at hl
 ·rename_i hn
  rw[if_pos hn]
  have h11:hd L a=some (1,kw 11):=hl.1
  have hi:hd L (a+1)=some (3,dX n):=hl.2.1
  obtain⟨o1,o2⟩:=qM hn h1
  have hk:kH L (P0 (a+1)) 3=true:=by rw[lC hi];simp only[decide_true,Bool.true_and];exact o1
  rw[if_pos (bV h11),cJ]
  unfold mNum mText
  rw[if_pos hk,eX hi]
  simp only[o2];rfl
 ·rename_i hn
  rw[if_neg hn] at hs ⊢
  rw[bZ (by simpa using hs.key (by simp)),if_neg (by simp)]
  have:n = -1:=by omega
  rw[this];rfl
theorem vk {l:List Expr} (h1:l.length<=1) (hX:∀x∈l,XOk g x) {L:List Tok} {a:Nat} (hl:fu L a (pQ g l)) (hs:En [7,11] (hd L (a+(pQ g l).length))):eF L (bA L) (P0 a)=some (l,P0 (a+(pQ g l).length)):=by
 unfold eF
 cases l with
 |nil=>
  rw[bZ (by have:En [7,11] (hd L a):=hs;exact this.key ae),if_neg (by simp)]
  rfl
 |cons x r=>
  have hr:r=[]:=List.eq_nil_of_length_eq_zero (by simp only[List.length_cons] at h1;omega)
  subst hr
  have e:pQ g [x]=kT 6::g x:=rfl
  rw[e] at hl hs ⊢
  have len:a+(kT 6::g x).length=a+1+(g x).length:=by rw[List.length_cons];omega
  rw[len] at hs ⊢
  have h6:hd L a=some (1,kw 6):=hl.1
  rw[if_pos (bV h6),cJ,(hX x (by simp)).el hl.2 (hs.st (by simp) 1)]
theorem Ef {n:Int} {L:List Tok} {a:Nat} (hl:fu L a (jk n)) (hs:En [] (hd L (a+(jk n).length))):En [11] (hd L a):=by
 unfold jk at hl hs
 split at hl
 ·exact En.one (k:=11) hl.1 (by simp)
 ·rename_i hn
  rw[if_neg hn] at hs
  exact En.mono hs (by simp)
theorem Eg {order:List SortKey} {L:List Tok} {a:Nat} (hl:fu L a (bB (fJ g order) order.length)) (hs:En [11] (hd L (a+(bB (fJ g order) order.length).length))):En [7,11] (hd L a):=by
 cases order with
 |nil=>exact En.mono (ks:=[11]) hs (by simp)
 |cons x r=>
  have e:bB (fJ g (x::r)) (r.length+1)=(kT 7::kT 8::iv g x)++r.flatMap fun y=>dv::iv g y:=oZ (F:=fJ g (x::r)) rfl fun i hi=>by
   show (if i+1=0 then [kT 7,kT 8] else [dv])++nX (x::r) (iv g) (i+1)=_
   rw[ef (by simpa using hi),if_neg aa];rfl
  rw[List.length_cons,e] at hl
  exact En.one (k:=7) hl.1 (by simp)
theorem Gp {l:List Expr} {L:List Tok} {a:Nat} (hl:fu L a (pQ g l)) (hs:En [7,11] (hd L (a+(pQ g l).length))):En [6,7,11] (hd L a):=by
 cases l with
 |nil=>exact En.mono (ks:=[7,11]) hs (by simp)
 |cons x r=>exact En.one (k:=6) hl.1 (by simp)
theorem C4 {x:Item} (hx:lN x=true) (h:x.star=false->XOk g x.e) {L:List Tok} {a:Nat} (hl:fu L a (df g x)):hd L a≠some (1,kw 2):=by
 obtain⟨star,qual,e,as_⟩:=x
 cases star with
 |true=>
  have e1:df g (.mk true qual e as_)=cC qual++[DB]:=rfl
  rw[e1] at hl
  unfold cC at hl
  split at hl
  ·exact cN (k:=5) (x:=⟨#[42]⟩) hl.1 ae
  ·exact cN (k:=2) (x:=qual) hl.1 ae
 |false=>
  have e1:df g (.mk false qual e as_)=g e++du as_:=rfl
  rw[e1] at hl
  exact ((h rfl).2.2 L a (bG.1 hl).1).2.2.2.2
theorem vl {gf:Expr->Bool} {q:Query} (hq:j4 gf q=true) (hlim:q.lim<=9223372036854775807) (hX:∀x∈exprsQ q,XOk g x):Hg q (gb g q):=fun L a hl hs=>by
 obtain⟨distinct,items,from_,where_,order,limit⟩:=q
 obtain⟨hi,hf,hw,ho,hlm,bH,hsr,_⟩:=kq hq
 have hlim:limit<=9223372036854775807:=hlim
 have xi:∀x∈items,x.star=false->XOk g x.e:=fun x hx hst=>hX _ (by
  show x.e∈aU items++from_.flatMap Source.on++where_++order.map SortKey.e
  simp only[List.mem_append,aU,List.mem_map,List.mem_filter]
  exact .inl (.inl (.inl ⟨x,⟨hx,by simp [hst]⟩,rfl⟩)))
 have xf:∀x∈from_,∀y∈x.on,XOk g y:=fun x hx y hy=>hX _ (by
  show y∈aU items++from_.flatMap Source.on++where_++order.map SortKey.e
  simp only[List.mem_append,List.mem_flatMap]
  exact .inl (.inl (.inr ⟨x,hx,hy⟩)))
 have xw:∀x∈where_,XOk g x:=fun x hx=>hX _ (by
  show x∈aU items++from_.flatMap Source.on++where_++order.map SortKey.e
  simp only[List.mem_append]
  exact .inl (.inr hx))
 have xo:∀x∈order,XOk g x.e:=fun x hx=>hX _ (by
  show x.e∈aU items++from_.flatMap Source.on++where_++order.map SortKey.e
  simp only[List.mem_append,List.mem_map]
  exact .inr ⟨x,hx,rfl⟩)
 have eq:gb g (.mk distinct items from_ where_ order limit)=kT 1::((if distinct=true then [kT 2] else [])++(bB (dC g items) items.length++(kT 3::(bB (fI g from_) from_.length++(pQ g where_++(bB (fJ g order) order.length++jk limit)))))):=rfl
 rw[eq] at hl hs ⊢
 obtain⟨s0,rf,rfl⟩:∃x r,from_=x::r:=by
  cases from_ with
  |nil=>simp at hf
  |cons x r=>exact⟨x,r,rfl⟩
 have es:bB (fI g (s0::rf)) (rf.length+1)=fU g 0 s0++rf.flatMap (jc g):=oZ rfl fun i hi=>by
  show nX (s0::rf) (fU g (i+1)) (i+1)=_
  rw[ef (by simpa using hi)]
  have e2:(s0::rf)[i+1]'(by simpa using hi)=rf[i]:=rfl
  rw[e2]
  obtain⟨t,a',o⟩:=rf[i]
  show (if 0<i+1 then (if 0<o.length then [kT 4] else [dv]) else [])++(nT t::(du a'++uK g o))=(if 0<1 then (if 0<o.length then [kT 4] else [dv]) else [])++(nT t::(du a'++uK g o))
  rw[if_pos (show 0<i+1 by omega),if_pos (show 0<1 by omega)]
 have ec:(s0::rf).length=rf.length+1:=rfl
 rw[ec,es] at hl hs ⊢
 generalize hd1:(if distinct=true then [kT 2] else [])=D at *
 generalize hI:bB (dC g items) items.length=I at *
 generalize hO:bB (fJ g order) order.length=O at *
 obtain⟨t1,t2⟩:=hl
 obtain⟨t3,t4⟩:=bG.1 t2
 obtain⟨t5,t6⟩:=bG.1 t4
 obtain⟨t7,t8⟩:=t6
 obtain⟨t9,HM⟩:=bG.1 t8
 obtain⟨Hm,DI⟩:=bG.1 t9
 obtain⟨G7,HN⟩:=bG.1 HM
 obtain⟨t15,t16⟩:=bG.1 HN
 have len:a+(kT 1::(D++(I++(kT 3::(fU g 0 s0++rf.flatMap (jc g)++(pQ g where_++(O++jk limit))))))).length=a+1+D.length+I.length+1+(fU g 0 s0++rf.flatMap (jc g)).length+(pQ g where_).length+O.length+(jk limit).length:=by
  simp only[List.length_cons,aA];omega
 rw[len] at hs ⊢
 have E0:En [] (hd L (a+1+D.length+I.length+1+(fU g 0 s0++rf.flatMap (jc g)).length+(pQ g where_).length+O.length+(jk limit).length)):=hs.imp id .inl
 have E1:=Ef t16 E0
 have E2:=Eg (g:=g) (order:=order) (by rw[hO];exact t15) (by rw[hO];exact E1)
 have E3:=Gp G7 E2
 have hs0:=hsr 0 (by simp)
 obtain⟨table,as_,on⟩:=s0
 have hs0:lO 0 (.mk table as_ on)=true:=hs0
 unfold lO at hs0
 simp only[Bool.and_eq_true,decide_eq_true_eq,Bool.or_eq_true] at hs0
 obtain⟨ht,ha,_,hon⟩:=hs0
 have hon:on=[]:=by simpa using hon
 subst hon
 have e0:fU g 0 (.mk table as_ [])=nT table::(du as_++[]):=rfl
 rw[List.append_nil] at e0
 rw[e0] at Hm DI G7 t15 t16 E0 E1 E2 E3 ⊢
 have ls:∀p,p+(nT table::du as_++rf.flatMap (jc g)).length=p+1+(du as_).length+(rf.flatMap (jc g)).length:=fun p=>by simp only[List.length_cons,aA];omega
 simp only[ls] at G7 t15 t16 E0 E1 E2 E3 ⊢
 have l1:a+1+D.length+I.length+1+(nT table::du as_).length=a+1+D.length+I.length+1+1+(du as_).length:=by rw[List.length_cons];omega
 rw[l1] at DI
 have n12:hd L (a+1+D.length+I.length+1+1+(du as_).length)≠some (1,kw 12):=by
  cases rf with
  |nil=>exact E3.key ae
  |cons y r=>
   obtain⟨ty,ay,oy⟩:=y
   rw[List.flatMap_cons] at DI
   have h3:=(bG.1 DI).1
   have e3:jc g (.mk ty ay oy)=(if 0<oy.length then [kT 4] else [dv])++(nT ty::(du ay++uK g oy)):=rfl
   rw[e3] at h3
   by_cases e:0<oy.length
   ·rw[if_pos e] at h3;exact dR (k:=1) (x:=kw 4) h3.1 ae
   ·rw[if_neg e] at h3;exact cN (k:=5) (x:=⟨#[44]⟩) h3.1 ae
 have h1:hd L a=some (1,kw 1):=t1
 have h3:hd L (a+1+D.length+I.length)=some (1,kw 3):=t7
 have dis:az L (P0 (a+1)) 2=distinct/\tkIf (az L (P0 (a+1)) 2) (P0 (a+1))=P0 (a+1+D.length):=by
  cases distinct with
  |true=>
   rw[if_pos rfl] at hd1
   subst hd1
   have h2:hd L (a+1)=some (1,kw 2):=t3.1
   refine⟨bV h2,?_⟩
   rw[bV h2];rfl
  |false=>
   rw[if_neg (by simp)] at hd1
   subst hd1
   have n2:hd L (a+1)≠some (1,kw 2):=by
    cases items with
    |nil=>simp at hi
    |cons x r=>
     have e:bB (dC g (x::r)) (r.length+1)=df g x++r.flatMap fun y=>dv::df g y:=oZ rfl fun i hi=>by
      show jB (i+1)++nX (x::r) (df g) (i+1)=_
      rw[ef (by simpa using hi)];rfl
     rw[List.length_cons,e] at hI
     rw[<-hI] at t5
     have t5:=(bG.1 t5).1
     exact C4 (bH x (by simp)) (xi x (by simp)) t5
   refine⟨bZ n2,?_⟩
   rw[bZ n2];rfl
 rw[yd]
 unfold stepQ
 simp only
 have m1:must (az L (P0 a) 1) (P0 a)=P0 (a+1):=by unfold must;rw[if_pos (bV h1)];rfl
 rw[m1,dis.2,dis.1]
 have R1:=vg (g:=g) hi.1 bH xi (L:=L) (a:=a+1+D.length) (by rw[hI];exact t5) (by rw[hI];exact h3)
 rw[hI] at R1
 rw[R1]
 simp only
 have m3:must (az L (P0 (a+1+D.length+I.length)) 3) (P0 (a+1+D.length+I.length))=P0 (a+1+D.length+I.length+1):=by unfold must;rw[if_pos (bV h3)];rfl
 rw[m3,jR ht ha Hm n12]
 simp only
 have hrl:rf.length<L.length+1:=by
  have h4:∀r:List Source,r.length<=(r.flatMap (jc g)).length:=fun r=>by
   induction r with
   |nil=>simp
   |cons p r ih=>
    obtain⟨ty,ay,oy⟩:=p
    have e3:jc g (.mk ty ay oy)=(if 0<oy.length then [kT 4] else [dv])++(nT ty::(du ay++uK g oy)):=rfl
    rw[List.flatMap_cons,aA,List.length_cons,e3,aA,List.length_cons];omega
  have:=h4 rf
  rcases ol DI with h5|h5
  ·rw[h5] at this;simp at this;simp [this]
  ·omega
 have R2:=m8 (g:=g) (ks:=[6,7,11]) (by simp) rf (L.length+1) [.mk table as_ []] (L:=L) (a:=a+1+D.length+I.length+1+1+(du as_).length) (fun x hx=>by
  obtain⟨i,hi',rfl⟩:=List.getElem_of_mem hx
  have:=hsr (i+1) (by simpa using hi')
  have e:(Source.mk table as_ []::rf)[i+1]'(by simpa using hi')=rf[i]:=rfl
  rw[e] at this
  generalize rf[i]=y at *
  obtain⟨ty,ay,oy⟩:=y
  unfold lO at this ⊢
  simp only[Bool.and_eq_true,decide_eq_true_eq,Bool.or_eq_true] at this ⊢
  exact⟨this.1,this.2.1,this.2.2.1,.inl aa⟩) (fun x hx=>xf x (by simp [hx])) hrl DI E3
 rw[R2]
 simp only
 have R3:=vk (g:=g) hw xw G7 E2
 rw[R3]
 simp only
 have R4:=vh (g:=g) xo (L:=L) (a:=a+1+D.length+I.length+1+1+(du as_).length+(rf.flatMap (jc g)).length+(pQ g where_).length) (by rw[hO];exact t15) (by rw[hO];exact E1)
 rw[hO] at R4
 rw[R4]
 simp only
 have R5:=vj hlm hlim t16 E0
 rw[R5]
 rfl
end
def XO (e:Expr) (l:List Tok):Prop:=Itm e l (lT e).toNat/\1<=lT e/\Fs l (lT e)
theorem C5 {full:Bool} {gf:Expr->Bool} {g:Expr->List Tok} {e:Expr} (hf:rc gf e=true) (hr:Rg e) (hg:∀x,dZ x e->gf x=true->Rg x->XO x (g x)):XO e (jz full g e):=by
 have hb:∀x,dZ x e->Rg x:=fun x hx=>sc hr hx
 have hlim:∀q∈e.sub,q.lim<=9223372036854775807:=fun q hq=>(vW hr hq).1
 obtain⟨kind,op,not,val,qual,name,kids,sub⟩:=e
 have hnum:=hr.num
 obtain⟨hs,hk,hq⟩:=kp hf
 have hkid:KidsOk g kids:=fun k hk'=>by
  have hm:=aH hk'
  have e:kids.getD k zeroX=kids[k]:=by rw[List.getD_eq_getElem?_getD,aC hk'];rfl
  rw[e]
  exact hg _ (.inl hm) (hk _ hm) (hb _ (.inl hm))
 have hqs:∀q∈sub,Hg q (gb g q):=fun q hm=>vl (hq q hm) (hlim q hm) fun x hx=>hg x (.inr ⟨q,hm,hx⟩) (by
  have h1:=hq q hm
  simp only[j4,Bool.and_eq_true,List.all_eq_true] at h1
  exact h1.2 x hx) (hb _ (.inr ⟨q,hm,hx⟩))
 obtain⟨z1,z2,z3,z4⟩:=vd hs
 rcases hY hs with⟨rfl,hl,nk,ns⟩|⟨rfl,hn,hm,nk,ns⟩|⟨rfl,ho,nk,ns⟩|⟨rfl,ho,nk,ns⟩|⟨rfl,nk,ns⟩|⟨rfl,nk,ns⟩|⟨rfl,nk,ns⟩|⟨rfl,nk,ns⟩|⟨rfl,nk,ns⟩
 ·obtain rfl:=z1 rfl
  obtain rfl:=z2 rfl
  obtain⟨rfl,rfl⟩:=z4 rfl
  obtain rfl:=lj nk
  obtain rfl:=lj ns
  exact⟨BW hl hnum.2,by show (1:Int)<=9;decide,DY _⟩
 ·obtain rfl:=z1 rfl
  obtain rfl:=z2 rfl
  obtain rfl:=z3 rfl
  obtain rfl:=lj nk
  obtain rfl:=lj ns
  exact⟨BX hn hm,by show (1:Int)<=9;decide,DZ _⟩
 ·obtain rfl:=z2 rfl
  obtain rfl:=z3 rfl
  obtain⟨rfl,rfl⟩:=z4 rfl
  obtain⟨k,rfl⟩:=fK nk
  obtain rfl:=lj ns
  refine⟨E4 ho hkid,?_,?_⟩
  ·rcases ho with rfl|rfl
   ·show (1:Int)<=3;decide
   ·show (1:Int)<=8;decide
  ·rcases ho with rfl|rfl
   ·exact fZ ae (fun _=>⟨ae,fun h=>absurd h (by show ¬(4:Int)<=3;decide),ae⟩) (fun h=>absurd h ae)
   ·exact fZ ae (fun h=>absurd h ae) (fun _=>by decide)
 ·obtain rfl:=z2 rfl
  obtain rfl:=z3 rfl
  obtain⟨rfl,rfl⟩:=z4 rfl
  obtain⟨x,y,rfl⟩:=AX nk
  obtain rfl:=lj ns
  have e1:(Expr.mk 4 op false zVal z0 z0 [x,y] [])=il op.toNat x y:=by unfold il;rw[show ((op.toNat:Nat):Int)=op by omega]
  have e2:lT (Expr.mk 4 op false zVal z0 z0 [x,y] [])=lv 4 op:=rfl
  unfold XO
  rw[e2]
  have:=m5 ho.1 ho.2
  refine⟨?_,by unfold lv;rw[if_pos rfl];omega,E5 ho.1 ho.2 hkid⟩
  rw[e1]
  have e3:jz full g (il op.toNat x y)=aN full g 4 op [x,y] 0++dJ op::aN full g 4 op [x,y] 1:=by rw[<-e1];rfl
  rw[e3]
  exact C0 ho.1 ho.2 hkid
 ·obtain rfl:=z1 rfl
  obtain rfl:=z3 rfl
  obtain⟨rfl,rfl⟩:=z4 rfl
  obtain⟨x,rfl⟩:=fK nk
  obtain rfl:=lj ns
  exact⟨Ec hkid,by show (1:Int)<=4;decide,jP ((hkid.fs (k:=0) (by simp) full 5 0).mono fun _=>by decide) (fun h=>absurd h ae)⟩
 ·obtain rfl:=z1 rfl
  obtain rfl:=z3 rfl
  obtain⟨rfl,rfl⟩:=z4 rfl
  obtain⟨x,y,z,rfl⟩:=AY nk
  obtain rfl:=lj ns
  refine⟨C2 hkid,by show (1:Int)<=4;decide,?_⟩
  have hF:=(hkid.fs (k:=0) (by simp) full 6 0).mono (m:=4) fun _=>by decide
  cases not with
  |true=>exact jP (t:=kT 15) hF (fun h=>absurd h ae)
  |false=>exact jP (t:=kT 18) hF (fun h=>absurd h ae)
 ·obtain rfl:=z1 rfl
  obtain rfl:=z3 rfl
  obtain⟨rfl,rfl⟩:=z4 rfl
  obtain rfl:=lj ns
  refine⟨Ed aa aa hkid,by show (1:Int)<=4;decide,?_⟩
  have hF:=(hkid.fs (k:=0) aa full 7 0).mono (m:=4) fun _=>by decide
  cases not with
  |true=>exact jP (t:=kT 15) hF (fun h=>absurd h ae)
  |false=>exact jP (t:=kT 17) hF (fun h=>absurd h ae)
 ·obtain rfl:=z1 rfl
  obtain rfl:=z3 rfl
  obtain⟨rfl,rfl⟩:=z4 rfl
  obtain⟨x,rfl⟩:=fK nk
  obtain⟨q,rfl⟩:=fK ns
  have hqt:∃r,gb g q=kT 1::r:=by
   obtain⟨d,it,fr,wh,od,lm⟩:=q
   exact⟨_,rfl⟩
  obtain⟨r,hqt⟩:=hqt
  refine⟨C3 hkid hqt (hqs q (by simp)),by show (1:Int)<=4;decide,?_⟩
  have hF:=(hkid.fs (k:=0) (by simp) full 8 0).mono (m:=4) fun _=>by decide
  cases not with
  |true=>exact jP (t:=kT 15) hF (fun h=>absurd h ae)
  |false=>exact jP (t:=kT 17) hF (fun h=>absurd h ae)
 ·obtain rfl:=z1 rfl
  obtain rfl:=z2 rfl
  obtain rfl:=z3 rfl
  obtain⟨rfl,rfl⟩:=z4 rfl
  obtain rfl:=lj nk
  obtain⟨q,rfl⟩:=fK ns
  exact⟨Ee (hqs q (by simp)),by show (1:Int)<=9;decide,fZ ae (fun _=>⟨ae,fun _=>by decide,ae⟩) (fun h=>absurd h ae)⟩
theorem zS (full:Bool) (e:Expr):fmE e=true->Rg e->XO e (dL full e):=
 jl (F1:=rc) (F2:=xy) (F3:=jz full) (P:=fun e f n t=>f=true->Rg e->XO e t) (fun e gf gn g hg hf hr=>C5 hf hr hg) e
def SameK (L l:List Tok):Prop:=L.map (fun t=>(t.kind,t.text))=l.map fun t=>(t.kind,t.text)
theorem SameK.len {L l:List Tok} (h:SameK L l):L.length=l.length:=by have:=congrArg List.length h;simpa using this
theorem SameK.has {L l:List Tok} (h:SameK L l):fu L 0 l:=by
 have key:∀(l:List Tok) (a:Nat),(L.map fun t=>(t.kind,t.text)).drop a=l.map (fun t=>(t.kind,t.text))->fu L a l:=by
  intro l
  induction l with
  |nil=>intro _ _;trivial
  |cons t r ih=>
   intro a h
   have h1:(L.map fun t=>(t.kind,t.text))[a]?=some (t.kind,t.text):=by
    have:=congrArg (fun x=>x[0]?) h
    simpa [List.getElem?_drop] using this
   refine⟨?_,ih (a+1) ?_⟩
   ·unfold hd;rw[<-List.getElem?_map];exact h1
   ·have:=congrArg List.tail h
    rw[List.tail_drop] at this
    simpa using this
 exact key l 0 (by rw[List.drop_zero];exact h)
theorem SameK.end_ {L l:List Tok} (h:SameK L l):hd L (0+l.length)=none:=by
 unfold hd
 rw[List.getElem?_eq_none_iff.2 (by have:=h.len;omega)];rfl
theorem zT {L:List Tok} {a:Nat} (h:L.length=a):nR L (P0 a) = -1:=by unfold nR;rw[if_pos ⟨rfl,by show L.length<=a;omega⟩]
theorem zU {α:Type} {L:List Tok} {z x:α} {a:Nat} (h:L.length=a):lb L z (some (x,P0 a))=(x,-1):=by
 unfold lb
 simp only[zT h]
 rw[if_neg aa]
theorem vm {full:Bool} {e:Expr} {L:List Tok} (hf:fmE e=true) (hr:Rg e) (h:SameK L (dL full e)):cI L=(e,-1):=by
 obtain⟨h1,h2,_⟩:=zS full e hf hr
 unfold cI
 have:bA L 1 s0=some (e,P0 (0+(dL full e).length)):=(h1 L 0 h.has 1 (Nat.le_refl 1) aa).1 (by rw[h.end_];exact wO 1)
 rw[this]
 exact zU (by rw[h.len];omega)
theorem Gq {x:ByteArray} {l:List UInt8} (h:x.data.toList=l):x=⟨l.toArray⟩:=by
 obtain⟨⟨xs⟩⟩:=x
 have h:xs=l:=h
 rw[h]
def tb (t:Tok):List UInt8:=(BM t).data.toList
section
variable {L:List Tok}
def Cn {α:Type} (L:List Tok) (m:PM α) (pr:α->List Tok):Prop:=∀s x s1,m s=some (x,s1)->s1.b=false->Su L (pr x) s.a s1.a
def sq {α:Type} (p0:List Tok) (pr:α->List Tok) (l:List α):List Tok:=bB (fun i=>(if i=0 then p0 else [dv])++nX l pr i) l.length
theorem vn {α:Type} (p0:List Tok) (pr:α->List Tok) (x:α):sq p0 pr [x]=p0++pr x:=by
 unfold sq bB nX
 simp
theorem C6 {α:Type} (p0:List Tok) (pr:α->List Tok) {l:List α} (x:α) (h:l≠[]):sq p0 pr (l++[x])=sq p0 pr l++dv::pr x:=by
 unfold sq
 rw[aA,List.length_singleton,dK]
 have hp:0<l.length:=List.length_pos_iff.2 h
 have e1:bB (fun i=>(if i=0 then p0 else [dv])++nX (l++[x]) pr i) l.length=bB (fun i=>(if i=0 then p0 else [dv])++nX l pr i) l.length:=gV fun i hi=>by
  unfold nX
  rw[List.getElem?_append_left hi]
 have e2:nX (l++[x]) pr l.length=pr x:=by
  unfold nX
  rw[List.getElem?_append_right (Nat.le_refl _),Nat.sub_self];rfl
 rw[e1,e2,if_neg aa];rfl
theorem Cn.sep {α:Type} {m:PM α} {pr:α->List Tok} (p0:List Tok) (ok:OkM (L:=L) m) (hm:Cn L m pr):∀(n:Nat) (l:List α) (s:PS) (x:List α) (s1:PS) (a:Nat),gy L m n l s=some (x,s1)->s1.b=false->l≠[]->Su L (sq p0 pr l) a s.a->Su L (sq p0 pr x) a s1.a
 |0,_,_,_,_,_,h,_,_,_=>by cases h
 |n+1,l,s,x,s1,a,h,hb,hl,hs=>by
  rw[gy] at h
  split at h
  ·rename_i hc
   split at h
   ·cases h
   ·rename_i y t hy
    have hb2:=(OkM.sep ok _ _ _ _ _ h).nb hb
    have h1:Su L [dv] s.a (s.a+1):=oU hc
    have h2:Su L (pr y) (s.a+1) t.a:=hm _ _ _ hy hb2
    exact Cn.sep p0 ok hm n _ _ _ _ _ h hb (by simp) (by rw[C6 _ _ _ hl];exact hs.app (h1.app h2))
  ·injection h with h;injection h with e1 e2
   rw[<-e1,<-e2];exact hs
theorem zW {op lv:Nat} (h:op∈eU lv):bl op=lv/\1<=op/\op<=14:=by
 unfold eU at h
 split at h
 ·rename_i e;simp at h;subst h e;decide
 split at h
 ·rename_i e;simp at h;subst h e;decide
 split at h
 ·rename_i e;simp at h;subst e
  rcases h with rfl|rfl|rfl|rfl|rfl|rfl<;>decide
 split at h
 ·rename_i e;simp at h;subst h e;decide
 split at h
 ·rename_i e;simp at h;subst e
  rcases h with rfl|rfl<;>decide
 split at h
 ·rename_i e;simp at h;subst e
  rcases h with rfl|rfl|rfl<;>decide
 ·cases h
theorem zX {op:Nat} (x y:Expr):dL false (il op x y)=wr (nd 4 op 0) x++dJ op::wr (nd 4 op 1) y:=by
 unfold il
 rw[jb (fun _ _ _=>⟨by simp,fun _=>by simp,fun h=>by omega⟩)]
 simp only[jz,lE,if_true,show ¬((4:Int)=1) by decide,show ¬((4:Int)=2) by decide,show ¬((4:Int)=3) by decide,show ¬((4:Int)=9) by decide,if_false]
 rfl
theorem zY {op lv:Nat} (h:op∈eU lv) (x y:Expr):lT (il op x y)=lv:=by
 show Go.Proofs.YtoegnikpokgbfaaGreatDoor.lv 4 op=lv
 unfold Go.Proofs.YtoegnikpokgbfaaGreatDoor.lv
 rw[if_pos rfl];exact (zW h).1
theorem Cn.chain {g:PM Expr} {lv:Nat} (h4:lv≠4) (ok:OkM (L:=L) g) (hg:Cn L g (wr (lv+1:Nat))):∀(n:Nat) (e:Expr) (s:PS) (x:Expr) (s1:PS) (a:Nat),cg L g lv n e s=some (x,s1)->s1.b=false->Su L (wr lv e) a s.a->Su L (wr lv x) a s1.a
 |0,_,_,_,_,_,h,_,_=>by cases h
 |n+1,e,s,x,s1,a,h,hb,hs=>by
  rw[cg] at h
  split at h
  ·injection h with h;injection h with e1 e2
   rw[<-e1,<-e2];exact hs
  ·rename_i ho
   split at h
   ·cases h
   ·rename_i y t hy
    have hb2:=(OkM.chain ok lv _ _ _ _ _ h).nb hb
    obtain⟨hh,hm⟩:=mK (L:=L) (s:=s) (l:=eU lv) ho
    have hop:=zW hm
    have hm':d5 L s lv∈eU lv:=hm
    have h1:Su L [dJ (d5 L s lv)] s.a (s.a+1):=Dn hh hop.2.2
    have h2:Su L (wr (lv+1:Nat) y) (s.a+1) t.a:=hg _ _ _ hy hb2
    have hlv:Go.Proofs.YtoegnikpokgbfaaGreatDoor.lv 4 (d5 L s lv:Nat)=lv:=by
     unfold Go.Proofs.YtoegnikpokgbfaaGreatDoor.lv
     rw[if_pos rfl];exact hop.1
    have hb9:=m5 (op:=(d5 L s lv:Nat)) (by have:=hop.2.1;show (1:Int)<=((gR L s (eU lv):Nat):Int);omega) (by have:=hop.2.2;show ((gR L s (eU lv):Nat):Int)<=14;omega)
    have e9:bl (d5 L s lv:Nat)=lv:=hop.1
    have n0:nd 4 (d5 L s lv:Nat) 0=lv:=by
     unfold nd
     rw[hlv,if_neg aa,if_pos rfl,if_neg aa,if_pos rfl]
    have n1:nd 4 (d5 L s lv:Nat) 1=(lv+1:Nat):=by
     unfold nd
     rw[hlv,if_neg aa,if_pos rfl,if_neg aa,if_neg aa];omega
    refine Cn.chain h4 ok hg n _ _ _ _ _ h hb ?_
    rw[ju (by rw[zY hm'];exact Int.le_refl _),zX,n0,n1]
    exact hs.app (h1.app h2)
theorem Dp {op:Int} (x:Expr):dL false (nB op x)=dJ op::wr (nd 3 op 0) x:=by
 unfold nB
 rw[jb (fun _ _ _=>⟨by simp,fun h=>by omega,fun h=>by omega⟩)]
 simp only[jz,lE,if_true,show ¬((3:Int)=1) by decide,show ¬((3:Int)=2) by decide,if_false]
 rfl
theorem Gt {n:Bool} (x:Expr):dL false (cH 5 n [x] [])=wr 5 x++kT 16::(cm n++[kT 20]):=by
 unfold cH
 rw[jb (fun _ _ _=>⟨by simp,fun h=>by omega,fun h=>by omega⟩)]
 simp only[jz,lE,if_true,show ¬((5:Int)=1) by decide,show ¬((5:Int)=2) by decide,show ¬((5:Int)=3) by decide,show ¬((5:Int)=4) by decide,show ¬((5:Int)=9) by decide,if_false]
 rfl
theorem Gu {n:Bool} (x y z:Expr):dL false (cH 6 n [x,y,z] [])=wr 5 x++(cm n++kT 18::(wr 5 y++kT 13::wr 5 z)):=by
 unfold cH
 rw[jb (fun _ _ _=>⟨by simp,fun h=>by omega,fun h=>by simp⟩)]
 simp only[jz,lE,if_true,show ¬((6:Int)=1) by decide,show ¬((6:Int)=2) by decide,show ¬((6:Int)=3) by decide,show ¬((6:Int)=4) by decide,show ¬((6:Int)=5) by decide,show ¬((6:Int)=9) by decide,if_false]
 rfl
theorem zZ {n:Bool} (x:Expr) (q:Query):dL false (cH 8 n [x] [q])=wr 5 x++(cm n++kT 17::jj::(gb (dL false) q++[jy])):=by
 unfold cH
 rw[jb (fun _ _ _=>⟨by simp,fun h=>by omega,fun h=>by omega⟩)]
 simp only[jz,lE,if_true,show ¬((8:Int)=1) by decide,show ¬((8:Int)=2) by decide,show ¬((8:Int)=3) by decide,show ¬((8:Int)=4) by decide,show ¬((8:Int)=5) by decide,show ¬((8:Int)=6) by decide,show ¬((8:Int)=9) by decide,if_false]
 rfl
theorem Gv {n:Bool} (x:Expr) (l:List Expr):dL false (cH 7 n (x::l) [])=wr 5 x++(cm n++kT 17::jj::(sq [] (wr 1) l++[jy])):=by
 unfold cH
 rw[jb (fun _ _ _=>⟨by simp,fun h=>by omega,fun h=>by omega⟩)]
 simp only[jz,lE,show ¬((7:Int)=1) by decide,show ¬((7:Int)=2) by decide,show ¬((7:Int)=3) by decide,show ¬((7:Int)=4) by decide,show ¬((7:Int)=5) by decide,show ¬((7:Int)=6) by decide,show ¬((7:Int)=8) by decide,show ¬((7:Int)=9) by decide,if_false]
 have e:bB (sI false (dL false) 7 0 (x::l)) ((x::l).length-1)=sq [] (wr 1) l:=by
  unfold sq
  rw[List.length_cons,Nat.add_sub_cancel]
  refine gV fun i hi=>?_
  unfold sI
  rw[lE]
  have e1:(x::l).getD (i+1) zeroX=l[i]:=by
   rw[List.getD_eq_getElem?_getD,List.getElem?_cons_succ,aC hi];rfl
  have e2:nd 7 0 (i+1)=1:=by
   unfold nd
   rw[if_neg ae,if_neg ae,if_neg ae,if_pos ⟨rfl,aa⟩]
  rw[e1,e2,ef hi]
  unfold jB
  by_cases h0:i=0
  ·rw[if_neg aa,if_pos h0]
  ·rw[if_pos aa,if_neg h0]
 rw[e]
 rfl
theorem Gw (q:Query):dL false (cH 9 false [] [q])=kT 19::jj::(gb (dL false) q++[jy]):=by
 unfold cH
 rw[jb (fun _ _ h=>absurd rfl h)]
 simp only[jz,if_true,show ¬((9:Int)=1) by decide,show ¬((9:Int)=2) by decide,show ¬((9:Int)=3) by decide,if_false]
 rfl
theorem Eh (v:Val):dL false (eE v)=[gK v]:=by
 unfold eE
 rw[jb (fun h=>absurd rfl h)]
 simp only[jz,if_true]
theorem A0 (q n:ByteArray):dL false (qp q n)=cC q++[nT n]:=by
 unfold qp
 rw[jb (fun _ h=>absurd rfl h)]
 simp only[jz,if_true,show ¬((2:Int)=1) by decide,if_false]
theorem A1 {x:ByteArray} (h:jI x=true):dX (j8 x)=x:=by
 unfold jI at h
 unfold j8
 obtain⟨m,hm⟩:=Option.isSome_iff_exists.1 h
 have h2:=(iE.1 hm).2
 rw[hm]
 show dX ((m:Nat):Int)=x
 rw[Gq (x:=x) h2.symm]
 show (⟨(Go.Lib.itoa ((m:Nat):Int)).toArray⟩:ByteArray)=_
 rw[oN]
end
section
variable {L:List Tok}
theorem Dq {s:PS} (h:(asM L s).2.b=false):Su L (du (asM L s).1) s.a (asM L s).2.a:=by
 unfold asM at h ⊢
 split
 ·rename_i hc
  rw[if_pos hc] at h
  have h1:=zQ h 0
  have h2:Su L ([kT 12]++[nT (mText L 2 (adv s)).1]) s.a (mText L 2 (adv s)).2.a:=(ep hc).app h1
  unfold du
  split
  ·exact Su.nil h2.1
  ·exact h2
 ·exact Su.nil (Nat.le_refl _)
theorem wS {q:ByteArray} {l:List Tok} {a b:Nat} (h:Su L ([nT q]++([Hl]++l)) a b):Su L (cC q++l) a b:=by
 unfold cC
 split
 ·exact h.sub ((List.sublist_append_right _ _).trans (List.sublist_append_right _ _))
 ·exact h
theorem wU {s:PS} (h:kH L s 3=true):Su L [iT (j8 (bM L s))] s.a (s.a+1):=by
 have h1:=yg h 0
 have h2:jI (bM L s)=true:=E7 h
 unfold iT
 rw[A1 h2];exact h1
variable {f:Nat->PM Expr} {q:PM Query}
theorem Cn.prim (okf:∀lv,OkM (L:=L) (f lv)) (okq:OkM (L:=L) q) (hf:∀lv:Nat,Cn L (f lv) (wr lv)) (hq:Cn L q (gb (dL false))):Cn L (dA L f q) (wr (9:Nat)):=fun s x s1 h hb=>by
 have l9:∀v,wr ((9:Nat):Int) (eE v)=[gK v]:=fun v=>by rw[ju (show (9:Int)<=lv 1 0 by decide),Eh]
 unfold dA at h
 simp only at h
 split at h
 ·rename_i hc
  injection h with h;injection h with e1 e2;subst e1 e2
  rw[l9];exact wU hc
 split at h
 ·rename_i hc
  injection h with h;injection h with e1 e2;subst e1 e2
  rw[l9];exact yg hc 0
 split at h
 ·rename_i hc
  injection h with h;injection h with e1 e2;subst e1 e2
  rw[l9];exact ep hc
 split at h
 ·rename_i hc
  injection h with h;injection h with e1 e2;subst e1 e2
  rw[l9];exact ep hc
 split at h
 ·rename_i hc
  injection h with h;injection h with e1 e2;subst e1 e2
  rw[l9];exact ep hc
 split at h
 ·rename_i hc
  split at h
  ·rename_i hd
   injection h with h;injection h with e1 e2;subst e1 e2
   rw[ju (show (9:Int)<=lv 2 0 by decide),A0]
   exact wS ((yg hc 0).app ((oU hd).app (zQ hb 0)))
  ·injection h with h;injection h with e1 e2;subst e1 e2
   rw[ju (show (9:Int)<=lv 2 0 by decide),A0]
   exact yg hc 0
 split at h
 ·rename_i hc
  split at h
  ·cases h
  ·rename_i e t ht
   injection h with h;injection h with e1 e2;subst e1 e2
   have hb2:=(Ok.must (L:=L) (s:=t) (c:=cu L t 41) fun h=>bh h).nb hb
   have h1:Su L (wr (1:Nat) e) (s.a+1) t.a:=hf 1 _ _ _ ht hb2
   exact ((oU hc).app ((h1.sub oV).app (gC hb))).sub (E9 _ _)
 split at h
 ·rename_i hc
  split at h
  ·cases h
  ·rename_i y t ht
   injection h with h;injection h with e1 e2;subst e1 e2
   have hb2:=(Ok.must (L:=L) (s:=t) (c:=cu L t 41) fun h=>bh h).nb hb
   have hb3:=(okq _ _ _ ht).nb hb2
   rw[ju (show (9:Int)<=lv 9 0 by decide),Gw]
   have h1:Su L (gb (dL false) y) (must (cu L (adv s) 40) (adv s)).a t.a:=hq _ _ _ ht hb2
   exact (ep hc).app ((gC hb3).app (h1.app (gC hb)))
 ·injection h with h;injection h with e1 e2;subst e1 e2
  cases hb
theorem Cn.ors (okf:∀lv,OkM (L:=L) (f lv)) (okq:OkM (L:=L) q) (hf:∀lv:Nat,Cn L (f lv) (wr lv)) (hq:Cn L q (gb (dL false))):Cn L (lX L f) (sq [] (wr 1)):=fun s x s1 h hb=>by
 unfold lX at h
 split at h
 ·cases h
 ·rename_i e t ht
  have hb2:=(OkM.sep (okf 1) _ _ _ _ _ h).nb hb
  have h1:Su L (wr (1:Nat) e) s.a t.a:=hf 1 _ _ _ ht hb2
  refine Cn.sep [] (okf 1) (hf 1) _ _ _ _ _ s.a h hb (by simp) ?_
  rw[vn];exact h1
theorem Cn.inn (okf:∀lv,OkM (L:=L) (f lv)) (okq:OkM (L:=L) q) (hf:∀lv:Nat,Cn L (f lv) (wr lv)) (hq:Cn L q (gb (dL false))) (e:Expr) (n:Bool) (s:PS) (x:Expr) (s1:PS) (a:Nat) (h:v7 L f q e n s=some (x,s1)) (hb:s1.b=false) (hs:Su L (wr 5 e++(cm n++[kT 17])) a s.a):Su L (wr (4:Nat) x) a s1.a:=by
 unfold v7 at h
 simp only at h
 split at h
 ·split at h
  ·cases h
  ·rename_i y t ht
   injection h with h;injection h with e1 e2;subst e1 e2
   have hb2:=(Ok.must (L:=L) (s:=t) (c:=cu L t 41) fun h=>bh h).nb hb
   have hb3:=(okq _ _ _ ht).nb hb2
   rw[ju (show (4:Int)<=lv 8 0 by decide),zZ]
   have h1:Su L (gb (dL false) y) (must (cu L s 40) s).a t.a:=hq _ _ _ ht hb2
   have:=hs.app ((gC hb3).app (h1.app (gC hb)))
   simpa [bw,jj,jy] using this
 ·split at h
  ·cases h
  ·rename_i l t ht
   injection h with h;injection h with e1 e2;subst e1 e2
   have hb2:=(Ok.must (L:=L) (s:=t) (c:=cu L t 41) fun h=>bh h).nb hb
   have hb3:=(OkM.ors okf _ _ _ ht).nb hb2
   rw[ju (show (4:Int)<=lv 7 0 by decide),Gv]
   have h1:Su L (sq [] (wr 1) l) (must (cu L s 40) s).a t.a:=Cn.ors okf okq hf hq _ _ _ ht hb2
   have:=hs.app ((gC hb3).app (h1.app (gC hb)))
   simpa [bw,jj,jy] using this
theorem Cn.cmpT (okf:∀lv,OkM (L:=L) (f lv)) (okq:OkM (L:=L) q) (hf:∀lv:Nat,Cn L (f lv) (wr lv)) (hq:Cn L q (gb (dL false))) (e:Expr) (s:PS) (x:Expr) (s1:PS) (a:Nat) (h:cmpT L f q e s=some (x,s1)) (hb:s1.b=false) (hs:Su L (wr 5 e) a s.a):Su L (wr (4:Nat) x) a s1.a:=by
 unfold Go.Proofs.YtoegnikpokgbfaaGreatDoor.cmpT at h
 simp only at h
 split at h
 ·rename_i hc
  injection h with h;injection h with e1 e2;subst e1 e2
  rw[ju (show (4:Int)<=lv 5 0 by decide),Gt]
  exact hs.app ((ep hc).app (oh.app (kJ hb)))
 ·have hn:Su L (cm (az L s 15)) s.a (tkIf (az L s 15) s).a:=oh
  split at h
  ·rename_i hc
   split at h
   ·cases h
   rename_i y t ht
   split at h
   ·cases h
   rename_i z u hu
   injection h with h;injection h with e1 e2;subst e1 e2
   have b2:=(okf 5 _ _ _ hu).nb hb
   have b3:=(Ok.must (L:=L) (s:=t) (c:=az L t 13) fun h=>aB h).nb b2
   rw[ju (show (4:Int)<=lv 6 0 by decide),Gu]
   have h1:Su L (wr (5:Nat) y) ((tkIf (az L s 15) s).a+1) t.a:=hf 5 _ _ _ ht b3
   have h2:Su L (wr (5:Nat) z) (must (az L t 13) t).a u.a:=hf 5 _ _ _ hu hb
   exact hs.app (hn.app ((ep hc).app (h1.app ((kJ b2).app h2))))
  split at h
  ·rename_i hc
   exact Cn.inn okf okq hf hq e _ _ _ _ a h hb (hs.app (hn.app (ep hc)))
  ·injection h with h;injection h with e1 e2;subst e1 e2
   simp only[Bool.or_eq_false_iff] at hb
   have et:tkIf (az L s 15) s=s:=by rw[hb.2];rfl
   show Su L (wr (4:Nat) e) a (tkIf (az L s 15) s).a
   rw[et]
   exact hs.sub (rA ae _)
theorem Cn.cmp (okf:∀lv,OkM (L:=L) (f lv)) (okq:OkM (L:=L) q) (hf:∀lv:Nat,Cn L (f lv) (wr lv)) (hq:Cn L q (gb (dL false))):Cn L (ly L f q) (wr (4:Nat)):=fun s x s1 h hb=>by
 unfold ly at h
 split at h
 ·cases h
 ·rename_i e t ht
  split at h
  ·have b2:=(OkM.cmpT okf okq _ _ _ _ h).nb hb
   have h1:Su L (wr (5:Nat) e) s.a t.a:=hf 5 _ _ _ ht b2
   exact Cn.cmpT okf okq hf hq e _ _ _ s.a h hb h1
  ·rename_i ho
   split at h
   ·cases h
   ·rename_i y u hu
    injection h with h;injection h with e1 e2;subst e1 e2
    have b1:=(okf 5 _ _ _ hu).nb hb
    have b2:=(Ok.adv (L:=L) (gU ho)).nb b1
    obtain⟨hh,hm⟩:=mK (L:=L) (s:=t) (l:=eU 4) ho
    have hop:=zW hm
    have h1:Su L (wr (5:Nat) e) s.a t.a:=hf 5 _ _ _ ht b2
    have h2:Su L [dJ (d5 L t 4)] t.a (t.a+1):=Dn hh hop.2.2
    have h3:Su L (wr (5:Nat) y) (t.a+1) u.a:=hf 5 _ _ _ hu hb
    have hlv:lv 4 (d5 L t 4:Nat)=4:=by
     unfold lv
     rw[if_pos rfl];exact hop.1
    have nk:∀k,nd 4 (d5 L t 4:Nat) k=5:=fun k=>by
     unfold nd
     rw[hlv,if_neg ae,if_pos rfl,if_pos rfl]
    rw[ju (show ((4:Nat):Int)<=lT (il _ _ _) by rw[zY (show d5 L t 4∈eU 4 from hm)];exact Int.le_refl _),zX,nk,nk]
    exact h1.app (h2.app h3)
theorem Cn.stepE (okf:∀lv,OkM (L:=L) (f lv)) (okq:OkM (L:=L) q) (hf:∀lv:Nat,Cn L (f lv) (wr lv)) (hq:Cn L q (gb (dL false))) (lv:Nat):Cn L (stepE L f q lv) (wr lv):=fun s x s1 h hb=>by
 unfold Go.Proofs.YtoegnikpokgbfaaGreatDoor.stepE at h
 split at h
 ·rename_i e3
  subst e3
  split at h
  ·rename_i hc
   split at h
   ·cases h
   ·rename_i y t ht
    injection h with h;injection h with e1 e2;subst e1 e2
    rw[ju (show (3:Int)<=Go.Proofs.YtoegnikpokgbfaaGreatDoor.lv 3 15 by decide),Dp]
    have h1:Su L (wr (3:Nat) y) (s.a+1) t.a:=hf 3 _ _ _ ht hb
    have h2:Su L [dJ 15] s.a (s.a+1):=ep hc
    exact h2.app h1
  ·exact (hf 4 _ _ _ h hb).sub (rA ae _)
 split at h
 ·rename_i e4
  subst e4
  exact Cn.cmp okf okq hf hq _ _ _ h hb
 rename_i n3 n4
 split at h
 ·rename_i e8
  subst e8
  split at h
  ·rename_i hc
   split at h
   ·cases h
   ·rename_i y t ht
    injection h with h;injection h with e1 e2;subst e1 e2
    rw[ju (show (8:Int)<=Go.Proofs.YtoegnikpokgbfaaGreatDoor.lv 3 16 by decide),Dp]
    have h1:Su L (wr (8:Nat) y) (s.a+1) t.a:=hf 8 _ _ _ ht hb
    have h2:Su L [dJ 16] s.a (s.a+1):=oU hc
    exact h2.app h1
  ·exact (hf 9 _ _ _ h hb).sub (rA ae _)
 split at h
 ·rename_i e9
  subst e9
  exact Cn.prim okf okq hf hq _ _ _ h hb
 ·split at h
  ·cases h
  ·rename_i e t ht
   have b2:=(OkM.chain (okf _) lv _ _ _ _ _ h).nb hb
   have h1:Su L (wr (lv+1:Nat) e) s.a t.a:=hf (lv+1) _ _ _ ht b2
   exact Cn.chain n4 (okf _) (hf (lv+1)) _ _ _ _ _ s.a h hb (h1.sub (rA aa _))
theorem Cn.item (okf:∀lv,OkM (L:=L) (f lv)) (okq:OkM (L:=L) q) (hf:∀lv:Nat,Cn L (f lv) (wr lv)) (hq:Cn L q (gb (dL false))):Cn L (eb L f) (df (dL false)):=fun s x s1 h hb=>by
 unfold eb at h
 split at h
 ·rename_i hc
  injection h with h;injection h with e1 e2;subst e1 e2
  exact oU hc
 split at h
 ·rename_i hc
  injection h with h;injection h with e1 e2;subst e1 e2
  obtain⟨a1,a2,a3⟩:=sY hc
  have h2:Su L [Hl] (s.a+1) (s.a+1+1):=zP a2 0
  have h3:Su L [DB] (s.a+1+1) (s.a+1+1+1):=zP (j:=2) a3 0
  exact wS ((yg a1 0).app (h2.app h3))
 split at h
 ·cases h
 ·rename_i e t ht
  injection h with h;injection h with e1 e2;subst e1 e2
  have b2:=(Ok.asM (L:=L) t).nb hb
  have h1:Su L (wr (1:Nat) e) s.a t.a:=hf 1 _ _ _ ht b2
  exact (h1.sub oV).app (Dq hb)
theorem vq {s:PS} (h:(sourceM L s).2.b=false):Su L ([nT (mText L 2 s).1]++du (asM L (mText L 2 s).2).1) s.a (sourceM L s).2.a:=by
 have h1:(asM L (mText L 2 s).2).2.b=false:=h
 have b2:=(Ok.asM (L:=L) (mText L 2 s).2).nb h1
 exact (zQ b2 0).app (Dq h1)
theorem mL {g:Expr->List Tok} {l:List Source} (x:Source):bB (fI g (l++[x])) (l++[x]).length=bB (fI g l) l.length++fU g l.length x:=by
 rw[aA,List.length_singleton,dK]
 have e1:bB (fI g (l++[x])) l.length=bB (fI g l) l.length:=gV fun i hi=>by
  unfold fI nX
  rw[List.getElem?_append_left hi]
 have e2:fI g (l++[x]) l.length=fU g l.length x:=by
  unfold fI nX
  rw[List.getElem?_append_right (Nat.le_refl _),Nat.sub_self];rfl
 rw[e1,e2]
theorem Cn.sources (okf:∀lv,OkM (L:=L) (f lv)) (okq:OkM (L:=L) q) (hf:∀lv:Nat,Cn L (f lv) (wr lv)) (hq:Cn L q (gb (dL false))):∀(n:Nat) (l:List Source) (s:PS) (x:List Source) (s1:PS) (a:Nat),cj L f n l s=some (x,s1)->s1.b=false->l≠[]->Su L (bB (fI (dL false) l) l.length) a s.a->Su L (bB (fI (dL false) x) x.length) a s1.a
 |0,_,_,_,_,_,h,_,_,_=>by cases h
 |n+1,l,s,x,s1,a,h,hb,hl,hs=>by
  have hp:0<l.length:=List.length_pos_iff.2 hl
  rw[cj] at h
  simp only at h
  split at h
  ·rename_i hc
   have b1:=(OkM.sources okf _ _ _ _ _ h).nb hb
   refine Cn.sources okf okq hf hq n _ _ _ _ a h hb (by simp) ?_
   rw[mL]
   have e:fU (dL false) l.length (sourceM L (adv s)).1=[dv]++([nT (mText L 2 (adv s)).1]++du (asM L (mText L 2 (adv s)).2).1):=by
    show (if 0<l.length then (if 0<([]:List Expr).length then [kT 4] else [dv]) else [])++(nT _::(du _++[]))=_
    rw[if_pos hp,if_neg (by simp),List.append_nil];rfl
   rw[e]
   have h1:Su L [dv] s.a (s.a+1):=oU hc
   have h2:Su L ([nT (mText L 2 (adv s)).1]++du (asM L (mText L 2 (adv s)).2).1) (s.a+1) (sourceM L (adv s)).2.a:=vq b1
   exact hs.app (h1.app h2)
  split at h
  ·rename_i hc
   split at h
   ·cases h
   ·rename_i y t ht
    have b1:=(OkM.sources okf _ _ _ _ _ h).nb hb
    have b2:=(okf 1 _ _ _ ht).nb b1
    have b3:=(Ok.must (L:=L) (s:=(sourceM L (adv s)).2) (c:=az L (sourceM L (adv s)).2 5) fun h=>aB h).nb b2
    refine Cn.sources okf okq hf hq n _ _ _ _ a h hb (by simp) ?_
    rw[mL]
    have e:fU (dL false) l.length ((sourceM L (adv s)).1.withOn [y])=[kT 4]++(([nT (mText L 2 (adv s)).1]++du (asM L (mText L 2 (adv s)).2).1)++([kT 5]++dL false y)):=by
     show (if 0<l.length then (if 0 < [y].length then [kT 4] else [dv]) else [])++(nT _::(du _++(kT 5::dL false y)))=_
     rw[if_pos hp,if_pos (by simp)];rfl
    rw[e]
    have h1:Su L [kT 4] s.a (s.a+1):=ep hc
    have h2:Su L ([nT (mText L 2 (adv s)).1]++du (asM L (mText L 2 (adv s)).2).1) (s.a+1) (sourceM L (adv s)).2.a:=vq b3
    have h3:Su L (wr (1:Nat) y) (must (az L (sourceM L (adv s)).2 5) (sourceM L (adv s)).2).a t.a:=hf 1 _ _ _ ht b1
    exact hs.app (h1.app (h2.app ((kJ b2).app (h3.sub oV))))
  ·injection h with h;injection h with e1 e2
   rw[<-e1,<-e2];exact hs
theorem Cn.wher (okf:∀lv,OkM (L:=L) (f lv)) (okq:OkM (L:=L) q) (hf:∀lv:Nat,Cn L (f lv) (wr lv)) (hq:Cn L q (gb (dL false))):Cn L (eF L f) (pQ (dL false)):=fun s x s1 h hb=>by
 unfold eF at h
 split at h
 ·rename_i hc
  split at h
  ·cases h
  ·rename_i y t ht
   injection h with h;injection h with e1 e2;subst e1 e2
   have h1:Su L (wr (1:Nat) y) (s.a+1) t.a:=hf 1 _ _ _ ht hb
   exact (ep hc).app (h1.sub oV)
 ·injection h with h;injection h with e1 e2;subst e1 e2
  exact Su.nil (Nat.le_refl _)
theorem Cn.sort (okf:∀lv,OkM (L:=L) (f lv)) (okq:OkM (L:=L) q) (hf:∀lv:Nat,Cn L (f lv) (wr lv)) (hq:Cn L q (gb (dL false))):Cn L (eG L f) (iv (dL false)):=fun s x s1 h hb=>by
 unfold eG at h
 split at h
 ·cases h
 ·rename_i y t ht
  split at h
  ·rename_i hc
   injection h with h;injection h with e1 e2;subst e1 e2
   have b2:=(Ok.adv (L:=L) (aB hc)).nb hb
   have h1:Su L (wr (1:Nat) y) s.a t.a:=hf 1 _ _ _ ht b2
   exact (h1.sub oV).app (Su.nil (Nat.le_succ _))
  ·injection h with h;injection h with e1 e2;subst e1 e2
   have b2:=(Ok.tkIf (L:=L) (s:=t) (c:=az L t 10) fun h=>aB h).nb hb
   have h1:Su L (wr (1:Nat) y) s.a t.a:=hf 1 _ _ _ ht b2
   exact (h1.sub oV).app oh
theorem Cn.order (okf:∀lv,OkM (L:=L) (f lv)) (okq:OkM (L:=L) q) (hf:∀lv:Nat,Cn L (f lv) (wr lv)) (hq:Cn L q (gb (dL false))):Cn L (eH L f) (fun od=>bB (fJ (dL false) od) od.length):=fun s x s1 h hb=>by
 unfold eH at h
 simp only at h
 split at h
 ·rename_i hc
  split at h
  ·cases h
  ·rename_i y t ht
   have b1:=(OkM.sep (OkM.sort okf) _ _ _ _ _ h).nb hb
   have b2:=(OkM.sort okf _ _ _ ht).nb b1
   refine Cn.sep [kT 7,kT 8] (OkM.sort okf) (Cn.sort okf okq hf hq) _ _ _ _ _ s.a h hb (by simp) ?_
   rw[vn]
   have h1:Su L ([kT 7]++[kT 8]) s.a (must (az L (adv s) 8) (adv s)).a:=(ep hc).app (kJ b2)
   exact h1.app (Cn.sort okf okq hf hq _ _ _ ht b1)
 ·injection h with h;injection h with e1 e2;subst e1 e2
  exact Su.nil (Nat.le_refl _)
theorem A2 {s:PS} (h:(limitM L s).2.b=false):Su L (jk (limitM L s).1) s.a (limitM L s).2.a:=by
 unfold limitM at h ⊢
 split
 ·rename_i hc
  rw[if_pos hc] at h
  have h0:(mText L 3 (adv s)).2.b=false:=h
  obtain⟨h1,h2⟩:=th h0
  have e:mNum L (adv s)=(j8 (bM L (adv s)),adv (adv s)):=by unfold mNum;rw[h2]
  rw[e]
  have h3:Su L ([kT 11]++[iT (j8 (bM L (adv s)))]) s.a (s.a+1+1):=(ep hc).app (wU h1)
  unfold jk
  split
  ·exact h3
  ·exact Su.nil h3.1
 ·exact Su.nil (Nat.le_refl _)
theorem Cn.items (okf:∀lv,OkM (L:=L) (f lv)) (okq:OkM (L:=L) q) (hf:∀lv:Nat,Cn L (f lv) (wr lv)) (hq:Cn L q (gb (dL false))):Cn L (eV L f) (fun it=>bB (dC (dL false) it) it.length):=fun s x s1 h hb=>by
 unfold eV at h
 split at h
 ·cases h
 ·rename_i y t ht
  have b1:=(OkM.sep (OkM.item okf) _ _ _ _ _ h).nb hb
  have e:∀it,bB (dC (dL false) it) it.length=sq [] (df (dL false)) it:=fun it=>gV fun i _=>by
   unfold dC jB
   by_cases h0:i=0
   ·rw[if_neg aa,if_pos h0]
   ·rw[if_pos aa,if_neg h0]
  simp only[e]
  refine Cn.sep [] (OkM.item okf) (Cn.item okf okq hf hq) _ _ _ _ _ s.a h hb (by simp) ?_
  rw[vn]
  exact Cn.item okf okq hf hq _ _ _ ht b1
theorem Cn.stepQ (okf:∀lv,OkM (L:=L) (f lv)) (okq:OkM (L:=L) q) (hf:∀lv:Nat,Cn L (f lv) (wr lv)) (hq:Cn L q (gb (dL false))):Cn L (stepQ L f) (gb (dL false)):=fun s x s1 h hb=>by
 unfold Go.Proofs.YtoegnikpokgbfaaGreatDoor.stepQ at h
 simp only at h
 split at h
 ·cases h
 rename_i its s2 hi
 split at h
 ·cases h
 rename_i frs s4 hfr
 split at h
 ·cases h
 rename_i wh s5 hw
 split at h
 ·cases h
 rename_i od s6 ho
 injection h with h;injection h with e1 e2;subst e1 e2
 have b6:=(Ok.limitM (L:=L) s6).nb hb
 have b5:=(OkM.order okf _ _ _ ho).nb b6
 have b4:=(OkM.wher okf _ _ _ hw).nb b5
 have b3:=(OkM.sources okf _ _ _ _ _ hfr).nb b4
 have b3':=(Ok.sourceM (L:=L) (must (az L s2 3) s2)).nb b3
 have b2:=(Ok.must (L:=L) (s:=s2) (c:=az L s2 3) fun h=>aB h).nb b3'
 have b1:=(OkM.items okf _ _ _ hi).nb b2
 have b0:=(Ok.tkIf (L:=L) (s:=must (az L s 1) s) (c:=az L (must (az L s 1) s) 2) fun h=>aB h).nb b1
 have hs0:Su L (bB (fI (dL false) [(sourceM L (must (az L s2 3) s2)).1]) 1) (must (az L s2 3) s2).a (sourceM L (must (az L s2 3) s2)).2.a:=by
  have e:bB (fI (dL false) [(sourceM L (must (az L s2 3) s2)).1]) 1=[nT (mText L 2 (must (az L s2 3) s2)).1]++du (asM L (mText L 2 (must (az L s2 3) s2)).2).1:=by
   have:=mL (g:=dL false) (l:=[]) (sourceM L (must (az L s2 3) s2)).1
   rw[List.nil_append,List.length_singleton] at this
   rw[this]
   show []++((if 0<0 then (if 0<([]:List Expr).length then [kT 4] else [dv]) else [])++(nT _::(du _++[])))=_
   rw[if_neg aa,List.append_nil];rfl
  rw[e];exact vq b3
 have h3:=Cn.sources okf okq hf hq _ _ _ _ _ _ hfr b4 (by simp) hs0
 exact (kJ b0).app (oh.app ((Cn.items okf okq hf hq _ _ _ hi b2).app ((kJ b3').app (h3.app ((Cn.wher okf okq hf hq _ _ _ hw b5).app ((Cn.order okf okq hf hq _ _ _ ho b6).app (A2 hb)))))))
theorem tl:∀n:Nat,(∀lv:Nat,Cn L ((pP L n).1 lv) (wr lv))/\Cn L (pP L n).2 (gb (dL false))
 |0=>⟨fun _ _ _ _ h=>(by cases h),fun _ _ _ h=>(by cases h)⟩
 |n+1=>⟨fun lv=>Cn.stepE (la n).1 (la n).2 (tl n).1 (tl n).2 lv,Cn.stepQ (la n).1 (la n).2 (tl n).1 (tl n).2⟩
end
theorem Ei {L l:List Tok} {a:Nat} (h:Su L l 0 a):(l.map kt).Sublist (L.map kt):=by
 refine h.2.trans (List.Sublist.map kt ?_)
 unfold E6
 rw[List.drop_zero]
 exact List.take_sublist _ _
theorem A3 {α:Type} {L:List Tok} {z:α} {m:Option (α×PS)} {pr:α->List Tok} (hz:m≠none) (hm:∀x s1,m=some (x,s1)->s1.b=false->Su L (pr x) 0 s1.a) (h:(lb L z m).2 = -1):((pr (lb L z m).1).map kt).Sublist (L.map kt):=by
 cases m with
 |none=>exact absurd rfl hz
 |some y=>
  obtain⟨x,s⟩:=y
  unfold lb at h ⊢
  simp only at h ⊢
  by_cases h0:0<=nR L s
  ·rw[if_pos h0] at h;simp only at h;omega
  ·rw[if_neg h0]
   have hb:s.b=false:=by
    unfold nR at h0
    split at h0
    ·rename_i hc;exact hc.1
    ·exact absurd aa h0
   exact Ei (hm x s rfl hb)
theorem yh {L:List Tok} (h:(cI L).2 = -1):((dL false (cI L).1).map kt).Sublist (L.map kt):=by
 have hp:=tl (L:=L) (pD L)
 refine A3 (pr:=dL false) (fun e=>?_) (fun x s1 hx hb=>?_) h
 ·obtain⟨x,s,hx⟩:=lY (L:=L) 1 aa aa s0
  rw[e] at hx;cases hx
 ·exact (hp.1 1 _ _ _ hx hb).sub oV
theorem vt {L:List Tok} {e:Expr} (hl:L.length<(dL false e).length) (h:cI L=(e,-1)):False:=by
 have hs:=yh (L:=L) (by rw[h])
 rw[h] at hs
 have:=hs.length_le
 simp only[List.length_map] at this
 omega
end Go.Proofs.YtoegnikpokgbfaaGreatDoor
