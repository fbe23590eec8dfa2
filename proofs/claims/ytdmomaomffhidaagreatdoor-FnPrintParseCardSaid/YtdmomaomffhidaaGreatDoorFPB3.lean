/-
  What is printed is read again.
  Conditions: none.
-/
import Derived.Test.YtdmomaomffhidaaGreatDoorFPJ2
import Derived.Test.YtdmomaomffhidaaGreatDoorFPH1
set_option linter.unusedVariables false
set_option linter.unusedSimpArgs false
set_option linter.unusedSectionVars false
set_option linter.unnecessarySimpa false
set_option maxRecDepth 8000
namespace Go.Proofs.YtdmomaomffhidaaGreatDoor
open Go Go.Dv
open Go.Vc (D cU cV cF b0)
section
variable {L1 L2:List Tok} {k:Nat}
def Ag (k:Nat) (L1 L2:List Tok):Prop:=∀i,i<k->L1[i]?=L2[i]?
def JU {α:Type} (k:Nat) (m1 m2:PM α):Prop:=∀s x s1 r,m1 s=some (x,s1)->s1.a<k->m2 s=some r->r=(x,s1)
variable (h:Ag k L1 L2)
include h
variable {f1 f2:Nat->PM Expr} {q1 q2:PM Query} (okf:∀lv,OkM (L:=L1) (f1 lv)) (okq:OkM (L:=L1) q1) (hf:∀lv,JU k (f1 lv) (f2 lv)) (hq:JU k q1 q2)
include okf hf
end
section
variable {L:List Tok}
def hd (L:List Tok) (a:Nat):Option (Int×ByteArray):=L[a]?.map fun t=>(t.kind,t.text)
def gE (L:List Tok):Nat->List Tok->Prop
 |_,[]=>True
 |a,t::r=>hd L a=some (t.kind,t.text)/\gE L (a+1) r
theorem bL:∀ {l m:List Tok} {a:Nat},gE L a (l++m)↔gE L a l/\gE L (a+l.length) m
 | [],m,a=>by simp [gE]
 |t::r,m,a=>by
  rw[List.cons_append,gE,gE,bL,and_assoc,List.length_cons,show a+1+r.length=a+(r.length+1) by omega]
abbrev P0 (a:Nat):PS:=⟨a,false⟩
theorem mP (a k:Nat) (kind:Int) (x:ByteArray):mJ L (P0 a) k kind x=decide (hd L (a+k)=some (kind,x)):=by
 unfold mJ ki hd
 simp only[Bool.false_eq_true,if_false]
 cases L[a+k]? with
 |none=>simp
 |some t=>simp only[Option.map_some,Option.some.injEq,Prod.mk.injEq,Bool.decide_and]
theorem Ey (t:Tok):aM t=aM ⟨t.kind,t.text,0⟩:=by cases t;rfl
theorem mQ {a:Nat} {kind k:Int} {x:ByteArray} (h:hd L a=some (k,x)):oT L (P0 a) kind=(decide (k=kind)&&aM ⟨k,x,0⟩):=by
 unfold oT ki
 unfold hd at h
 simp only[Bool.false_eq_true,if_false,Nat.add_zero]
 cases hl:L[a]? with
 |none=>rw[hl] at h;cases h
 |some t=>
  rw[hl] at h
  injection h with h;injection h with h1 h2
  subst h1 h2
  simp only
  rw[Ey t]
theorem ge {a:Nat} {k:Int} {x:ByteArray} (h:hd L a=some (k,x)):cK L (P0 a)=x:=by
 unfold cK ki
 unfold hd at h
 simp only[Bool.false_eq_true,if_false,Nat.add_zero]
 cases hl:L[a]? with
 |none=>rw[hl] at h;cases h
 |some t=>
  rw[hl] at h
  injection h with h;injection h with h1 h2
theorem Ce (a k:Nat):aG L (P0 a) k=decide (hd L a=some (1,kw k)):=mP a 0 1 _
theorem Gl (a:Nat) (c:UInt8):cO L (P0 a) c=decide (hd L a=some (5,⟨#[c]⟩)):=mP a 0 5 _
theorem da (a:Nat):adv (P0 a)=P0 (a+1):=rfl
def fk (op:Nat):Int:=if op=1∨op=2 then 1 else 5
theorem Cf (a op:Nat):nI L (P0 a) op=decide (hd L a=some (fk op,j1 op)):=mP a 0 _ _
def St (lv:Nat) (h:Option (Int×ByteArray)):Prop:=
 h≠some (5,⟨#[46]⟩)/\(lv<=4->h≠some (1,kw 15)/\h≠some (1,kw 16)/\h≠some (1,kw 17)/\h≠some (1,kw 18))/\∀op:Fin 15,1<=op.1->(lv:Int)<=bl op.1->h≠some (fk op.1,j1 op.1)
theorem St.mono {lv lv':Nat} {h:Option (Int×ByteArray)} (k:lv<=lv') (s:St lv h):St lv' h:=⟨s.1,fun e=>s.2.1 aa,fun op h1 h2=>s.2.2 op h1 aa⟩
theorem oU {s:PS}:∀ {l:List Nat},(∀op∈l,nI L s op=false)->mt L s l=0
 | [],_=>rfl
 |op::r,h=>by
  rw[mt,h op (by simp),if_neg (by simp)]
  exact oU fun x hx=>h x (by simp [hx])
theorem zu:∀lv:Fin 10,∀op∈kX lv.1,1<=op/\op<=14/\bl op=lv.1:=by decide
theorem St.noop {lv l a:Nat} (s:St lv (hd L a)) (h:lv<=l) (h9:l<=9):fv L (P0 a) l=0:=oU fun op hop=>by
 obtain⟨h1,h2,h3⟩:=zu ⟨l,aa⟩ op hop
 rw[Cf,decide_eq_false_iff_not]
 exact s.2.2 ⟨op,aa⟩ h1 (by show (lv:Int)<=bl op;rw[h3];show (lv:Int)<=l;omega)
theorem zw:∀i j:Fin 15,1<=i.1->1<=j.1->fk i.1=fk j.1->j1 i.1=j1 j.1->i=j:=by decide +kernel
theorem vT {a op:Nat} (h1:1<=op) (h2:op<=14) (hh:hd L a=some (fk op,j1 op)):∀ {l:List Nat},op∈l->(∀x∈l,1<=x/\x<=14)->mt L (P0 a) l=op
 | [],h,_=>by cases h
 |x::r,h,hb=>by
  rw[mt,Cf]
  obtain⟨b1,b2⟩:=hb x (by simp)
  by_cases e:x=op
  ·subst e;rw[if_pos (by simp [hh])]
  ·rw[if_neg]
   ·exact vT h1 h2 hh (by simpa [Ne.symm e] using h) fun y hy=>hb y (by simp [hy])
   ·rw[hh,decide_eq_true_eq]
    intro h3
    injection h3 with h3;injection h3 with h3 h4
    exact e (congrArg Fin.val (zw ⟨op,aa⟩ ⟨x,aa⟩ h1 b1 h3 h4)).symm
theorem Cg:∀op:Fin 15,1<=op.1->op.1∈kX (bl op.1).toNat:=by decide
theorem vU {a op:Nat} (h1:1<=op) (h2:op<=14) (hh:hd L a=some (fk op,j1 op)):fv L (P0 a) (bl op).toNat=op:=by
 have hl:=Cg ⟨op,aa⟩ h1
 have h9:(bl op).toNat<10:=by have:=mb 4 op;unfold lv at this;simp only[if_true] at this;omega
 exact vT h1 h2 hh hl fun x hx=>by
  obtain⟨b1,b2,_⟩:=zu ⟨_,h9⟩ x hx
  exact⟨b1,b2⟩
theorem zx (lv:Nat):St lv none:=⟨by simp,fun _=>by simp,fun _ _ _=>by simp⟩
theorem vV (c:UInt8) (h:(c=41∨c=44)) (lv:Nat):St lv (some (5,⟨#[c]⟩)):=by
 rcases h with rfl|rfl
 ·exact⟨ah,fun _=>by decide,fun op _ _=>(by decide:∀op:Fin 15,(some (5,⟨#[41]⟩):Option (Int×ByteArray))≠some (fk op.1,j1 op.1)) op⟩
 ·exact⟨ah,fun _=>by decide,fun op _ _=>(by decide:∀op:Fin 15,(some (5,⟨#[44]⟩):Option (Int×ByteArray))≠some (fk op.1,j1 op.1)) op⟩
theorem xZ (k lv:Nat) (h:k=3∨k=4∨k=6∨k=7∨k=9∨k=10∨k=11∨k=12):St lv (some (1,kw k)):=by
 have h1:∀k∈[3,4,6,7,9,10,11,12],((some (1,kw k):Option (Int×ByteArray))≠some (5,⟨#[46]⟩))/\((some (1,kw k):Option (Int×ByteArray))≠some (1,kw 15)/\(some (1,kw k):Option (Int×ByteArray))≠some (1,kw 16)/\(some (1,kw k):Option (Int×ByteArray))≠some (1,kw 17)/\(some (1,kw k):Option (Int×ByteArray))≠some (1,kw 18))/\∀op:Fin 15,(some (1,kw k):Option (Int×ByteArray))≠some (fk op.1,j1 op.1):=by decide +kernel
 obtain⟨a,b,c⟩:=h1 k (by simpa using h)
 exact⟨a,fun _=>b,fun op _ _=>c op⟩
theorem md (k:Nat) (h:k=13∨k=15∨k=16∨k=17∨k=18):St 5 (some (1,kw k)):=by
 have h1:∀k∈[13,15,16,17,18],((some (1,kw k):Option (Int×ByteArray))≠some (5,⟨#[46]⟩))/\∀op:Fin 15,5<=bl op.1->(some (1,kw k):Option (Int×ByteArray))≠some (fk op.1,j1 op.1):=by decide +kernel
 obtain⟨a,c⟩:=h1 k (by simpa using h)
 exact⟨a,fun e=>by omega,fun op _ h=>c op h⟩
theorem Gm (op:Nat) (h1:1<=op) (h2:op<=14) (lv:Nat) (hl:bl op<lv) (h4:bl op=4->5<=lv) (h3:bl op<=2->5<=lv∨lv<=4):St lv (some (fk op,j1 op)):=by
 have k1:∀op:Fin 15,1<=op.1->((some (fk op.1,j1 op.1):Option (Int×ByteArray))≠some (5,⟨#[46]⟩))/\((some (fk op.1,j1 op.1):Option (Int×ByteArray))≠some (1,kw 15)/\(some (fk op.1,j1 op.1):Option (Int×ByteArray))≠some (1,kw 16)/\(some (fk op.1,j1 op.1):Option (Int×ByteArray))≠some (1,kw 17)/\(some (fk op.1,j1 op.1):Option (Int×ByteArray))≠some (1,kw 18)):=by decide +kernel
 obtain⟨a,b⟩:=k1 ⟨op,aa⟩ h1
 refine⟨a,fun _=>b,fun op' h1' hb e=>?_⟩
 injection e with e;injection e with e1 e2
 have:=congrArg Fin.val (zw ⟨op,aa⟩ op' h1 h1' e1 e2)
 simp only at this
 rw[<-this] at hb
 omega
end
def vo (lv:Nat):Prop:=lv=1∨lv=2∨lv=5∨lv=6∨lv=7
def Jr (L:List Tok) (e:Expr) (l:List Tok) (lv a:Nat):Prop:=St lv (hd L (a+l.length))->bD L lv (P0 a)=some (e,P0 (a+l.length))
def ID (L:List Tok) (e:Expr) (l:List Tok) (lv a:Nat):Prop:=St (lv+1) (hd L (a+l.length))->bD L lv (P0 a)=cx L (bD L (lv+1)) lv (L.length+1) e (P0 (a+l.length))
def Itm (e:Expr) (l:List Tok) (n:Nat):Prop:=∀L a,gE L a l->∀lv,1<=lv->lv<=n->Jr L e l lv a/\(vo lv->ID L e l lv a)
theorem Itm.mono {e:Expr} {l:List Tok} {n m:Nat} (h:Itm e l n) (k:m<=n):Itm e l m:=fun L a hl lv h1 h2=>h L a hl lv h1 aa
section
variable {L:List Tok}
theorem Ch {lv:Nat} (h:vo lv) (s:PS):bD L lv s=match bD L (lv+1) s with
 |none=>none
 |some (e,s1)=>cx L (bD L (lv+1)) lv (L.length+1) e s1:=by
 unfold vo at h
 rw[lz lv aa aa]
 unfold stepE
 rw[if_neg aa,if_neg aa,if_neg aa,if_neg aa]
 rcases bD L (lv+1) s with _|⟨e,s1⟩<;>rfl
theorem qX {g:PM Expr} {lv n:Nat} {e:Expr} {s:PS} (h:fv L s lv=0):cx L g lv (n+1) e s=some (e,s):=by rw[cx,if_pos h]
theorem H4 (s:PS):bD L 4 s=mK L (bD L) (gU L) s:=by rw[lz 4 aa aa];rfl
theorem Ez (s:PS):bD L 9 s=eG L (bD L) (gU L) s:=by rw[lz 9 aa aa];rfl
theorem IE (s:PS):bD L 3 s=(if aG L s 15=true then (match bD L 3 (adv s) with
 |none=>none
 | some (e,s1)=>some (pE 15 e,s1)) else bD L 4 s):=by rw[lz 3 aa aa];rfl
theorem IF (s:PS):bD L 8 s=(if cO L s 45=true then (match bD L 8 (adv s) with
 |none=>none
 | some (e,s1)=>some (pE 16 e,s1)) else bD L 9 s):=by rw[lz 8 aa aa];rfl
theorem bZ {a k:Nat} (h:hd L a≠some (1,kw k)):aG L (P0 a) k=false:=by rw[Ce,decide_eq_false_iff_not];exact h
theorem bW {a k:Nat} (h:hd L a=some (1,kw k)):aG L (P0 a) k=true:=by rw[Ce,decide_eq_true_eq];exact h
theorem pF {a:Nat} {c:UInt8} (h:hd L a≠some (5,⟨#[c]⟩)):cO L (P0 a) c=false:=by rw[Gl,decide_eq_false_iff_not];exact h
theorem gj {a:Nat} {c:UInt8} (h:hd L a=some (5,⟨#[c]⟩)):cO L (P0 a) c=true:=by rw[Gl,decide_eq_true_eq];exact h
theorem Ci {a:Nat} {e:Expr} (h:St 4 (hd L a)):cmpT L (bD L) (gU L) e (P0 a)=some (e,P0 a):=by
 obtain⟨_,h2,_⟩:=h
 obtain⟨k15,k16,k17,k18⟩:=h2 aa
 unfold cmpT
 simp only[bZ k16,bZ k15,Bool.false_eq_true,if_false,tkIf,bZ k18,bZ k17,Bool.or_self]
theorem AQ {a b:Nat} {e:Expr} (h:bD L 5 (P0 a)=some (e,P0 b)) (hs:St 4 (hd L b)):bD L 4 (P0 a)=some (e,P0 b):=by
 rw[H4]
 unfold mK
 rw[h]
 simp only[hs.noop (Nat.le_refl 4) aa,if_true]
 exact Ci hs
end
theorem kp {e:Expr} {l:List Tok} {n:Nat} (hn9:n<=9) (hA:∀L a,gE L a l->Jr L e l n a) (hB:∀L a,gE L a l->vo n->ID L e l n a)
 (hC:∀L a,gE L a l->(4<=n->hd L a≠some (1,kw 15))/\(n=9->hd L a≠some (5,⟨#[45]⟩))):Itm e l n:=by
 intro L a hl
 have key:∀d lv,lv+d=n->1<=lv->Jr L e l lv a/\(vo lv->ID L e l lv a):=by
  intro d
  induction d with
  |zero=>intro lv h _;obtain rfl:lv=n:=aa;exact⟨hA L a hl,hB L a hl⟩
  |succ d ih=>
   intro lv h h1
   obtain⟨i1,i2⟩:=ih (lv+1) aa aa
   have B:vo lv->ID L e l lv a:=fun hc hs=>by
    rw[Ch hc,i1 hs]
   refine⟨fun hs=>?_,B⟩
   by_cases hc:vo lv
   ·rw[B hc (hs.mono aa),qX (hs.noop (Nat.le_refl lv) aa)]
   ·unfold vo at hc
    rcases (show lv=3∨lv=4∨lv=8 by omega) with rfl|rfl|rfl
    ·rw[IE,bZ ((hC L a hl).1 aa),if_neg (by simp)]
     exact i1 (hs.mono aa)
    ·exact AQ (i1 (hs.mono aa)) hs
    ·rw[IF,pF ((hC L a hl).2 aa),if_neg (by simp)]
     exact i1 (hs.mono aa)
 exact fun lv h1 h2=>key (n-lv) lv aa h1
theorem dg {L:List Tok} {a:Nat} {k k':Int} {x x':ByteArray} (h:hd L a=some (k,x)) (hk:k≠k'):hd L a≠some (k',x'):=by rw[h];intro e;injection e with e;injection e with e _;exact hk e
theorem eV {L:List Tok} {a:Nat} {k k':Int} {x x':ByteArray} (h:hd L a=some (k,x)) (hk:x≠x'):hd L a≠some (k',x'):=by rw[h];intro e;injection e with e;injection e with _ e;exact hk e
theorem ep {L:List Tok} {a:Nat} {k kind:Int} {x:ByteArray} (h:hd L a=some (k,x)) (hk:k≠kind):oT L (P0 a) kind=false:=by rw[mQ h,ax hk];rfl
theorem EA {e:Expr} {l:List Tok} {n:Nat} (h:Itm e l n) (h1:1<=n):Itm e (jY::(l++[kA])) 9:=by
 have tk:∀L a,gE L a (jY::(l++[kA]))->hd L a=some (5,⟨#[40]⟩)/\gE L (a+1) l/\hd L (a+1+l.length)=some (5,⟨#[41]⟩):=fun L a hl=>by
  rw[gE,bL,gE] at hl
  exact⟨hl.1,hl.2.1,hl.2.2.1⟩
 refine kp (Nat.le_refl 9) (fun L a hl hs=>?_) (fun L a _ hc=>by unfold vo at hc;omega) fun L a hl=>?_
 ·obtain⟨t1,t2,t3⟩:=tk L a hl
  rw[Ez]
  unfold eG
  have hst:St 1 (hd L (a+1+l.length)):=by rw[t3];exact vV 41 (.inl rfl) 1
  have:=(h L (a+1) t2 1 (Nat.le_refl 1) h1).1 hst
  simp only[ep t1 (by decide:(5:Int)≠3),ep t1 (by decide:(5:Int)≠4),ep t1 (by decide:(5:Int)≠2),bZ (dg t1 (by decide:(5:Int)≠1)),gj t1,Bool.false_eq_true,if_false,if_true,da,this,must,gj t3,List.length_cons,aB,List.length_nil]
  congr 3
  omega
 ·obtain⟨t1,_,_⟩:=tk L a hl
  exact⟨fun _=>dg t1 ah,fun _=>eV t1 ah⟩
theorem EB {full:Bool} {g:Expr->List Tok} {kind op:Int} {kids:List Expr} {k:Nat} (hx:Itm (kids.getD k zeroX) (g (kids.getD k zeroX)) (nv (kids.getD k zeroX)).toNat) (h1:1<=nv (kids.getD k zeroX)) (hn:nd kind op k<=9) :
 Itm (kids.getD k zeroX) (aP full g kind op kids k) (nd kind op k).toNat:=by
 unfold aP kY
 split
 ·exact (EA hx aa).mono aa
 ·rename_i hw
  refine hx.mono ?_
  unfold Bw at hw
  simp only[Bool.or_eq_true,not_or] at hw
  have:=hw.1
  unfold lp at this
  simp only[decide_eq_true_eq] at this
  have e:(Expr.mk 0 0 false ⟨0,0,⟨#[]⟩⟩ ⟨#[]⟩ ⟨#[]⟩ [] [])=zeroX:=rfl
  rw[e] at this
  omega
theorem mR {L:List Tok} {a:Nat} {t:Tok} {r:List Tok} (h:gE L a (t::r)):hd L a=some (t.kind,t.text):=h.1
theorem Gn {v:Val} (h:zV v=true):v=zVal:=by
 obtain⟨a,b,c⟩:=v
 simp only[zV,Bool.and_eq_true,decide_eq_true_eq] at h
 simp only[zVal,Val.mk.injEq]
 exact⟨h.1,h.2⟩
theorem y3 {kind op:Int} {not:Bool} {val:Val} {qual name:ByteArray} {nk ns:Int} (h:aE kind op not val qual name nk ns=true) :
 ((bQ kind).1=false->op=0)/\((bQ kind).2.1=false->not=false)/\((bQ kind).2.2.1=false->val=zVal)/\((bQ kind).2.2.2.1=false->qual=z0/\name=z0):=by
 simp only[aE,Bool.and_eq_true] at h
 obtain⟨_,h1,h2,h3,h4,_⟩:=h
 refine⟨fun e=>?_,fun e=>?_,fun e=>?_,fun e=>?_⟩
 ·rw[e] at h1;simpa using h1
 ·rw[e] at h2;simpa using h2
 ·rw[e] at h3;exact Gn (by simpa using h3)
 ·rw[e] at h4;simpa [z0] using h4
theorem tm {n:Int} (h0:0<=n) (h1:n<=9223372036854775807):lg (dj n)=true/\ms (dj n)=n:=by
 obtain⟨m,rfl⟩:=Int.eq_ofNat_of_zero_le h0
 have e:hY (dj m).data.toList=some m:=dD.2 ⟨aa,by show _=(Lib.itoa m);rw[nD]⟩
 exact⟨by rw[lg,e];rfl,by rw[ms,e];rfl⟩
theorem EC {v:Val} (h:jp v=true) (hr:v.num<=9223372036854775807):Itm (f8 v) [eX v] 9:=by
 simp only[jp,Bool.and_eq_true] at h
 obtain⟨hv,hn,ht⟩:=h
 obtain⟨kind,num,text⟩:=v
 simp only[decide_eq_true_eq,Bool.or_eq_true] at hn ht hr
 unfold dz at hv
 simp only at hv
 have done:∀k x,eX ⟨kind,num,text⟩=⟨k,x,0⟩->(k=1->x≠kw 15)->k≠5->(∀L a,hd L a=some (k,x)->eG L (bD L) (gU L) (P0 a)=some (f8 ⟨kind,num,text⟩,P0 (a+1)))->Itm (f8 ⟨kind,num,text⟩) [eX ⟨kind,num,text⟩] 9:=fun k x e h15 h5 hp=>by
  rw[e]
  refine kp (Nat.le_refl 9) (fun L a hl _=>?_) (fun L a _ hc=>by unfold vo at hc;omega) fun L a hl=>⟨fun _=>?_,fun _=>dg hl.1 h5⟩
  ·rw[Ez];exact hp L a hl.1
  ·by_cases k1:k=1
   ·exact eV hl.1 (h15 k1)
   ·exact dg hl.1 k1
 by_cases k0:kind=0
 ·subst k0
  rw[if_pos rfl] at hv
  simp only[Bool.and_eq_true,decide_eq_true_eq] at hv
  obtain⟨rfl,rfl⟩:=hv
  refine done 1 (kw 20) rfl (fun _=>by decide) ah fun L a hh=>?_
  unfold eG
  simp only[ep hh (by decide:(1:Int)≠3),ep hh (by decide:(1:Int)≠4),bW hh,Bool.false_eq_true,if_false,if_true,da]
  rfl
 rw[if_neg k0] at hv
 by_cases k1:kind=1
 ·subst k1
  rw[if_pos rfl] at hv
  simp only[decide_eq_true_eq] at hv
  subst hv
  have h0:0<=num:=hn.resolve_left (fun h=>h rfl)
  obtain⟨o1,o2⟩:=tm h0 hr
  refine done 3 (dj num) rfl (fun h=>absurd h ah) ah fun L a hh=>?_
  have hk:oT L (P0 a) 3=true:=by rw[mQ hh];simp only[decide_true,Bool.true_and];exact o1
  unfold eG
  simp only[hk,if_true,ge hh,o2,da]
  rfl
 rw[if_neg k1] at hv
 by_cases k2:kind=2
 ·subst k2
  rw[if_pos rfl] at hv
  simp only[Bool.and_eq_true,decide_eq_true_eq] at hv
  obtain⟨rfl,_⟩:=hv
  refine done 4 text rfl (fun h=>absurd h ah) ah fun L a hh=>?_
  have hk:oT L (P0 a) 4=true:=by rw[mQ hh];simp only[decide_true,Bool.true_and];exact aw ht
  unfold eG
  simp only[ep hh (by decide:(4:Int)≠3),hk,if_true,if_false,Bool.false_eq_true,ge hh,da]
 rw[if_neg k2] at hv
 by_cases k3:kind=3
 ·subst k3
  rw[if_pos rfl] at hv
  simp only[Bool.and_eq_true,decide_eq_true_eq] at hv
  obtain⟨h01,rfl⟩:=hv
  rcases (show num=1∨num=0 by omega) with rfl|rfl
  ·refine done 1 (kw 21) rfl (fun _=>by decide) ah fun L a hh=>?_
   unfold eG
   simp only[ep hh (by decide:(1:Int)≠3),ep hh (by decide:(1:Int)≠4),bZ (eV hh (by decide:kw 21≠kw 20)),bW hh,Bool.false_eq_true,if_false,if_true,da]
   rfl
  ·refine done 1 (kw 22) rfl (fun _=>by decide) ah fun L a hh=>?_
   unfold eG
   simp only[ep hh (by decide:(1:Int)≠3),ep hh (by decide:(1:Int)≠4),bZ (eV hh (by decide:kw 22≠kw 20)),bZ (eV hh (by decide:kw 22≠kw 21)),bW hh,Bool.false_eq_true,if_false,if_true,da]
   rfl
 ·rw[if_neg k3] at hv;cases hv
theorem ul {x:ByteArray} (h:bH x=true):aM ⟨2,x,0⟩=true:=by
 unfold bH at h
 exact h
theorem qY {L:List Tok} {a:Nat} {x:ByteArray} (h:hd L a=some (2,x)) (hx:bH x=true):mText L 2 (P0 a)=(x,P0 (a+1)):=by
 have hk:oT L (P0 a) 2=true:=by rw[mQ h,ul hx];rfl
 unfold mText
 rw[if_pos hk,ge h]
 rfl
theorem ED {q n:ByteArray} (hn:bH n=true) (hq:cY q=true):Itm (sC q n) (cH q++[nT n]) 9:=by
 have hb:∀L a,gE L a (cH q++[nT n])->∃x,bH x=true/\hd L a=some (2,x)/\((q=z0/\x=n/\(cH q++[nT n]).length=1)∨(x=q/\hd L (a+1)=some (5,⟨#[46]⟩)/\hd L (a+1+1)=some (2,n)/\(cH q++[nT n]).length=3)):=fun L a hl=>by
  unfold cH at hl ⊢
  split at hl
  ·rename_i e
   rw[if_pos e]
   exact⟨n,hn,hl.1,.inl ⟨e,rfl,rfl⟩⟩
  ·rename_i e
   rw[if_neg e]
   unfold cY at hq
   simp only[Bool.or_eq_true,decide_eq_true_eq,e,false_or] at hq
   exact⟨q,hq,hl.1,.inr ⟨rfl,hl.2.1,hl.2.2.1,rfl⟩⟩
 refine kp (Nat.le_refl 9) (fun L a hl hs=>?_) (fun L a _ hc=>by unfold vo at hc;omega) fun L a hl=>?_
 ·obtain⟨x,hx,hh,hc⟩:=hb L a hl
  have hk:oT L (P0 a) 2=true:=by rw[mQ hh,ul hx];rfl
  rw[Ez]
  unfold eG
  have n1:(2:Int)≠1:=by decide
  rcases hc with⟨rfl,rfl,hlen⟩|⟨rfl,h1,h2,hlen⟩
  ·rw[hlen] at hs ⊢
   simp only[ep hh (by decide:(2:Int)≠3),ep hh (by decide:(2:Int)≠4),bZ (dg hh n1),hk,Bool.false_eq_true,if_false,if_true,da,pF hs.1,ge hh]
  ·rw[hlen]
   simp only[ep hh (by decide:(2:Int)≠3),ep hh (by decide:(2:Int)≠4),bZ (dg hh n1),hk,Bool.false_eq_true,if_false,if_true,da,gj h1,ge hh,qY h2 hn]
 ·obtain⟨x,hx,hh,_⟩:=hb L a hl
  exact⟨fun _=>dg hh ah,fun _=>dg hh ah⟩
def Fs (l:List Tok) (n:Int):Prop:=∀L a,gE L a l->hd L a≠some (1,kw 1)/\hd L a≠some (5,⟨#[42]⟩)/\(hd L (a+l.length)≠some (5,⟨#[46]⟩)->fU L (P0 a)=false)/\(4<=n->hd L a≠some (1,kw 15))/\hd L a≠some (1,kw 2)
theorem Fs.mono {l:List Tok} {n m:Int} (h:Fs l n) (k:4<=m->4<=n):Fs l m:=fun L a hl=>⟨(h L a hl).1,(h L a hl).2.1,(h L a hl).2.2.1,fun e=>(h L a hl).2.2.2.1 (k e),(h L a hl).2.2.2.2⟩
theorem Cj {L:List Tok} {a:Nat} {k:Int} {x:ByteArray} (h:hd L a=some (k,x)) (hk:k≠2):fU L (P0 a)=false:=by
 unfold fU;rw[ep h hk];rfl
theorem ij {t:Tok} {r:List Tok} {n:Int} (h2:t.kind≠2) (h1:t.kind=1->t.text≠kw 1/\(4<=n->t.text≠kw 15)/\t.text≠kw 2) (h5:t.kind=5->t.text≠⟨#[42]⟩):Fs (t::r) n:=fun L a hl=>by
 have hh:=mR hl
 refine⟨?_,?_,fun _=>Cj hh h2,fun h4=>?_,?_⟩
 ·by_cases e:t.kind=1
  ·exact eV hh (h1 e).1
  ·exact dg hh e
 ·by_cases e:t.kind=5
  ·exact eV hh (h5 e)
  ·exact dg hh e
 ·by_cases e:t.kind=1
  ·exact eV hh ((h1 e).2.1 h4)
  ·exact dg hh e
 ·by_cases e:t.kind=1
  ·exact eV hh (h1 e).2.2
  ·exact dg hh e
theorem lA {l r:List Tok} {t:Tok} {n:Int} (h:Fs l n) (ht:t.kind=5->t.text≠⟨#[46]⟩):Fs (l++t::r) n:=fun L a hl=>by
 obtain⟨h1,h2⟩:=bL.1 hl
 obtain⟨k1,k2,k3,k4⟩:=h L a h1
 refine⟨k1,k2,fun _=>k3 ?_,k4⟩
 by_cases e:t.kind=5
 ·exact eV h2.1 (ht e)
 ·exact dg h2.1 e
theorem H5 (l:List Tok) (n:Int):Fs (jY::l) n:=ij ah (fun e=>absurd e ah) (fun _=>by decide)
theorem H6 {full:Bool} {g:Expr->List Tok} {kind op:Int} {kids:List Expr} {k:Nat} (h:Fs (g (kids.getD k zeroX)) (nv (kids.getD k zeroX))):Fs (aP full g kind op kids k) (nd kind op k):=by
 unfold aP kY
 split
 ·exact H5 _ _
 ·rename_i hw
  refine h.mono fun h4=>?_
  unfold Bw at hw
  simp only[Bool.or_eq_true,not_or] at hw
  have:=hw.1
  unfold lp at this
  simp only[decide_eq_true_eq] at this
  have e:(Expr.mk 0 0 false ⟨0,0,⟨#[]⟩⟩ ⟨#[]⟩ ⟨#[]⟩ [] [])=zeroX:=rfl
  rw[e] at this
  omega
theorem H7 {v:Val} (n:Int):Fs [eX v] n:=by
 unfold eX
 split
 ·exact ij (by decide:(3:Int)≠2) (fun e=>absurd e (by decide:(3:Int)≠1)) (fun e=>absurd e (by decide:(3:Int)≠5))
 split
 ·exact ij (by decide:(4:Int)≠2) (fun e=>absurd e (by decide:(4:Int)≠1)) (fun e=>absurd e (by decide:(4:Int)≠5))
 split
 ·split
  ·exact ij ah (fun _=>⟨ah,fun _=>by decide,ah⟩) (fun e=>absurd e (by decide:(1:Int)≠5))
  ·exact ij ah (fun _=>⟨ah,fun _=>by decide,ah⟩) (fun e=>absurd e (by decide:(1:Int)≠5))
 ·exact ij ah (fun _=>⟨ah,fun _=>by decide,ah⟩) (fun e=>absurd e (by decide:(1:Int)≠5))
theorem H8 {q n:ByteArray} (m:Int):Fs (cH q++[nT n]) m:=fun L a hl=>by
 unfold cH at hl ⊢
 split at hl
 ·rename_i e
  rw[if_pos e]
  have hh:=mR hl
  refine⟨dg hh (by decide:(2:Int)≠1),dg hh (by decide:(2:Int)≠5),fun hd'=>?_,fun _=>dg hh (by decide:(2:Int)≠1),dg hh (by decide:(2:Int)≠1)⟩
  unfold fU
  have:mJ L (P0 a) 1 5 ⟨#[46]⟩=false:=by rw[mP,decide_eq_false_iff_not];exact hd'
  rw[this];simp
 ·rename_i e
  rw[if_neg e]
  have hh:=mR hl
  refine⟨dg hh (by decide:(2:Int)≠1),dg hh (by decide:(2:Int)≠5),fun _=>?_,fun _=>dg hh (by decide:(2:Int)≠1),dg hh (by decide:(2:Int)≠1)⟩
  unfold fU
  have h3:hd L (a+2)=some (2,n):=hl.2.2.1
  have:mJ L (P0 a) 2 5 ⟨#[42]⟩=false:=by rw[mP,decide_eq_false_iff_not];exact dg h3 ah
  rw[this];simp
theorem Ck {L:List Tok} {a:Nat} {x:ByteArray} (h:hd L a=some (1,x)):fv L (P0 a) 4=0:=oU fun op hop=>by
 rw[Cf,decide_eq_false_iff_not]
 refine dg h ?_
 have:op=3∨op=4∨op=5∨op=6∨op=7∨op=8:=by simpa [kX] using hop
 unfold fk
 rw[if_neg aa];decide
theorem EE {L:List Tok} {a:Nat} {op:Int} {r:List Tok} (h0:1<=op) (h1:op<=14) (h:gE L a (d5 op::r)):hd L a=some (fk op.toNat,j1 op.toNat):=by
 have hh:=mR h
 have e:((op.toNat:Nat):Int)=op:=by omega
 rw[hh,d5,fk,e]
 congr 2
 by_cases c:op=1∨op=2
 ·rw[if_pos aa,if_pos aa]
 ·rw[if_neg aa,if_neg aa]
section
variable {full:Bool} {g:Expr->List Tok}
def KidsOk (g:Expr->List Tok) (kids:List Expr):Prop:=∀k,k<kids.length->Itm (kids.getD k zeroX) (g (kids.getD k zeroX)) (nv (kids.getD k zeroX)).toNat/\1<=nv (kids.getD k zeroX)/\Fs (g (kids.getD k zeroX)) (nv (kids.getD k zeroX))
theorem KidsOk.itm {kids:List Expr} (h:KidsOk g kids) {k:Nat} (hk:k<kids.length) (full:Bool) (kind op:Int) {n:Nat} (hn:(nd kind op k).toNat=n) (h9:n<=9):Itm (kids.getD k zeroX) (aP full g kind op kids k) n:=by
 obtain⟨h1,h2,_⟩:=h k hk
 rw[<-hn];exact EB h1 h2 aa
theorem KidsOk.fs {kids:List Expr} (h:KidsOk g kids) {k:Nat} (hk:k<kids.length) (full:Bool) (kind op:Int):Fs (aP full g kind op kids k) (nd kind op k):=H6 (h k hk).2.2
theorem H9 {k:Expr} {op:Int} (ho:op=15∨op=16) (h:KidsOk g [k]):Itm (pE op k) (d5 op::aP full g 3 op [k] 0) (lv 3 op).toNat:=by
 rcases ho with rfl|rfl
 ·have hk:=h.itm (k:=0) (by simp) full 3 15 (n:=3) ah aa
  refine kp (n:=3) aa (fun L a hl hs=>?_) (fun L a _ hc=>by unfold vo at hc;omega) fun L a _=>⟨fun h=>by omega,fun h=>by omega⟩
  have hh:hd L a=some (1,kw 15):=hl.1
  rw[IE,bW hh,if_pos rfl,da]
  have e:a+(d5 15::aP full g 3 15 [k] 0).length=a+1+(aP full g 3 15 [k] 0).length:=by rw[List.length_cons];omega
  rw[e] at hs ⊢
  rw[(hk L (a+1) hl.2 3 aa aa).1 hs]
  rfl
 ·have hk:=h.itm (k:=0) (by simp) full 3 16 (n:=8) ah aa
  refine kp (n:=8) aa (fun L a hl hs=>?_) (fun L a _ hc=>by unfold vo at hc;omega) fun L a hl=>⟨fun _=>dg (mR hl) ah,fun h=>by omega⟩
  have hh:hd L a=some (5,⟨#[45]⟩):=hl.1
  rw[IF,gj hh,if_pos rfl,da]
  have e:a+(d5 16::aP full g 3 16 [k] 0).length=a+1+(aP full g 3 16 [k] 0).length:=by rw[List.length_cons];omega
  rw[e] at hs ⊢
  rw[(hk L (a+1) hl.2 8 aa aa).1 hs]
  rfl
theorem qZ {op:Int} (h0:1<=op) (h1:op<=14):(bl op=1∨bl op=2∨bl op=4∨bl op=5∨bl op=6∨bl op=7):=by unfold bl;(repeat' split)<;>omega
theorem EF {x y:Expr} {op:Int} (h0:1<=op) (h1:op<=14) (h:KidsOk g [x,y]):Itm (km op.toNat x y) (aP full g 4 op [x,y] 0++d5 op::aP full g 4 op [x,y] 1) (lv 4 op).toNat:=by
 have hbl:=qZ h0 h1
 have e4:lv 4 op=bl op:=by unfold lv;rw[if_pos rfl]
 have eop:((op.toNat:Nat):Int)=op:=by omega
 have hf:=h.fs (k:=0) (by simp) full 4 op
 have tk:∀L a,gE L a (aP full g 4 op [x,y] 0++d5 op::aP full g 4 op [x,y] 1)->gE L a (aP full g 4 op [x,y] 0)/\hd L (a+(aP full g 4 op [x,y] 0).length)=some (fk op.toNat,j1 op.toNat)/\gE L (a+(aP full g 4 op [x,y] 0).length+1) (aP full g 4 op [x,y] 1):=fun L a hl=>by
  obtain⟨a1,a2⟩:=bL.1 hl
  exact⟨a1,EE h0 h1 a2,a2.2⟩
 have len:∀a,a+(aP full g 4 op [x,y] 0++d5 op::aP full g 4 op [x,y] 1).length=a+(aP full g 4 op [x,y] 0).length+1+(aP full g 4 op [x,y] 1).length:=fun a=>by rw[aB,List.length_cons];omega
 have n0:nd 4 op 0=if bl op=4 then 5 else bl op:=by
  unfold nd;rw[e4,if_neg aa,if_pos rfl];simp
 have n1:nd 4 op 1=if bl op=4 then 5 else bl op+1:=by
  unfold nd;rw[e4,if_neg aa,if_pos rfl];simp
 rw[e4]
 by_cases b4:bl op=4
 ·rw[if_pos b4] at n0 n1
  have k0:=h.itm (k:=0) (by simp) full 4 op (n:=5) aa aa
  have k1:=h.itm (k:=1) (by simp) full 4 op (n:=5) aa aa
  rw[b4]
  refine kp (n:=4) aa (fun L a hl hs=>?_) (fun L a _ hc=>by unfold vo at hc;omega) fun L a hl=>⟨fun _=>(hf L a (tk L a hl).1).2.2.2.1 aa,fun h=>by omega⟩
  obtain⟨t1,t2,t3⟩:=tk L a hl
  rw[len] at hs ⊢
  have s0:St 5 (hd L (a+(aP full g 4 op [x,y] 0).length)):=by rw[t2];exact Gm op.toNat aa aa 5 (by rw[eop];omega) (fun _=>by omega) (fun _=>by omega)
  rw[H4]
  unfold mK
  rw[(k0 L a t1 5 aa aa).1 s0]
  have ho:=vU (L:=L) (op:=op.toNat) aa aa t2
  rw[eop,b4] at ho
  have ho:fv L (P0 (a+(aP full g 4 op [x,y] 0).length)) 4=op.toNat:=ho
  simp only[ho]
  rw[if_neg aa,da,(k1 L _ t3 5 aa aa).1 (hs.mono aa)]
  rfl
 ·rw[if_neg b4] at n0 n1
  obtain⟨l,hl⟩:∃l:Nat,bl op=l:=⟨(bl op).toNat,aa⟩
  have hc:vo l:=by unfold vo;omega
  have k0:=h.itm (k:=0) (by simp) full 4 op (n:=l) aa aa
  have k1:=h.itm (k:=1) (by simp) full 4 op (n:=l+1) aa aa
  have el:(bl op).toNat=l:=by omega
  rw[el]
  have B:∀L a,gE L a (aP full g 4 op [x,y] 0++d5 op::aP full g 4 op [x,y] 1)->ID L (km op.toNat x y) (aP full g 4 op [x,y] 0++d5 op::aP full g 4 op [x,y] 1) l a:=fun L a hl' hs=>by
   obtain⟨t1,t2,t3⟩:=tk L a hl'
   rw[len] at hs ⊢
   have s0:St (l+1) (hd L (a+(aP full g 4 op [x,y] 0).length)):=by rw[t2];exact Gm op.toNat aa aa (l+1) (by rw[eop];omega) (fun _=>by rw[eop] at *;omega) (fun _=>by omega)
   rw[(k0 L a t1 l aa (Nat.le_refl l)).2 hc s0,cx]
   have ho:=vU (L:=L) (op:=op.toNat) aa aa t2
   rw[eop,el] at ho
   rw[ho,if_neg aa,da,(k1 L _ t3 (l+1) aa (Nat.le_refl _)).1 hs]
   have hlt:a+(aP full g 4 op [x,y] 0).length<L.length:=by
    unfold hd at t2
    by_cases e:a+(aP full g 4 op [x,y] 0).length<L.length
    ·exact e
    ·rw[List.getElem?_eq_none_iff.2 aa] at t2;cases t2
   exact AP aa aa (by show L.length-(a+(aP full g 4 op [x,y] 0).length+1+(aP full g 4 op [x,y] 1).length)<L.length;omega) aa
  refine kp (n:=l) aa (fun L a hl' hs=>?_) (fun L a hl' _=>B L a hl') fun L a hl'=>⟨fun _=>(hf L a (tk L a hl').1).2.2.2.1 aa,fun h=>by omega⟩
  rw[B L a hl' (hs.mono aa),qX (hs.noop (Nat.le_refl l) aa)]
theorem Ha {x y:Expr} {op:Int} (h0:1<=op) (h1:op<=14) (h:KidsOk g [x,y]):Fs (aP full g 4 op [x,y] 0++d5 op::aP full g 4 op [x,y] 1) (lv 4 op):=by
 have hbl:=qZ h0 h1
 have e4:lv 4 op=bl op:=by unfold lv;rw[if_pos rfl]
 refine lA ((h.fs (k:=0) (by simp) full 4 op).mono fun h4=>?_) fun _=>?_
 ·unfold nd;rw[e4] at h4 ⊢;rw[if_neg aa,if_pos rfl];split<;>simp<;>omega
 ·show j1 op≠_
  have:∀i:Fin 15,j1 i.1≠⟨#[46]⟩:=by decide
  have:=this ⟨op.toNat,aa⟩
  rwa[show ((op.toNat:Nat):Int)=op by omega] at this
theorem lB {k0 e:Expr} {l m:List Tok} {t:Tok} {r:List Tok} (hm:m=t::r) (hk:Itm k0 l 5) (hf:Fs l 5) (ht:t.kind=1) (h5:∀h,h=some (t.kind,t.text)->St 5 h)
 (hp:∀L a,gE L a m->St 4 (hd L (a+m.length))->cmpT L (bD L) (gU L) k0 (P0 a)=some (e,P0 (a+m.length))):Itm e (l++m) 4:=by
 refine kp (n:=4) aa (fun L a hl hs=>?_) (fun L a _ hc=>by unfold vo at hc;omega) fun L a hl=>⟨fun _=>(hf L a (bL.1 hl).1).2.2.2.1 aa,fun h=>by omega⟩
 obtain⟨t1,t2⟩:=bL.1 hl
 have hh:hd L (a+l.length)=some (t.kind,t.text):=by rw[hm] at t2;exact t2.1
 rw[aB,<-Nat.add_assoc] at hs ⊢
 rw[H4]
 unfold mK
 rw[(hk L a t1 5 aa aa).1 (h5 _ hh)]
 have hn:fv L (P0 (a+l.length)) 4=0:=by rw[ht] at hh;exact Ck hh
 simp only[hn,if_true]
 exact hp L _ t2 hs
end
theorem qp {L:List Tok}:∀ {l:List Tok} {a:Nat},gE L a l->l=[]∨a+l.length<=L.length
 | [],_,_=>.inl rfl
 |t::r,a,h=>by
  have hlt:a<L.length:=by
   have:=h.1
   unfold hd at this
   by_cases e:a<L.length
   ·exact e
   ·rw[List.getElem?_eq_none_iff.2 aa] at this;cases this
  rw[List.length_cons]
  rcases qp h.2 with h1|h1
  ·subst h1;simp;omega
  ·exact .inr aa
def El {α:Type} (f:List Tok->PM α) (Sx:Option (Int×ByteArray)->Prop) (x:α) (l:List Tok):Prop:=∀L a,gE L a l->(hd L (a+l.length)=some (5,⟨#[44]⟩)∨Sx (hd L (a+l.length)))->f L (P0 a)=some (x,P0 (a+l.length))
theorem r5 {α:Type} {f:List Tok->PM α} {Sx:Option (Int×ByteArray)->Prop} (hS:∀h,Sx h->h≠some (5,⟨#[44]⟩)):∀(rest:List (α×List Tok)) (n:Nat) (acc:List α) (L:List Tok) (a:Nat),
 (∀p∈rest,El f Sx p.1 p.2)->rest.length<n->gE L a (rest.flatMap fun p=>eK::p.2)->Sx (hd L (a+(rest.flatMap fun p=>eK::p.2).length)) ->
 iI L (f L) n acc (P0 a)=some (acc++rest.map (·.1),P0 (a+(rest.flatMap fun p=>eK::p.2).length))
 | [],n+1,acc,L,a,_,_,_,hs=>by
  rw[List.flatMap_nil,List.length_nil,Nat.add_zero] at hs ⊢
  rw[iI,pF (hS _ hs),if_neg (by simp)]
  simp
 |p::r,n+1,acc,L,a,hr,hn,hl,hs=>by
  rw[List.flatMap_cons,List.cons_append,gE] at hl
  obtain⟨h1,h2⟩:=hl
  obtain⟨h3,h4⟩:=bL.1 h2
  rw[iI,gj h1,if_pos rfl,da]
  have len:a+((p::r).flatMap fun p=>eK::p.2).length=a+1+p.2.length+(r.flatMap fun p=>eK::p.2).length:=by rw[List.flatMap_cons,aB,List.length_cons];omega
  rw[len] at hs ⊢
  have hst:hd L (a+1+p.2.length)=some (5,⟨#[44]⟩)∨Sx (hd L (a+1+p.2.length)):=by
   cases r with
   |nil=>exact .inr hs
   |cons q r'=>
    rw[List.flatMap_cons,List.cons_append,gE] at h4
    exact .inl h4.1
  rw[hr p (by simp) L (a+1) h3 hst]
  simp only
  rw[r5 hS r n (acc++[p.1]) L _ (fun q hq=>hr q (by simp [hq])) (by simpa using hn) h4 hs]
  simp
theorem Hb {b:Nat->List Tok} (m:Nat):bw (fun i=>kB i++b i) (m+1)=b 0++(List.range m).flatMap fun j=>eK::b (j+1):=by
 unfold bw
 rw[List.range_succ_eq_map,List.flatMap_cons,List.flatMap_map]
 rfl
section
variable {full:Bool} {g:Expr->List Tok}
theorem r6:St 1 (some (5,⟨#[44]⟩)):=vV 44 (.inr rfl) 1
theorem Hc {e:Expr} {l:List Tok} {n:Nat} {Sx:Option (Int×ByteArray)->Prop} (h:Itm e l n) (h1:1<=n) (hS:∀h,Sx h->St 1 h):El (fun L=>bD L 1) Sx e l:=fun L a hl hs=>(h L a hl 1 (Nat.le_refl 1) h1).1 (by
 rcases hs with hs|hs
 ·rw[hs];exact r6
 ·exact hS _ hs)
theorem y4 {α:Type} (l:List α) (d:α) (m:Nat) (h:l.length=m+1):(List.range m).map (fun j=>l.getD (j+1) d)=l.tail:=by
 cases l with
 |nil=>simp at h
 |cons x r=>
  simp only[List.length_cons,Nat.add_right_cancel_iff] at h
  subst h
  refine List.ext_getElem (by simp) fun i h1 h2=>?_
  simp at h1 h2 ⊢
  rw[aA h1];rfl
theorem r7 {L:List Tok} {a:Nat} (n:Bool) {m:List Tok} {t:Tok} (h:gE L a (bE n++t::m)) (ht:t.text≠kw 15):aG L (P0 a) 15=n/\tkIf (aG L (P0 a) 15) (P0 a)=P0 (a+(bE n).length)/\hd L (a+(bE n).length)=some (t.kind,t.text)/\gE L (a+(bE n).length+1) m:=by
 obtain⟨h1,h2⟩:=bL.1 h
 cases n with
 |true=>
  have hh:hd L a=some (1,kw 15):=h1.1
  refine⟨bW hh,?_,h2.1,h2.2⟩
  rw[bW hh];rfl
 |false=>
  have hk:aG L (P0 a) 15=false:=bZ (eV (k:=t.kind) (x:=t.text) h2.1 ht)
  refine⟨hk,?_,h2.1,h2.2⟩
  rw[hk];rfl
theorem Hd {k:Expr} {not:Bool} (h:KidsOk g [k]):Itm (dE 5 not [k] []) (aP full g 5 0 [k] 0++kT 16::(bE not++[kT 20])) 4:=by
 have hk:=h.itm (k:=0) (by simp) full 5 0 (n:=5) ah aa
 have hf:=h.fs (k:=0) (by simp) full 5 0
 refine lB rfl hk (hf.mono fun _=>by decide) rfl (fun h e=>by rw[e];exact md 16 aa) fun L a hl _=>?_
 obtain⟨h1,h2⟩:=hl
 have h1:hd L a=some (1,kw 16):=h1
 obtain⟨n1,n2,n3,_⟩:=r7 not h2 ah
 have n3:hd L (a+1+(bE not).length)=some (1,kw 20):=n3
 unfold cmpT
 simp only[bW h1,if_true,da]
 rw[n2,n1]
 unfold must
 rw[if_pos (bW n3)]
 simp only[List.length_cons,aB,List.length_nil,da]
 congr 3;omega
theorem EG {x y z:Expr} {not:Bool} (h:KidsOk g [x,y,z]):Itm (dE 6 not [x,y,z] []) (aP full g 6 0 [x,y,z] 0++(bE not++(kT 18::(aP full g 6 0 [x,y,z] 1++(kT 13::aP full g 6 0 [x,y,z] 2))))) 4:=by
 have k0:=h.itm (k:=0) (by simp) full 6 0 (n:=5) ah aa
 have k1:=h.itm (k:=1) (by simp) full 6 0 (n:=5) ah aa
 have k2:=h.itm (k:=2) (by simp) full 6 0 (n:=5) ah aa
 have hf:=h.fs (k:=0) (by simp) full 6 0
 have body:∀L a,gE L a (bE not++(kT 18::(aP full g 6 0 [x,y,z] 1++(kT 13::aP full g 6 0 [x,y,z] 2))))->St 4 (hd L (a+(bE not++(kT 18::(aP full g 6 0 [x,y,z] 1++(kT 13::aP full g 6 0 [x,y,z] 2)))).length)) ->
  cmpT L (bD L) (gU L) x (P0 a)=some (dE 6 not [x,y,z] [],P0 (a+(bE not++(kT 18::(aP full g 6 0 [x,y,z] 1++(kT 13::aP full g 6 0 [x,y,z] 2)))).length)):=fun L a hl hs=>by
  obtain⟨n1,n2,n3,n4⟩:=r7 not hl ah
  obtain⟨t1,t2⟩:=bL.1 n4
  have no16:aG L (P0 a) 16=false:=by
   cases not with
   |true=>exact bZ (eV (k:=1) (x:=kw 15) hl.1 ah)
   |false=>exact bZ (eV (k:=1) (x:=kw 18) hl.1 ah)
  have len:a+(bE not++(kT 18::(aP full g 6 0 [x,y,z] 1++(kT 13::aP full g 6 0 [x,y,z] 2)))).length=a+(bE not).length+1+(aP full g 6 0 [x,y,z] 1).length+1+(aP full g 6 0 [x,y,z] 2).length:=by
   simp only[List.length_cons,aB];omega
  rw[len] at hs ⊢
  have h13:hd L (a+(bE not).length+1+(aP full g 6 0 [x,y,z] 1).length)=some (1,kw 13):=t2.1
  unfold cmpT
  simp only[no16,Bool.false_eq_true,if_false]
  rw[n2,n1,if_pos (bW n3),da,(k1 L _ t1 5 aa aa).1 (by rw[h13];exact md 13 aa)]
  simp only
  unfold must
  rw[if_pos (bW h13),da,(k2 L _ t2.2 5 aa aa).1 (hs.mono aa)]
  rfl
 cases not with
 |true=>exact lB rfl k0 (hf.mono fun _=>by decide) rfl (fun h e=>by rw[e];exact md 15 aa) body
 |false=>exact lB rfl k0 (hf.mono fun _=>by decide) rfl (fun h e=>by rw[e];exact md 18 aa) body
theorem tn {k0 e:Expr} {l m:List Tok} {not:Bool} (hk:Itm k0 l 5) (hf:Fs l 5)
 (hp:∀L a,gE L a (jY::(m++[kA]))->xX L (bD L) (gU L) k0 not (P0 a)=some (e,P0 (a+1+m.length+1))):Itm e (l++(bE not++(kT 17::jY::(m++[kA])))) 4:=by
 have body:∀L a,gE L a (bE not++(kT 17::jY::(m++[kA])))->St 4 (hd L (a+(bE not++(kT 17::jY::(m++[kA]))).length))->cmpT L (bD L) (gU L) k0 (P0 a)=some (e,P0 (a+(bE not++(kT 17::jY::(m++[kA]))).length)):=fun L a hl hs=>by
  obtain⟨n1,n2,n3,n4⟩:=r7 not hl ah
  have no16:aG L (P0 a) 16=false:=by
   cases not with
   |true=>exact bZ (eV (k:=1) (x:=kw 15) hl.1 ah)
   |false=>exact bZ (eV (k:=1) (x:=kw 17) hl.1 ah)
  have len:a+(bE not++(kT 17::jY::(m++[kA]))).length=a+(bE not).length+1+1+m.length+1:=by
   simp only[List.length_cons,aB,List.length_nil];omega
  rw[len]
  unfold cmpT
  simp only[no16,Bool.false_eq_true,if_false]
  rw[n2,n1,if_neg (by rw[bZ (eV n3 ah)];simp),if_pos (bW n3),da]
  exact hp L _ n4
 cases not with
 |true=>exact lB rfl hk hf rfl (fun h e=>by rw[e];exact md 15 aa) body
 |false=>exact lB rfl hk hf rfl (fun h e=>by rw[e];exact md 17 aa) body
theorem He {kids:List Expr} {not:Bool} (h2:2<=kids.length) (h9:kids.length<=9) (h:KidsOk g kids):Itm (dE 7 not kids []) (aP full g 7 0 kids 0++(bE not++(kT 17::jY::(bw (rN full g 7 0 kids) (kids.length-1)++[kA])))) 4:=by
 have hk:=h.itm (k:=0) aa full 7 0 (n:=5) ah aa
 have hf:=h.fs (k:=0) aa full 7 0
 obtain⟨m,hm⟩:∃m,kids.length=m+2:=⟨kids.length-2,aa⟩
 have nd1:∀j,nd 7 0 (j+1)=1:=fun j=>by unfold nd;rw[if_neg ah,if_neg ah,if_neg ah,if_pos ⟨rfl,aa⟩]
 have kj:∀j,j+1<kids.length->Itm (kids.getD (j+1) zeroX) (aP full g 7 0 kids (j+1)) 1:=fun j hj=>h.itm hj full 7 0 (by rw[nd1];rfl) aa
 refine tn hk (hf.mono fun _=>by decide) fun L a hl=>?_
 obtain⟨t1,t2⟩:=hl
 obtain⟨t3,t4⟩:=bL.1 t2
 have e1:kids.length-1=m+1:=by omega
 have e2:rN full g 7 0 kids=fun i=>kB i++aP full g 7 0 kids (i+1):=rfl
 rw[e1,e2,Hb] at t3 t4 ⊢
 obtain⟨t5,t6⟩:=bL.1 t3
 have hrp:hd L (a+1+(aP full g 7 0 kids (0+1)++(List.range m).flatMap fun j=>eK::aP full g 7 0 kids (j+1+1)).length)=some (5,⟨#[41]⟩):=t4.1
 generalize hrest:(List.range m).map (fun j=>(kids.getD (j+1+1) zeroX,aP full g 7 0 kids (j+1+1)))=rest
 have hfl:((List.range m).flatMap fun j=>eK::aP full g 7 0 kids (j+1+1))=rest.flatMap fun p=>eK::p.2:=by rw[<-hrest,List.flatMap_map]
 rw[hfl] at t6 hrp ⊢
 unfold xX
 have hsel:aG L (P0 (a+1)) 1=false:=bZ ((h.fs (k:=1) aa full 7 0) L (a+1) t5).1
 simp only[must,gj t1,if_true,da,hsel,Bool.false_eq_true,if_false]
 have st0:St 1 (hd L (a+1+(aP full g 7 0 kids (0+1)).length)):=by
  cases rest with
  |nil=>rw[List.flatMap_nil,List.append_nil] at hrp;rw[hrp];exact vV 41 (.inl rfl) 1
  |cons p r=>rw[List.flatMap_cons,List.cons_append,gE] at t6;rw[t6.1];exact r6
 have hor:nJ L (bD L) (P0 (a+1))=some (kids.tail,P0 (a+1+(aP full g 7 0 kids (0+1)++rest.flatMap fun p=>eK::p.2).length)):=by
  unfold nJ
  rw[((kj 0 aa) L (a+1) t5 1 aa aa).1 st0]
  simp only
  have hlen:rest.length<L.length+1:=by
   rw[<-hrest,List.length_map,List.length_range]
   have h4:∀r:List (Expr×List Tok),r.length<=(r.flatMap fun p=>eK::p.2).length:=fun r=>by
    induction r with
    |nil=>simp
    |cons p r ih=>rw[List.flatMap_cons,aB,List.length_cons,List.length_cons];omega
   have h5:=h4 rest
   rw[<-hrest,List.length_map,List.length_range,hrest] at h5
   rcases qp t6 with h6|h6
   ·rw[h6] at h5;simp at h5;omega
   ·omega
  have:=r5 (f:=fun L=>bD L 1) (Sx:=fun h=>h=some (5,⟨#[41]⟩)) (fun h e=>by rw[e];decide) rest (L.length+1) [kids.getD (0+1) zeroX] L _ (fun p hp=>by
   rw[<-hrest,List.mem_map] at hp
   obtain⟨j,hj,rfl⟩:=hp
   rw[List.mem_range] at hj
   exact Hc (kj (j+1) aa) aa (fun h e=>by rw[e];exact vV 41 (.inl rfl) 1)) hlen t6 (by rw[aB,<-Nat.add_assoc] at hrp;exact hrp)
  rw[this]
  rw[aB,<-Nat.add_assoc]
  congr 2
  rw[<-hrest,List.map_map]
  have e3:(List.range m).map ((fun p:Expr×List Tok=>p.1) ∘ fun j=>(kids.getD (j+1+1) zeroX,aP full g 7 0 kids (j+1+1)))=kids.tail.tail:=by
   have:=y4 kids.tail zeroX m (by rw[List.length_tail];omega)
   rw[<-this]
   refine List.map_congr_left fun j _=>?_
   simp only[Function.comp]
   cases kids with
   |nil=>simp at hm
   |cons x r=>rfl
  rw[e3]
  cases kids with
  |nil=>simp at hm
  |cons x r=>cases r with
   |nil=>simp at hm
   |cons y r'=>rfl
 rw[hor]
 simp only[gj hrp,if_true,da]
 congr 2
 cases kids with
 |nil=>simp at hm
 |cons x r=>rfl
def Jh (q:Query) (l:List Tok):Prop:=∀L a,gE L a l->(hd L (a+l.length)=none∨hd L (a+l.length)=some (5,⟨#[41]⟩))->gU L (P0 a)=some (q,P0 (a+l.length))
theorem EH {k:Expr} {q:Query} {not:Bool} {r:List Tok} (h:KidsOk g [k]) (hr:kV g q=kT 1::r) (hq:Jh q (kV g q)):Itm (dE 8 not [k] [q]) (aP full g 8 0 [k] 0++(bE not++(kT 17::jY::(kV g q++[kA])))) 4:=by
 have hk:=h.itm (k:=0) (by simp) full 8 0 (n:=5) ah aa
 have hf:=h.fs (k:=0) (by simp) full 8 0
 refine tn hk (hf.mono fun _=>by decide) fun L a hl=>?_
 obtain⟨t1,t2⟩:=hl
 obtain⟨t3,t4⟩:=bL.1 t2
 have hrp:hd L (a+1+(kV g q).length)=some (5,⟨#[41]⟩):=t4.1
 have hsel:hd L (a+1)=some (1,kw 1):=by rw[hr] at t3;exact t3.1
 unfold xX
 simp only[must,gj t1,if_true,da,bW hsel]
 rw[hq L (a+1) t3 (.inr hrp)]
 simp only[gj hrp,if_true,da]
 rfl
theorem Hf {q:Query} (hq:Jh q (kV g q)):Itm (dE 9 false [] [q]) (kT 19::jY::(kV g q++[kA])) 9:=by
 refine kp (Nat.le_refl 9) (fun L a hl hs=>?_) (fun L a _ hc=>by unfold vo at hc;omega) fun L a hl=>⟨fun _=>eV (mR hl) ah,fun _=>dg (mR hl) ah⟩
 obtain⟨t1,t2,t3⟩:=hl
 obtain⟨t4,t5⟩:=bL.1 t3
 have h19:hd L a=some (1,kw 19):=t1
 have hlp:hd L (a+1)=some (5,⟨#[40]⟩):=t2
 have hrp:hd L (a+1+1+(kV g q).length)=some (5,⟨#[41]⟩):=t5.1
 rw[Ez]
 unfold eG
 simp only[ep h19 (by decide:(1:Int)≠3),ep h19 (by decide:(1:Int)≠4),ep h19 (by decide:(1:Int)≠2),bZ (eV h19 (by decide:kw 19≠kw 20)),bZ (eV h19 (by decide:kw 19≠kw 21)),bZ (eV h19 (by decide:kw 19≠kw 22)),pF (dg h19 (by decide:(1:Int)≠5)),bW h19,Bool.false_eq_true,if_false,if_true,da,must,gj hlp]
 rw[hq L _ t4 (.inr hrp)]
 simp only[gj hrp,if_true,da,List.length_cons,aB,List.length_nil]
 congr 3;omega
end
def En (ks:List Nat) (h:Option (Int×ByteArray)):Prop:=h=none∨h=some (5,⟨#[41]⟩)∨∃k∈ks,h=some (1,kw k)
theorem En.mono {ks ks':List Nat} {h:Option (Int×ByteArray)} (e:En ks h) (s:∀k∈ks,k∈ks'):En ks' h:=e.imp id fun e=>e.imp id fun ⟨k,h1,h2⟩=>⟨k,s k h1,h2⟩
theorem En.st {ks:List Nat} {h:Option (Int×ByteArray)} (e:En ks h) (s:∀k∈ks,k=3∨k=4∨k=6∨k=7∨k=9∨k=10∨k=11∨k=12) (lv:Nat):St lv h:=by
 rcases e with rfl|rfl|⟨k,hk,rfl⟩
 ·exact zx lv
 ·exact vV 41 (.inl rfl) lv
 ·exact xZ k lv (s k hk)
theorem En.key {ks:List Nat} {h:Option (Int×ByteArray)} (e:En ks h) {x:ByteArray} (s:∀k∈ks,kw k≠x):h≠some (1,x):=by
 rcases e with rfl|rfl|⟨k,hk,rfl⟩
 ·simp
 ·simp
 ·intro h;injection h with h;injection h with _ h;exact s k hk h
theorem En.sg {ks:List Nat} {h:Option (Int×ByteArray)} (e:En ks h) {x:ByteArray} (s:x≠⟨#[41]⟩):h≠some (5,x):=by
 rcases e with rfl|rfl|⟨k,hk,rfl⟩
 ·simp
 ·intro h;injection h with h;injection h with _ h;exact s h.symm
 ·simp
theorem En.one {k:Nat} {ks:List Nat} {h:Option (Int×ByteArray)} (e:h=some (1,kw k)) (hk:k∈ks):En ks h:=.inr (.inr ⟨k,hk,e⟩)
theorem Gp {e:Expr} (h:lT e=true):e=zExpr:=by
 obtain⟨kind,op,not,val,qual,name,kids,sub⟩:=e
 simp only[lT,dW,Bool.and_eq_true,decide_eq_true_eq] at h
 obtain⟨h1,h2,h3,h4,h5,h6,h7,h8⟩:=h
 have e1:=Gn h4
 have e2:kids=[]:=List.eq_nil_of_length_eq_zero aa
 have e3:sub=[]:=List.eq_nil_of_length_eq_zero aa
 rw[h1,h2,h3,e1,h5,h6,e2,e3];rfl
section
variable {g:Expr->List Tok}
def XOk (g:Expr->List Tok) (e:Expr):Prop:=Itm e (g e) (nv e).toNat/\1<=nv e/\Fs (g e) (nv e)
theorem XOk.el {e:Expr} (h:XOk g e) {L:List Tok} {a:Nat} (hl:gE L a (g e)) (hs:St 1 (hd L (a+(g e).length))):bD L 1 (P0 a)=some (e,P0 (a+(g e).length)):=(h.1 L a hl 1 (Nat.le_refl 1) (by have:=h.2.1;omega)).1 hs
theorem vW {L:List Tok} {a:Nat} {x:ByteArray} (hx:cY x=true) (h:gE L a (dh x)) (hn:hd L (a+(dh x).length)≠some (1,kw 12)):asM L (P0 a)=(x,P0 (a+(dh x).length)):=by
 unfold dh at h hn ⊢
 unfold asM
 split at h
 ·rename_i e
  rw[if_pos e] at hn ⊢
  rw[bZ (by simpa using hn),if_neg (by simp),e];rfl
 ·rename_i e
  rw[if_neg e]
  unfold cY at hx
  simp only[Bool.or_eq_true,decide_eq_true_eq,e,false_or] at hx
  rw[bW h.1,if_pos rfl,da,qY h.2.1 hx];rfl
theorem IG {L:List Tok} {a:Nat} {x:ByteArray} (h:gE L a (dh x)):hd L a=some (1,kw 12)∨hd L a=hd L (a+(dh x).length):=by
 unfold dh at h ⊢
 split at h
 ·rename_i e;rw[if_pos e];exact .inr rfl
 ·exact .inl h.1
theorem tq {x:Item} (hx:nj x=true) (h:x.star=false->XOk g x.e):El (fun L=>f9 L (bD L)) (fun h=>h=some (1,kw 3)) x (cM g x):=fun L a hl hs=>by
 obtain⟨star,qual,e,as_⟩:=x
 have hs':En [3] (hd L (a+(cM g (.mk star qual e as_)).length))∨hd L (a+(cM g (.mk star qual e as_)).length)=some (5,⟨#[44]⟩):=hs.symm.imp (fun h=>En.one h (by simp)) id
 cases star with
 |true=>
  unfold nj at hx
  simp only[if_true,Bool.and_eq_true,decide_eq_true_eq] at hx
  obtain⟨hq,rfl,hz⟩:=hx
  rw[Gp hz]
  have e1:cM g (.mk true qual e ⟨#[]⟩)=cH qual++[Ef]:=rfl
  have e2:cM g (.mk true qual zExpr ⟨#[]⟩)=cH qual++[Ef]:=rfl
  rw[Gp hz,e2] at hl
  rw[e2]
  show f9 L (bD L) (P0 a)=_
  unfold f9
  unfold cH at hl ⊢
  split at hl
  ·rename_i e
   rw[if_pos e,gj hl.1,if_pos rfl,e];rfl
  ·rename_i e
   rw[if_neg e]
   unfold cY at hq
   simp only[Bool.or_eq_true,decide_eq_true_eq,e,false_or] at hq
   have h1:hd L a=some (2,qual):=hl.1
   have h2:hd L (a+1)=some (5,⟨#[46]⟩):=hl.2.1
   have h3:hd L (a+2)=some (5,⟨#[42]⟩):=hl.2.2.1
   have hst:fU L (P0 a)=true:=by
    unfold fU
    rw[mQ h1,ul hq,mP,mP,h2,h3];simp
   rw[pF (dg h1 ah),if_neg (by simp),hst,if_pos rfl,ge h1];rfl
 |false=>
  unfold nj at hx
  simp only[Bool.false_eq_true,if_false,Bool.and_eq_true,decide_eq_true_eq] at hx
  obtain⟨rfl,ha⟩:=hx
  have hX:XOk g e:=h rfl
  have e1:cM g (.mk false ⟨#[]⟩ e as_)=g e++dh as_:=rfl
  rw[e1] at hl hs' ⊢
  obtain⟨h1,h2⟩:=bL.1 hl
  rw[aB,<-Nat.add_assoc] at hs' ⊢
  have hst:St 1 (hd L (a+(g e).length)):=by
   rcases IG h2 with h3|h3
   ·rw[h3];exact xZ 12 1 aa
   ·rw[h3]
    rcases hs' with h4|h4
    ·exact h4.st (by simp) 1
    ·rw[h4];exact r6
  have hf:=hX.2.2 L a h1
  show f9 L (bD L) (P0 a)=_
  unfold f9
  rw[pF hf.2.1,if_neg (by simp),hf.2.2.1 hst.1,if_neg (by simp),hX.el h1 hst]
  simp only
  rw[vW ha h2 (by
   rcases hs' with h4|h4
   ·exact h4.key ah
   ·rw[h4];simp)]
  rfl
theorem r8 {α:Type} {F:Nat->List Tok} {A:List Tok} {h:α->List Tok} {r:List α} (h0:F 0=A) (h1:∀i (hi:i<r.length),F (i+1)=h r[i]):bw F (r.length+1)=A++r.flatMap h:=by
 have:bw F (r.length+1)=F 0++(List.range r.length).flatMap fun i=>F (i+1):=by
  unfold bw
  rw[List.range_succ_eq_map,List.flatMap_cons,List.flatMap_map]
 rw[this,h0]
 congr 1
 have e:(List.range r.length).map (fun i=>F (i+1))=r.map h:=List.ext_getElem (by simp) fun i a b=>by simp at a b ⊢;rw[h1 i a]
 rw[List.flatMap_def,e,<-List.flatMap_def]
theorem Cm {α:Type} {L:List Tok} {a:Nat} {r:List α} {tk:α->List Tok} (h:gE L a (r.flatMap fun x=>eK::tk x)):r.length<L.length+1:=by
 have h4:∀r:List α,r.length<=(r.flatMap fun p=>eK::tk p).length:=fun r=>by
  induction r with
  |nil=>simp
  |cons p r ih=>rw[List.flatMap_cons,aB,List.length_cons,List.length_cons];omega
 have:=h4 r
 rcases qp h with h5|h5
 ·rw[h5] at this;simp at this;simp [this]
 ·omega
theorem zy {α:Type} {f:List Tok->PM α} {Sx:Option (Int×ByteArray)->Prop} {tk:α->List Tok} (hS:∀h,Sx h->h≠some (5,⟨#[44]⟩)) {r:List α} {acc:List α} {L:List Tok} {a:Nat} (hE:∀x∈r,El f Sx x (tk x))
 (hl:gE L a (r.flatMap fun x=>eK::tk x)) (hs:Sx (hd L (a+(r.flatMap fun x=>eK::tk x).length))):iI L (f L) (L.length+1) acc (P0 a)=some (acc++r,P0 (a+(r.flatMap fun x=>eK::tk x).length)):=by
 have e:(r.map fun x=>(x,tk x)).flatMap (fun p=>eK::p.2)=r.flatMap fun x=>eK::tk x:=by rw[List.flatMap_map]
 have:=r5 (f:=f) hS (r.map fun x=>(x,tk x)) (L.length+1) acc L a (fun p hp=>by
  obtain⟨x,hx,rfl⟩:=List.mem_map.1 hp
  exact hE x hx) (by rw[List.length_map];exact Cm hl) (by rw[e];exact hl) (by rw[e];exact hs)
 rw[this,e,List.map_map]
 congr 2
 congr 1
 have:((fun p:α×List Tok=>p.1) ∘ fun x=>(x,tk x))=id:=rfl
 rw[this,List.map_id]
theorem zA {α:Type} {Sx:Option (Int×ByteArray)->Prop} {tk:α->List Tok} {r:List α} {L:List Tok} {a:Nat} (hl:gE L a (r.flatMap fun x=>eK::tk x)) (hs:Sx (hd L (a+(r.flatMap fun x=>eK::tk x).length))):hd L a=some (5,⟨#[44]⟩)∨Sx (hd L a):=by
 cases r with
 |nil=>exact .inr hs
 |cons x r'=>rw[List.flatMap_cons,List.cons_append] at hl;exact .inl hl.1
theorem y5 {items:List Item} (h0:1<=items.length) (hi:∀x∈items,nj x=true) (hx:∀x∈items,x.star=false->XOk g x.e) {L:List Tok} {a:Nat} (hl:gE L a (bw (dX g items) items.length)) (hs:hd L (a+(bw (dX g items) items.length).length)=some (1,kw 3)) :
 ga L (bD L) (P0 a)=some (items,P0 (a+(bw (dX g items) items.length).length)):=by
 obtain⟨x,r,rfl⟩:∃x r,items=x::r:=by
  cases items with
  |nil=>simp at h0
  |cons x r=>exact⟨x,r,rfl⟩
 have e:bw (dX g (x::r)) (r.length+1)=cM g x++r.flatMap fun y=>eK::cM g y:=r8 rfl fun i hi=>by
  show kB (i+1)++xK (x::r) (cM g) (i+1)=_
  rw[eC (by simpa using hi)];rfl
 rw[List.length_cons,e] at hl hs ⊢
 obtain⟨h1,h2⟩:=bL.1 hl
 rw[aB,<-Nat.add_assoc] at hs ⊢
 unfold ga
 have hI:f9 L (bD L) (P0 a)=_:=tq (hi x (by simp)) (hx x (by simp)) L a h1 (zA (Sx:=fun h=>h=some (1,kw 3)) h2 hs)
 rw[hI]
 exact zy (f:=fun L=>f9 L (bD L)) (Sx:=fun h=>h=some (1,kw 3)) (fun h e=>by rw[e];decide) (fun y hy=>tq (hi y (by simp [hy])) (hx y (by simp [hy]))) h2 hs
theorem lC {table as_:ByteArray} (ht:bH table=true) (ha:cY as_=true) {L:List Tok} {a:Nat} (hl:gE L a (nT table::dh as_)) (hn:hd L (a+1+(dh as_).length)≠some (1,kw 12)):sourceM L (P0 a)=(.mk table as_ [],P0 (a+1+(dh as_).length)):=by
 unfold sourceM
 rw[qY hl.1 ht]
 simp only
 rw[vW ha hl.2 hn]
 rfl
def kq (g:Expr->List Tok) (x:Source):List Tok:=gY g 1 x
theorem nN {ks:List Nat} (hks:∀k∈ks,k=6∨k=7∨k=11):∀(r:List Source) (n:Nat) (acc:List Source) {L:List Tok} {a:Nat},(∀x∈r,nl 1 x=true)->(∀x∈r,∀y∈x.on,XOk g y)->r.length<n->gE L a (r.flatMap (kq g))->En ks (hd L (a+(r.flatMap (kq g)).length)) ->
 cy L (bD L) n acc (P0 a)=some (acc++r,P0 (a+(r.flatMap (kq g)).length))
 | [],n+1,acc,L,a,_,_,_,_,hs=>by
  rw[List.flatMap_nil,List.length_nil,Nat.add_zero] at hs ⊢
  have h4:∀k∈ks,kw k≠kw 4:=fun k hk=>by rcases hks k hk with rfl|rfl|rfl<;>decide
  rw[cy,pF (hs.sg ah),if_neg (by simp),bZ (hs.key h4)]
  simp
 |x::r,n+1,acc,L,a,hb,hX,hn,hl,hs=>by
  rw[List.flatMap_cons] at hl hs ⊢
  rw[aB,<-Nat.add_assoc] at hs ⊢
  obtain⟨h1,h2⟩:=bL.1 hl
  have hx:=hb x (by simp)
  obtain⟨table,as_,on⟩:=x
  unfold nl at hx
  simp only[Bool.and_eq_true,decide_eq_true_eq] at hx
  obtain⟨ht,ha,ho,_⟩:=hx
  have hst:En (4::ks) (hd L (a+(kq g (.mk table as_ on)).length))∨hd L (a+(kq g (.mk table as_ on)).length)=some (5,⟨#[44]⟩):=by
   cases r with
   |nil=>exact .inl (hs.mono fun k hk=>by simp [hk])
   |cons y r'=>
    obtain⟨ty,ay,oy⟩:=y
    rw[List.flatMap_cons] at h2
    have h3:=(bL.1 h2).1
    have e3:kq g (.mk ty ay oy)=(if 0<oy.length then [kT 4] else [eK])++(nT ty::(dh ay++sw g oy)):=rfl
    rw[e3] at h3
    by_cases e:0<oy.length
    ·rw[if_pos e] at h3;exact .inl (En.one (k:=4) h3.1 (by simp))
    ·rw[if_neg e] at h3;exact .inr h3.1
  have n12:hd L (a+(kq g (.mk table as_ on)).length)≠some (1,kw 12):=by
   rcases hst with h|h
   ·refine h.key fun k hk=>?_
    rcases List.mem_cons.1 hk with rfl|hk
    ·decide
    ·rcases hks k hk with rfl|rfl|rfl<;>decide
   ·rw[h];simp
  have rec_:=fun acc=>nN hks r n acc (fun y hy=>hb y (by simp [hy])) (fun y hy=>hX y (by simp [hy])) (by simpa using hn) h2 hs
  cases on with
  |nil=>
   have e:kq g (.mk table as_ [])=eK::nT table::(dh as_++[]):=rfl
   rw[List.append_nil] at e
   rw[e] at h1 n12 rec_ ⊢
   have len:a+(eK::nT table::dh as_).length=a+1+1+(dh as_).length:=by simp only[List.length_cons];omega
   rw[len] at n12 rec_ ⊢
   rw[cy,gj h1.1,if_pos rfl,da,lC ht ha h1.2 n12]
   simp only
   rw[rec_];simp
  |cons y on'=>
   have hon':on'=[]:=List.eq_nil_of_length_eq_zero (by simp only[List.length_cons] at ho;omega)
   subst hon'
   have e:kq g (.mk table as_ [y])=kT 4::nT table::(dh as_++kT 5::g y):=rfl
   rw[e] at h1 n12 rec_ hst ⊢
   have len:a+(kT 4::nT table::(dh as_++kT 5::g y)).length=a+1+1+(dh as_).length+1+(g y).length:=by simp only[List.length_cons,aB];omega
   rw[len] at n12 rec_ hst ⊢
   obtain⟨t1,t2,t3⟩:=h1
   obtain⟨t4,t5⟩:=bL.1 t3
   have h4:hd L a=some (1,kw 4):=t1
   have h5:hd L (a+1+1+(dh as_).length)=some (1,kw 5):=t5.1
   rw[cy,pF (dg h4 ah),if_neg (by simp),bW h4,if_pos rfl,da,lC ht ha ⟨t2,t4⟩ (by rw[h5];decide)]
   simp only
   unfold must
   rw[if_pos (bW h5),da]
   have hX1:XOk g y:=hX (.mk table as_ [y]) (by simp) y (by simp [Source.on])
   rw[hX1.el t5.2 (by
    rcases hst with h|h
    ·exact h.st (fun k hk=>by
      rcases List.mem_cons.1 hk with rfl|hk
      ·omega
      ·have:=hks k hk;omega) 1
    ·rw[h];exact r6)]
   simp only
   rw[rec_]
   simp [Source.withOn]
theorem tw {x:SortKey} (hX:XOk g x.e):El (fun L=>fE L (bD L)) (En [11]) x (jr g x):=fun L a hl hs=>by
 obtain⟨e,desc⟩:=x
 have hX':XOk g e:=hX
 clear hX
 show fE L (bD L) (P0 a)=_
 have e1:jr g (.mk e desc)=g e++(if desc=true then [kT 10] else []):=rfl
 rw[e1] at hl hs ⊢
 obtain⟨h1,h2⟩:=bL.1 hl
 rw[aB,<-Nat.add_assoc] at hs ⊢
 have st11:∀h,En [11] h->St 1 h:=fun h e=>e.st (by simp) 1
 unfold fE
 cases desc with
 |true=>
  rw[if_pos rfl] at h2 hs ⊢
  have h10:hd L (a+(g e).length)=some (1,kw 10):=h2.1
  rw[hX'.el h1 (by rw[h10];exact xZ 10 1 aa)]
  simp only
  rw[bZ (eV h10 ah),if_neg (by simp),bW h10]
  rfl
 |false=>
  rw[if_neg (by simp)] at h2 hs ⊢
  simp only[List.length_nil,Nat.add_zero] at hs ⊢
  rw[hX'.el h1 (by
   rcases hs with h|h
   ·rw[h];exact r6
   ·exact st11 _ h)]
  simp only
  have n9:∀k,k=9∨k=10->hd L (a+(g e).length)≠some (1,kw k):=fun k hk=>by
   rcases hs with h|h
   ·rw[h];simp
   ·exact h.key (by rcases hk with rfl|rfl<;>decide)
  rw[bZ (n9 9 (.inl rfl)),if_neg (by simp),bZ (n9 10 (.inr rfl))]
  rfl
theorem y6 {order:List SortKey} (hX:∀x∈order,XOk g x.e) {L:List Tok} {a:Nat} (hl:gE L a (bw (fw g order) order.length)) (hs:En [11] (hd L (a+(bw (fw g order) order.length).length))) :
 fF L (bD L) (P0 a)=some (order,P0 (a+(bw (fw g order) order.length).length)):=by
 cases order with
 |nil=>
  have e:bw (fw g []) ([]:List SortKey).length=[]:=rfl
  rw[e] at hs ⊢
  simp only[List.length_nil,Nat.add_zero] at hs ⊢
  unfold fF
  rw[bZ (hs.key ah),if_neg (by simp)]
 |cons x r=>
  have e:bw (fw g (x::r)) (r.length+1)=kT 7::kT 8::(jr g x++r.flatMap fun y=>eK::jr g y):=by
   have:=r8 (F:=fw g (x::r)) (A:=kT 7::kT 8::jr g x) (h:=fun y=>eK::jr g y) (r:=r) rfl fun i hi=>by
    show (if i+1=0 then [kT 7,kT 8] else [eK])++xK (x::r) (jr g) (i+1)=_
    rw[eC (by simpa using hi),if_neg aa];rfl
   rw[this];rfl
  rw[List.length_cons,e] at hl hs ⊢
  obtain⟨t1,t2,t3⟩:=hl
  obtain⟨t4,t5⟩:=bL.1 t3
  have len:a+(kT 7::kT 8::(jr g x++r.flatMap fun y=>eK::jr g y)).length=a+1+1+(jr g x).length+(r.flatMap fun y=>eK::jr g y).length:=by simp only[List.length_cons,aB];omega
  rw[len] at hs ⊢
  have h7:hd L a=some (1,kw 7):=t1
  have h8:hd L (a+1)=some (1,kw 8):=t2
  have hS:∀h,En [11] h->h≠some (5,⟨#[44]⟩):=fun h e=>e.sg ah
  unfold fF
  simp only
  rw[if_pos (bW h7),da]
  unfold must
  rw[if_pos (bW h8),da]
  have hI:fE L (bD L) (P0 (a+1+1))=_:=tw (hX x (by simp)) L _ t4 (zA (Sx:=En [11]) t5 hs)
  rw[hI]
  exact zy (f:=fun L=>fE L (bD L)) (Sx:=En [11]) hS (fun y hy=>tw (hX y (by simp [hy]))) t5 hs
theorem y7 {n:Int} (h0 : -1<=n) (h1:n<=9223372036854775807) {L:List Tok} {a:Nat} (hl:gE L a (jR n)) (hs:En [] (hd L (a+(jR n).length))):limitM L (P0 a)=(n,P0 (a+(jR n).length)):=by
 unfold jR at hl hs ⊢
 unfold limitM
 split at hl
 ·rename_i hn
  rw[if_pos hn]
  have h11:hd L a=some (1,kw 11):=hl.1
  have hi:hd L (a+1)=some (3,dj n):=hl.2.1
  obtain⟨o1,o2⟩:=tm hn h1
  have hk:oT L (P0 (a+1)) 3=true:=by rw[mQ hi];simp only[decide_true,Bool.true_and];exact o1
  rw[if_pos (bW h11),da]
  unfold mNum mText
  rw[if_pos hk,ge hi]
  simp only[o2];rfl
 ·rename_i hn
  rw[if_neg hn] at hs ⊢
  rw[bZ (by simpa using hs.key (by simp)),if_neg (by simp)]
  have:n = -1:=by omega
  rw[this];rfl
theorem y8 {l:List Expr} (h1:l.length<=1) (hX:∀x∈l,XOk g x) {L:List Tok} {a:Nat} (hl:gE L a (pS g l)) (hs:En [7,11] (hd L (a+(pS g l).length))):fD L (bD L) (P0 a)=some (l,P0 (a+(pS g l).length)):=by
 unfold fD
 cases l with
 |nil=>
  rw[bZ (by have:En [7,11] (hd L a):=hs;exact this.key ah),if_neg (by simp)]
  rfl
 |cons x r=>
  have hr:r=[]:=List.eq_nil_of_length_eq_zero (by simp only[List.length_cons] at h1;omega)
  subst hr
  have e:pS g [x]=kT 6::g x:=rfl
  rw[e] at hl hs ⊢
  have len:a+(kT 6::g x).length=a+1+(g x).length:=by rw[List.length_cons];omega
  rw[len] at hs ⊢
  have h6:hd L a=some (1,kw 6):=hl.1
  rw[if_pos (bW h6),da,(hX x (by simp)).el hl.2 (hs.st (by simp) 1)]
theorem Hg {n:Int} {L:List Tok} {a:Nat} (hl:gE L a (jR n)) (hs:En [] (hd L (a+(jR n).length))):En [11] (hd L a):=by
 unfold jR at hl hs
 split at hl
 ·exact En.one (k:=11) hl.1 (by simp)
 ·rename_i hn
  rw[if_neg hn] at hs
  exact En.mono hs (by simp)
theorem Hh {order:List SortKey} {L:List Tok} {a:Nat} (hl:gE L a (bw (fw g order) order.length)) (hs:En [11] (hd L (a+(bw (fw g order) order.length).length))):En [7,11] (hd L a):=by
 cases order with
 |nil=>exact En.mono (ks:=[11]) hs (by simp)
 |cons x r=>
  have e:bw (fw g (x::r)) (r.length+1)=(kT 7::kT 8::jr g x)++r.flatMap fun y=>eK::jr g y:=r8 (F:=fw g (x::r)) rfl fun i hi=>by
   show (if i+1=0 then [kT 7,kT 8] else [eK])++xK (x::r) (jr g) (i+1)=_
   rw[eC (by simpa using hi),if_neg aa];rfl
  rw[List.length_cons,e] at hl
  exact En.one (k:=7) hl.1 (by simp)
theorem IH {l:List Expr} {L:List Tok} {a:Nat} (hl:gE L a (pS g l)) (hs:En [7,11] (hd L (a+(pS g l).length))):En [6,7,11] (hd L a):=by
 cases l with
 |nil=>exact En.mono (ks:=[7,11]) hs (by simp)
 |cons x r=>exact En.one (k:=6) hl.1 (by simp)
theorem EI {x:Item} (hx:nj x=true) (h:x.star=false->XOk g x.e) {L:List Tok} {a:Nat} (hl:gE L a (cM g x)):hd L a≠some (1,kw 2):=by
 obtain⟨star,qual,e,as_⟩:=x
 cases star with
 |true=>
  have e1:cM g (.mk true qual e as_)=cH qual++[Ef]:=rfl
  rw[e1] at hl
  unfold cH at hl
  split at hl
  ·exact dg (k:=5) (x:=⟨#[42]⟩) hl.1 ah
  ·exact dg (k:=2) (x:=qual) hl.1 ah
 |false=>
  have e1:cM g (.mk false qual e as_)=g e++dh as_:=rfl
  rw[e1] at hl
  exact ((h rfl).2.2 L a (bL.1 hl).1).2.2.2.2
theorem y9 {gf:Expr->Bool} {q:Query} (hq:jQ gf q=true) (hlim:q.lim<=9223372036854775807) (hX:∀x∈exprsQ q,XOk g x):Jh q (kV g q):=fun L a hl hs=>by
 obtain⟨distinct,items,from_,where_,order,limit⟩:=q
 obtain⟨hi,hf,hw,ho,hlm,bt,hsr,_⟩:=iV hq
 have hlim:limit<=9223372036854775807:=hlim
 have xi:∀x∈items,x.star=false->XOk g x.e:=fun x hx hst=>hX _ (by
  show x.e∈aY items++from_.flatMap Source.on++where_++order.map SortKey.e
  simp only[List.mem_append,aY,List.mem_map,List.mem_filter]
  exact .inl (.inl (.inl ⟨x,⟨hx,by simp [hst]⟩,rfl⟩)))
 have xf:∀x∈from_,∀y∈x.on,XOk g y:=fun x hx y hy=>hX _ (by
  show y∈aY items++from_.flatMap Source.on++where_++order.map SortKey.e
  simp only[List.mem_append,List.mem_flatMap]
  exact .inl (.inl (.inr ⟨x,hx,hy⟩)))
 have xw:∀x∈where_,XOk g x:=fun x hx=>hX _ (by
  show x∈aY items++from_.flatMap Source.on++where_++order.map SortKey.e
  simp only[List.mem_append]
  exact .inl (.inr hx))
 have xo:∀x∈order,XOk g x.e:=fun x hx=>hX _ (by
  show x.e∈aY items++from_.flatMap Source.on++where_++order.map SortKey.e
  simp only[List.mem_append,List.mem_map]
  exact .inr ⟨x,hx,rfl⟩)
 have eq:kV g (.mk distinct items from_ where_ order limit)=kT 1::((if distinct=true then [kT 2] else [])++(bw (dX g items) items.length++(kT 3::(bw (gP g from_) from_.length++(pS g where_++(bw (fw g order) order.length++jR limit)))))):=rfl
 rw[eq] at hl hs ⊢
 obtain⟨s0,rf,rfl⟩:∃x r,from_=x::r:=by
  cases from_ with
  |nil=>simp at hf
  |cons x r=>exact⟨x,r,rfl⟩
 have es:bw (gP g (s0::rf)) (rf.length+1)=gY g 0 s0++rf.flatMap (kq g):=r8 rfl fun i hi=>by
  show xK (s0::rf) (gY g (i+1)) (i+1)=_
  rw[eC (by simpa using hi)]
  have e2:(s0::rf)[i+1]'(by simpa using hi)=rf[i]:=rfl
  rw[e2]
  obtain⟨t,a',o⟩:=rf[i]
  show (if 0<i+1 then (if 0<o.length then [kT 4] else [eK]) else [])++(nT t::(dh a'++sw g o))=(if 0<1 then (if 0<o.length then [kT 4] else [eK]) else [])++(nT t::(dh a'++sw g o))
  rw[if_pos (show 0<i+1 by omega),if_pos (show 0<1 by omega)]
 have ec:(s0::rf).length=rf.length+1:=rfl
 rw[ec,es] at hl hs ⊢
 generalize hd1:(if distinct=true then [kT 2] else [])=D at *
 generalize hI:bw (dX g items) items.length=I at *
 generalize hO:bw (fw g order) order.length=O at *
 obtain⟨t1,t2⟩:=hl
 obtain⟨t3,t4⟩:=bL.1 t2
 obtain⟨t5,t6⟩:=bL.1 t4
 obtain⟨t7,t8⟩:=t6
 obtain⟨t9,JJ⟩:=bL.1 t8
 obtain⟨Jo,GN⟩:=bL.1 t9
 obtain⟨Iu,t14⟩:=bL.1 JJ
 obtain⟨t15,t16⟩:=bL.1 t14
 have len:a+(kT 1::(D++(I++(kT 3::(gY g 0 s0++rf.flatMap (kq g)++(pS g where_++(O++jR limit))))))).length=a+1+D.length+I.length+1+(gY g 0 s0++rf.flatMap (kq g)).length+(pS g where_).length+O.length+(jR limit).length:=by
  simp only[List.length_cons,aB];omega
 rw[len] at hs ⊢
 have E0:En [] (hd L (a+1+D.length+I.length+1+(gY g 0 s0++rf.flatMap (kq g)).length+(pS g where_).length+O.length+(jR limit).length)):=hs.imp id .inl
 have E1:=Hg t16 E0
 have E2:=Hh (g:=g) (order:=order) (by rw[hO];exact t15) (by rw[hO];exact E1)
 have E3:=IH Iu E2
 have hs0:=hsr 0 (by simp)
 obtain⟨table,as_,on⟩:=s0
 have hs0:nl 0 (.mk table as_ on)=true:=hs0
 unfold nl at hs0
 simp only[Bool.and_eq_true,decide_eq_true_eq,Bool.or_eq_true] at hs0
 obtain⟨ht,ha,_,hon⟩:=hs0
 have hon:on=[]:=by simpa using hon
 subst hon
 have e0:gY g 0 (.mk table as_ [])=nT table::(dh as_++[]):=rfl
 rw[List.append_nil] at e0
 rw[e0] at Jo GN Iu t15 t16 E0 E1 E2 E3 ⊢
 have ls:∀p,p+(nT table::dh as_++rf.flatMap (kq g)).length=p+1+(dh as_).length+(rf.flatMap (kq g)).length:=fun p=>by simp only[List.length_cons,aB];omega
 simp only[ls] at Iu t15 t16 E0 E1 E2 E3 ⊢
 have l1:a+1+D.length+I.length+1+(nT table::dh as_).length=a+1+D.length+I.length+1+1+(dh as_).length:=by rw[List.length_cons];omega
 rw[l1] at GN
 have n12:hd L (a+1+D.length+I.length+1+1+(dh as_).length)≠some (1,kw 12):=by
  cases rf with
  |nil=>exact E3.key ah
  |cons y r=>
   obtain⟨ty,ay,oy⟩:=y
   rw[List.flatMap_cons] at GN
   have h3:=(bL.1 GN).1
   have e3:kq g (.mk ty ay oy)=(if 0<oy.length then [kT 4] else [eK])++(nT ty::(dh ay++sw g oy)):=rfl
   rw[e3] at h3
   by_cases e:0<oy.length
   ·rw[if_pos e] at h3;exact eV (k:=1) (x:=kw 4) h3.1 ah
   ·rw[if_neg e] at h3;exact dg (k:=5) (x:=⟨#[44]⟩) h3.1 ah
 have h1:hd L a=some (1,kw 1):=t1
 have h3:hd L (a+1+D.length+I.length)=some (1,kw 3):=t7
 have dis:aG L (P0 (a+1)) 2=distinct/\tkIf (aG L (P0 (a+1)) 2) (P0 (a+1))=P0 (a+1+D.length):=by
  cases distinct with
  |true=>
   rw[if_pos rfl] at hd1
   subst hd1
   have h2:hd L (a+1)=some (1,kw 2):=t3.1
   refine⟨bW h2,?_⟩
   rw[bW h2];rfl
  |false=>
   rw[if_neg (by simp)] at hd1
   subst hd1
   have n2:hd L (a+1)≠some (1,kw 2):=by
    cases items with
    |nil=>simp at hi
    |cons x r=>
     have e:bw (dX g (x::r)) (r.length+1)=cM g x++r.flatMap fun y=>eK::cM g y:=r8 rfl fun i hi=>by
      show kB (i+1)++xK (x::r) (cM g) (i+1)=_
      rw[eC (by simpa using hi)];rfl
     rw[List.length_cons,e] at hI
     rw[<-hI] at t5
     have t5:=(bL.1 t5).1
     exact EI (bt x (by simp)) (xi x (by simp)) t5
   refine⟨bZ n2,?_⟩
   rw[bZ n2];rfl
 rw[AO]
 unfold stepQ
 simp only
 have m1:must (aG L (P0 a) 1) (P0 a)=P0 (a+1):=by unfold must;rw[if_pos (bW h1)];rfl
 rw[m1,dis.2,dis.1]
 have R1:=y5 (g:=g) hi.1 bt xi (L:=L) (a:=a+1+D.length) (by rw[hI];exact t5) (by rw[hI];exact h3)
 rw[hI] at R1
 rw[R1]
 simp only
 have m3:must (aG L (P0 (a+1+D.length+I.length)) 3) (P0 (a+1+D.length+I.length))=P0 (a+1+D.length+I.length+1):=by unfold must;rw[if_pos (bW h3)];rfl
 rw[m3,lC ht ha Jo n12]
 simp only
 have hrl:rf.length<L.length+1:=by
  have h4:∀r:List Source,r.length<=(r.flatMap (kq g)).length:=fun r=>by
   induction r with
   |nil=>simp
   |cons p r ih=>
    obtain⟨ty,ay,oy⟩:=p
    have e3:kq g (.mk ty ay oy)=(if 0<oy.length then [kT 4] else [eK])++(nT ty::(dh ay++sw g oy)):=rfl
    rw[List.flatMap_cons,aB,List.length_cons,e3,aB,List.length_cons];omega
  have:=h4 rf
  rcases qp GN with h5|h5
  ·rw[h5] at this;simp at this;simp [this]
  ·omega
 have R2:=nN (g:=g) (ks:=[6,7,11]) (by simp) rf (L.length+1) [.mk table as_ []] (L:=L) (a:=a+1+D.length+I.length+1+1+(dh as_).length) (fun x hx=>by
  obtain⟨i,hi',rfl⟩:=List.getElem_of_mem hx
  have:=hsr (i+1) (by simpa using hi')
  have e:(Source.mk table as_ []::rf)[i+1]'(by simpa using hi')=rf[i]:=rfl
  rw[e] at this
  generalize rf[i]=y at *
  obtain⟨ty,ay,oy⟩:=y
  unfold nl at this ⊢
  simp only[Bool.and_eq_true,decide_eq_true_eq,Bool.or_eq_true] at this ⊢
  exact⟨this.1,this.2.1,this.2.2.1,.inl aa⟩) (fun x hx=>xf x (by simp [hx])) hrl GN E3
 rw[R2]
 simp only
 have R3:=y8 (g:=g) hw xw Iu E2
 rw[R3]
 simp only
 have R4:=y6 (g:=g) xo (L:=L) (a:=a+1+D.length+I.length+1+1+(dh as_).length+(rf.flatMap (kq g)).length+(pS g where_).length) (by rw[hO];exact t15) (by rw[hO];exact E1)
 rw[hO] at R4
 rw[R4]
 simp only
 have R5:=y7 hlm hlim t16 E0
 rw[R5]
 rfl
end
def XO (e:Expr) (l:List Tok):Prop:=Itm e l (nv e).toNat/\1<=nv e/\Fs l (nv e)
theorem EJ {full:Bool} {gf:Expr->Bool} {g:Expr->List Tok} {e:Expr} (hf:tO gf e=true) (hr:Rg e) (hg:∀x,eT x e->gf x=true->Rg x->XO x (g x)):XO e (np full g e):=by
 have hb:∀x,eT x e->Rg x:=fun x hx=>qz hr hx
 have hlim:∀q∈e.sub,q.lim<=9223372036854775807:=fun q hq=>(uT hr hq).1
 obtain⟨kind,op,not,val,qual,name,kids,sub⟩:=e
 have hnum:=hr.num
 obtain⟨hs,hk,hq⟩:=jS hf
 have hkid:KidsOk g kids:=fun k hk'=>by
  have hm:=aJ hk'
  have e:kids.getD k zeroX=kids[k]:=by rw[List.getD_eq_getElem?_getD,aA hk'];rfl
  rw[e]
  exact hg _ (.inl hm) (hk _ hm) (hb _ (.inl hm))
 have hqs:∀q∈sub,Jh q (kV g q):=fun q hm=>y9 (hq q hm) (hlim q hm) fun x hx=>hg x (.inr ⟨q,hm,hx⟩) (by
  have h1:=hq q hm
  simp only[jQ,Bool.and_eq_true,List.all_eq_true] at h1
  exact h1.2 x hx) (hb _ (.inr ⟨q,hm,hx⟩))
 obtain⟨z1,z2,z3,z4⟩:=y3 hs
 rcases jd hs with⟨rfl,hl,nk,ns⟩|⟨rfl,hn,hm,nk,ns⟩|⟨rfl,ho,nk,ns⟩|⟨rfl,ho,nk,ns⟩|⟨rfl,nk,ns⟩|⟨rfl,nk,ns⟩|⟨rfl,nk,ns⟩|⟨rfl,nk,ns⟩|⟨rfl,nk,ns⟩
 ·obtain rfl:=z1 rfl
  obtain rfl:=z2 rfl
  obtain⟨rfl,rfl⟩:=z4 rfl
  obtain rfl:=mC nk
  obtain rfl:=mC ns
  exact⟨EC hl hnum.2,by show (1:Int)<=9;decide,H7 _⟩
 ·obtain rfl:=z1 rfl
  obtain rfl:=z2 rfl
  obtain rfl:=z3 rfl
  obtain rfl:=mC nk
  obtain rfl:=mC ns
  exact⟨ED hn hm,by show (1:Int)<=9;decide,H8 _⟩
 ·obtain rfl:=z2 rfl
  obtain rfl:=z3 rfl
  obtain⟨rfl,rfl⟩:=z4 rfl
  obtain⟨k,rfl⟩:=je nk
  obtain rfl:=mC ns
  refine⟨H9 ho hkid,?_,?_⟩
  ·rcases ho with rfl|rfl
   ·show (1:Int)<=3;decide
   ·show (1:Int)<=8;decide
  ·rcases ho with rfl|rfl
   ·exact ij ah (fun _=>⟨ah,fun h=>absurd h (by show ¬(4:Int)<=3;decide),ah⟩) (fun h=>absurd h ah)
   ·exact ij ah (fun h=>absurd h ah) (fun _=>by decide)
 ·obtain rfl:=z2 rfl
  obtain rfl:=z3 rfl
  obtain⟨rfl,rfl⟩:=z4 rfl
  obtain⟨x,y,rfl⟩:=GH nk
  obtain rfl:=mC ns
  have e1:(Expr.mk 4 op false zVal z0 z0 [x,y] [])=km op.toNat x y:=by unfold km;rw[show ((op.toNat:Nat):Int)=op by omega]
  have e2:nv (Expr.mk 4 op false zVal z0 z0 [x,y] [])=lv 4 op:=rfl
  unfold XO
  rw[e2]
  have:=qZ ho.1 ho.2
  refine⟨?_,by unfold lv;rw[if_pos rfl];omega,Ha ho.1 ho.2 hkid⟩
  rw[e1]
  have e3:np full g (km op.toNat x y)=aP full g 4 op [x,y] 0++d5 op::aP full g 4 op [x,y] 1:=by rw[<-e1];rfl
  rw[e3]
  exact EF ho.1 ho.2 hkid
 ·obtain rfl:=z1 rfl
  obtain rfl:=z3 rfl
  obtain⟨rfl,rfl⟩:=z4 rfl
  obtain⟨x,rfl⟩:=je nk
  obtain rfl:=mC ns
  exact⟨Hd hkid,by show (1:Int)<=4;decide,lA ((hkid.fs (k:=0) (by simp) full 5 0).mono fun _=>by decide) (fun h=>absurd h ah)⟩
 ·obtain rfl:=z1 rfl
  obtain rfl:=z3 rfl
  obtain⟨rfl,rfl⟩:=z4 rfl
  obtain⟨x,y,z,rfl⟩:=GJ nk
  obtain rfl:=mC ns
  refine⟨EG hkid,by show (1:Int)<=4;decide,?_⟩
  have hF:=(hkid.fs (k:=0) (by simp) full 6 0).mono (m:=4) fun _=>by decide
  cases not with
  |true=>exact lA (t:=kT 15) hF (fun h=>absurd h ah)
  |false=>exact lA (t:=kT 18) hF (fun h=>absurd h ah)
 ·obtain rfl:=z1 rfl
  obtain rfl:=z3 rfl
  obtain⟨rfl,rfl⟩:=z4 rfl
  obtain rfl:=mC ns
  refine⟨He aa aa hkid,by show (1:Int)<=4;decide,?_⟩
  have hF:=(hkid.fs (k:=0) aa full 7 0).mono (m:=4) fun _=>by decide
  cases not with
  |true=>exact lA (t:=kT 15) hF (fun h=>absurd h ah)
  |false=>exact lA (t:=kT 17) hF (fun h=>absurd h ah)
 ·obtain rfl:=z1 rfl
  obtain rfl:=z3 rfl
  obtain⟨rfl,rfl⟩:=z4 rfl
  obtain⟨x,rfl⟩:=je nk
  obtain⟨q,rfl⟩:=je ns
  have hqt:∃r,kV g q=kT 1::r:=by
   obtain⟨d,it,fr,wh,od,lm⟩:=q
   exact⟨_,rfl⟩
  obtain⟨r,hqt⟩:=hqt
  refine⟨EH hkid hqt (hqs q (by simp)),by show (1:Int)<=4;decide,?_⟩
  have hF:=(hkid.fs (k:=0) (by simp) full 8 0).mono (m:=4) fun _=>by decide
  cases not with
  |true=>exact lA (t:=kT 15) hF (fun h=>absurd h ah)
  |false=>exact lA (t:=kT 17) hF (fun h=>absurd h ah)
 ·obtain rfl:=z1 rfl
  obtain rfl:=z2 rfl
  obtain rfl:=z3 rfl
  obtain⟨rfl,rfl⟩:=z4 rfl
  obtain rfl:=mC nk
  obtain⟨q,rfl⟩:=je ns
  exact⟨Hf (hqs q (by simp)),by show (1:Int)<=9;decide,ij ah (fun _=>⟨ah,fun _=>by decide,ah⟩) (fun h=>absurd h ah)⟩
theorem Cn (full:Bool) (e:Expr):fmE e=true->Rg e->XO e (nw full e):=
 kD (F1:=tO) (F2:=A7) (F3:=np full) (P:=fun e f n t=>f=true->Rg e->XO e t) (fun e gf gn g hg hf hr=>EJ hf hr hg) e
def SameK (L l:List Tok):Prop:=L.map (fun t=>(t.kind,t.text))=l.map fun t=>(t.kind,t.text)
theorem SameK.len {L l:List Tok} (h:SameK L l):L.length=l.length:=by have:=congrArg List.length h;simpa using this
theorem SameK.has {L l:List Tok} (h:SameK L l):gE L 0 l:=by
 have key:∀(l:List Tok) (a:Nat),(L.map fun t=>(t.kind,t.text)).drop a=l.map (fun t=>(t.kind,t.text))->gE L a l:=by
  intro l
  induction l with
  |nil=>intro _ _;trivial
  |cons t r ih=>
   intro a h
   have h1:(L.map fun t=>(t.kind,t.text))[a]?=some (t.kind,t.text):=by
    have:=congrArg (fun x=>x[0]?) h
    simpa [List.getElem?_drop] using this
   refine⟨?_,ih (a+1) ?_⟩
   ·unfold hd;rw[<-List.getElem?_map];exact h1
   ·have:=congrArg List.tail h
    rw[List.tail_drop] at this
    simpa using this
 exact key l 0 (by rw[List.drop_zero];exact h)
theorem SameK.end_ {L l:List Tok} (h:SameK L l):hd L (0+l.length)=none:=by
 unfold hd
 rw[List.getElem?_eq_none_iff.2 (by have:=h.len;omega)];rfl
theorem Co {L:List Tok} {a:Nat} (h:L.length=a):pZ L (P0 a) = -1:=by unfold pZ;rw[if_pos ⟨rfl,by show L.length<=a;omega⟩]
theorem Cp {α:Type} {L:List Tok} {z x:α} {a:Nat} (h:L.length=a):ly L z (some (x,P0 a))=(x,-1):=by
 unfold ly
 simp only[Co h]
 rw[if_neg aa]
theorem ya {full:Bool} {e:Expr} {L:List Tok} (hf:fmE e=true) (hr:Rg e) (h:SameK L (nw full e)):cX L=(e,-1):=by
 obtain⟨h1,h2,_⟩:=Cn full e hf hr
 unfold cX
 have:bD L 1 s0=some (e,P0 (0+(nw full e).length)):=(h1 L 0 h.has 1 (Nat.le_refl 1) aa).1 (by rw[h.end_];exact zx 1)
 rw[this]
 exact Cp (by rw[h.len];omega)
theorem Gq {x:ByteArray} {l:List UInt8} (h:x.data.toList=l):x=⟨l.toArray⟩:=by
 obtain⟨⟨xs⟩⟩:=x
 have h:xs=l:=h
 rw[h]
theorem um (x:ByteArray):(⟨x.data.toList.toArray⟩:ByteArray)=x:=(Gq rfl).symm
theorem un {A X C:List UInt8} (i:Nat) (h:i<X.length):(A++X++C)[A.length+i]?=X[i]?:=by
 rw[aK,List.getElem?_append_right aa,Nat.add_sub_cancel_left,List.getElem?_append_left h]
theorem EK {A X C:List UInt8} (i:Nat):(A++X++C)[A.length+X.length+i]?=C[i]?:=by
 rw[List.getElem?_append_right (by rw[aB];omega),aB,Nat.add_sub_cancel_left]
theorem Hi {p:UInt8->Bool} {X C:List UInt8} (h:∀b,b∈X->p b=true) (hc:∀c,C.head?=some c->p c=false):((X++C).takeWhile p)=X:=by
 induction X with
 |nil=>
  cases C with
  |nil=>rfl
  |cons c r=>rw[List.nil_append,List.takeWhile_cons,hc c rfl];rfl
 |cons y r ih=>
  rw[List.cons_append,List.takeWhile_cons,h y (by simp)]
  simp only[if_true]
  rw[ih fun b hb=>h b (by simp [hb])]
theorem EL {A X C:List UInt8} (h:∀b,b∈X->(cG b||d8 b)=true) (hc:∀c,C.head?=some c->(cG c||d8 c)=false):bO (A++X++C) A.length=A.length+X.length:=by
 unfold bO
 rw[aK,List.drop_left,Hi h hc]
theorem qq {A X C:List UInt8}:d9 (A++X++C) A.length (A.length+X.length)=⟨X.toArray⟩:=by
 unfold d9
 rw[aK,List.drop_left,Nat.add_sub_cancel_left,List.take_left]
theorem r9 (q:UInt8):∀(X:List UInt8) (B A C l:List UInt8) (n:Nat),B=A++bN q X++(q::C)->(∀c,C.head?=some c->c≠q)->B.length<A.length+n->ei B q n A.length l=some (l++X,A.length+(bN q X).length+1)
 | [],B,A,C,l,n,hB,hc,hn=>by
  have e0:bN q []=[]:=rfl
  rw[e0] at hB ⊢
  rw[List.append_nil] at hB
  have hl:B.length=A.length+(C.length+1):=by rw[hB,aB,List.length_cons]
  obtain⟨n,rfl⟩:∃m,n=m+1:=⟨n-1,aa⟩
  have h0:B[A.length]?=some q:=by rw[hB,List.getElem?_append_right (Nat.le_refl _),Nat.sub_self];rfl
  have h1:B[A.length+1]?=C[0]?:=by
   rw[hB,List.getElem?_append_right aa,Nat.add_sub_cancel_left];rfl
  rw[ei,h0]
  simp only[if_true]
  rw[h1,if_neg]
  ·simp
  ·intro h
   cases C with
   |nil=>cases h
   |cons c r=>
    injection h with h
    exact hc c rfl h
 |y::X,B,A,C,l,n,hB,hc,hn=>by
  have hl:B.length=A.length+((bN q (y::X)).length+(C.length+1)):=by rw[hB,aB,aB,List.length_cons];omega
  obtain⟨n,rfl⟩:∃m,n=m+1:=⟨n-1,aa⟩
  by_cases hy:y=q
  ·subst hy
   have e:bN y (y::X)=y::y::bN y X:=by simp [bN]
   rw[e] at hB hl ⊢
   have h0:B[A.length]?=some y:=by rw[hB,aK,List.getElem?_append_right (Nat.le_refl _),Nat.sub_self];rfl
   have h1:B[A.length+1]?=some y:=by rw[hB,aK,List.getElem?_append_right aa,Nat.add_sub_cancel_left];rfl
   have hB2:B=(A++[y,y])++bN y X++(y::C):=by rw[hB];simp
   have:=r9 y X B (A++[y,y]) C (l++[y]) n hB2 hc (by rw[aB];simp only[List.length_cons,List.length_nil] at hl ⊢;omega)
   rw[ei,h0]
   simp only[if_true]
   rw[if_pos h1]
   have e2:(A++[y,y]).length=A.length+2:=by simp
   rw[e2] at this
   rw[this]
   simp only[List.length_cons,aK,lc]
   congr 2
   omega
  ·have e:bN q (y::X)=y::bN q X:=by simp [bN,hy]
   rw[e] at hB hl ⊢
   have h0:B[A.length]?=some y:=by rw[hB,aK,List.getElem?_append_right (Nat.le_refl _),Nat.sub_self];rfl
   have hB2:B=(A++[y])++bN q X++(q::C):=by rw[hB];simp
   have:=r9 q X B (A++[y]) C (l++[y]) n hB2 hc (by rw[aB];simp only[List.length_cons,List.length_nil] at hl ⊢;omega)
   rw[ei,h0]
   simp only
   rw[if_neg hy]
   have e2:(A++[y]).length=A.length+1:=by simp
   rw[e2] at this
   rw[this]
   simp only[List.length_cons,aK,lc]
   congr 2
   omega
def oV (t:Tok) (c:UInt8):Bool:=
 if t.kind=5 then !((decide (t.text=⟨#[45]⟩)&&decide (c=45))||(decide (t.text=⟨#[47]⟩)&&decide (c=42))||(decide (t.text=⟨#[60]⟩)&&(decide (c=61)||decide (c=62)))||(decide (t.text=⟨#[62]⟩)&&decide (c=61)))
 else if t.kind=4 then !(decide (c=39)) else if bB t=true then !(cG c||d8 c) else !(decide (c=34))
def tb (t:Tok):List UInt8:=(cB t).data.toList
def vX (B:List UInt8) (i:Nat) (t:Tok) (n:Nat):Prop:=(∃b,B[i]?=some b/\(∀k,eW B (k+1) i=some (i,true))/\cm B i b=some (⟨t.kind,t.text,i⟩,i+n))
theorem jz {B:List UInt8} {i:Nat} {b:UInt8} (h:B[i]?=some b) (hw:pX b=false) (h1:¬(b=45/\B[i+1]?=some 45)) (h2:¬(b=47/\B[i+1]?=some 42)) (k:Nat):eW B (k+1) i=some (i,true):=by
 rw[eW,h]
 simp only
 rw[if_neg (by rw[hw];simp),if_neg h1,if_neg h2]
theorem uo {b:UInt8} (h:(cG b||d8 b)=true):pX b=false/\b≠45/\b≠47/\b≠34/\b≠39:=by
 have h2:∀n:Fin 256,(cG (UInt8.ofNat n.1)||d8 (UInt8.ofNat n.1))=true->(pX (UInt8.ofNat n.1)=false/\UInt8.ofNat n.1≠45/\UInt8.ofNat n.1≠47/\UInt8.ofNat n.1≠34/\UInt8.ofNat n.1≠39):=by decide
 have:=h2 ⟨b.toNat,UInt8.toNat_lt b⟩
 simp only[UInt8.ofNat_toNat] at this
 exact this h
theorem vY (k:Int) (x:ByteArray) (a b:Int):aM ⟨k,x,a⟩=aM ⟨k,x,b⟩:=rfl
theorem uq {A C:List UInt8} {t:Tok} (ok:aM t=true) (hX:tb t=t.text.data.toList) (hne:t.text.data.toList≠[]) (hall:∀b,b∈t.text.data.toList->(cG b||d8 b)=true) (hc:∀c,C.head?=some c->(cG c||d8 c)=false)
 (hk:∀b,t.text.data.toList.head?=some b->(cG b=true/\((t.kind=2/\key t.text=0)∨(t.kind=1/\key t.text≠0/\d7 t.text=t.text)))∨(cG b=false/\d8 b=true/\t.kind=3)):vX (A++tb t++C) A.length t (tb t).length:=by
 rw[hX]
 obtain⟨kind,text,at_⟩:=t
 simp only at *
 obtain⟨b,r,hb⟩:∃b r,text.data.toList=b::r:=by
  cases h:text.data.toList with
  |nil=>exact absurd h hne
  |cons b r=>exact⟨b,r,rfl⟩
 have h0:(A++text.data.toList++C)[A.length]?=some b:=by
  have:=un (A:=A) (X:=text.data.toList) (C:=C) 0 (by rw[hb];simp)
  rw[Nat.add_zero] at this
  rw[this,hb];rfl
 obtain⟨n1,n2,n3,n4,n5⟩:=uo (hall b (by rw[hb];simp))
 refine⟨b,h0,jz h0 n1 (fun h=>n2 h.1) (fun h=>n3 h.1),?_⟩
 unfold cm dA
 simp only[EL hall hc,qq,um]
 rcases hk b (by rw[hb];rfl) with⟨hl,⟨rfl,h1⟩|⟨rfl,h1,hf⟩⟩|⟨hl,hf,rfl⟩
 ·rw[if_pos hl,if_pos h1]
  simp only[vY _ _ _ at_,ok,if_true]
 ·rw[if_pos hl,if_neg h1,hf]
  simp only[vY _ _ _ at_,ok,if_true]
 ·rw[if_neg (by rw[hl];simp),if_pos hf]
  simp only[vY _ _ _ at_,ok,if_true]
theorem zB {A C:List UInt8} {t:Tok} {q:UInt8} (ok:aM t=true) (hX:tb t=q::(bN q t.text.data.toList++[q])) (hc:∀c,C.head?=some c->c≠q) (hq:(q=34/\t.kind=2)∨(q=39/\t.kind=4)):vX (A++tb t++C) A.length t (tb t).length:=by
 obtain⟨kind,text,at_⟩:=t
 simp only at *
 have h0:(A++tb ⟨kind,text,at_⟩++C)[A.length]?=some q:=by
  have:=un (A:=A) (X:=tb ⟨kind,text,at_⟩) (C:=C) 0 (by rw[hX];simp)
  rw[Nat.add_zero] at this
  rw[this,hX];rfl
 have hB:A++tb ⟨kind,text,at_⟩++C=(A++[q])++bN q text.data.toList++(q::C):=by rw[hX];simp
 have hQ:=r9 q text.data.toList _ (A++[q]) C [] ((A++tb ⟨kind,text,at_⟩++C).length+1) hB hc (by rw[show (A++[q]).length=A.length+1 by simp];omega)
 have e1:(A++[q]).length=A.length+1:=by simp
 rw[e1,List.nil_append] at hQ
 have e2:A.length+1+(bN q text.data.toList).length+1=A.length+(tb ⟨kind,text,at_⟩).length:=by rw[hX];simp;omega
 rw[e2] at hQ
 generalize tb ⟨kind,text,at_⟩=T at *
 generalize A++T++C=B at *
 have w1:cG 34=false:=by decide
 have w2:cG 39=false:=by decide
 have w3:d8 34=false:=by decide
 have w4:d8 39=false:=by decide
 rcases hq with⟨rfl,rfl⟩|⟨rfl,rfl⟩
 ·refine⟨34,h0,jz h0 ah (fun h=>absurd h.1 ah) (fun h=>absurd h.1 ah),?_⟩
  unfold cm dA
  simp only[w1,w3,hQ,Bool.false_eq_true,if_false,if_true,Option.map_some,um,vY _ _ _ at_,ok]
 ·refine⟨39,h0,jz h0 ah (fun h=>absurd h.1 ah) (fun h=>absurd h.1 ah),?_⟩
  unfold cm dA
  simp only[w2,w4,hQ,Bool.false_eq_true,if_false,if_true,Option.map_some,um,vY _ _ _ at_,ok,show ¬((39:UInt8)=34) by decide]
theorem AR (a c:UInt8):dm ⟨#[a,c]⟩=((decide (a=60)&&(decide (c=62)||decide (c=61)))||(decide (a=62)&&decide (c=61))||(decide (a=124)&&decide (c=124))):=by
 unfold dm signs
 simp only[List.any_cons,List.any_nil,ByteArray.mk.injEq,Array.mk.injEq,List.cons.injEq,and_true,and_false,reduceCtorEq,decide_false,Bool.false_or,Bool.or_false,Bool.decide_and]
 cases decide (a=60)<;>cases decide (a=62)<;>cases decide (c=62)<;>cases decide (c=61)<;>simp
theorem II {A C:List UInt8} {c0:UInt8} {a:Int} (hs:dm ⟨#[c0]⟩=true) (hn:cG c0=false/\d8 c0=false /\ ¬c0=34 /\ ¬c0=39/\pX c0=false) (hc:∀c,C.head?=some c->dm ⟨#[c0,c]⟩=false /\ ¬(c0=45/\c=45) /\ ¬(c0=47/\c=42)):vX (A++[c0]++C) A.length ⟨5,⟨#[c0]⟩,a⟩ 1:=by
 obtain⟨n1,n2,n3,n4,n5⟩:=hn
 have h0:(A++[c0]++C)[A.length]?=some c0:=by simpa using un (A:=A) (X:=[c0]) (C:=C) 0 (by simp)
 have h1:(A++[c0]++C)[A.length+1]?=C[0]?:=by simpa using EK (A:=A) (X:=[c0]) (C:=C) 0
 have h1':∀c,(A++[c0]++C)[A.length+1]?=some c->C.head?=some c:=fun c h=>by rw[h1] at h;rw[List.head?_eq_getElem?];exact h
 refine⟨c0,h0,jz h0 n5 (fun h=>(hc _ (h1' _ h.2)).2.1 ⟨h.1,rfl⟩) (fun h=>(hc _ (h1' _ h.2)).2.2 ⟨h.1,rfl⟩),?_⟩
 have hcut:d9 (A++[c0]++C) A.length (A.length+1)=⟨#[c0]⟩:=qq (A:=A) (X:=[c0]) (C:=C)
 have hsg:eH (A++[c0]++C) A.length=A.length+1:=by
  unfold eH
  cases C with
  |nil=>exact if_neg fun h=>by have:=h.1;simp at this
  |cons c r=>
   have e:d9 (A++[c0]++c::r) A.length (A.length+2)=⟨#[c0,c]⟩:=by
    have:=qq (A:=A) (X:=[c0,c]) (C:=r)
    simpa using this
   rw[e,(hc c rfl).1]
   exact if_neg fun h=>by cases h.2
 unfold cm dA
 rw[if_neg (by rw[n1];simp),if_neg (by rw[n2];simp),if_neg n3,if_neg n4,hsg]
 simp only[hcut]
 rw[if_pos (show aM ⟨5,⟨#[c0]⟩,(A.length:Int)⟩=true from hs)]
theorem IJ {A C:List UInt8} {c0 c1:UInt8} {a:Int} (hs:dm ⟨#[c0,c1]⟩=true) (hn:cG c0=false/\d8 c0=false /\ ¬c0=34 /\ ¬c0=39/\pX c0=false /\ ¬c0=45 /\ ¬c0=47):vX (A++[c0,c1]++C) A.length ⟨5,⟨#[c0,c1]⟩,a⟩ 2:=by
 obtain⟨n1,n2,n3,n4,n5,n6,n7⟩:=hn
 have h0:(A++[c0,c1]++C)[A.length]?=some c0:=by simpa using un (A:=A) (X:=[c0,c1]) (C:=C) 0 (by simp)
 refine⟨c0,h0,jz h0 n5 (fun h=>n6 h.1) (fun h=>n7 h.1),?_⟩
 have hcut:d9 (A++[c0,c1]++C) A.length (A.length+2)=⟨#[c0,c1]⟩:=qq (A:=A) (X:=[c0,c1]) (C:=C)
 have hsg:eH (A++[c0,c1]++C) A.length=A.length+2:=by
  unfold eH
  rw[hcut]
  exact if_pos ⟨by simp,hs⟩
 unfold cm dA
 rw[if_neg (by rw[n1];simp),if_neg (by rw[n2];simp),if_neg n3,if_neg n4,hsg]
 simp only[hcut]
 rw[if_pos (show aM ⟨5,⟨#[c0,c1]⟩,(A.length:Int)⟩=true from hs)]
theorem EM {A C:List UInt8} {x:ByteArray} {a:Int} (hs:dm x=true) (hc:∀c,C.head?=some c->oV ⟨5,x,a⟩ c=true):vX (A++x.data.toList++C) A.length ⟨5,x,a⟩ x.data.toList.length:=by
 have hm:x∈signs:=by
  unfold dm at hs
  obtain⟨y,hy,e⟩:=List.any_eq_true.1 hs
  rw[decide_eq_true_eq] at e
  rw[e];exact hy
 have one:∀c0:UInt8,x=⟨#[c0]⟩->(cG c0=false/\d8 c0=false /\ ¬c0=34 /\ ¬c0=39/\pX c0=false)->c0≠124->vX (A++x.data.toList++C) A.length ⟨5,x,a⟩ x.data.toList.length:=fun c0 e hn hb=>by
  subst e
  refine II hs hn fun c h=>?_
  have:=hc c h
  unfold oV at this
  simp only[if_true,ByteArray.mk.injEq,Array.mk.injEq,List.cons.injEq,and_true] at this
  rw[AR]
  revert this
  by_cases e1:c0=45<;>by_cases e2:c0=47<;>by_cases e3:c0=60<;>by_cases e4:c0=62<;>simp_all
 have two:∀c0 c1:UInt8,x=⟨#[c0,c1]⟩->(cG c0=false/\d8 c0=false /\ ¬c0=34 /\ ¬c0=39/\pX c0=false /\ ¬c0=45 /\ ¬c0=47)->vX (A++x.data.toList++C) A.length ⟨5,x,a⟩ x.data.toList.length:=fun c0 c1 e hn=>by
  subst e
  exact IJ hs hn
 unfold signs at hm
 simp only[List.mem_cons,List.not_mem_nil,or_false] at hm
 rcases hm with h|h|h|h|h|h|h|h|h|h|h|h|h|h|h|h
 all_goals first
  |exact one _ h ah ah
  |exact two _ _ h ah
theorem zC:∀x∈kws,x.data.toList≠[]/\∀b∈x.data.toList,cG b=true:=by decide
theorem zD {x:ByteArray} (h:key x≠0):d7 x∈kws:=by
 unfold key mD at h
 split at h
 ·rename_i hl
  have:=List.findIdx_getElem (w:=hl)
  simp only[decide_eq_true_eq] at this
  rw[<-this]
  exact aJ hl
 ·exact absurd rfl h
theorem vZ (n:Nat):Go.Lib.decDigits n≠[]/\∀b∈Go.Lib.decDigits n,d8 b=true/\cG b=false:=by
 have h1:∀i:Fin 10,d8 (UInt8.ofNat (48+i.1))=true/\cG (UInt8.ofNat (48+i.1))=false:=by decide
 induction n using Nat.strongRecOn with
 |_ n ih=>
  rw[Go.Lib.decDigits]
  by_cases h:n<10
  ·rw[dif_pos h]
   exact⟨by simp,fun b hb=>by rw[List.mem_singleton.1 hb];exact h1 ⟨n,h⟩⟩
  ·rw[dif_neg h]
   refine⟨by simp,fun b hb=>?_⟩
   rcases List.mem_append.1 hb with hb|hb
   ·exact (ih (n / 10) aa).2 b hb
   ·rw[List.mem_singleton.1 hb];exact h1 ⟨n % 10,aa⟩
theorem Hj {A C:List UInt8} {t:Tok} (ok:aM t=true) (hc:∀c,C.head?=some c->oV t c=true):tb t≠[]/\vX (A++tb t++C) A.length t (tb t).length:=by
 have okf:¬aM t=false:=by rw[ok];simp
 by_cases k1:t.kind=1
 ·have o:=ok
  unfold aM at o
  rw[if_pos k1,Bool.and_eq_true,decide_eq_true_eq,decide_eq_true_eq] at o
  have hX:tb t=t.text.data.toList:=by
   unfold tb cB
   rw[if_neg okf,if_neg aa,if_neg aa]
  obtain⟨m1,m2⟩:=zC _ (by have:=zD o.1;rwa[o.2] at this)
  refine⟨by rw[hX];exact m1,uq ok hX m1 (fun b hb=>by rw[m2 b hb];rfl) (fun c h=>?_) fun b hb=>.inl ⟨m2 b (List.mem_of_mem_head? hb),.inr ⟨k1,o.1,o.2⟩⟩⟩
  have:=hc c h
  unfold oV at this
  rw[if_neg aa,if_neg aa,if_pos (by unfold bB;rw[aw k1];rfl)] at this
  simpa using this
 by_cases k3:t.kind=3
 ·have o:=ok
  unfold aM at o
  rw[if_neg k1,if_neg aa,if_pos k3] at o
  have hX:tb t=t.text.data.toList:=by
   unfold tb cB
   rw[if_neg okf,if_neg aa,if_neg aa]
  obtain⟨m,hm⟩:=Option.isSome_iff_exists.1 (show (hY t.text.data.toList).isSome=true from o)
  have hm:=(dD.1 hm).2
  obtain⟨m1,m2⟩:=vZ m
  rw[hm] at m1 m2
  refine⟨by rw[hX];exact m1,uq ok hX m1 (fun b hb=>by rw[(m2 b hb).1];simp) (fun c h=>?_) fun b hb=>.inr ⟨(m2 b (List.mem_of_mem_head? hb)).2,(m2 b (List.mem_of_mem_head? hb)).1,k3⟩⟩
  have:=hc c h
  unfold oV at this
  rw[if_neg aa,if_neg aa,if_pos (by unfold bB;rw[aw k3];simp)] at this
  simpa using this
 by_cases k4:t.kind=4
 ·have hX:tb t=39::(bN 39 t.text.data.toList++[39]):=by
   unfold tb cB
   rw[if_neg okf,if_neg aa,if_pos k4];rfl
  refine⟨by rw[hX];simp,zB ok hX (fun c h=>?_) (.inr ⟨rfl,k4⟩)⟩
  have:=hc c h
  unfold oV at this
  rw[if_neg aa,if_pos k4] at this
  simpa using this
 by_cases k2:t.kind=2
 ·have o:=ok
  unfold aM at o
  rw[if_neg k1,if_pos k2,decide_eq_true_eq] at o
  cases hp:dK t.text with
  |true=>
   have hX:tb t=t.text.data.toList:=by
    unfold tb cB j5
    rw[if_neg okf,if_pos k2,if_pos o,if_pos hp]
   have hp':=hp
   simp only[dK,Bool.and_eq_true,Bool.not_eq_true',decide_eq_true_eq,decide_eq_false_iff_not,List.all_eq_true] at hp
   obtain⟨_,h1,h2,h3⟩:=hp
   have hne:t.text.data.toList≠[]:=fun e=>by
    have:=aF t.text
    rw[e] at this;simp at this;omega
   refine⟨by rw[hX];exact hne,uq ok hX hne (fun b hb=>h3 b hb) (fun c h=>?_) fun b hb=>.inl ⟨?_,.inl ⟨k2,h2⟩⟩⟩
   ·have:=hc c h
    unfold oV at this
    rw[if_neg aa,if_neg aa,if_pos (by unfold bB;rw[aw k2,hp'];simp)] at this
    simpa using this
   ·have e:=h3 b (List.mem_of_mem_head? hb)
    have e2:t.text.data.toList.headD 0=b:=by
     cases hl:t.text.data.toList with
     |nil=>exact absurd hl hne
     |cons y r=>rw[hl] at hb;injection hb with hb
    rw[e2] at h1
    unfold kZ at e
    rw[ax h1,Bool.or_false] at e
    exact e
  |false=>
   have hX:tb t=34::(bN 34 t.text.data.toList++[34]):=by
    unfold tb cB j5
    rw[if_neg okf,if_pos k2,if_pos o,if_neg (by rw[hp];simp)];rfl
   refine⟨by rw[hX];simp,zB ok hX (fun c h=>?_) (.inl ⟨rfl,k2⟩)⟩
   have:=hc c h
   unfold oV at this
   rw[if_neg aa,if_neg aa,if_neg (by unfold bB;rw[ax k1,ax k3,hp];simp)] at this
   simpa using this
 ·have o:=ok
  unfold aM at o
  rw[if_neg k1,if_neg k2,if_neg k3,if_neg k4] at o
  by_cases k5:t.kind=5
  ·rw[if_pos k5] at o
   have hX:tb t=t.text.data.toList:=by
    unfold tb cB
    rw[if_neg okf,if_neg k2,if_neg k4]
   rw[hX]
   obtain⟨kind,text,a⟩:=t
   have k5:kind=5:=k5
   subst k5
   refine⟨fun e=>?_,EM o hc⟩
   have:text=⟨#[]⟩:=Gq e
   rw[this] at o
   exact absurd (show dm ⟨#[]⟩=true from o) ah
  ·rw[if_neg k5] at o;cases o
theorem AU (t:Tok):oV t 32=true:=by
 unfold oV
 split
 ·simp
 split
 ·rfl
 split
 ·decide
 ·rfl
theorem EN {b:UInt8} (h:(cG b||d8 b)=true):b≠42/\b≠61/\b≠62:=by
 have h2:∀n:Fin 256,(cG (UInt8.ofNat n.1)||d8 (UInt8.ofNat n.1))=true->(UInt8.ofNat n.1≠42/\UInt8.ofNat n.1≠61/\UInt8.ofNat n.1≠62):=by decide
 have:=h2 ⟨b.toNat,UInt8.toNat_lt b⟩
 simp only[UInt8.ofNat_toNat] at this
 exact this h
theorem jA:∀x∈signs,x.data.toList≠[]/\(cG (x.data.toList.headD 0)||d8 (x.data.toList.headD 0))=false/\x.data.toList.headD 0≠34/\x.data.toList.headD 0≠39/\(x.data.toList.headD 0=45->x=⟨#[45]⟩)/\(x.data.toList.headD 0=42->x=⟨#[42]⟩):=by decide
theorem Cq {x:ByteArray} (hs:dm x=true):x∈signs:=by
 unfold dm at hs
 obtain⟨y,hy,e⟩:=List.any_eq_true.1 hs
 rw[decide_eq_true_eq] at e
 rw[e];exact hy
theorem iK {u:Tok} (ok:aM u=true):∃c r,tb u=c::r/\((bB u=true/\u.kind≠5/\u.kind≠4/\(cG c||d8 c)=true)∨(cg u=true/\bB u=false/\u.kind≠5/\u.kind≠4/\c=34)∨(u.kind=4/\c=39)∨(u.kind=5/\u.text∈signs/\u.text.data.toList.headD 0=c)):=by
 have okf:¬aM u=false:=by rw[ok];simp
 have o:=ok
 unfold aM at o
 by_cases k1:u.kind=1
 ·rw[if_pos k1,Bool.and_eq_true,decide_eq_true_eq,decide_eq_true_eq] at o
  obtain⟨m1,m2⟩:=zC _ (by have:=zD o.1;rwa[o.2] at this)
  have hX:tb u=u.text.data.toList:=by
   unfold tb cB
   rw[if_neg okf,if_neg aa,if_neg aa]
  obtain⟨c,r,hc⟩:=List.exists_cons_of_ne_nil m1
  exact⟨c,r,by rw[hX,hc],.inl ⟨by unfold bB;rw[aw k1];rfl,aa,aa,by rw[m2 c (by rw[hc];simp)];rfl⟩⟩
 rw[if_neg k1] at o
 by_cases k2:u.kind=2
 ·rw[if_pos k2,decide_eq_true_eq] at o
  cases hp:dK u.text with
  |true=>
   have hX:tb u=u.text.data.toList:=by
    unfold tb cB j5
    rw[if_neg okf,if_pos k2,if_pos o,if_pos hp]
   have hp':=hp
   simp only[dK,Bool.and_eq_true,List.all_eq_true] at hp
   have hne:u.text.data.toList≠[]:=fun e=>by
    have:=aF u.text
    rw[e] at this;simp at this;omega
   obtain⟨c,r,hc⟩:=List.exists_cons_of_ne_nil hne
   exact⟨c,r,by rw[hX,hc],.inl ⟨by unfold bB;rw[aw k2,hp'];simp,aa,aa,hp.2.2.2 c (by rw[hc];simp)⟩⟩
  |false=>
   have hX:tb u=34::(bN 34 u.text.data.toList++[34]):=by
    unfold tb cB j5
    rw[if_neg okf,if_pos k2,if_pos o,if_neg (by rw[hp];simp)];rfl
   exact⟨34,_,hX,.inr (.inl ⟨by unfold cg;rw[aw k2,hp];rfl,by unfold bB;rw[ax k1,ax aa,hp];simp,aa,aa,rfl⟩)⟩
 rw[if_neg k2] at o
 by_cases k3:u.kind=3
 ·rw[if_pos k3] at o
  have hX:tb u=u.text.data.toList:=by
   unfold tb cB
   rw[if_neg okf,if_neg aa,if_neg aa]
  obtain⟨m,hm⟩:=Option.isSome_iff_exists.1 (show (hY u.text.data.toList).isSome=true from o)
  have hm:=(dD.1 hm).2
  obtain⟨m1,m2⟩:=vZ m
  rw[hm] at m1 m2
  obtain⟨c,r,hc⟩:=List.exists_cons_of_ne_nil m1
  exact⟨c,r,by rw[hX,hc],.inl ⟨by unfold bB;rw[aw k3];simp,aa,aa,by rw[(m2 c (by rw[hc];simp)).1];simp⟩⟩
 rw[if_neg k3] at o
 by_cases k4:u.kind=4
 ·have hX:tb u=39::(bN 39 u.text.data.toList++[39]):=by
   unfold tb cB
   rw[if_neg okf,if_neg aa,if_pos k4];rfl
  exact⟨39,_,hX,.inr (.inr (.inl ⟨k4,rfl⟩))⟩
 rw[if_neg k4] at o
 by_cases k5:u.kind=5
 ·rw[if_pos k5] at o
  have hX:tb u=u.text.data.toList:=by
   unfold tb cB
   rw[if_neg okf,if_neg aa,if_neg aa]
  have hm:=Cq o
  obtain⟨c,r,hc⟩:=List.exists_cons_of_ne_nil (jA _ hm).1
  exact⟨c,r,by rw[hX,hc],.inr (.inr (.inr ⟨k5,hm,by rw[hc];rfl⟩))⟩
 ·rw[if_neg k5] at o;cases o
theorem EO {t u:Tok} (ot:aM t=true) (ou:aM u=true) (hg:jy t u=false) {c:UInt8} (hc:(tb u).head?=some c):oV t c=true:=by
 obtain⟨c',r,e,hk⟩:=iK ou
 rw[e] at hc
 injection hc with hc
 subst hc
 unfold jy jx at hg
 rw[ot,ou] at hg
 simp only[Bool.and_self,Bool.not_true,Bool.false_eq_true,if_false] at hg
 split at hg
 ·cases hg
 rename_i hh
 simp only[Bool.not_eq_true,Bool.or_eq_false_iff,Bool.and_eq_false_iff,decide_eq_false_iff_not] at hh
 obtain⟨⟨hw,hq⟩,ht⟩:=hh
 unfold oV
 by_cases k5:t.kind=5
 ·rw[if_pos k5]
  rcases hk with⟨_,_,_,hl⟩|⟨_,_,_,_,rfl⟩|⟨_,rfl⟩|⟨h5,hm,hh⟩
  ·obtain⟨_,a1,_,_,_⟩:=uo hl
   obtain⟨a2,a3,a4⟩:=EN hl
   simp [a1,a2,a3,a4]
  ·simp
  ·simp
  ·obtain⟨_,_,_,_,s1,s2⟩:=jA _ hm
   rw[hh] at s1 s2
   unfold AG at hg
   rw[if_neg (not_not_intro k5),if_neg (not_not_intro h5),hh] at hg
   by_cases e1:t.text=⟨#[45]⟩
   ·rw[if_pos e1,decide_eq_false_iff_not] at hg
    have:¬c'=45:=fun h=>hg (s1 h)
    rw[e1];simp [this]
   rw[if_neg e1] at hg
   by_cases e2:t.text=⟨#[47]⟩
   ·rw[if_pos e2,decide_eq_false_iff_not] at hg
    have:¬c'=42:=fun h=>hg (s2 h)
    rw[e2];simp [this]
   rw[if_neg e2] at hg
   by_cases e3:t.text=⟨#[60]⟩
   ·rw[if_pos e3,Bool.or_eq_false_iff,decide_eq_false_iff_not,decide_eq_false_iff_not] at hg
    rw[e3];simp [hg.1,hg.2]
   rw[if_neg e3] at hg
   by_cases e4:t.text=⟨#[62]⟩
   ·rw[if_pos e4,decide_eq_false_iff_not] at hg
    rw[e4];simp [hg]
   simp [e1,e2,e3,e4]
 rw[if_neg k5]
 by_cases k4:t.kind=4
 ·rw[if_pos k4]
  rcases hk with⟨_,_,_,hl⟩|⟨_,_,_,_,rfl⟩|⟨h4,rfl⟩|⟨h5,hm,hh⟩
  ·obtain⟨_,_,_,_,a1⟩:=uo hl
   simp [a1]
  ·rfl
  ·rcases ht with ht|ht
   ·exact absurd k4 ht
   ·exact absurd h4 ht
  ·obtain⟨_,_,_,s1,_⟩:=jA _ hm
   rw[hh] at s1
   simp [s1]
 rw[if_neg k4]
 cases wt:bB t with
 |true=>
  rw[if_pos rfl]
  rcases hk with⟨wu,_,_,hl⟩|⟨_,_,_,_,rfl⟩|⟨h4,rfl⟩|⟨h5,hm,hh⟩
  ·rcases hw with hw|hw
   ·rw[wt] at hw;cases hw
   ·rw[wu] at hw;cases hw
  ·decide
  ·decide
  ·obtain⟨_,s1,_⟩:=jA _ hm
   rw[hh] at s1
   rw[s1];rfl
 |false=>
  rw[if_neg (by simp)]
  have qt:cg t=true:=by
   obtain⟨_,_,_,hk⟩:=iK ot
   rcases hk with⟨a,_⟩|⟨a,_⟩|⟨a,_⟩|⟨a,_⟩
   ·rw[wt] at a;cases a
   ·exact a
   ·exact absurd a k4
   ·exact absurd a k5
  rcases hk with⟨wu,_,_,hl⟩|⟨qu,_,_,_,rfl⟩|⟨h4,rfl⟩|⟨h5,hm,hh⟩
  ·obtain⟨_,_,_,a1,_⟩:=uo hl
   simp [a1]
  ·rcases hq with hq|hq
   ·rw[qt] at hq;cases hq
   ·rw[qu] at hq;cases hq
  ·rfl
  ·obtain⟨_,_,s1,_⟩:=jA _ hm
   rw[hh] at s1
   simp [s1]
def jB (p:Option Tok) (u:Tok):List UInt8:=match p with|some t=>if jy t u=true then [32] else []|none=>[]
def jl:Option Tok->List Tok->List UInt8
 |_,[]=>[]
 |p,u::r=>jB p u++(tb u++jl (some u) r)
theorem wb (l:List Tok):∀k,k<=l.length->dT l k++jl (if k=0 then none else l[k-1]?) (l.drop k)=jl none l
 |0,_=>by simp [dT]
 |k+1,h=>by
  have hk:k<l.length:=h
  rw[<-wb l k aa,df,List.drop_eq_getElem_cons hk]
  have e1:(if k+1=0 then none else l[k+1-1]?)=some l[k]:=by
   rw[if_neg aa,Nat.add_sub_cancel];exact aA hk
  rw[e1]
  show _=dT l k++(jB _ l[k]++(tb l[k]++jl (some l[k]) (l.drop (k+1))))
  have e2:jn l k=jB (if k=0 then none else l[k-1]?) l[k]++tb l[k]:=by
   rw[BZ l hk]
   congr 1
   by_cases h0:k=0
   ·subst h0;rfl
   ·rw[if_neg h0,aA aa]
    unfold jB
    simp only[show 0<k by omega,true_and]
  rw[e2];simp only[aK]
theorem oW (l:List Tok):dT l l.length=jl none l:=by
 have:=wb l l.length (Nat.le_refl _)
 rw[List.drop_length] at this
 rw[<-this];simp [jl]
theorem Hl {u:Tok} {r:List Tok} (ou:aM u=true) (hr:∀v,v∈r->aM v=true):∀c,(jl (some u) r).head?=some c->oV u c=true:=fun c h=>by
 cases r with
 |nil=>cases h
 |cons v r=>
  have ov:=hr v (by simp)
  obtain⟨c',r',e,_⟩:=iK ov
  simp only[jl,jB] at h
  by_cases hg:jy u v=true
  ·rw[if_pos hg] at h
   injection h with h
   rw[<-h];exact AU u
  ·rw[if_neg hg,e] at h
   exact EO ou ov (by simpa using hg) (by rw[e];exact h)
theorem Cr:∀(r:List Tok) (p:Option Tok) (B A:List UInt8) (acc:List Tok) (n:Nat),(∀u,u∈r->aM u=true)->B=A++jl p r->r.length<n->∃r',pY B n A.length acc=some (.inl (acc++r'))/\SameK r' r
 | [],p,B,A,acc,n,_,hB,hn=>by
  obtain⟨n,rfl⟩:∃m,n=m+1:=⟨n-1,aa⟩
  have hB:B=A:=by rw[hB];simp [jl]
  subst hB
  have h0:B[B.length]?=none:=List.getElem?_eq_none_iff.2 (Nat.le_refl _)
  refine⟨[],?_,rfl⟩
  rw[pY,eW,h0]
  simp only[Bool.true_eq_false,if_false]
  rw[h0,List.append_nil]
 |u::r,p,B,A,acc,n,hok,hB,hn=>by
  obtain⟨n,rfl⟩:∃m,n=m+1:=⟨n-1,aa⟩
  have ou:=hok u (by simp)
  have hr:∀v,v∈r->aM v=true:=fun v hv=>hok v (by simp [hv])
  have hB2:B=(A++jB p u)++tb u++jl (some u) r:=by rw[hB];simp [jl]
  obtain⟨hne,b,hb,hp,ho⟩:=Hj (A:=A++jB p u) ou (Hl ou hr)
  rw[<-hB2] at hb hp ho
  have hpass:eW B (B.length+1) A.length=some ((A++jB p u).length,true):=by
   have hg:jB p u=[]∨jB p u=[32]:=by
    unfold jB
    split
    ·split
     ·exact .inr rfl
     ·exact .inl rfl
    ·exact .inl rfl
   rcases hg with hg|hg
   ·have e:A++jB p u=A:=by rw[hg,List.append_nil]
    rw[e] at hp ⊢
    exact hp _
   ·have e:(A++jB p u).length=A.length+1:=by rw[hg];simp
    have h32:B[A.length]?=some 32:=by
     rw[hB2,hg,aK,aK,List.getElem?_append_right (Nat.le_refl _),Nat.sub_self];rfl
    have hl:1<=B.length:=by have:=(List.getElem?_eq_some_iff.1 h32).1;omega
    obtain⟨m,hm⟩:∃m,B.length=m+1:=⟨B.length-1,aa⟩
    rw[e] at hp ⊢
    rw[hm,eW,h32]
    simp only
    rw[if_pos ah]
    exact hp _
  obtain⟨r',h1,h2⟩:=Cr r (some u) B (A++jB p u++tb u) (acc++[⟨u.kind,u.text,(A++jB p u).length⟩]) n hr (by rw[hB2]) (by simp only[List.length_cons] at hn;omega)
  refine⟨⟨u.kind,u.text,(A++jB p u).length⟩::r',?_,?_⟩
  ·rw[pY,hpass]
   simp only[Bool.true_eq_false,if_false,hb,ho]
   have e9:(A++jB p u++tb u).length=(A++jB p u).length+(tb u).length:=aB
   rw[e9] at h1
   rw[h1];simp
  ·unfold SameK at h2 ⊢
   rw[List.map_cons,List.map_cons,h2]
theorem Cs:∀(r:List Tok) (p:Option Tok),(∀u,u∈r->aM u=true)->r.length<=(jl p r).length
 | [],_,_=>Nat.zero_le _
 |u::r,p,h=>by
  have h1:=Cs r (some u) fun v hv=>h v (by simp [hv])
  obtain⟨c,x,e,_⟩:=iK (h u (by simp))
  simp only[jl,aB,e,List.length_cons]
  omega
theorem yb {l:List Tok} (hok:l.all aM=true) (hl:(dT l l.length).length<=2000):∃L,lx (bf l) = .inl L/\SameK L l:=by
 have ho:=List.all_eq_true.1 hok
 have e:bf l=⟨(jl none l).toArray⟩:=by
  unfold bf
  rw[if_pos hok,if_neg aa,oW]
 rw[oW] at hl
 have hlen:=Cs l none ho
 obtain⟨r',h1,h2⟩:=Cr l none (jl none l) [] [] ((jl none l).length+1) ho rfl aa
 refine⟨r',?_,h2⟩
 rw[e]
 unfold lx
 rw[if_neg (by rw[<-aF];show ¬ 2000<(jl none l).length;omega)]
 show (pY (jl none l) ((jl none l).length+1) 0 []).getD (.inr 0)=_
 rw[show (0:Nat)=([]:List UInt8).length from rfl,h1];rfl
theorem AV {l:List Tok} (h:bf l≠⟨#[]⟩):l.all aM=true/\(dT l l.length).length<=2000:=by
 unfold bf at h
 split at h
 ·rename_i h1
  split at h
  ·exact absurd rfl h
  ·exact⟨h1,aa⟩
 ·exact absurd rfl h
theorem EP (p:Option Tok) (u:Tok):(jB p u).length<=1:=by
 unfold jB
 split
 ·split<;>simp
 ·simp
theorem EQ (p p':Option Tok) (l:List Tok):(jl p l).length<=(jl p' l).length+1:=by
 cases l with
 |nil=>simp [jl]
 |cons u r=>
  have:=EP p u
  simp only[jl,aB]
  omega
theorem Hm {l m:List Tok} (h:l.Sublist m):(∀u,u∈m->aM u=true)->∀p,(jl p l).length<=(jl p m).length:=by
 induction h with
 |slnil=>intro _ p;exact Nat.le_refl _
 | @cons l m a h ih=>
  intro ho p
  have h1:=ih (fun u hu=>ho u (by simp [hu])) p
  have h2:=EQ p (some a) m
  obtain⟨c,r,e,_⟩:=iK (ho a (by simp))
  simp only[jl,aB,e,List.length_cons]
  omega
 | @cons_cons l m a h ih=>
  intro ho p
  have h1:=ih (fun u hu=>ho u (by simp [hu])) (some a)
  simp only[jl,aB]
  omega
theorem Hn {x:Expr} (h:mA x=true):fmE x=true:=by
 unfold mA at h
 simp only[Bool.and_eq_true] at h
 exact h.2.2
theorem j8 (full:Bool) {x:Expr} (hok:mA x=true) (hr:Rg x) (hs:bf (nw full x)≠⟨#[]⟩):eg (bf (nw full x))=(x,(0,0)):=by
 obtain⟨h1,h2⟩:=AV hs
 obtain⟨L,hL,hk⟩:=yb h1 h2
 unfold eg uY
 rw[hL]
 have e:=ya (full:=full) (Hn hok) hr hk
 simp only[e,hok,if_true]
 rw[if_neg aa]
 rfl
theorem lD {f h:Nat->List Tok} (k:∀i,(f i).Sublist (h i)):∀n,(bw f n).Sublist (bw h n)
 |0=>List.Sublist.refl _
 |n+1=>by rw[dd,dd];exact (lD k n).append (k n)
theorem ur {α:Type} {l:List α} {f h:α->List Tok} (k:∀x,(f x).Sublist (h x)) (i:Nat):(xK l f i).Sublist (xK l h i):=by
 unfold xK
 split
 ·exact k _
 ·exact List.Sublist.refl _
theorem ER {f h:Expr->List Tok} (k:∀x,(f x).Sublist (h x)) (q:Query):(kV f q).Sublist (kV h q):=by
 obtain⟨d,it,fr,wh,or,li⟩:=q
 have rf:∀l:List Tok,l.Sublist l:=fun l=>List.Sublist.refl l
 refine List.Sublist.cons_cons _ ((rf _).append ((lD (fun i=>(rf _).append (ur (fun x=>?_) i)) _).append (List.Sublist.cons_cons _ ((lD (fun i=>ur (fun x=>?_) i) _).append (List.Sublist.append ?_ ((lD (fun i=>(rf _).append (ur (fun x=>?_) i)) _).append (rf _)))))))
 ·obtain⟨s,q,e,a⟩:=x
  unfold cM
  by_cases h1:s=true
  ·simp only[if_pos h1];exact rf _
  ·simp only[if_neg h1];exact (k e).append (rf _)
 ·obtain⟨t,a,o⟩:=x
  refine (rf _).append (List.Sublist.cons_cons _ ((rf _).append ?_))
  cases o with
  |nil=>exact rf _
  |cons y r=>exact List.Sublist.cons_cons _ (k y)
 ·cases wh with
  |nil=>exact rf _
  |cons y r=>exact List.Sublist.cons_cons _ (k y)
 ·obtain⟨e,d⟩:=x
  exact (k e).append (rf _)
theorem ES {f h:Expr->List Tok} (k:∀x,(f x).Sublist (h x)) (e:Expr):(np false f e).Sublist (np true h e):=by
 obtain⟨kind,op,not,val,qual,name,kids,sub⟩:=e
 have rf:∀l:List Tok,l.Sublist l:=fun l=>List.Sublist.refl l
 have par:∀(a b:Bool) (l m:List Tok),l.Sublist m->(a=true->b=true)->(kY a l).Sublist (kY b m):=fun a b l m hl hab=>by
  unfold kY
  cases a with
  |true=>rw[if_pos rfl,if_pos (hab rfl)];exact List.Sublist.cons_cons _ (hl.append (rf _))
  |false=>
   rw[if_neg ah]
   split
   ·exact (hl.trans (List.sublist_append_left _ _)).cons _
   ·exact hl
 have kd:∀j,(aP false f kind op kids j).Sublist (aP true h kind op kids j):=fun j=>par _ _ _ _ (k _) (fun ha=>by
  unfold Bw at ha ⊢
  rw[Bool.false_and,Bool.or_false] at ha
  rw[ha,Bool.true_or])
 have sb:(kW f sub).Sublist (kW h sub):=by
  cases sub with
  |nil=>exact rf _
  |cons q r=>exact ER k q
 unfold np
 by_cases k1:kind=1
 ·simp only[if_pos k1];exact rf _
 simp only[if_neg k1]
 by_cases k2:kind=2
 ·simp only[if_pos k2];exact rf _
 simp only[if_neg k2]
 by_cases k3:kind=3
 ·simp only[if_pos k3];exact List.Sublist.cons_cons _ (kd 0)
 simp only[if_neg k3]
 by_cases k9:kind=9
 ·simp only[if_pos k9];exact List.Sublist.cons_cons _ (List.Sublist.cons_cons _ (sb.append (rf _)))
 simp only[if_neg k9]
 refine (kd 0).append ?_
 by_cases k4:kind=4
 ·simp only[if_pos k4];exact List.Sublist.cons_cons _ (kd 1)
 simp only[if_neg k4]
 by_cases k5:kind=5
 ·simp only[if_pos k5];exact rf _
 simp only[if_neg k5]
 by_cases k6:kind=6
 ·simp only[if_pos k6];exact (rf _).append (List.Sublist.cons_cons _ ((kd 1).append (List.Sublist.cons_cons _ (kd 2))))
 simp only[if_neg k6]
 refine (rf _).append (List.Sublist.cons_cons _ (List.Sublist.cons_cons _ (List.Sublist.append ?_ (rf _))))
 by_cases k8:kind=8
 ·simp only[if_pos k8];exact sb
 simp only[if_neg k8]
 exact lD (fun i=>(rf _).append (kd _)) _
theorem ET (e:Expr):(nw false e).Sublist (nw true e):=by
 suffices H:∀n:Nat,∀e:Expr,SizeOf.sizeOf e<n->(nw false e).Sublist (nw true e) from H _ e (Nat.lt_succ_self _)
 intro n
 induction n with
 |zero=>exact fun _ h=>absurd h (Nat.not_lt_zero _)
 |succ n ih=>
  intro e he
  unfold nw
  rw[eU,eU]
  refine ES (fun x=>?_) e
  split
  ·exact ih x aa
  ·exact List.Sublist.refl _
theorem ra {l:List Tok} (h:bf l≠⟨#[]⟩):l.all aM=true/\(bf l).size=(jl none l).length:=by
 unfold bf at h ⊢
 split
 ·rename_i h1
  rw[if_pos h1] at h
  refine⟨h1,?_⟩
  split
  ·rename_i h2
   rw[if_pos h2] at h
   exact absurd rfl h
  ·rw[oW]
   show ((jl none l).toArray).size=_
   rw[List.size_toArray]
 ·rename_i h1
  rw[if_neg h1] at h
  exact absurd rfl h
theorem yc (l:List Tok):(bf l).size<=2000:=by
 unfold bf
 split
 ·split
  ·exact Nat.zero_le _
  ·show ((dT l l.length).toArray).size<=_
   rw[List.size_toArray];omega
 ·exact Nat.zero_le _
theorem Ct {e:Expr} (hs:bf (nw true e)≠⟨#[]⟩):(bf (nw false e)).size<=(bf (nw true e)).size:=by
 obtain⟨h1,h2⟩:=ra hs
 have ho:∀u,u∈nw true e->aM u=true:=fun u hu=>List.all_eq_true.1 h1 u hu
 rw[h2]
 by_cases h3:bf (nw false e)=⟨#[]⟩
 ·rw[h3];exact Nat.zero_le _
 ·rw[(ra h3).2]
  exact Hm (ET e) ho none
end Go.Proofs.YtdmomaomffhidaaGreatDoor
