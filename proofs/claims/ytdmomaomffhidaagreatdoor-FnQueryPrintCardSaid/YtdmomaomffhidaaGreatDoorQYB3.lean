/-
  What is printed is read again.
  Conditions: none.
-/
import Derived.Test.YtdmomaomffhidaaGreatDoorQYH1
set_option linter.unusedVariables false
set_option linter.unusedSimpArgs false
set_option linter.unusedSectionVars false
set_option linter.unnecessarySimpa false
set_option maxRecDepth 8000
namespace Go.Proofs.YtdmomaomffhidaaGreatDoor
open Go Go.Dv
open Go.Vc (D dm dq cV bq)
section
variable {L:List Tok}
def hd (L:List Tok) (a:Nat):Option (Int×ByteArray):=L[a]?.map fun t=>(t.kind,t.text)
def gI (L:List Tok):Nat->List Tok->Prop
 |_,[]=>True
 |a,t::r=>hd L a=some (t.kind,t.text)/\gI L (a+1) r
theorem bI:∀ {l m:List Tok} {a:Nat},gI L a (l++m)↔gI L a l/\gI L (a+l.length) m
 | [],m,a=>by simp [gI]
 |t::r,m,a=>by
  rw[List.cons_append,gI,gI,bI,and_assoc,List.length_cons,show a+1+r.length=a+(r.length+1) by omega]
abbrev P0 (a:Nat):PS:=⟨a,false⟩
theorem nq (a k:Nat) (kind:Int) (x:ByteArray):lI L (P0 a) k kind x=decide (hd L (a+k)=some (kind,x)):=by
 unfold lI jC hd
 simp only[Bool.false_eq_true,if_false]
 cases L[a+k]? with
 |none=>simp
 |some t=>simp only[Option.map_some,Option.some.injEq,Prod.mk.injEq,Bool.decide_and]
theorem EC (t:Tok):aR t=aR ⟨t.kind,t.text,0⟩:=by cases t;rfl
theorem nr {a:Nat} {kind k:Int} {x:ByteArray} (h:hd L a=some (k,x)):mv L (P0 a) kind=(decide (k=kind)&&aR ⟨k,x,0⟩):=by
 unfold mv jC
 unfold hd at h
 simp only[Bool.false_eq_true,if_false,Nat.add_zero]
 cases hl:L[a]? with
 |none=>rw[hl] at h;cases h
 |some t=>
  rw[hl] at h
  injection h with h;injection h with h1 h2
  subst h1 h2
  simp only
  rw[EC t]
theorem gq {a:Nat} {k:Int} {x:ByteArray} (h:hd L a=some (k,x)):bP L (P0 a)=x:=by
 unfold bP jC
 unfold hd at h
 simp only[Bool.false_eq_true,if_false,Nat.add_zero]
 cases hl:L[a]? with
 |none=>rw[hl] at h;cases h
 |some t=>
  rw[hl] at h
  injection h with h;injection h with h1 h2
theorem Ca (a k:Nat):aA L (P0 a) k=decide (hd L a=some (1,kw k)):=nq a 0 1 _
theorem GA (a:Nat) (c:UInt8):cr L (P0 a) c=decide (hd L a=some (5,⟨#[c]⟩)):=nq a 0 5 _
theorem d7 (a:Nat):adv (P0 a)=P0 (a+1):=rfl
def fF (op:Nat):Int:=if op=1∨op=2 then 1 else 5
theorem Cb (a op:Nat):lJ L (P0 a) op=decide (hd L a=some (fF op,j8 op)):=nq a 0 _ _
def St (lv:Nat) (h:Option (Int×ByteArray)):Prop:=
 h≠some (5,⟨#[46]⟩)/\(lv<=4->h≠some (1,kw 15)/\h≠some (1,kw 16)/\h≠some (1,kw 17)/\h≠some (1,kw 18))/\∀op:Fin 15,1<=op.1->(lv:Int)<=bl op.1->h≠some (fF op.1,j8 op.1)
theorem St.mono {lv lv':Nat} {h:Option (Int×ByteArray)} (k:lv<=lv') (s:St lv h):St lv' h:=⟨s.1,fun e=>s.2.1 aa,fun op h1 h2=>s.2.2 op h1 aa⟩
theorem pi {s:PS}:∀ {l:List Nat},(∀op∈l,lJ L s op=false)->jd L s l=0
 | [],_=>rfl
 |op::r,h=>by
  rw[jd,h op (by simp),if_neg (by simp)]
  exact pi fun x hx=>h x (by simp [hx])
theorem zw:∀lv:Fin 10,∀op∈gk lv.1,1<=op/\op<=14/\bl op=lv.1:=by decide
theorem St.noop {lv l a:Nat} (s:St lv (hd L a)) (h:lv<=l) (h9:l<=9):dH L (P0 a) l=0:=pi fun op hop=>by
 obtain⟨h1,h2,h3⟩:=zw ⟨l,aa⟩ op hop
 rw[Cb,decide_eq_false_iff_not]
 exact s.2.2 ⟨op,aa⟩ h1 (by show (lv:Int)<=bl op;rw[h3];show (lv:Int)<=l;omega)
theorem zx:∀i j:Fin 15,1<=i.1->1<=j.1->fF i.1=fF j.1->j8 i.1=j8 j.1->i=j:=by decide +kernel
theorem vU {a op:Nat} (h1:1<=op) (h2:op<=14) (hh:hd L a=some (fF op,j8 op)):∀ {l:List Nat},op∈l->(∀x∈l,1<=x/\x<=14)->jd L (P0 a) l=op
 | [],h,_=>by cases h
 |x::r,h,hb=>by
  rw[jd,Cb]
  obtain⟨b1,b2⟩:=hb x (by simp)
  by_cases e:x=op
  ·subst e;rw[if_pos (by simp [hh])]
  ·rw[if_neg]
   ·exact vU h1 h2 hh (by simpa [Ne.symm e] using h) fun y hy=>hb y (by simp [hy])
   ·rw[hh,decide_eq_true_eq]
    intro h3
    injection h3 with h3;injection h3 with h3 h4
    exact e (congrArg Fin.val (zx ⟨op,aa⟩ ⟨x,aa⟩ h1 b1 h3 h4)).symm
theorem Cc:∀op:Fin 15,1<=op.1->op.1∈gk (bl op.1).toNat:=by decide
theorem vV {a op:Nat} (h1:1<=op) (h2:op<=14) (hh:hd L a=some (fF op,j8 op)):dH L (P0 a) (bl op).toNat=op:=by
 have hl:=Cc ⟨op,aa⟩ h1
 have h9:(bl op).toNat<10:=by have:=ms 4 op;unfold lv at this;simp only[if_true] at this;omega
 exact vU h1 h2 hh hl fun x hx=>by
  obtain⟨b1,b2,_⟩:=zw ⟨_,h9⟩ x hx
  exact⟨b1,b2⟩
theorem ED (lv:Nat):St lv none:=⟨by simp,fun _=>by simp,fun _ _ _=>by simp⟩
theorem vW (c:UInt8) (h:(c=41∨c=44)) (lv:Nat):St lv (some (5,⟨#[c]⟩)):=by
 rcases h with rfl|rfl
 ·exact⟨ah,fun _=>by decide,fun op _ _=>(by decide:∀op:Fin 15,(some (5,⟨#[41]⟩):Option (Int×ByteArray))≠some (fF op.1,j8 op.1)) op⟩
 ·exact⟨ah,fun _=>by decide,fun op _ _=>(by decide:∀op:Fin 15,(some (5,⟨#[44]⟩):Option (Int×ByteArray))≠some (fF op.1,j8 op.1)) op⟩
theorem y7 (k lv:Nat) (h:k=3∨k=4∨k=6∨k=7∨k=9∨k=10∨k=11∨k=12):St lv (some (1,kw k)):=by
 have h1:∀k∈[3,4,6,7,9,10,11,12],((some (1,kw k):Option (Int×ByteArray))≠some (5,⟨#[46]⟩))/\((some (1,kw k):Option (Int×ByteArray))≠some (1,kw 15)/\(some (1,kw k):Option (Int×ByteArray))≠some (1,kw 16)/\(some (1,kw k):Option (Int×ByteArray))≠some (1,kw 17)/\(some (1,kw k):Option (Int×ByteArray))≠some (1,kw 18))/\∀op:Fin 15,(some (1,kw k):Option (Int×ByteArray))≠some (fF op.1,j8 op.1):=by decide +kernel
 obtain⟨a,b,c⟩:=h1 k (by simpa using h)
 exact⟨a,fun _=>b,fun op _ _=>c op⟩
theorem my (k:Nat) (h:k=13∨k=15∨k=16∨k=17∨k=18):St 5 (some (1,kw k)):=by
 have h1:∀k∈[13,15,16,17,18],((some (1,kw k):Option (Int×ByteArray))≠some (5,⟨#[46]⟩))/\∀op:Fin 15,5<=bl op.1->(some (1,kw k):Option (Int×ByteArray))≠some (fF op.1,j8 op.1):=by decide +kernel
 obtain⟨a,c⟩:=h1 k (by simpa using h)
 exact⟨a,fun e=>by omega,fun op _ h=>c op h⟩
theorem GB (op:Nat) (h1:1<=op) (h2:op<=14) (lv:Nat) (hl:bl op<lv) (h4:bl op=4->5<=lv) (h3:bl op<=2->5<=lv∨lv<=4):St lv (some (fF op,j8 op)):=by
 have k1:∀op:Fin 15,1<=op.1->((some (fF op.1,j8 op.1):Option (Int×ByteArray))≠some (5,⟨#[46]⟩))/\((some (fF op.1,j8 op.1):Option (Int×ByteArray))≠some (1,kw 15)/\(some (fF op.1,j8 op.1):Option (Int×ByteArray))≠some (1,kw 16)/\(some (fF op.1,j8 op.1):Option (Int×ByteArray))≠some (1,kw 17)/\(some (fF op.1,j8 op.1):Option (Int×ByteArray))≠some (1,kw 18)):=by decide +kernel
 obtain⟨a,b⟩:=k1 ⟨op,aa⟩ h1
 refine⟨a,fun _=>b,fun op' h1' hb e=>?_⟩
 injection e with e;injection e with e1 e2
 have:=congrArg Fin.val (zx ⟨op,aa⟩ op' h1 h1' e1 e2)
 simp only at this
 rw[<-this] at hb
 omega
end
def vD (lv:Nat):Prop:=lv=1∨lv=2∨lv=5∨lv=6∨lv=7
def JU (L:List Tok) (e:Expr) (l:List Tok) (lv a:Nat):Prop:=St lv (hd L (a+l.length))->bH L lv (P0 a)=some (e,P0 (a+l.length))
def J3 (L:List Tok) (e:Expr) (l:List Tok) (lv a:Nat):Prop:=St (lv+1) (hd L (a+l.length))->bH L lv (P0 a)=cj L (bH L (lv+1)) lv (L.length+1) e (P0 (a+l.length))
def Itm (e:Expr) (l:List Tok) (n:Nat):Prop:=∀L a,gI L a l->∀lv,1<=lv->lv<=n->JU L e l lv a/\(vD lv->J3 L e l lv a)
theorem Itm.mono {e:Expr} {l:List Tok} {n m:Nat} (h:Itm e l n) (k:m<=n):Itm e l m:=fun L a hl lv h1 h2=>h L a hl lv h1 aa
section
variable {L:List Tok}
theorem Cd {lv:Nat} (h:vD lv) (s:PS):bH L lv s=match bH L (lv+1) s with
 |none=>none
 |some (e,s1)=>cj L (bH L (lv+1)) lv (L.length+1) e s1:=by
 unfold vD at h
 rw[lN lv aa aa]
 unfold stepE
 rw[if_neg aa,if_neg aa,if_neg aa,if_neg aa]
 rcases bH L (lv+1) s with _|⟨e,s1⟩<;>rfl
theorem rd {g:PM Expr} {lv n:Nat} {e:Expr} {s:PS} (h:dH L s lv=0):cj L g lv (n+1) e s=some (e,s):=by rw[cj,if_pos h]
theorem Hh (s:PS):bH L 4 s=lK L (bH L) (eM L) s:=by rw[lN 4 aa aa];rfl
theorem EE (s:PS):bH L 9 s=ed L (bH L) (eM L) s:=by rw[lN 9 aa aa];rfl
theorem J4 (s:PS):bH L 3 s=(if aA L s 15=true then (match bH L 3 (adv s) with
 |none=>none
 | some (e,s1)=>some (xL 15 e,s1)) else bH L 4 s):=by rw[lN 3 aa aa];rfl
theorem J5 (s:PS):bH L 8 s=(if cr L s 45=true then (match bH L 8 (adv s) with
 |none=>none
 | some (e,s1)=>some (xL 16 e,s1)) else bH L 9 s):=by rw[lN 8 aa aa];rfl
theorem cm {a k:Nat} (h:hd L a≠some (1,kw k)):aA L (P0 a) k=false:=by rw[Ca,decide_eq_false_iff_not];exact h
theorem bY {a k:Nat} (h:hd L a=some (1,kw k)):aA L (P0 a) k=true:=by rw[Ca,decide_eq_true_eq];exact h
theorem pR {a:Nat} {c:UInt8} (h:hd L a≠some (5,⟨#[c]⟩)):cr L (P0 a) c=false:=by rw[GA,decide_eq_false_iff_not];exact h
theorem gt {a:Nat} {c:UInt8} (h:hd L a=some (5,⟨#[c]⟩)):cr L (P0 a) c=true:=by rw[GA,decide_eq_true_eq];exact h
theorem Ce {a:Nat} {e:Expr} (h:St 4 (hd L a)):cmpT L (bH L) (eM L) e (P0 a)=some (e,P0 a):=by
 obtain⟨_,h2,_⟩:=h
 obtain⟨k15,k16,k17,k18⟩:=h2 aa
 unfold cmpT
 simp only[cm k16,cm k15,Bool.false_eq_true,if_false,tkIf,cm k18,cm k17,Bool.or_self]
theorem AO {a b:Nat} {e:Expr} (h:bH L 5 (P0 a)=some (e,P0 b)) (hs:St 4 (hd L b)):bH L 4 (P0 a)=some (e,P0 b):=by
 rw[Hh]
 unfold lK
 rw[h]
 simp only[hs.noop (Nat.le_refl 4) aa,if_true]
 exact Ce hs
end
theorem kE {e:Expr} {l:List Tok} {n:Nat} (hn9:n<=9) (hA:∀L a,gI L a l->JU L e l n a) (hB:∀L a,gI L a l->vD n->J3 L e l n a)
 (hC:∀L a,gI L a l->(4<=n->hd L a≠some (1,kw 15))/\(n=9->hd L a≠some (5,⟨#[45]⟩))):Itm e l n:=by
 intro L a hl
 have key:∀d lv,lv+d=n->1<=lv->JU L e l lv a/\(vD lv->J3 L e l lv a):=by
  intro d
  induction d with
  |zero=>intro lv h _;obtain rfl:lv=n:=aa;exact⟨hA L a hl,hB L a hl⟩
  |succ d ih=>
   intro lv h h1
   obtain⟨i1,i2⟩:=ih (lv+1) aa aa
   have B:vD lv->J3 L e l lv a:=fun hc hs=>by
    rw[Cd hc,i1 hs]
   refine⟨fun hs=>?_,B⟩
   by_cases hc:vD lv
   ·rw[B hc (hs.mono aa),rd (hs.noop (Nat.le_refl lv) aa)]
   ·unfold vD at hc
    rcases (show lv=3∨lv=4∨lv=8 by omega) with rfl|rfl|rfl
    ·rw[J4,cm ((hC L a hl).1 aa),if_neg (by simp)]
     exact i1 (hs.mono aa)
    ·exact AO (i1 (hs.mono aa)) hs
    ·rw[J5,pR ((hC L a hl).2 aa),if_neg (by simp)]
     exact i1 (hs.mono aa)
 exact fun lv h1 h2=>key (n-lv) lv aa h1
theorem dj {L:List Tok} {a:Nat} {k k':Int} {x x':ByteArray} (h:hd L a=some (k,x)) (hk:k≠k'):hd L a≠some (k',x'):=by rw[h];intro e;injection e with e;injection e with e _;exact hk e
theorem eY {L:List Tok} {a:Nat} {k k':Int} {x x':ByteArray} (h:hd L a=some (k,x)) (hk:x≠x'):hd L a≠some (k',x'):=by rw[h];intro e;injection e with e;injection e with _ e;exact hk e
theorem eD {L:List Tok} {a:Nat} {k kind:Int} {x:ByteArray} (h:hd L a=some (k,x)) (hk:k≠kind):mv L (P0 a) kind=false:=by rw[nr h,aB hk];rfl
theorem EF {e:Expr} {l:List Tok} {n:Nat} (h:Itm e l n) (h1:1<=n):Itm e (jb::(l++[je])) 9:=by
 have tk:∀L a,gI L a (jb::(l++[je]))->hd L a=some (5,⟨#[40]⟩)/\gI L (a+1) l/\hd L (a+1+l.length)=some (5,⟨#[41]⟩):=fun L a hl=>by
  rw[gI,bI,gI] at hl
  exact⟨hl.1,hl.2.1,hl.2.2.1⟩
 refine kE (Nat.le_refl 9) (fun L a hl hs=>?_) (fun L a _ hc=>by unfold vD at hc;omega) fun L a hl=>?_
 ·obtain⟨t1,t2,t3⟩:=tk L a hl
  rw[EE]
  unfold ed
  have hst:St 1 (hd L (a+1+l.length)):=by rw[t3];exact vW 41 (.inl rfl) 1
  have:=(h L (a+1) t2 1 (Nat.le_refl 1) h1).1 hst
  simp only[eD t1 (by decide:(5:Int)≠3),eD t1 (by decide:(5:Int)≠4),eD t1 (by decide:(5:Int)≠2),cm (dj t1 (by decide:(5:Int)≠1)),gt t1,Bool.false_eq_true,if_false,if_true,d7,this,must,gt t3,List.length_cons,aD,List.length_nil]
  congr 3
  omega
 ·obtain⟨t1,_,_⟩:=tk L a hl
  exact⟨fun _=>dj t1 ah,fun _=>eY t1 ah⟩
theorem EG {full:Bool} {g:Expr->List Tok} {kind op:Int} {kids:List Expr} {k:Nat} (hx:Itm (kids.getD k zeroX) (g (kids.getD k zeroX)) (lC (kids.getD k zeroX)).toNat) (h1:1<=lC (kids.getD k zeroX)) (hn:nd kind op k<=9) :
 Itm (kids.getD k zeroX) (aO full g kind op kids k) (nd kind op k).toNat:=by
 unfold aO kf
 split
 ·exact (EF hx aa).mono aa
 ·rename_i hw
  refine hx.mono ?_
  unfold Bu at hw
  simp only[Bool.or_eq_true,not_or] at hw
  have:=hw.1
  unfold l4 at this
  simp only[decide_eq_true_eq] at this
  have e:(Expr.mk 0 0 false ⟨0,0,⟨#[]⟩⟩ ⟨#[]⟩ ⟨#[]⟩ [] [])=zeroX:=rfl
  rw[e] at this
  omega
theorem nt {L:List Tok} {a:Nat} {t:Tok} {r:List Tok} (h:gI L a (t::r)):hd L a=some (t.kind,t.text):=h.1
theorem GC {v:Val} (h:zV v=true):v=zVal:=by
 obtain⟨a,b,c⟩:=v
 simp only[zV,Bool.and_eq_true,decide_eq_true_eq] at h
 simp only[zVal,Val.mk.injEq]
 exact⟨h.1,h.2⟩
theorem y8 {kind op:Int} {not:Bool} {val:Val} {qual name:ByteArray} {nk ns:Int} (h:aF kind op not val qual name nk ns=true) :
 ((bQ kind).1=false->op=0)/\((bQ kind).2.1=false->not=false)/\((bQ kind).2.2.1=false->val=zVal)/\((bQ kind).2.2.2.1=false->qual=z0/\name=z0):=by
 simp only[aF,Bool.and_eq_true] at h
 obtain⟨_,h1,h2,h3,h4,_⟩:=h
 refine⟨fun e=>?_,fun e=>?_,fun e=>?_,fun e=>?_⟩
 ·rw[e] at h1;simpa using h1
 ·rw[e] at h2;simpa using h2
 ·rw[e] at h3;exact GC (by simpa using h3)
 ·rw[e] at h4;simpa [z0] using h4
theorem tF {n:Int} (h0:0<=n) (h1:n<=9223372036854775807):jk (df n)=true/\jB (df n)=n:=by
 obtain⟨m,rfl⟩:=Int.eq_ofNat_of_zero_le h0
 have e:io (df m).data.toList=some m:=dt.2 ⟨aa,by show _=(Lib.itoa m);rw[ly]⟩
 exact⟨by rw[jk,e];rfl,by rw[jB,e];rfl⟩
theorem EH {v:Val} (h:jH v=true) (hr:v.num<=9223372036854775807):Itm (eK v) [eP v] 9:=by
 simp only[jH,Bool.and_eq_true] at h
 obtain⟨hv,hn,ht⟩:=h
 obtain⟨kind,num,text⟩:=v
 simp only[decide_eq_true_eq,Bool.or_eq_true] at hn ht hr
 unfold dC at hv
 simp only at hv
 have done:∀k x,eP ⟨kind,num,text⟩=⟨k,x,0⟩->(k=1->x≠kw 15)->k≠5->(∀L a,hd L a=some (k,x)->ed L (bH L) (eM L) (P0 a)=some (eK ⟨kind,num,text⟩,P0 (a+1)))->Itm (eK ⟨kind,num,text⟩) [eP ⟨kind,num,text⟩] 9:=fun k x e h15 h5 hp=>by
  rw[e]
  refine kE (Nat.le_refl 9) (fun L a hl _=>?_) (fun L a _ hc=>by unfold vD at hc;omega) fun L a hl=>⟨fun _=>?_,fun _=>dj hl.1 h5⟩
  ·rw[EE];exact hp L a hl.1
  ·by_cases k1:k=1
   ·exact eY hl.1 (h15 k1)
   ·exact dj hl.1 k1
 by_cases k0:kind=0
 ·subst k0
  rw[if_pos rfl] at hv
  simp only[Bool.and_eq_true,decide_eq_true_eq] at hv
  obtain⟨rfl,rfl⟩:=hv
  refine done 1 (kw 20) rfl (fun _=>by decide) ah fun L a hh=>?_
  unfold ed
  simp only[eD hh (by decide:(1:Int)≠3),eD hh (by decide:(1:Int)≠4),bY hh,Bool.false_eq_true,if_false,if_true,d7]
  rfl
 rw[if_neg k0] at hv
 by_cases k1:kind=1
 ·subst k1
  rw[if_pos rfl] at hv
  simp only[decide_eq_true_eq] at hv
  subst hv
  have h0:0<=num:=hn.resolve_left (fun h=>h rfl)
  obtain⟨o1,o2⟩:=tF h0 hr
  refine done 3 (df num) rfl (fun h=>absurd h ah) ah fun L a hh=>?_
  have hk:mv L (P0 a) 3=true:=by rw[nr hh];simp only[decide_true,Bool.true_and];exact o1
  unfold ed
  simp only[hk,if_true,gq hh,o2,d7]
  rfl
 rw[if_neg k1] at hv
 by_cases k2:kind=2
 ·subst k2
  rw[if_pos rfl] at hv
  simp only[Bool.and_eq_true,decide_eq_true_eq] at hv
  obtain⟨rfl,_⟩:=hv
  refine done 4 text rfl (fun h=>absurd h ah) ah fun L a hh=>?_
  have hk:mv L (P0 a) 4=true:=by rw[nr hh];simp only[decide_true,Bool.true_and];exact ax ht
  unfold ed
  simp only[eD hh (by decide:(4:Int)≠3),hk,if_true,if_false,Bool.false_eq_true,gq hh,d7]
 rw[if_neg k2] at hv
 by_cases k3:kind=3
 ·subst k3
  rw[if_pos rfl] at hv
  simp only[Bool.and_eq_true,decide_eq_true_eq] at hv
  obtain⟨h01,rfl⟩:=hv
  rcases (show num=1∨num=0 by omega) with rfl|rfl
  ·refine done 1 (kw 21) rfl (fun _=>by decide) ah fun L a hh=>?_
   unfold ed
   simp only[eD hh (by decide:(1:Int)≠3),eD hh (by decide:(1:Int)≠4),cm (eY hh (by decide:kw 21≠kw 20)),bY hh,Bool.false_eq_true,if_false,if_true,d7]
   rfl
  ·refine done 1 (kw 22) rfl (fun _=>by decide) ah fun L a hh=>?_
   unfold ed
   simp only[eD hh (by decide:(1:Int)≠3),eD hh (by decide:(1:Int)≠4),cm (eY hh (by decide:kw 22≠kw 20)),cm (eY hh (by decide:kw 22≠kw 21)),bY hh,Bool.false_eq_true,if_false,if_true,d7]
   rfl
 ·rw[if_neg k3] at hv;cases hv
theorem uC {x:ByteArray} (h:bJ x=true):aR ⟨2,x,0⟩=true:=by
 unfold bJ at h
 exact h
theorem re {L:List Tok} {a:Nat} {x:ByteArray} (h:hd L a=some (2,x)) (hx:bJ x=true):mText L 2 (P0 a)=(x,P0 (a+1)):=by
 have hk:mv L (P0 a) 2=true:=by rw[nr h,uC hx];rfl
 unfold mText
 rw[if_pos hk,gq h]
 rfl
theorem EI {q n:ByteArray} (hn:bJ n=true) (hq:dc q=true):Itm (qm q n) (cA q++[nT n]) 9:=by
 have hb:∀L a,gI L a (cA q++[nT n])->∃x,bJ x=true/\hd L a=some (2,x)/\((q=z0/\x=n/\(cA q++[nT n]).length=1)∨(x=q/\hd L (a+1)=some (5,⟨#[46]⟩)/\hd L (a+1+1)=some (2,n)/\(cA q++[nT n]).length=3)):=fun L a hl=>by
  unfold cA at hl ⊢
  split at hl
  ·rename_i e
   rw[if_pos e]
   exact⟨n,hn,hl.1,.inl ⟨e,rfl,rfl⟩⟩
  ·rename_i e
   rw[if_neg e]
   unfold dc at hq
   simp only[Bool.or_eq_true,decide_eq_true_eq,e,false_or] at hq
   exact⟨q,hq,hl.1,.inr ⟨rfl,hl.2.1,hl.2.2.1,rfl⟩⟩
 refine kE (Nat.le_refl 9) (fun L a hl hs=>?_) (fun L a _ hc=>by unfold vD at hc;omega) fun L a hl=>?_
 ·obtain⟨x,hx,hh,hc⟩:=hb L a hl
  have hk:mv L (P0 a) 2=true:=by rw[nr hh,uC hx];rfl
  rw[EE]
  unfold ed
  have n1:(2:Int)≠1:=by decide
  rcases hc with⟨rfl,rfl,hlen⟩|⟨rfl,h1,h2,hlen⟩
  ·rw[hlen] at hs ⊢
   simp only[eD hh (by decide:(2:Int)≠3),eD hh (by decide:(2:Int)≠4),cm (dj hh n1),hk,Bool.false_eq_true,if_false,if_true,d7,pR hs.1,gq hh]
  ·rw[hlen]
   simp only[eD hh (by decide:(2:Int)≠3),eD hh (by decide:(2:Int)≠4),cm (dj hh n1),hk,Bool.false_eq_true,if_false,if_true,d7,gt h1,gq hh,re h2 hn]
 ·obtain⟨x,hx,hh,_⟩:=hb L a hl
  exact⟨fun _=>dj hh ah,fun _=>dj hh ah⟩
def Fs (l:List Tok) (n:Int):Prop:=∀L a,gI L a l->hd L a≠some (1,kw 1)/\hd L a≠some (5,⟨#[42]⟩)/\(hd L (a+l.length)≠some (5,⟨#[46]⟩)->fD L (P0 a)=false)/\(4<=n->hd L a≠some (1,kw 15))/\hd L a≠some (1,kw 2)
theorem Fs.mono {l:List Tok} {n m:Int} (h:Fs l n) (k:4<=m->4<=n):Fs l m:=fun L a hl=>⟨(h L a hl).1,(h L a hl).2.1,(h L a hl).2.2.1,fun e=>(h L a hl).2.2.2.1 (k e),(h L a hl).2.2.2.2⟩
theorem Cf {L:List Tok} {a:Nat} {k:Int} {x:ByteArray} (h:hd L a=some (k,x)) (hk:k≠2):fD L (P0 a)=false:=by
 unfold fD;rw[eD h hk];rfl
theorem ir {t:Tok} {r:List Tok} {n:Int} (h2:t.kind≠2) (h1:t.kind=1->t.text≠kw 1/\(4<=n->t.text≠kw 15)/\t.text≠kw 2) (h5:t.kind=5->t.text≠⟨#[42]⟩):Fs (t::r) n:=fun L a hl=>by
 have hh:=nt hl
 refine⟨?_,?_,fun _=>Cf hh h2,fun h4=>?_,?_⟩
 ·by_cases e:t.kind=1
  ·exact eY hh (h1 e).1
  ·exact dj hh e
 ·by_cases e:t.kind=5
  ·exact eY hh (h5 e)
  ·exact dj hh e
 ·by_cases e:t.kind=1
  ·exact eY hh ((h1 e).2.1 h4)
  ·exact dj hh e
 ·by_cases e:t.kind=1
  ·exact eY hh (h1 e).2.2
  ·exact dj hh e
theorem lO {l r:List Tok} {t:Tok} {n:Int} (h:Fs l n) (ht:t.kind=5->t.text≠⟨#[46]⟩):Fs (l++t::r) n:=fun L a hl=>by
 obtain⟨h1,h2⟩:=bI.1 hl
 obtain⟨k1,k2,k3,k4⟩:=h L a h1
 refine⟨k1,k2,fun _=>k3 ?_,k4⟩
 by_cases e:t.kind=5
 ·exact eY h2.1 (ht e)
 ·exact dj h2.1 e
theorem Hi (l:List Tok) (n:Int):Fs (jb::l) n:=ir ah (fun e=>absurd e ah) (fun _=>by decide)
theorem Hj {full:Bool} {g:Expr->List Tok} {kind op:Int} {kids:List Expr} {k:Nat} (h:Fs (g (kids.getD k zeroX)) (lC (kids.getD k zeroX))):Fs (aO full g kind op kids k) (nd kind op k):=by
 unfold aO kf
 split
 ·exact Hi _ _
 ·rename_i hw
  refine h.mono fun h4=>?_
  unfold Bu at hw
  simp only[Bool.or_eq_true,not_or] at hw
  have:=hw.1
  unfold l4 at this
  simp only[decide_eq_true_eq] at this
  have e:(Expr.mk 0 0 false ⟨0,0,⟨#[]⟩⟩ ⟨#[]⟩ ⟨#[]⟩ [] [])=zeroX:=rfl
  rw[e] at this
  omega
theorem Hl {v:Val} (n:Int):Fs [eP v] n:=by
 unfold eP
 split
 ·exact ir (by decide:(3:Int)≠2) (fun e=>absurd e (by decide:(3:Int)≠1)) (fun e=>absurd e (by decide:(3:Int)≠5))
 split
 ·exact ir (by decide:(4:Int)≠2) (fun e=>absurd e (by decide:(4:Int)≠1)) (fun e=>absurd e (by decide:(4:Int)≠5))
 split
 ·split
  ·exact ir ah (fun _=>⟨ah,fun _=>by decide,ah⟩) (fun e=>absurd e (by decide:(1:Int)≠5))
  ·exact ir ah (fun _=>⟨ah,fun _=>by decide,ah⟩) (fun e=>absurd e (by decide:(1:Int)≠5))
 ·exact ir ah (fun _=>⟨ah,fun _=>by decide,ah⟩) (fun e=>absurd e (by decide:(1:Int)≠5))
theorem Hm {q n:ByteArray} (m:Int):Fs (cA q++[nT n]) m:=fun L a hl=>by
 unfold cA at hl ⊢
 split at hl
 ·rename_i e
  rw[if_pos e]
  have hh:=nt hl
  refine⟨dj hh (by decide:(2:Int)≠1),dj hh (by decide:(2:Int)≠5),fun hd'=>?_,fun _=>dj hh (by decide:(2:Int)≠1),dj hh (by decide:(2:Int)≠1)⟩
  unfold fD
  have:lI L (P0 a) 1 5 ⟨#[46]⟩=false:=by rw[nq,decide_eq_false_iff_not];exact hd'
  rw[this];simp
 ·rename_i e
  rw[if_neg e]
  have hh:=nt hl
  refine⟨dj hh (by decide:(2:Int)≠1),dj hh (by decide:(2:Int)≠5),fun _=>?_,fun _=>dj hh (by decide:(2:Int)≠1),dj hh (by decide:(2:Int)≠1)⟩
  unfold fD
  have h3:hd L (a+2)=some (2,n):=hl.2.2.1
  have:lI L (P0 a) 2 5 ⟨#[42]⟩=false:=by rw[nq,decide_eq_false_iff_not];exact dj h3 ah
  rw[this];simp
theorem Cg {L:List Tok} {a:Nat} {x:ByteArray} (h:hd L a=some (1,x)):dH L (P0 a) 4=0:=pi fun op hop=>by
 rw[Cb,decide_eq_false_iff_not]
 refine dj h ?_
 have:op=3∨op=4∨op=5∨op=6∨op=7∨op=8:=by simpa [gk] using hop
 unfold fF
 rw[if_neg aa];decide
theorem EJ {L:List Tok} {a:Nat} {op:Int} {r:List Tok} (h0:1<=op) (h1:op<=14) (h:gI L a (cE op::r)):hd L a=some (fF op.toNat,j8 op.toNat):=by
 have hh:=nt h
 have e:((op.toNat:Nat):Int)=op:=by omega
 rw[hh,cE,fF,e]
 congr 2
 by_cases c:op=1∨op=2
 ·rw[if_pos aa,if_pos aa]
 ·rw[if_neg aa,if_neg aa]
section
variable {full:Bool} {g:Expr->List Tok}
def KidsOk (g:Expr->List Tok) (kids:List Expr):Prop:=∀k,k<kids.length->Itm (kids.getD k zeroX) (g (kids.getD k zeroX)) (lC (kids.getD k zeroX)).toNat/\1<=lC (kids.getD k zeroX)/\Fs (g (kids.getD k zeroX)) (lC (kids.getD k zeroX))
theorem KidsOk.itm {kids:List Expr} (h:KidsOk g kids) {k:Nat} (hk:k<kids.length) (full:Bool) (kind op:Int) {n:Nat} (hn:(nd kind op k).toNat=n) (h9:n<=9):Itm (kids.getD k zeroX) (aO full g kind op kids k) n:=by
 obtain⟨h1,h2,_⟩:=h k hk
 rw[<-hn];exact EG h1 h2 aa
theorem KidsOk.fs {kids:List Expr} (h:KidsOk g kids) {k:Nat} (hk:k<kids.length) (full:Bool) (kind op:Int):Fs (aO full g kind op kids k) (nd kind op k):=Hj (h k hk).2.2
theorem Hn {k:Expr} {op:Int} (ho:op=15∨op=16) (h:KidsOk g [k]):Itm (xL op k) (cE op::aO full g 3 op [k] 0) (lv 3 op).toNat:=by
 rcases ho with rfl|rfl
 ·have hk:=h.itm (k:=0) (by simp) full 3 15 (n:=3) ah aa
  refine kE (n:=3) aa (fun L a hl hs=>?_) (fun L a _ hc=>by unfold vD at hc;omega) fun L a _=>⟨fun h=>by omega,fun h=>by omega⟩
  have hh:hd L a=some (1,kw 15):=hl.1
  rw[J4,bY hh,if_pos rfl,d7]
  have e:a+(cE 15::aO full g 3 15 [k] 0).length=a+1+(aO full g 3 15 [k] 0).length:=by rw[List.length_cons];omega
  rw[e] at hs ⊢
  rw[(hk L (a+1) hl.2 3 aa aa).1 hs]
  rfl
 ·have hk:=h.itm (k:=0) (by simp) full 3 16 (n:=8) ah aa
  refine kE (n:=8) aa (fun L a hl hs=>?_) (fun L a _ hc=>by unfold vD at hc;omega) fun L a hl=>⟨fun _=>dj (nt hl) ah,fun h=>by omega⟩
  have hh:hd L a=some (5,⟨#[45]⟩):=hl.1
  rw[J5,gt hh,if_pos rfl,d7]
  have e:a+(cE 16::aO full g 3 16 [k] 0).length=a+1+(aO full g 3 16 [k] 0).length:=by rw[List.length_cons];omega
  rw[e] at hs ⊢
  rw[(hk L (a+1) hl.2 8 aa aa).1 hs]
  rfl
theorem o5 {op:Int} (h0:1<=op) (h1:op<=14):(bl op=1∨bl op=2∨bl op=4∨bl op=5∨bl op=6∨bl op=7):=by unfold bl;(repeat' split)<;>omega
theorem EK {x y:Expr} {op:Int} (h0:1<=op) (h1:op<=14) (h:KidsOk g [x,y]):Itm (iS op.toNat x y) (aO full g 4 op [x,y] 0++cE op::aO full g 4 op [x,y] 1) (lv 4 op).toNat:=by
 have hbl:=o5 h0 h1
 have e4:lv 4 op=bl op:=by unfold lv;rw[if_pos rfl]
 have eop:((op.toNat:Nat):Int)=op:=by omega
 have hf:=h.fs (k:=0) (by simp) full 4 op
 have tk:∀L a,gI L a (aO full g 4 op [x,y] 0++cE op::aO full g 4 op [x,y] 1)->gI L a (aO full g 4 op [x,y] 0)/\hd L (a+(aO full g 4 op [x,y] 0).length)=some (fF op.toNat,j8 op.toNat)/\gI L (a+(aO full g 4 op [x,y] 0).length+1) (aO full g 4 op [x,y] 1):=fun L a hl=>by
  obtain⟨a1,a2⟩:=bI.1 hl
  exact⟨a1,EJ h0 h1 a2,a2.2⟩
 have len:∀a,a+(aO full g 4 op [x,y] 0++cE op::aO full g 4 op [x,y] 1).length=a+(aO full g 4 op [x,y] 0).length+1+(aO full g 4 op [x,y] 1).length:=fun a=>by rw[aD,List.length_cons];omega
 have n0:nd 4 op 0=if bl op=4 then 5 else bl op:=by
  unfold nd;rw[e4,if_neg aa,if_pos rfl];simp
 have n1:nd 4 op 1=if bl op=4 then 5 else bl op+1:=by
  unfold nd;rw[e4,if_neg aa,if_pos rfl];simp
 rw[e4]
 by_cases b4:bl op=4
 ·rw[if_pos b4] at n0 n1
  have k0:=h.itm (k:=0) (by simp) full 4 op (n:=5) aa aa
  have k1:=h.itm (k:=1) (by simp) full 4 op (n:=5) aa aa
  rw[b4]
  refine kE (n:=4) aa (fun L a hl hs=>?_) (fun L a _ hc=>by unfold vD at hc;omega) fun L a hl=>⟨fun _=>(hf L a (tk L a hl).1).2.2.2.1 aa,fun h=>by omega⟩
  obtain⟨t1,t2,t3⟩:=tk L a hl
  rw[len] at hs ⊢
  have s0:St 5 (hd L (a+(aO full g 4 op [x,y] 0).length)):=by rw[t2];exact GB op.toNat aa aa 5 (by rw[eop];omega) (fun _=>by omega) (fun _=>by omega)
  rw[Hh]
  unfold lK
  rw[(k0 L a t1 5 aa aa).1 s0]
  have ho:=vV (L:=L) (op:=op.toNat) aa aa t2
  rw[eop,b4] at ho
  have ho:dH L (P0 (a+(aO full g 4 op [x,y] 0).length)) 4=op.toNat:=ho
  simp only[ho]
  rw[if_neg aa,d7,(k1 L _ t3 5 aa aa).1 (hs.mono aa)]
  rfl
 ·rw[if_neg b4] at n0 n1
  obtain⟨l,hl⟩:∃l:Nat,bl op=l:=⟨(bl op).toNat,aa⟩
  have hc:vD l:=by unfold vD;omega
  have k0:=h.itm (k:=0) (by simp) full 4 op (n:=l) aa aa
  have k1:=h.itm (k:=1) (by simp) full 4 op (n:=l+1) aa aa
  have el:(bl op).toNat=l:=by omega
  rw[el]
  have B:∀L a,gI L a (aO full g 4 op [x,y] 0++cE op::aO full g 4 op [x,y] 1)->J3 L (iS op.toNat x y) (aO full g 4 op [x,y] 0++cE op::aO full g 4 op [x,y] 1) l a:=fun L a hl' hs=>by
   obtain⟨t1,t2,t3⟩:=tk L a hl'
   rw[len] at hs ⊢
   have s0:St (l+1) (hd L (a+(aO full g 4 op [x,y] 0).length)):=by rw[t2];exact GB op.toNat aa aa (l+1) (by rw[eop];omega) (fun _=>by rw[eop] at *;omega) (fun _=>by omega)
   rw[(k0 L a t1 l aa (Nat.le_refl l)).2 hc s0,cj]
   have ho:=vV (L:=L) (op:=op.toNat) aa aa t2
   rw[eop,el] at ho
   rw[ho,if_neg aa,d7,(k1 L _ t3 (l+1) aa (Nat.le_refl _)).1 hs]
   have hlt:a+(aO full g 4 op [x,y] 0).length<L.length:=by
    unfold hd at t2
    by_cases e:a+(aO full g 4 op [x,y] 0).length<L.length
    ·exact e
    ·rw[List.getElem?_eq_none_iff.2 aa] at t2;cases t2
   exact AN aa aa (by show L.length-(a+(aO full g 4 op [x,y] 0).length+1+(aO full g 4 op [x,y] 1).length)<L.length;omega) aa
  refine kE (n:=l) aa (fun L a hl' hs=>?_) (fun L a hl' _=>B L a hl') fun L a hl'=>⟨fun _=>(hf L a (tk L a hl').1).2.2.2.1 aa,fun h=>by omega⟩
  rw[B L a hl' (hs.mono aa),rd (hs.noop (Nat.le_refl l) aa)]
theorem Ho {x y:Expr} {op:Int} (h0:1<=op) (h1:op<=14) (h:KidsOk g [x,y]):Fs (aO full g 4 op [x,y] 0++cE op::aO full g 4 op [x,y] 1) (lv 4 op):=by
 have hbl:=o5 h0 h1
 have e4:lv 4 op=bl op:=by unfold lv;rw[if_pos rfl]
 refine lO ((h.fs (k:=0) (by simp) full 4 op).mono fun h4=>?_) fun _=>?_
 ·unfold nd;rw[e4] at h4 ⊢;rw[if_neg aa,if_pos rfl];split<;>simp<;>omega
 ·show j8 op≠_
  have:∀i:Fin 15,j8 i.1≠⟨#[46]⟩:=by decide
  have:=this ⟨op.toNat,aa⟩
  rwa[show ((op.toNat:Nat):Int)=op by omega] at this
theorem lP {k0 e:Expr} {l m:List Tok} {t:Tok} {r:List Tok} (hm:m=t::r) (hk:Itm k0 l 5) (hf:Fs l 5) (ht:t.kind=1) (h5:∀h,h=some (t.kind,t.text)->St 5 h)
 (hp:∀L a,gI L a m->St 4 (hd L (a+m.length))->cmpT L (bH L) (eM L) k0 (P0 a)=some (e,P0 (a+m.length))):Itm e (l++m) 4:=by
 refine kE (n:=4) aa (fun L a hl hs=>?_) (fun L a _ hc=>by unfold vD at hc;omega) fun L a hl=>⟨fun _=>(hf L a (bI.1 hl).1).2.2.2.1 aa,fun h=>by omega⟩
 obtain⟨t1,t2⟩:=bI.1 hl
 have hh:hd L (a+l.length)=some (t.kind,t.text):=by rw[hm] at t2;exact t2.1
 rw[aD,<-Nat.add_assoc] at hs ⊢
 rw[Hh]
 unfold lK
 rw[(hk L a t1 5 aa aa).1 (h5 _ hh)]
 have hn:dH L (P0 (a+l.length)) 4=0:=by rw[ht] at hh;exact Cg hh
 simp only[hn,if_true]
 exact hp L _ t2 hs
end
theorem qE {L:List Tok}:∀ {l:List Tok} {a:Nat},gI L a l->l=[]∨a+l.length<=L.length
 | [],_,_=>.inl rfl
 |t::r,a,h=>by
  have hlt:a<L.length:=by
   have:=h.1
   unfold hd at this
   by_cases e:a<L.length
   ·exact e
   ·rw[List.getElem?_eq_none_iff.2 aa] at this;cases this
  rw[List.length_cons]
  rcases qE h.2 with h1|h1
  ·subst h1;simp;omega
  ·exact .inr aa
def El {α:Type} (f:List Tok->PM α) (Sx:Option (Int×ByteArray)->Prop) (x:α) (l:List Tok):Prop:=∀L a,gI L a l->(hd L (a+l.length)=some (5,⟨#[44]⟩)∨Sx (hd L (a+l.length)))->f L (P0 a)=some (x,P0 (a+l.length))
theorem rh {α:Type} {f:List Tok->PM α} {Sx:Option (Int×ByteArray)->Prop} (hS:∀h,Sx h->h≠some (5,⟨#[44]⟩)):∀(rest:List (α×List Tok)) (n:Nat) (acc:List α) (L:List Tok) (a:Nat),
 (∀p∈rest,El f Sx p.1 p.2)->rest.length<n->gI L a (rest.flatMap fun p=>dM::p.2)->Sx (hd L (a+(rest.flatMap fun p=>dM::p.2).length)) ->
 hM L (f L) n acc (P0 a)=some (acc++rest.map (·.1),P0 (a+(rest.flatMap fun p=>dM::p.2).length))
 | [],n+1,acc,L,a,_,_,_,hs=>by
  rw[List.flatMap_nil,List.length_nil,Nat.add_zero] at hs ⊢
  rw[hM,pR (hS _ hs),if_neg (by simp)]
  simp
 |p::r,n+1,acc,L,a,hr,hn,hl,hs=>by
  rw[List.flatMap_cons,List.cons_append,gI] at hl
  obtain⟨h1,h2⟩:=hl
  obtain⟨h3,h4⟩:=bI.1 h2
  rw[hM,gt h1,if_pos rfl,d7]
  have len:a+((p::r).flatMap fun p=>dM::p.2).length=a+1+p.2.length+(r.flatMap fun p=>dM::p.2).length:=by rw[List.flatMap_cons,aD,List.length_cons];omega
  rw[len] at hs ⊢
  have hst:hd L (a+1+p.2.length)=some (5,⟨#[44]⟩)∨Sx (hd L (a+1+p.2.length)):=by
   cases r with
   |nil=>exact .inr hs
   |cons q r'=>
    rw[List.flatMap_cons,List.cons_append,gI] at h4
    exact .inl h4.1
  rw[hr p (by simp) L (a+1) h3 hst]
  simp only
  rw[rh hS r n (acc++[p.1]) L _ (fun q hq=>hr q (by simp [hq])) (by simpa using hn) h4 hs]
  simp
theorem Hp {b:Nat->List Tok} (m:Nat):bf (fun i=>kg i++b i) (m+1)=b 0++(List.range m).flatMap fun j=>dM::b (j+1):=by
 unfold bf
 rw[List.range_succ_eq_map,List.flatMap_cons,List.flatMap_map]
 rfl
section
variable {full:Bool} {g:Expr->List Tok}
theorem ri:St 1 (some (5,⟨#[44]⟩)):=vW 44 (.inr rfl) 1
theorem Hq {e:Expr} {l:List Tok} {n:Nat} {Sx:Option (Int×ByteArray)->Prop} (h:Itm e l n) (h1:1<=n) (hS:∀h,Sx h->St 1 h):El (fun L=>bH L 1) Sx e l:=fun L a hl hs=>(h L a hl 1 (Nat.le_refl 1) h1).1 (by
 rcases hs with hs|hs
 ·rw[hs];exact ri
 ·exact hS _ hs)
theorem y9 {α:Type} (l:List α) (d:α) (m:Nat) (h:l.length=m+1):(List.range m).map (fun j=>l.getD (j+1) d)=l.tail:=by
 cases l with
 |nil=>simp at h
 |cons x r=>
  simp only[List.length_cons,Nat.add_right_cancel_iff] at h
  subst h
  refine List.ext_getElem (by simp) fun i h1 h2=>?_
  simp at h1 h2 ⊢
  rw[aC h1];rfl
theorem rj {L:List Tok} {a:Nat} (n:Bool) {m:List Tok} {t:Tok} (h:gI L a (bA n++t::m)) (ht:t.text≠kw 15):aA L (P0 a) 15=n/\tkIf (aA L (P0 a) 15) (P0 a)=P0 (a+(bA n).length)/\hd L (a+(bA n).length)=some (t.kind,t.text)/\gI L (a+(bA n).length+1) m:=by
 obtain⟨h1,h2⟩:=bI.1 h
 cases n with
 |true=>
  have hh:hd L a=some (1,kw 15):=h1.1
  refine⟨bY hh,?_,h2.1,h2.2⟩
  rw[bY hh];rfl
 |false=>
  have hk:aA L (P0 a) 15=false:=cm (eY (k:=t.kind) (x:=t.text) h2.1 ht)
  refine⟨hk,?_,h2.1,h2.2⟩
  rw[hk];rfl
theorem Hr {k:Expr} {not:Bool} (h:KidsOk g [k]):Itm (cG 5 not [k] []) (aO full g 5 0 [k] 0++kT 16::(bA not++[kT 20])) 4:=by
 have hk:=h.itm (k:=0) (by simp) full 5 0 (n:=5) ah aa
 have hf:=h.fs (k:=0) (by simp) full 5 0
 refine lP rfl hk (hf.mono fun _=>by decide) rfl (fun h e=>by rw[e];exact my 16 aa) fun L a hl _=>?_
 obtain⟨h1,h2⟩:=hl
 have h1:hd L a=some (1,kw 16):=h1
 obtain⟨n1,n2,n3,_⟩:=rj not h2 ah
 have n3:hd L (a+1+(bA not).length)=some (1,kw 20):=n3
 unfold cmpT
 simp only[bY h1,if_true,d7]
 rw[n2,n1]
 unfold must
 rw[if_pos (bY n3)]
 simp only[List.length_cons,aD,List.length_nil,d7]
 congr 3;omega
theorem EL {x y z:Expr} {not:Bool} (h:KidsOk g [x,y,z]):Itm (cG 6 not [x,y,z] []) (aO full g 6 0 [x,y,z] 0++(bA not++(kT 18::(aO full g 6 0 [x,y,z] 1++(kT 13::aO full g 6 0 [x,y,z] 2))))) 4:=by
 have k0:=h.itm (k:=0) (by simp) full 6 0 (n:=5) ah aa
 have k1:=h.itm (k:=1) (by simp) full 6 0 (n:=5) ah aa
 have k2:=h.itm (k:=2) (by simp) full 6 0 (n:=5) ah aa
 have hf:=h.fs (k:=0) (by simp) full 6 0
 have body:∀L a,gI L a (bA not++(kT 18::(aO full g 6 0 [x,y,z] 1++(kT 13::aO full g 6 0 [x,y,z] 2))))->St 4 (hd L (a+(bA not++(kT 18::(aO full g 6 0 [x,y,z] 1++(kT 13::aO full g 6 0 [x,y,z] 2)))).length)) ->
  cmpT L (bH L) (eM L) x (P0 a)=some (cG 6 not [x,y,z] [],P0 (a+(bA not++(kT 18::(aO full g 6 0 [x,y,z] 1++(kT 13::aO full g 6 0 [x,y,z] 2)))).length)):=fun L a hl hs=>by
  obtain⟨n1,n2,n3,n4⟩:=rj not hl ah
  obtain⟨t1,t2⟩:=bI.1 n4
  have no16:aA L (P0 a) 16=false:=by
   cases not with
   |true=>exact cm (eY (k:=1) (x:=kw 15) hl.1 ah)
   |false=>exact cm (eY (k:=1) (x:=kw 18) hl.1 ah)
  have len:a+(bA not++(kT 18::(aO full g 6 0 [x,y,z] 1++(kT 13::aO full g 6 0 [x,y,z] 2)))).length=a+(bA not).length+1+(aO full g 6 0 [x,y,z] 1).length+1+(aO full g 6 0 [x,y,z] 2).length:=by
   simp only[List.length_cons,aD];omega
  rw[len] at hs ⊢
  have h13:hd L (a+(bA not).length+1+(aO full g 6 0 [x,y,z] 1).length)=some (1,kw 13):=t2.1
  unfold cmpT
  simp only[no16,Bool.false_eq_true,if_false]
  rw[n2,n1,if_pos (bY n3),d7,(k1 L _ t1 5 aa aa).1 (by rw[h13];exact my 13 aa)]
  simp only
  unfold must
  rw[if_pos (bY h13),d7,(k2 L _ t2.2 5 aa aa).1 (hs.mono aa)]
  rfl
 cases not with
 |true=>exact lP rfl k0 (hf.mono fun _=>by decide) rfl (fun h e=>by rw[e];exact my 15 aa) body
 |false=>exact lP rfl k0 (hf.mono fun _=>by decide) rfl (fun h e=>by rw[e];exact my 18 aa) body
theorem tG {k0 e:Expr} {l m:List Tok} {not:Bool} (hk:Itm k0 l 5) (hf:Fs l 5)
 (hp:∀L a,gI L a (jb::(m++[je]))->vN L (bH L) (eM L) k0 not (P0 a)=some (e,P0 (a+1+m.length+1))):Itm e (l++(bA not++(kT 17::jb::(m++[je])))) 4:=by
 have body:∀L a,gI L a (bA not++(kT 17::jb::(m++[je])))->St 4 (hd L (a+(bA not++(kT 17::jb::(m++[je]))).length))->cmpT L (bH L) (eM L) k0 (P0 a)=some (e,P0 (a+(bA not++(kT 17::jb::(m++[je]))).length)):=fun L a hl hs=>by
  obtain⟨n1,n2,n3,n4⟩:=rj not hl ah
  have no16:aA L (P0 a) 16=false:=by
   cases not with
   |true=>exact cm (eY (k:=1) (x:=kw 15) hl.1 ah)
   |false=>exact cm (eY (k:=1) (x:=kw 17) hl.1 ah)
  have len:a+(bA not++(kT 17::jb::(m++[je]))).length=a+(bA not).length+1+1+m.length+1:=by
   simp only[List.length_cons,aD,List.length_nil];omega
  rw[len]
  unfold cmpT
  simp only[no16,Bool.false_eq_true,if_false]
  rw[n2,n1,if_neg (by rw[cm (eY n3 ah)];simp),if_pos (bY n3),d7]
  exact hp L _ n4
 cases not with
 |true=>exact lP rfl hk hf rfl (fun h e=>by rw[e];exact my 15 aa) body
 |false=>exact lP rfl hk hf rfl (fun h e=>by rw[e];exact my 17 aa) body
theorem Ht {kids:List Expr} {not:Bool} (h2:2<=kids.length) (h9:kids.length<=9) (h:KidsOk g kids):Itm (cG 7 not kids []) (aO full g 7 0 kids 0++(bA not++(kT 17::jb::(bf (oX full g 7 0 kids) (kids.length-1)++[je])))) 4:=by
 have hk:=h.itm (k:=0) aa full 7 0 (n:=5) ah aa
 have hf:=h.fs (k:=0) aa full 7 0
 obtain⟨m,hm⟩:∃m,kids.length=m+2:=⟨kids.length-2,aa⟩
 have nd1:∀j,nd 7 0 (j+1)=1:=fun j=>by unfold nd;rw[if_neg ah,if_neg ah,if_neg ah,if_pos ⟨rfl,aa⟩]
 have kj:∀j,j+1<kids.length->Itm (kids.getD (j+1) zeroX) (aO full g 7 0 kids (j+1)) 1:=fun j hj=>h.itm hj full 7 0 (by rw[nd1];rfl) aa
 refine tG hk (hf.mono fun _=>by decide) fun L a hl=>?_
 obtain⟨t1,t2⟩:=hl
 obtain⟨t3,t4⟩:=bI.1 t2
 have e1:kids.length-1=m+1:=by omega
 have e2:oX full g 7 0 kids=fun i=>kg i++aO full g 7 0 kids (i+1):=rfl
 rw[e1,e2,Hp] at t3 t4 ⊢
 obtain⟨t5,t6⟩:=bI.1 t3
 have hrp:hd L (a+1+(aO full g 7 0 kids (0+1)++(List.range m).flatMap fun j=>dM::aO full g 7 0 kids (j+1+1)).length)=some (5,⟨#[41]⟩):=t4.1
 generalize hrest:(List.range m).map (fun j=>(kids.getD (j+1+1) zeroX,aO full g 7 0 kids (j+1+1)))=rest
 have hfl:((List.range m).flatMap fun j=>dM::aO full g 7 0 kids (j+1+1))=rest.flatMap fun p=>dM::p.2:=by rw[<-hrest,List.flatMap_map]
 rw[hfl] at t6 hrp ⊢
 unfold vN
 have hsel:aA L (P0 (a+1)) 1=false:=cm ((h.fs (k:=1) aa full 7 0) L (a+1) t5).1
 simp only[must,gt t1,if_true,d7,hsel,Bool.false_eq_true,if_false]
 have st0:St 1 (hd L (a+1+(aO full g 7 0 kids (0+1)).length)):=by
  cases rest with
  |nil=>rw[List.flatMap_nil,List.append_nil] at hrp;rw[hrp];exact vW 41 (.inl rfl) 1
  |cons p r=>rw[List.flatMap_cons,List.cons_append,gI] at t6;rw[t6.1];exact ri
 have hor:mM L (bH L) (P0 (a+1))=some (kids.tail,P0 (a+1+(aO full g 7 0 kids (0+1)++rest.flatMap fun p=>dM::p.2).length)):=by
  unfold mM
  rw[((kj 0 aa) L (a+1) t5 1 aa aa).1 st0]
  simp only
  have hlen:rest.length<L.length+1:=by
   rw[<-hrest,List.length_map,List.length_range]
   have h4:∀r:List (Expr×List Tok),r.length<=(r.flatMap fun p=>dM::p.2).length:=fun r=>by
    induction r with
    |nil=>simp
    |cons p r ih=>rw[List.flatMap_cons,aD,List.length_cons,List.length_cons];omega
   have h5:=h4 rest
   rw[<-hrest,List.length_map,List.length_range,hrest] at h5
   rcases qE t6 with h6|h6
   ·rw[h6] at h5;simp at h5;omega
   ·omega
  have:=rh (f:=fun L=>bH L 1) (Sx:=fun h=>h=some (5,⟨#[41]⟩)) (fun h e=>by rw[e];decide) rest (L.length+1) [kids.getD (0+1) zeroX] L _ (fun p hp=>by
   rw[<-hrest,List.mem_map] at hp
   obtain⟨j,hj,rfl⟩:=hp
   rw[List.mem_range] at hj
   exact Hq (kj (j+1) aa) aa (fun h e=>by rw[e];exact vW 41 (.inl rfl) 1)) hlen t6 (by rw[aD,<-Nat.add_assoc] at hrp;exact hrp)
  rw[this]
  rw[aD,<-Nat.add_assoc]
  congr 2
  rw[<-hrest,List.map_map]
  have e3:(List.range m).map ((fun p:Expr×List Tok=>p.1) ∘ fun j=>(kids.getD (j+1+1) zeroX,aO full g 7 0 kids (j+1+1)))=kids.tail.tail:=by
   have:=y9 kids.tail zeroX m (by rw[List.length_tail];omega)
   rw[<-this]
   refine List.map_congr_left fun j _=>?_
   simp only[Function.comp]
   cases kids with
   |nil=>simp at hm
   |cons x r=>rfl
  rw[e3]
  cases kids with
  |nil=>simp at hm
  |cons x r=>cases r with
   |nil=>simp at hm
   |cons y r'=>rfl
 rw[hor]
 simp only[gt hrp,if_true,d7]
 congr 2
 cases kids with
 |nil=>simp at hm
 |cons x r=>rfl
def J6 (q:Query) (l:List Tok):Prop:=∀L a,gI L a l->(hd L (a+l.length)=none∨hd L (a+l.length)=some (5,⟨#[41]⟩))->eM L (P0 a)=some (q,P0 (a+l.length))
theorem EM {k:Expr} {q:Query} {not:Bool} {r:List Tok} (h:KidsOk g [k]) (hr:dL g q=kT 1::r) (hq:J6 q (dL g q)):Itm (cG 8 not [k] [q]) (aO full g 8 0 [k] 0++(bA not++(kT 17::jb::(dL g q++[je])))) 4:=by
 have hk:=h.itm (k:=0) (by simp) full 8 0 (n:=5) ah aa
 have hf:=h.fs (k:=0) (by simp) full 8 0
 refine tG hk (hf.mono fun _=>by decide) fun L a hl=>?_
 obtain⟨t1,t2⟩:=hl
 obtain⟨t3,t4⟩:=bI.1 t2
 have hrp:hd L (a+1+(dL g q).length)=some (5,⟨#[41]⟩):=t4.1
 have hsel:hd L (a+1)=some (1,kw 1):=by rw[hr] at t3;exact t3.1
 unfold vN
 simp only[must,gt t1,if_true,d7,bY hsel]
 rw[hq L (a+1) t3 (.inr hrp)]
 simp only[gt hrp,if_true,d7]
 rfl
theorem Hu {q:Query} (hq:J6 q (dL g q)):Itm (cG 9 false [] [q]) (kT 19::jb::(dL g q++[je])) 9:=by
 refine kE (Nat.le_refl 9) (fun L a hl hs=>?_) (fun L a _ hc=>by unfold vD at hc;omega) fun L a hl=>⟨fun _=>eY (nt hl) ah,fun _=>dj (nt hl) ah⟩
 obtain⟨t1,t2,t3⟩:=hl
 obtain⟨t4,t5⟩:=bI.1 t3
 have h19:hd L a=some (1,kw 19):=t1
 have hlp:hd L (a+1)=some (5,⟨#[40]⟩):=t2
 have hrp:hd L (a+1+1+(dL g q).length)=some (5,⟨#[41]⟩):=t5.1
 rw[EE]
 unfold ed
 simp only[eD h19 (by decide:(1:Int)≠3),eD h19 (by decide:(1:Int)≠4),eD h19 (by decide:(1:Int)≠2),cm (eY h19 (by decide:kw 19≠kw 20)),cm (eY h19 (by decide:kw 19≠kw 21)),cm (eY h19 (by decide:kw 19≠kw 22)),pR (dj h19 (by decide:(1:Int)≠5)),bY h19,Bool.false_eq_true,if_false,if_true,d7,must,gt hlp]
 rw[hq L _ t4 (.inr hrp)]
 simp only[gt hrp,if_true,d7,List.length_cons,aD,List.length_nil]
 congr 3;omega
end
def En (ks:List Nat) (h:Option (Int×ByteArray)):Prop:=h=none∨h=some (5,⟨#[41]⟩)∨∃k∈ks,h=some (1,kw k)
theorem En.mono {ks ks':List Nat} {h:Option (Int×ByteArray)} (e:En ks h) (s:∀k∈ks,k∈ks'):En ks' h:=e.imp id fun e=>e.imp id fun ⟨k,h1,h2⟩=>⟨k,s k h1,h2⟩
theorem En.st {ks:List Nat} {h:Option (Int×ByteArray)} (e:En ks h) (s:∀k∈ks,k=3∨k=4∨k=6∨k=7∨k=9∨k=10∨k=11∨k=12) (lv:Nat):St lv h:=by
 rcases e with rfl|rfl|⟨k,hk,rfl⟩
 ·exact ED lv
 ·exact vW 41 (.inl rfl) lv
 ·exact y7 k lv (s k hk)
theorem En.key {ks:List Nat} {h:Option (Int×ByteArray)} (e:En ks h) {x:ByteArray} (s:∀k∈ks,kw k≠x):h≠some (1,x):=by
 rcases e with rfl|rfl|⟨k,hk,rfl⟩
 ·simp
 ·simp
 ·intro h;injection h with h;injection h with _ h;exact s k hk h
theorem En.sg {ks:List Nat} {h:Option (Int×ByteArray)} (e:En ks h) {x:ByteArray} (s:x≠⟨#[41]⟩):h≠some (5,x):=by
 rcases e with rfl|rfl|⟨k,hk,rfl⟩
 ·simp
 ·intro h;injection h with h;injection h with _ h;exact s h.symm
 ·simp
theorem En.one {k:Nat} {ks:List Nat} {h:Option (Int×ByteArray)} (e:h=some (1,kw k)) (hk:k∈ks):En ks h:=.inr (.inr ⟨k,hk,e⟩)
theorem GD {e:Expr} (h:mf e=true):e=zExpr:=by
 obtain⟨kind,op,not,val,qual,name,kids,sub⟩:=e
 simp only[mf,eg,Bool.and_eq_true,decide_eq_true_eq] at h
 obtain⟨h1,h2,h3,h4,h5,h6,h7,h8⟩:=h
 have e1:=GC h4
 have e2:kids=[]:=List.eq_nil_of_length_eq_zero aa
 have e3:sub=[]:=List.eq_nil_of_length_eq_zero aa
 rw[h1,h2,h3,e1,h5,h6,e2,e3];rfl
section
variable {g:Expr->List Tok}
def XOk (g:Expr->List Tok) (e:Expr):Prop:=Itm e (g e) (lC e).toNat/\1<=lC e/\Fs (g e) (lC e)
theorem XOk.el {e:Expr} (h:XOk g e) {L:List Tok} {a:Nat} (hl:gI L a (g e)) (hs:St 1 (hd L (a+(g e).length))):bH L 1 (P0 a)=some (e,P0 (a+(g e).length)):=(h.1 L a hl 1 (Nat.le_refl 1) (by have:=h.2.1;omega)).1 hs
theorem vX {L:List Tok} {a:Nat} {x:ByteArray} (hx:dc x=true) (h:gI L a (cP x)) (hn:hd L (a+(cP x).length)≠some (1,kw 12)):asM L (P0 a)=(x,P0 (a+(cP x).length)):=by
 unfold cP at h hn ⊢
 unfold asM
 split at h
 ·rename_i e
  rw[if_pos e] at hn ⊢
  rw[cm (by simpa using hn),if_neg (by simp),e];rfl
 ·rename_i e
  rw[if_neg e]
  unfold dc at hx
  simp only[Bool.or_eq_true,decide_eq_true_eq,e,false_or] at hx
  rw[bY h.1,if_pos rfl,d7,re h.2.1 hx];rfl
theorem J7 {L:List Tok} {a:Nat} {x:ByteArray} (h:gI L a (cP x)):hd L a=some (1,kw 12)∨hd L a=hd L (a+(cP x).length):=by
 unfold cP at h ⊢
 split at h
 ·rename_i e;rw[if_pos e];exact .inr rfl
 ·exact .inl h.1
theorem tH {x:Item} (hx:nM x=true) (h:x.star=false->XOk g x.e):El (fun L=>eL L (bH L)) (fun h=>h=some (1,kw 3)) x (cH g x):=fun L a hl hs=>by
 obtain⟨star,qual,e,as_⟩:=x
 have hs':En [3] (hd L (a+(cH g (.mk star qual e as_)).length))∨hd L (a+(cH g (.mk star qual e as_)).length)=some (5,⟨#[44]⟩):=hs.symm.imp (fun h=>En.one h (by simp)) id
 cases star with
 |true=>
  unfold nM at hx
  simp only[if_true,Bool.and_eq_true,decide_eq_true_eq] at hx
  obtain⟨hq,rfl,hz⟩:=hx
  rw[GD hz]
  have e1:cH g (.mk true qual e ⟨#[]⟩)=cA qual++[DE]:=rfl
  have e2:cH g (.mk true qual zExpr ⟨#[]⟩)=cA qual++[DE]:=rfl
  rw[GD hz,e2] at hl
  rw[e2]
  show eL L (bH L) (P0 a)=_
  unfold eL
  unfold cA at hl ⊢
  split at hl
  ·rename_i e
   rw[if_pos e,gt hl.1,if_pos rfl,e];rfl
  ·rename_i e
   rw[if_neg e]
   unfold dc at hq
   simp only[Bool.or_eq_true,decide_eq_true_eq,e,false_or] at hq
   have h1:hd L a=some (2,qual):=hl.1
   have h2:hd L (a+1)=some (5,⟨#[46]⟩):=hl.2.1
   have h3:hd L (a+2)=some (5,⟨#[42]⟩):=hl.2.2.1
   have hst:fD L (P0 a)=true:=by
    unfold fD
    rw[nr h1,uC hq,nq,nq,h2,h3];simp
   rw[pR (dj h1 ah),if_neg (by simp),hst,if_pos rfl,gq h1];rfl
 |false=>
  unfold nM at hx
  simp only[Bool.false_eq_true,if_false,Bool.and_eq_true,decide_eq_true_eq] at hx
  obtain⟨rfl,ha⟩:=hx
  have hX:XOk g e:=h rfl
  have e1:cH g (.mk false ⟨#[]⟩ e as_)=g e++cP as_:=rfl
  rw[e1] at hl hs' ⊢
  obtain⟨h1,h2⟩:=bI.1 hl
  rw[aD,<-Nat.add_assoc] at hs' ⊢
  have hst:St 1 (hd L (a+(g e).length)):=by
   rcases J7 h2 with h3|h3
   ·rw[h3];exact y7 12 1 aa
   ·rw[h3]
    rcases hs' with h4|h4
    ·exact h4.st (by simp) 1
    ·rw[h4];exact ri
  have hf:=hX.2.2 L a h1
  show eL L (bH L) (P0 a)=_
  unfold eL
  rw[pR hf.2.1,if_neg (by simp),hf.2.2.1 hst.1,if_neg (by simp),hX.el h1 hst]
  simp only
  rw[vX ha h2 (by
   rcases hs' with h4|h4
   ·exact h4.key ah
   ·rw[h4];simp)]
  rfl
theorem rk {α:Type} {F:Nat->List Tok} {A:List Tok} {h:α->List Tok} {r:List α} (h0:F 0=A) (h1:∀i (hi:i<r.length),F (i+1)=h r[i]):bf F (r.length+1)=A++r.flatMap h:=by
 have:bf F (r.length+1)=F 0++(List.range r.length).flatMap fun i=>F (i+1):=by
  unfold bf
  rw[List.range_succ_eq_map,List.flatMap_cons,List.flatMap_map]
 rw[this,h0]
 congr 1
 have e:(List.range r.length).map (fun i=>F (i+1))=r.map h:=List.ext_getElem (by simp) fun i a b=>by simp at a b ⊢;rw[h1 i a]
 rw[List.flatMap_def,e,<-List.flatMap_def]
theorem Ch {α:Type} {L:List Tok} {a:Nat} {r:List α} {tk:α->List Tok} (h:gI L a (r.flatMap fun x=>dM::tk x)):r.length<L.length+1:=by
 have h4:∀r:List α,r.length<=(r.flatMap fun p=>dM::tk p).length:=fun r=>by
  induction r with
  |nil=>simp
  |cons p r ih=>rw[List.flatMap_cons,aD,List.length_cons,List.length_cons];omega
 have:=h4 r
 rcases qE h with h5|h5
 ·rw[h5] at this;simp at this;simp [this]
 ·omega
theorem zy {α:Type} {f:List Tok->PM α} {Sx:Option (Int×ByteArray)->Prop} {tk:α->List Tok} (hS:∀h,Sx h->h≠some (5,⟨#[44]⟩)) {r:List α} {acc:List α} {L:List Tok} {a:Nat} (hE:∀x∈r,El f Sx x (tk x))
 (hl:gI L a (r.flatMap fun x=>dM::tk x)) (hs:Sx (hd L (a+(r.flatMap fun x=>dM::tk x).length))):hM L (f L) (L.length+1) acc (P0 a)=some (acc++r,P0 (a+(r.flatMap fun x=>dM::tk x).length)):=by
 have e:(r.map fun x=>(x,tk x)).flatMap (fun p=>dM::p.2)=r.flatMap fun x=>dM::tk x:=by rw[List.flatMap_map]
 have:=rh (f:=f) hS (r.map fun x=>(x,tk x)) (L.length+1) acc L a (fun p hp=>by
  obtain⟨x,hx,rfl⟩:=List.mem_map.1 hp
  exact hE x hx) (by rw[List.length_map];exact Ch hl) (by rw[e];exact hl) (by rw[e];exact hs)
 rw[this,e,List.map_map]
 congr 2
 congr 1
 have:((fun p:α×List Tok=>p.1) ∘ fun x=>(x,tk x))=id:=rfl
 rw[this,List.map_id]
theorem zA {α:Type} {Sx:Option (Int×ByteArray)->Prop} {tk:α->List Tok} {r:List α} {L:List Tok} {a:Nat} (hl:gI L a (r.flatMap fun x=>dM::tk x)) (hs:Sx (hd L (a+(r.flatMap fun x=>dM::tk x).length))):hd L a=some (5,⟨#[44]⟩)∨Sx (hd L a):=by
 cases r with
 |nil=>exact .inr hs
 |cons x r'=>rw[List.flatMap_cons,List.cons_append] at hl;exact .inl hl.1
theorem ya {items:List Item} (h0:1<=items.length) (hi:∀x∈items,nM x=true) (hx:∀x∈items,x.star=false->XOk g x.e) {L:List Tok} {a:Nat} (hl:gI L a (bf (dk g items) items.length)) (hs:hd L (a+(bf (dk g items) items.length).length)=some (1,kw 3)) :
 fk L (bH L) (P0 a)=some (items,P0 (a+(bf (dk g items) items.length).length)):=by
 obtain⟨x,r,rfl⟩:∃x r,items=x::r:=by
  cases items with
  |nil=>simp at h0
  |cons x r=>exact⟨x,r,rfl⟩
 have e:bf (dk g (x::r)) (r.length+1)=cH g x++r.flatMap fun y=>dM::cH g y:=rk rfl fun i hi=>by
  show kg (i+1)++qz (x::r) (cH g) (i+1)=_
  rw[dX (by simpa using hi)];rfl
 rw[List.length_cons,e] at hl hs ⊢
 obtain⟨h1,h2⟩:=bI.1 hl
 rw[aD,<-Nat.add_assoc] at hs ⊢
 unfold fk
 have hI:eL L (bH L) (P0 a)=_:=tH (hi x (by simp)) (hx x (by simp)) L a h1 (zA (Sx:=fun h=>h=some (1,kw 3)) h2 hs)
 rw[hI]
 exact zy (f:=fun L=>eL L (bH L)) (Sx:=fun h=>h=some (1,kw 3)) (fun h e=>by rw[e];decide) (fun y hy=>tH (hi y (by simp [hy])) (hx y (by simp [hy]))) h2 hs
theorem lQ {table as_:ByteArray} (ht:bJ table=true) (ha:dc as_=true) {L:List Tok} {a:Nat} (hl:gI L a (nT table::cP as_)) (hn:hd L (a+1+(cP as_).length)≠some (1,kw 12)):sourceM L (P0 a)=(.mk table as_ [],P0 (a+1+(cP as_).length)):=by
 unfold sourceM
 rw[re hl.1 ht]
 simp only
 rw[vX ha hl.2 hn]
 rfl
def kF (g:Expr->List Tok) (x:Source):List Tok:=fK g 1 x
theorem o6 {ks:List Nat} (hks:∀k∈ks,k=6∨k=7∨k=11):∀(r:List Source) (n:Nat) (acc:List Source) {L:List Tok} {a:Nat},(∀x∈r,nN 1 x=true)->(∀x∈r,∀y∈x.on,XOk g y)->r.length<n->gI L a (r.flatMap (kF g))->En ks (hd L (a+(r.flatMap (kF g)).length)) ->
 bW L (bH L) n acc (P0 a)=some (acc++r,P0 (a+(r.flatMap (kF g)).length))
 | [],n+1,acc,L,a,_,_,_,_,hs=>by
  rw[List.flatMap_nil,List.length_nil,Nat.add_zero] at hs ⊢
  have h4:∀k∈ks,kw k≠kw 4:=fun k hk=>by rcases hks k hk with rfl|rfl|rfl<;>decide
  rw[bW,pR (hs.sg ah),if_neg (by simp),cm (hs.key h4)]
  simp
 |x::r,n+1,acc,L,a,hb,hX,hn,hl,hs=>by
  rw[List.flatMap_cons] at hl hs ⊢
  rw[aD,<-Nat.add_assoc] at hs ⊢
  obtain⟨h1,h2⟩:=bI.1 hl
  have hx:=hb x (by simp)
  obtain⟨table,as_,on⟩:=x
  unfold nN at hx
  simp only[Bool.and_eq_true,decide_eq_true_eq] at hx
  obtain⟨ht,ha,ho,_⟩:=hx
  have hst:En (4::ks) (hd L (a+(kF g (.mk table as_ on)).length))∨hd L (a+(kF g (.mk table as_ on)).length)=some (5,⟨#[44]⟩):=by
   cases r with
   |nil=>exact .inl (hs.mono fun k hk=>by simp [hk])
   |cons y r'=>
    obtain⟨ty,ay,oy⟩:=y
    rw[List.flatMap_cons] at h2
    have h3:=(bI.1 h2).1
    have e3:kF g (.mk ty ay oy)=(if 0<oy.length then [kT 4] else [dM])++(nT ty::(cP ay++sc g oy)):=rfl
    rw[e3] at h3
    by_cases e:0<oy.length
    ·rw[if_pos e] at h3;exact .inl (En.one (k:=4) h3.1 (by simp))
    ·rw[if_neg e] at h3;exact .inr h3.1
  have n12:hd L (a+(kF g (.mk table as_ on)).length)≠some (1,kw 12):=by
   rcases hst with h|h
   ·refine h.key fun k hk=>?_
    rcases List.mem_cons.1 hk with rfl|hk
    ·decide
    ·rcases hks k hk with rfl|rfl|rfl<;>decide
   ·rw[h];simp
  have rec_:=fun acc=>o6 hks r n acc (fun y hy=>hb y (by simp [hy])) (fun y hy=>hX y (by simp [hy])) (by simpa using hn) h2 hs
  cases on with
  |nil=>
   have e:kF g (.mk table as_ [])=dM::nT table::(cP as_++[]):=rfl
   rw[List.append_nil] at e
   rw[e] at h1 n12 rec_ ⊢
   have len:a+(dM::nT table::cP as_).length=a+1+1+(cP as_).length:=by simp only[List.length_cons];omega
   rw[len] at n12 rec_ ⊢
   rw[bW,gt h1.1,if_pos rfl,d7,lQ ht ha h1.2 n12]
   simp only
   rw[rec_];simp
  |cons y on'=>
   have hon':on'=[]:=List.eq_nil_of_length_eq_zero (by simp only[List.length_cons] at ho;omega)
   subst hon'
   have e:kF g (.mk table as_ [y])=kT 4::nT table::(cP as_++kT 5::g y):=rfl
   rw[e] at h1 n12 rec_ hst ⊢
   have len:a+(kT 4::nT table::(cP as_++kT 5::g y)).length=a+1+1+(cP as_).length+1+(g y).length:=by simp only[List.length_cons,aD];omega
   rw[len] at n12 rec_ hst ⊢
   obtain⟨t1,t2,t3⟩:=h1
   obtain⟨t4,t5⟩:=bI.1 t3
   have h4:hd L a=some (1,kw 4):=t1
   have h5:hd L (a+1+1+(cP as_).length)=some (1,kw 5):=t5.1
   rw[bW,pR (dj h4 ah),if_neg (by simp),bY h4,if_pos rfl,d7,lQ ht ha ⟨t2,t4⟩ (by rw[h5];decide)]
   simp only
   unfold must
   rw[if_pos (bY h5),d7]
   have hX1:XOk g y:=hX (.mk table as_ [y]) (by simp) y (by simp [Source.on])
   rw[hX1.el t5.2 (by
    rcases hst with h|h
    ·exact h.st (fun k hk=>by
      rcases List.mem_cons.1 hk with rfl|hk
      ·omega
      ·have:=hks k hk;omega) 1
    ·rw[h];exact ri)]
   simp only
   rw[rec_]
   simp [Source.withOn]
theorem tI {x:SortKey} (hX:XOk g x.e):El (fun L=>fe L (bH L)) (En [11]) x (j3 g x):=fun L a hl hs=>by
 obtain⟨e,desc⟩:=x
 have hX':XOk g e:=hX
 clear hX
 show fe L (bH L) (P0 a)=_
 have e1:j3 g (.mk e desc)=g e++(if desc=true then [kT 10] else []):=rfl
 rw[e1] at hl hs ⊢
 obtain⟨h1,h2⟩:=bI.1 hl
 rw[aD,<-Nat.add_assoc] at hs ⊢
 have st11:∀h,En [11] h->St 1 h:=fun h e=>e.st (by simp) 1
 unfold fe
 cases desc with
 |true=>
  rw[if_pos rfl] at h2 hs ⊢
  have h10:hd L (a+(g e).length)=some (1,kw 10):=h2.1
  rw[hX'.el h1 (by rw[h10];exact y7 10 1 aa)]
  simp only
  rw[cm (eY h10 ah),if_neg (by simp),bY h10]
  rfl
 |false=>
  rw[if_neg (by simp)] at h2 hs ⊢
  simp only[List.length_nil,Nat.add_zero] at hs ⊢
  rw[hX'.el h1 (by
   rcases hs with h|h
   ·rw[h];exact ri
   ·exact st11 _ h)]
  simp only
  have n9:∀k,k=9∨k=10->hd L (a+(g e).length)≠some (1,kw k):=fun k hk=>by
   rcases hs with h|h
   ·rw[h];simp
   ·exact h.key (by rcases hk with rfl|rfl<;>decide)
  rw[cm (n9 9 (.inl rfl)),if_neg (by simp),cm (n9 10 (.inr rfl))]
  rfl
theorem yb {order:List SortKey} (hX:∀x∈order,XOk g x.e) {L:List Tok} {a:Nat} (hl:gI L a (bf (eU g order) order.length)) (hs:En [11] (hd L (a+(bf (eU g order) order.length).length))) :
 f5 L (bH L) (P0 a)=some (order,P0 (a+(bf (eU g order) order.length).length)):=by
 cases order with
 |nil=>
  have e:bf (eU g []) ([]:List SortKey).length=[]:=rfl
  rw[e] at hs ⊢
  simp only[List.length_nil,Nat.add_zero] at hs ⊢
  unfold f5
  rw[cm (hs.key ah),if_neg (by simp)]
 |cons x r=>
  have e:bf (eU g (x::r)) (r.length+1)=kT 7::kT 8::(j3 g x++r.flatMap fun y=>dM::j3 g y):=by
   have:=rk (F:=eU g (x::r)) (A:=kT 7::kT 8::j3 g x) (h:=fun y=>dM::j3 g y) (r:=r) rfl fun i hi=>by
    show (if i+1=0 then [kT 7,kT 8] else [dM])++qz (x::r) (j3 g) (i+1)=_
    rw[dX (by simpa using hi),if_neg aa];rfl
   rw[this];rfl
  rw[List.length_cons,e] at hl hs ⊢
  obtain⟨t1,t2,t3⟩:=hl
  obtain⟨t4,t5⟩:=bI.1 t3
  have len:a+(kT 7::kT 8::(j3 g x++r.flatMap fun y=>dM::j3 g y)).length=a+1+1+(j3 g x).length+(r.flatMap fun y=>dM::j3 g y).length:=by simp only[List.length_cons,aD];omega
  rw[len] at hs ⊢
  have h7:hd L a=some (1,kw 7):=t1
  have h8:hd L (a+1)=some (1,kw 8):=t2
  have hS:∀h,En [11] h->h≠some (5,⟨#[44]⟩):=fun h e=>e.sg ah
  unfold f5
  simp only
  rw[if_pos (bY h7),d7]
  unfold must
  rw[if_pos (bY h8),d7]
  have hI:fe L (bH L) (P0 (a+1+1))=_:=tI (hX x (by simp)) L _ t4 (zA (Sx:=En [11]) t5 hs)
  rw[hI]
  exact zy (f:=fun L=>fe L (bH L)) (Sx:=En [11]) hS (fun y hy=>tI (hX y (by simp [hy]))) t5 hs
theorem yc {n:Int} (h0 : -1<=n) (h1:n<=9223372036854775807) {L:List Tok} {a:Nat} (hl:gI L a (jg n)) (hs:En [] (hd L (a+(jg n).length))):limitM L (P0 a)=(n,P0 (a+(jg n).length)):=by
 unfold jg at hl hs ⊢
 unfold limitM
 split at hl
 ·rename_i hn
  rw[if_pos hn]
  have h11:hd L a=some (1,kw 11):=hl.1
  have hi:hd L (a+1)=some (3,df n):=hl.2.1
  obtain⟨o1,o2⟩:=tF hn h1
  have hk:mv L (P0 (a+1)) 3=true:=by rw[nr hi];simp only[decide_true,Bool.true_and];exact o1
  rw[if_pos (bY h11),d7]
  unfold mNum mText
  rw[if_pos hk,gq hi]
  simp only[o2];rfl
 ·rename_i hn
  rw[if_neg hn] at hs ⊢
  rw[cm (by simpa using hs.key (by simp)),if_neg (by simp)]
  have:n = -1:=by omega
  rw[this];rfl
theorem yd {l:List Expr} (h1:l.length<=1) (hX:∀x∈l,XOk g x) {L:List Tok} {a:Nat} (hl:gI L a (nS g l)) (hs:En [7,11] (hd L (a+(nS g l).length))):f4 L (bH L) (P0 a)=some (l,P0 (a+(nS g l).length)):=by
 unfold f4
 cases l with
 |nil=>
  rw[cm (by have:En [7,11] (hd L a):=hs;exact this.key ah),if_neg (by simp)]
  rfl
 |cons x r=>
  have hr:r=[]:=List.eq_nil_of_length_eq_zero (by simp only[List.length_cons] at h1;omega)
  subst hr
  have e:nS g [x]=kT 6::g x:=rfl
  rw[e] at hl hs ⊢
  have len:a+(kT 6::g x).length=a+1+(g x).length:=by rw[List.length_cons];omega
  rw[len] at hs ⊢
  have h6:hd L a=some (1,kw 6):=hl.1
  rw[if_pos (bY h6),d7,(hX x (by simp)).el hl.2 (hs.st (by simp) 1)]
theorem Hv {n:Int} {L:List Tok} {a:Nat} (hl:gI L a (jg n)) (hs:En [] (hd L (a+(jg n).length))):En [11] (hd L a):=by
 unfold jg at hl hs
 split at hl
 ·exact En.one (k:=11) hl.1 (by simp)
 ·rename_i hn
  rw[if_neg hn] at hs
  exact En.mono hs (by simp)
theorem Hw {order:List SortKey} {L:List Tok} {a:Nat} (hl:gI L a (bf (eU g order) order.length)) (hs:En [11] (hd L (a+(bf (eU g order) order.length).length))):En [7,11] (hd L a):=by
 cases order with
 |nil=>exact En.mono (ks:=[11]) hs (by simp)
 |cons x r=>
  have e:bf (eU g (x::r)) (r.length+1)=(kT 7::kT 8::j3 g x)++r.flatMap fun y=>dM::j3 g y:=rk (F:=eU g (x::r)) rfl fun i hi=>by
   show (if i+1=0 then [kT 7,kT 8] else [dM])++qz (x::r) (j3 g) (i+1)=_
   rw[dX (by simpa using hi),if_neg aa];rfl
  rw[List.length_cons,e] at hl
  exact En.one (k:=7) hl.1 (by simp)
theorem J8 {l:List Expr} {L:List Tok} {a:Nat} (hl:gI L a (nS g l)) (hs:En [7,11] (hd L (a+(nS g l).length))):En [6,7,11] (hd L a):=by
 cases l with
 |nil=>exact En.mono (ks:=[7,11]) hs (by simp)
 |cons x r=>exact En.one (k:=6) hl.1 (by simp)
theorem EN {x:Item} (hx:nM x=true) (h:x.star=false->XOk g x.e) {L:List Tok} {a:Nat} (hl:gI L a (cH g x)):hd L a≠some (1,kw 2):=by
 obtain⟨star,qual,e,as_⟩:=x
 cases star with
 |true=>
  have e1:cH g (.mk true qual e as_)=cA qual++[DE]:=rfl
  rw[e1] at hl
  unfold cA at hl
  split at hl
  ·exact dj (k:=5) (x:=⟨#[42]⟩) hl.1 ah
  ·exact dj (k:=2) (x:=qual) hl.1 ah
 |false=>
  have e1:cH g (.mk false qual e as_)=g e++cP as_:=rfl
  rw[e1] at hl
  exact ((h rfl).2.2 L a (bI.1 hl).1).2.2.2.2
theorem rl {gf:Expr->Bool} {q:Query} (hq:iK gf q=true) (hlim:q.lim<=9223372036854775807) (hX:∀x∈exprsQ q,XOk g x):J6 q (dL g q):=fun L a hl hs=>by
 obtain⟨distinct,items,from_,where_,order,limit⟩:=q
 obtain⟨hi,hf,hw,ho,hlm,bu,hsr,_⟩:=eQ hq
 have hlim:limit<=9223372036854775807:=hlim
 have xi:∀x∈items,x.star=false->XOk g x.e:=fun x hx hst=>hX _ (by
  show x.e∈aU items++from_.flatMap Source.on++where_++order.map SortKey.e
  simp only[List.mem_append,aU,List.mem_map,List.mem_filter]
  exact .inl (.inl (.inl ⟨x,⟨hx,by simp [hst]⟩,rfl⟩)))
 have xf:∀x∈from_,∀y∈x.on,XOk g y:=fun x hx y hy=>hX _ (by
  show y∈aU items++from_.flatMap Source.on++where_++order.map SortKey.e
  simp only[List.mem_append,List.mem_flatMap]
  exact .inl (.inl (.inr ⟨x,hx,hy⟩)))
 have xw:∀x∈where_,XOk g x:=fun x hx=>hX _ (by
  show x∈aU items++from_.flatMap Source.on++where_++order.map SortKey.e
  simp only[List.mem_append]
  exact .inl (.inr hx))
 have xo:∀x∈order,XOk g x.e:=fun x hx=>hX _ (by
  show x.e∈aU items++from_.flatMap Source.on++where_++order.map SortKey.e
  simp only[List.mem_append,List.mem_map]
  exact .inr ⟨x,hx,rfl⟩)
 have eq:dL g (.mk distinct items from_ where_ order limit)=kT 1::((if distinct=true then [kT 2] else [])++(bf (dk g items) items.length++(kT 3::(bf (dO g from_) from_.length++(nS g where_++(bf (eU g order) order.length++jg limit)))))):=rfl
 rw[eq] at hl hs ⊢
 obtain⟨s0,rf,rfl⟩:∃x r,from_=x::r:=by
  cases from_ with
  |nil=>simp at hf
  |cons x r=>exact⟨x,r,rfl⟩
 have es:bf (dO g (s0::rf)) (rf.length+1)=fK g 0 s0++rf.flatMap (kF g):=rk rfl fun i hi=>by
  show qz (s0::rf) (fK g (i+1)) (i+1)=_
  rw[dX (by simpa using hi)]
  have e2:(s0::rf)[i+1]'(by simpa using hi)=rf[i]:=rfl
  rw[e2]
  obtain⟨t,a',o⟩:=rf[i]
  show (if 0<i+1 then (if 0<o.length then [kT 4] else [dM]) else [])++(nT t::(cP a'++sc g o))=(if 0<1 then (if 0<o.length then [kT 4] else [dM]) else [])++(nT t::(cP a'++sc g o))
  rw[if_pos (show 0<i+1 by omega),if_pos (show 0<1 by omega)]
 have ec:(s0::rf).length=rf.length+1:=rfl
 rw[ec,es] at hl hs ⊢
 generalize hd1:(if distinct=true then [kT 2] else [])=D at *
 generalize hI:bf (dk g items) items.length=I at *
 generalize hO:bf (eU g order) order.length=O at *
 obtain⟨t1,t2⟩:=hl
 obtain⟨t3,t4⟩:=bI.1 t2
 obtain⟨t5,t6⟩:=bI.1 t4
 obtain⟨t7,t8⟩:=t6
 obtain⟨t9,Kg⟩:=bI.1 t8
 obtain⟨JR,H5⟩:=bI.1 t9
 obtain⟨IV,t14⟩:=bI.1 Kg
 obtain⟨t15,t16⟩:=bI.1 t14
 have len:a+(kT 1::(D++(I++(kT 3::(fK g 0 s0++rf.flatMap (kF g)++(nS g where_++(O++jg limit))))))).length=a+1+D.length+I.length+1+(fK g 0 s0++rf.flatMap (kF g)).length+(nS g where_).length+O.length+(jg limit).length:=by
  simp only[List.length_cons,aD];omega
 rw[len] at hs ⊢
 have E0:En [] (hd L (a+1+D.length+I.length+1+(fK g 0 s0++rf.flatMap (kF g)).length+(nS g where_).length+O.length+(jg limit).length)):=hs.imp id .inl
 have E1:=Hv t16 E0
 have E2:=Hw (g:=g) (order:=order) (by rw[hO];exact t15) (by rw[hO];exact E1)
 have E3:=J8 IV E2
 have hs0:=hsr 0 (by simp)
 obtain⟨table,as_,on⟩:=s0
 have hs0:nN 0 (.mk table as_ on)=true:=hs0
 unfold nN at hs0
 simp only[Bool.and_eq_true,decide_eq_true_eq,Bool.or_eq_true] at hs0
 obtain⟨ht,ha,_,hon⟩:=hs0
 have hon:on=[]:=by simpa using hon
 subst hon
 have e0:fK g 0 (.mk table as_ [])=nT table::(cP as_++[]):=rfl
 rw[List.append_nil] at e0
 rw[e0] at JR H5 IV t15 t16 E0 E1 E2 E3 ⊢
 have ls:∀p,p+(nT table::cP as_++rf.flatMap (kF g)).length=p+1+(cP as_).length+(rf.flatMap (kF g)).length:=fun p=>by simp only[List.length_cons,aD];omega
 simp only[ls] at IV t15 t16 E0 E1 E2 E3 ⊢
 have l1:a+1+D.length+I.length+1+(nT table::cP as_).length=a+1+D.length+I.length+1+1+(cP as_).length:=by rw[List.length_cons];omega
 rw[l1] at H5
 have n12:hd L (a+1+D.length+I.length+1+1+(cP as_).length)≠some (1,kw 12):=by
  cases rf with
  |nil=>exact E3.key ah
  |cons y r=>
   obtain⟨ty,ay,oy⟩:=y
   rw[List.flatMap_cons] at H5
   have h3:=(bI.1 H5).1
   have e3:kF g (.mk ty ay oy)=(if 0<oy.length then [kT 4] else [dM])++(nT ty::(cP ay++sc g oy)):=rfl
   rw[e3] at h3
   by_cases e:0<oy.length
   ·rw[if_pos e] at h3;exact eY (k:=1) (x:=kw 4) h3.1 ah
   ·rw[if_neg e] at h3;exact dj (k:=5) (x:=⟨#[44]⟩) h3.1 ah
 have h1:hd L a=some (1,kw 1):=t1
 have h3:hd L (a+1+D.length+I.length)=some (1,kw 3):=t7
 have dis:aA L (P0 (a+1)) 2=distinct/\tkIf (aA L (P0 (a+1)) 2) (P0 (a+1))=P0 (a+1+D.length):=by
  cases distinct with
  |true=>
   rw[if_pos rfl] at hd1
   subst hd1
   have h2:hd L (a+1)=some (1,kw 2):=t3.1
   refine⟨bY h2,?_⟩
   rw[bY h2];rfl
  |false=>
   rw[if_neg (by simp)] at hd1
   subst hd1
   have n2:hd L (a+1)≠some (1,kw 2):=by
    cases items with
    |nil=>simp at hi
    |cons x r=>
     have e:bf (dk g (x::r)) (r.length+1)=cH g x++r.flatMap fun y=>dM::cH g y:=rk rfl fun i hi=>by
      show kg (i+1)++qz (x::r) (cH g) (i+1)=_
      rw[dX (by simpa using hi)];rfl
     rw[List.length_cons,e] at hI
     rw[<-hI] at t5
     have t5:=(bI.1 t5).1
     exact EN (bu x (by simp)) (xi x (by simp)) t5
   refine⟨cm n2,?_⟩
   rw[cm n2];rfl
 rw[AM]
 unfold stepQ
 simp only
 have m1:must (aA L (P0 a) 1) (P0 a)=P0 (a+1):=by unfold must;rw[if_pos (bY h1)];rfl
 rw[m1,dis.2,dis.1]
 have R1:=ya (g:=g) hi.1 bu xi (L:=L) (a:=a+1+D.length) (by rw[hI];exact t5) (by rw[hI];exact h3)
 rw[hI] at R1
 rw[R1]
 simp only
 have m3:must (aA L (P0 (a+1+D.length+I.length)) 3) (P0 (a+1+D.length+I.length))=P0 (a+1+D.length+I.length+1):=by unfold must;rw[if_pos (bY h3)];rfl
 rw[m3,lQ ht ha JR n12]
 simp only
 have hrl:rf.length<L.length+1:=by
  have h4:∀r:List Source,r.length<=(r.flatMap (kF g)).length:=fun r=>by
   induction r with
   |nil=>simp
   |cons p r ih=>
    obtain⟨ty,ay,oy⟩:=p
    have e3:kF g (.mk ty ay oy)=(if 0<oy.length then [kT 4] else [dM])++(nT ty::(cP ay++sc g oy)):=rfl
    rw[List.flatMap_cons,aD,List.length_cons,e3,aD,List.length_cons];omega
  have:=h4 rf
  rcases qE H5 with h5|h5
  ·rw[h5] at this;simp at this;simp [this]
  ·omega
 have R2:=o6 (g:=g) (ks:=[6,7,11]) (by simp) rf (L.length+1) [.mk table as_ []] (L:=L) (a:=a+1+D.length+I.length+1+1+(cP as_).length) (fun x hx=>by
  obtain⟨i,hi',rfl⟩:=List.getElem_of_mem hx
  have:=hsr (i+1) (by simpa using hi')
  have e:(Source.mk table as_ []::rf)[i+1]'(by simpa using hi')=rf[i]:=rfl
  rw[e] at this
  generalize rf[i]=y at *
  obtain⟨ty,ay,oy⟩:=y
  unfold nN at this ⊢
  simp only[Bool.and_eq_true,decide_eq_true_eq,Bool.or_eq_true] at this ⊢
  exact⟨this.1,this.2.1,this.2.2.1,.inl aa⟩) (fun x hx=>xf x (by simp [hx])) hrl H5 E3
 rw[R2]
 simp only
 have R3:=yd (g:=g) hw xw IV E2
 rw[R3]
 simp only
 have R4:=yb (g:=g) xo (L:=L) (a:=a+1+D.length+I.length+1+1+(cP as_).length+(rf.flatMap (kF g)).length+(nS g where_).length) (by rw[hO];exact t15) (by rw[hO];exact E1)
 rw[hO] at R4
 rw[R4]
 simp only
 have R5:=yc hlm hlim t16 E0
 rw[R5]
 rfl
end
def XO (e:Expr) (l:List Tok):Prop:=Itm e l (lC e).toNat/\1<=lC e/\Fs l (lC e)
theorem EO {full:Bool} {gf:Expr->Bool} {g:Expr->List Tok} {e:Expr} (hf:u7 gf e=true) (hr:Rg e) (hg:∀x,eX x e->gf x=true->Rg x->XO x (g x)):XO e (jc full g e):=by
 have hb:∀x,eX x e->Rg x:=fun x hx=>qL hr hx
 have hlim:∀q∈e.sub,q.lim<=9223372036854775807:=fun q hq=>(vj hr hq).1
 obtain⟨kind,op,not,val,qual,name,kids,sub⟩:=e
 have hnum:=hr.num
 obtain⟨hs,hk,hq⟩:=kh hf
 have hkid:KidsOk g kids:=fun k hk'=>by
  have hm:=aM hk'
  have e:kids.getD k zeroX=kids[k]:=by rw[List.getD_eq_getElem?_getD,aC hk'];rfl
  rw[e]
  exact hg _ (.inl hm) (hk _ hm) (hb _ (.inl hm))
 have hqs:∀q∈sub,J6 q (dL g q):=fun q hm=>rl (hq q hm) (hlim q hm) fun x hx=>hg x (.inr ⟨q,hm,hx⟩) (by
  have h1:=hq q hm
  simp only[iK,Bool.and_eq_true,List.all_eq_true] at h1
  exact h1.2 x hx) (hb _ (.inr ⟨q,hm,hx⟩))
 obtain⟨z1,z2,z3,z4⟩:=y8 hs
 rcases jw hs with⟨rfl,hl,nk,ns⟩|⟨rfl,hn,hm,nk,ns⟩|⟨rfl,ho,nk,ns⟩|⟨rfl,ho,nk,ns⟩|⟨rfl,nk,ns⟩|⟨rfl,nk,ns⟩|⟨rfl,nk,ns⟩|⟨rfl,nk,ns⟩|⟨rfl,nk,ns⟩
 ·obtain rfl:=z1 rfl
  obtain rfl:=z2 rfl
  obtain⟨rfl,rfl⟩:=z4 rfl
  obtain rfl:=mT nk
  obtain rfl:=mT ns
  exact⟨EH hl hnum.2,by show (1:Int)<=9;decide,Hl _⟩
 ·obtain rfl:=z1 rfl
  obtain rfl:=z2 rfl
  obtain rfl:=z3 rfl
  obtain rfl:=mT nk
  obtain rfl:=mT ns
  exact⟨EI hn hm,by show (1:Int)<=9;decide,Hm _⟩
 ·obtain rfl:=z2 rfl
  obtain rfl:=z3 rfl
  obtain⟨rfl,rfl⟩:=z4 rfl
  obtain⟨k,rfl⟩:=jx nk
  obtain rfl:=mT ns
  refine⟨Hn ho hkid,?_,?_⟩
  ·rcases ho with rfl|rfl
   ·show (1:Int)<=3;decide
   ·show (1:Int)<=8;decide
  ·rcases ho with rfl|rfl
   ·exact ir ah (fun _=>⟨ah,fun h=>absurd h (by show ¬(4:Int)<=3;decide),ah⟩) (fun h=>absurd h ah)
   ·exact ir ah (fun h=>absurd h ah) (fun _=>by decide)
 ·obtain rfl:=z2 rfl
  obtain rfl:=z3 rfl
  obtain⟨rfl,rfl⟩:=z4 rfl
  obtain⟨x,y,rfl⟩:=GX nk
  obtain rfl:=mT ns
  have e1:(Expr.mk 4 op false zVal z0 z0 [x,y] [])=iS op.toNat x y:=by unfold iS;rw[show ((op.toNat:Nat):Int)=op by omega]
  have e2:lC (Expr.mk 4 op false zVal z0 z0 [x,y] [])=lv 4 op:=rfl
  unfold XO
  rw[e2]
  have:=o5 ho.1 ho.2
  refine⟨?_,by unfold lv;rw[if_pos rfl];omega,Ho ho.1 ho.2 hkid⟩
  rw[e1]
  have e3:jc full g (iS op.toNat x y)=aO full g 4 op [x,y] 0++cE op::aO full g 4 op [x,y] 1:=by rw[<-e1];rfl
  rw[e3]
  exact EK ho.1 ho.2 hkid
 ·obtain rfl:=z1 rfl
  obtain rfl:=z3 rfl
  obtain⟨rfl,rfl⟩:=z4 rfl
  obtain⟨x,rfl⟩:=jx nk
  obtain rfl:=mT ns
  exact⟨Hr hkid,by show (1:Int)<=4;decide,lO ((hkid.fs (k:=0) (by simp) full 5 0).mono fun _=>by decide) (fun h=>absurd h ah)⟩
 ·obtain rfl:=z1 rfl
  obtain rfl:=z3 rfl
  obtain⟨rfl,rfl⟩:=z4 rfl
  obtain⟨x,y,z,rfl⟩:=GY nk
  obtain rfl:=mT ns
  refine⟨EL hkid,by show (1:Int)<=4;decide,?_⟩
  have hF:=(hkid.fs (k:=0) (by simp) full 6 0).mono (m:=4) fun _=>by decide
  cases not with
  |true=>exact lO (t:=kT 15) hF (fun h=>absurd h ah)
  |false=>exact lO (t:=kT 18) hF (fun h=>absurd h ah)
 ·obtain rfl:=z1 rfl
  obtain rfl:=z3 rfl
  obtain⟨rfl,rfl⟩:=z4 rfl
  obtain rfl:=mT ns
  refine⟨Ht aa aa hkid,by show (1:Int)<=4;decide,?_⟩
  have hF:=(hkid.fs (k:=0) aa full 7 0).mono (m:=4) fun _=>by decide
  cases not with
  |true=>exact lO (t:=kT 15) hF (fun h=>absurd h ah)
  |false=>exact lO (t:=kT 17) hF (fun h=>absurd h ah)
 ·obtain rfl:=z1 rfl
  obtain rfl:=z3 rfl
  obtain⟨rfl,rfl⟩:=z4 rfl
  obtain⟨x,rfl⟩:=jx nk
  obtain⟨q,rfl⟩:=jx ns
  have hqt:∃r,dL g q=kT 1::r:=by
   obtain⟨d,it,fr,wh,od,lm⟩:=q
   exact⟨_,rfl⟩
  obtain⟨r,hqt⟩:=hqt
  refine⟨EM hkid hqt (hqs q (by simp)),by show (1:Int)<=4;decide,?_⟩
  have hF:=(hkid.fs (k:=0) (by simp) full 8 0).mono (m:=4) fun _=>by decide
  cases not with
  |true=>exact lO (t:=kT 15) hF (fun h=>absurd h ah)
  |false=>exact lO (t:=kT 17) hF (fun h=>absurd h ah)
 ·obtain rfl:=z1 rfl
  obtain rfl:=z2 rfl
  obtain rfl:=z3 rfl
  obtain⟨rfl,rfl⟩:=z4 rfl
  obtain rfl:=mT nk
  obtain⟨q,rfl⟩:=jx ns
  exact⟨Hu (hqs q (by simp)),by show (1:Int)<=9;decide,ir ah (fun _=>⟨ah,fun _=>by decide,ah⟩) (fun h=>absurd h ah)⟩
theorem Ci (full:Bool) (e:Expr):fmE e=true->Rg e->XO e (dG full e):=
 kQ (F1:=u7) (F2:=Ab) (F3:=jc full) (P:=fun e f n t=>f=true->Rg e->XO e t) (fun e gf gn g hg hf hr=>EO hf hr hg) e
def SameK (L l:List Tok):Prop:=L.map (fun t=>(t.kind,t.text))=l.map fun t=>(t.kind,t.text)
theorem SameK.len {L l:List Tok} (h:SameK L l):L.length=l.length:=by have:=congrArg List.length h;simpa using this
theorem SameK.has {L l:List Tok} (h:SameK L l):gI L 0 l:=by
 have key:∀(l:List Tok) (a:Nat),(L.map fun t=>(t.kind,t.text)).drop a=l.map (fun t=>(t.kind,t.text))->gI L a l:=by
  intro l
  induction l with
  |nil=>intro _ _;trivial
  |cons t r ih=>
   intro a h
   have h1:(L.map fun t=>(t.kind,t.text))[a]?=some (t.kind,t.text):=by
    have:=congrArg (fun x=>x[0]?) h
    simpa [List.getElem?_drop] using this
   refine⟨?_,ih (a+1) ?_⟩
   ·unfold hd;rw[<-List.getElem?_map];exact h1
   ·have:=congrArg List.tail h
    rw[List.tail_drop] at this
    simpa using this
 exact key l 0 (by rw[List.drop_zero];exact h)
theorem SameK.end_ {L l:List Tok} (h:SameK L l):hd L (0+l.length)=none:=by
 unfold hd
 rw[List.getElem?_eq_none_iff.2 (by have:=h.len;omega)];rfl
theorem Cj {L:List Tok} {a:Nat} (h:L.length=a):nY L (P0 a) = -1:=by unfold nY;rw[if_pos ⟨rfl,by show L.length<=a;omega⟩]
theorem Ck {α:Type} {L:List Tok} {z x:α} {a:Nat} (h:L.length=a):jo L z (some (x,P0 a))=(x,-1):=by
 unfold jo
 simp only[Cj h]
 rw[if_neg aa]
theorem rn {full:Bool} {q:Query} {L:List Tok} (hf:iK fmE q=true) (hr:xO q) (h:SameK L (dL (dG full) q)):cy L=(q,-1):=by
 have h1:J6 q (dL (dG full) q):=rl hf hr.1 fun x hx=>Ci full x (by
  simp only[iK,Bool.and_eq_true,List.all_eq_true] at hf
  exact hf.2 x hx) (hr.2 x hx)
 unfold cy
 have:eM L s0=some (q,P0 (0+(dL (dG full) q).length)):=h1 L 0 h.has (.inl h.end_)
 rw[this]
 exact Ck (by rw[h.len];omega)
theorem Cm {x:ByteArray} {l:List UInt8} (h:x.data.toList=l):x=⟨l.toArray⟩:=by
 obtain⟨⟨xs⟩⟩:=x
 have h:xs=l:=h
 rw[h]
theorem uD (x:ByteArray):(⟨x.data.toList.toArray⟩:ByteArray)=x:=(Cm rfl).symm
theorem uE {A X C:List UInt8} (i:Nat) (h:i<X.length):(A++X++C)[A.length+i]?=X[i]?:=by
 rw[aL,List.getElem?_append_right aa,Nat.add_sub_cancel_left,List.getElem?_append_left h]
theorem EP {A X C:List UInt8} (i:Nat):(A++X++C)[A.length+X.length+i]?=C[i]?:=by
 rw[List.getElem?_append_right (by rw[aD];omega),aD,Nat.add_sub_cancel_left]
theorem Hx {p:UInt8->Bool} {X C:List UInt8} (h:∀b,b∈X->p b=true) (hc:∀c,C.head?=some c->p c=false):((X++C).takeWhile p)=X:=by
 induction X with
 |nil=>
  cases C with
  |nil=>rfl
  |cons c r=>rw[List.nil_append,List.takeWhile_cons,hc c rfl];rfl
 |cons y r ih=>
  rw[List.cons_append,List.takeWhile_cons,h y (by simp)]
  simp only[if_true]
  rw[ih fun b hb=>h b (by simp [hb])]
theorem EQ {A X C:List UInt8} (h:∀b,b∈X->(cJ b||d5 b)=true) (hc:∀c,C.head?=some c->(cJ c||d5 c)=false):bM (A++X++C) A.length=A.length+X.length:=by
 unfold bM
 rw[aL,List.drop_left,Hx h hc]
theorem qF {A X C:List UInt8}:d6 (A++X++C) A.length (A.length+X.length)=⟨X.toArray⟩:=by
 unfold d6
 rw[aL,List.drop_left,Nat.add_sub_cancel_left,List.take_left]
theorem ro (q:UInt8):∀(X:List UInt8) (B A C l:List UInt8) (n:Nat),B=A++bL q X++(q::C)->(∀c,C.head?=some c->c≠q)->B.length<A.length+n->eC B q n A.length l=some (l++X,A.length+(bL q X).length+1)
 | [],B,A,C,l,n,hB,hc,hn=>by
  have e0:bL q []=[]:=rfl
  rw[e0] at hB ⊢
  rw[List.append_nil] at hB
  have hl:B.length=A.length+(C.length+1):=by rw[hB,aD,List.length_cons]
  obtain⟨n,rfl⟩:∃m,n=m+1:=⟨n-1,aa⟩
  have h0:B[A.length]?=some q:=by rw[hB,List.getElem?_append_right (Nat.le_refl _),Nat.sub_self];rfl
  have h1:B[A.length+1]?=C[0]?:=by
   rw[hB,List.getElem?_append_right aa,Nat.add_sub_cancel_left];rfl
  rw[eC,h0]
  simp only[if_true]
  rw[h1,if_neg]
  ·simp
  ·intro h
   cases C with
   |nil=>cases h
   |cons c r=>
    injection h with h
    exact hc c rfl h
 |y::X,B,A,C,l,n,hB,hc,hn=>by
  have hl:B.length=A.length+((bL q (y::X)).length+(C.length+1)):=by rw[hB,aD,aD,List.length_cons];omega
  obtain⟨n,rfl⟩:∃m,n=m+1:=⟨n-1,aa⟩
  by_cases hy:y=q
  ·subst hy
   have e:bL y (y::X)=y::y::bL y X:=by simp [bL]
   rw[e] at hB hl ⊢
   have h0:B[A.length]?=some y:=by rw[hB,aL,List.getElem?_append_right (Nat.le_refl _),Nat.sub_self];rfl
   have h1:B[A.length+1]?=some y:=by rw[hB,aL,List.getElem?_append_right aa,Nat.add_sub_cancel_left];rfl
   have hB2:B=(A++[y,y])++bL y X++(y::C):=by rw[hB];simp
   have:=ro y X B (A++[y,y]) C (l++[y]) n hB2 hc (by rw[aD];simp only[List.length_cons,List.length_nil] at hl ⊢;omega)
   rw[eC,h0]
   simp only[if_true]
   rw[if_pos h1]
   have e2:(A++[y,y]).length=A.length+2:=by simp
   rw[e2] at this
   rw[this]
   simp only[List.length_cons,aL,lc]
   congr 2
   omega
  ·have e:bL q (y::X)=y::bL q X:=by simp [bL,hy]
   rw[e] at hB hl ⊢
   have h0:B[A.length]?=some y:=by rw[hB,aL,List.getElem?_append_right (Nat.le_refl _),Nat.sub_self];rfl
   have hB2:B=(A++[y])++bL q X++(q::C):=by rw[hB];simp
   have:=ro q X B (A++[y]) C (l++[y]) n hB2 hc (by rw[aD];simp only[List.length_cons,List.length_nil] at hl ⊢;omega)
   rw[eC,h0]
   simp only
   rw[if_neg hy]
   have e2:(A++[y]).length=A.length+1:=by simp
   rw[e2] at this
   rw[this]
   simp only[List.length_cons,aL,lc]
   congr 2
   omega
def pj (t:Tok) (c:UInt8):Bool:=
 if t.kind=5 then !((decide (t.text=⟨#[45]⟩)&&decide (c=45))||(decide (t.text=⟨#[47]⟩)&&decide (c=42))||(decide (t.text=⟨#[60]⟩)&&(decide (c=61)||decide (c=62)))||(decide (t.text=⟨#[62]⟩)&&decide (c=61)))
 else if t.kind=4 then !(decide (c=39)) else if cQ t=true then !(cJ c||d5 c) else !(decide (c=34))
def tb (t:Tok):List UInt8:=(eZ t).data.toList
def vY (B:List UInt8) (i:Nat) (t:Tok) (n:Nat):Prop:=(∃b,B[i]?=some b/\(∀k,f6 B (k+1) i=some (i,true))/\cu B i b=some (⟨t.kind,t.text,i⟩,i+n))
theorem jN {B:List UInt8} {i:Nat} {b:UInt8} (h:B[i]?=some b) (hw:qn b=false) (h1:¬(b=45/\B[i+1]?=some 45)) (h2:¬(b=47/\B[i+1]?=some 42)) (k:Nat):f6 B (k+1) i=some (i,true):=by
 rw[f6,h]
 simp only
 rw[if_neg (by rw[hw];simp),if_neg h1,if_neg h2]
theorem uF {b:UInt8} (h:(cJ b||d5 b)=true):qn b=false/\b≠45/\b≠47/\b≠34/\b≠39:=by
 have h2:∀n:Fin 256,(cJ (UInt8.ofNat n.1)||d5 (UInt8.ofNat n.1))=true->(qn (UInt8.ofNat n.1)=false/\UInt8.ofNat n.1≠45/\UInt8.ofNat n.1≠47/\UInt8.ofNat n.1≠34/\UInt8.ofNat n.1≠39):=by decide
 have:=h2 ⟨b.toNat,UInt8.toNat_lt b⟩
 simp only[UInt8.ofNat_toNat] at this
 exact this h
theorem vZ (k:Int) (x:ByteArray) (a b:Int):aR ⟨k,x,a⟩=aR ⟨k,x,b⟩:=rfl
theorem uG {A C:List UInt8} {t:Tok} (ok:aR t=true) (hX:tb t=t.text.data.toList) (hne:t.text.data.toList≠[]) (hall:∀b,b∈t.text.data.toList->(cJ b||d5 b)=true) (hc:∀c,C.head?=some c->(cJ c||d5 c)=false)
 (hk:∀b,t.text.data.toList.head?=some b->(cJ b=true/\((t.kind=2/\key t.text=0)∨(t.kind=1/\key t.text≠0/\d4 t.text=t.text)))∨(cJ b=false/\d5 b=true/\t.kind=3)):vY (A++tb t++C) A.length t (tb t).length:=by
 rw[hX]
 obtain⟨kind,text,at_⟩:=t
 simp only at *
 obtain⟨b,r,hb⟩:∃b r,text.data.toList=b::r:=by
  cases h:text.data.toList with
  |nil=>exact absurd h hne
  |cons b r=>exact⟨b,r,rfl⟩
 have h0:(A++text.data.toList++C)[A.length]?=some b:=by
  have:=uE (A:=A) (X:=text.data.toList) (C:=C) 0 (by rw[hb];simp)
  rw[Nat.add_zero] at this
  rw[this,hb];rfl
 obtain⟨n1,n2,n3,n4,n5⟩:=uF (hall b (by rw[hb];simp))
 refine⟨b,h0,jN h0 n1 (fun h=>n2 h.1) (fun h=>n3 h.1),?_⟩
 unfold cu dE
 simp only[EQ hall hc,qF,uD]
 rcases hk b (by rw[hb];rfl) with⟨hl,⟨rfl,h1⟩|⟨rfl,h1,hf⟩⟩|⟨hl,hf,rfl⟩
 ·rw[if_pos hl,if_pos h1]
  simp only[vZ _ _ _ at_,ok,if_true]
 ·rw[if_pos hl,if_neg h1,hf]
  simp only[vZ _ _ _ at_,ok,if_true]
 ·rw[if_neg (by rw[hl];simp),if_pos hf]
  simp only[vZ _ _ _ at_,ok,if_true]
theorem zB {A C:List UInt8} {t:Tok} {q:UInt8} (ok:aR t=true) (hX:tb t=q::(bL q t.text.data.toList++[q])) (hc:∀c,C.head?=some c->c≠q) (hq:(q=34/\t.kind=2)∨(q=39/\t.kind=4)):vY (A++tb t++C) A.length t (tb t).length:=by
 obtain⟨kind,text,at_⟩:=t
 simp only at *
 have h0:(A++tb ⟨kind,text,at_⟩++C)[A.length]?=some q:=by
  have:=uE (A:=A) (X:=tb ⟨kind,text,at_⟩) (C:=C) 0 (by rw[hX];simp)
  rw[Nat.add_zero] at this
  rw[this,hX];rfl
 have hB:A++tb ⟨kind,text,at_⟩++C=(A++[q])++bL q text.data.toList++(q::C):=by rw[hX];simp
 have hQ:=ro q text.data.toList _ (A++[q]) C [] ((A++tb ⟨kind,text,at_⟩++C).length+1) hB hc (by rw[show (A++[q]).length=A.length+1 by simp];omega)
 have e1:(A++[q]).length=A.length+1:=by simp
 rw[e1,List.nil_append] at hQ
 have e2:A.length+1+(bL q text.data.toList).length+1=A.length+(tb ⟨kind,text,at_⟩).length:=by rw[hX];simp;omega
 rw[e2] at hQ
 generalize tb ⟨kind,text,at_⟩=T at *
 generalize A++T++C=B at *
 have w1:cJ 34=false:=by decide
 have w2:cJ 39=false:=by decide
 have w3:d5 34=false:=by decide
 have w4:d5 39=false:=by decide
 rcases hq with⟨rfl,rfl⟩|⟨rfl,rfl⟩
 ·refine⟨34,h0,jN h0 ah (fun h=>absurd h.1 ah) (fun h=>absurd h.1 ah),?_⟩
  unfold cu dE
  simp only[w1,w3,hQ,Bool.false_eq_true,if_false,if_true,Option.map_some,uD,vZ _ _ _ at_,ok]
 ·refine⟨39,h0,jN h0 ah (fun h=>absurd h.1 ah) (fun h=>absurd h.1 ah),?_⟩
  unfold cu dE
  simp only[w2,w4,hQ,Bool.false_eq_true,if_false,if_true,Option.map_some,uD,vZ _ _ _ at_,ok,show ¬((39:UInt8)=34) by decide]
theorem AP (a c:UInt8):dD ⟨#[a,c]⟩=((decide (a=60)&&(decide (c=62)||decide (c=61)))||(decide (a=62)&&decide (c=61))||(decide (a=124)&&decide (c=124))):=by
 unfold dD signs
 simp only[List.any_cons,List.any_nil,ByteArray.mk.injEq,Array.mk.injEq,List.cons.injEq,and_true,and_false,reduceCtorEq,decide_false,Bool.false_or,Bool.or_false,Bool.decide_and]
 cases decide (a=60)<;>cases decide (a=62)<;>cases decide (c=62)<;>cases decide (c=61)<;>simp
theorem J9 {A C:List UInt8} {c0:UInt8} {a:Int} (hs:dD ⟨#[c0]⟩=true) (hn:cJ c0=false/\d5 c0=false /\ ¬c0=34 /\ ¬c0=39/\qn c0=false) (hc:∀c,C.head?=some c->dD ⟨#[c0,c]⟩=false /\ ¬(c0=45/\c=45) /\ ¬(c0=47/\c=42)):vY (A++[c0]++C) A.length ⟨5,⟨#[c0]⟩,a⟩ 1:=by
 obtain⟨n1,n2,n3,n4,n5⟩:=hn
 have h0:(A++[c0]++C)[A.length]?=some c0:=by simpa using uE (A:=A) (X:=[c0]) (C:=C) 0 (by simp)
 have h1:(A++[c0]++C)[A.length+1]?=C[0]?:=by simpa using EP (A:=A) (X:=[c0]) (C:=C) 0
 have h1':∀c,(A++[c0]++C)[A.length+1]?=some c->C.head?=some c:=fun c h=>by rw[h1] at h;rw[List.head?_eq_getElem?];exact h
 refine⟨c0,h0,jN h0 n5 (fun h=>(hc _ (h1' _ h.2)).2.1 ⟨h.1,rfl⟩) (fun h=>(hc _ (h1' _ h.2)).2.2 ⟨h.1,rfl⟩),?_⟩
 have hcut:d6 (A++[c0]++C) A.length (A.length+1)=⟨#[c0]⟩:=qF (A:=A) (X:=[c0]) (C:=C)
 have hsg:eN (A++[c0]++C) A.length=A.length+1:=by
  unfold eN
  cases C with
  |nil=>exact if_neg fun h=>by have:=h.1;simp at this
  |cons c r=>
   have e:d6 (A++[c0]++c::r) A.length (A.length+2)=⟨#[c0,c]⟩:=by
    have:=qF (A:=A) (X:=[c0,c]) (C:=r)
    simpa using this
   rw[e,(hc c rfl).1]
   exact if_neg fun h=>by cases h.2
 unfold cu dE
 rw[if_neg (by rw[n1];simp),if_neg (by rw[n2];simp),if_neg n3,if_neg n4,hsg]
 simp only[hcut]
 rw[if_pos (show aR ⟨5,⟨#[c0]⟩,(A.length:Int)⟩=true from hs)]
theorem Ja {A C:List UInt8} {c0 c1:UInt8} {a:Int} (hs:dD ⟨#[c0,c1]⟩=true) (hn:cJ c0=false/\d5 c0=false /\ ¬c0=34 /\ ¬c0=39/\qn c0=false /\ ¬c0=45 /\ ¬c0=47):vY (A++[c0,c1]++C) A.length ⟨5,⟨#[c0,c1]⟩,a⟩ 2:=by
 obtain⟨n1,n2,n3,n4,n5,n6,n7⟩:=hn
 have h0:(A++[c0,c1]++C)[A.length]?=some c0:=by simpa using uE (A:=A) (X:=[c0,c1]) (C:=C) 0 (by simp)
 refine⟨c0,h0,jN h0 n5 (fun h=>n6 h.1) (fun h=>n7 h.1),?_⟩
 have hcut:d6 (A++[c0,c1]++C) A.length (A.length+2)=⟨#[c0,c1]⟩:=qF (A:=A) (X:=[c0,c1]) (C:=C)
 have hsg:eN (A++[c0,c1]++C) A.length=A.length+2:=by
  unfold eN
  rw[hcut]
  exact if_pos ⟨by simp,hs⟩
 unfold cu dE
 rw[if_neg (by rw[n1];simp),if_neg (by rw[n2];simp),if_neg n3,if_neg n4,hsg]
 simp only[hcut]
 rw[if_pos (show aR ⟨5,⟨#[c0,c1]⟩,(A.length:Int)⟩=true from hs)]
theorem ER {A C:List UInt8} {x:ByteArray} {a:Int} (hs:dD x=true) (hc:∀c,C.head?=some c->pj ⟨5,x,a⟩ c=true):vY (A++x.data.toList++C) A.length ⟨5,x,a⟩ x.data.toList.length:=by
 have hm:x∈signs:=by
  unfold dD at hs
  obtain⟨y,hy,e⟩:=List.any_eq_true.1 hs
  rw[decide_eq_true_eq] at e
  rw[e];exact hy
 have one:∀c0:UInt8,x=⟨#[c0]⟩->(cJ c0=false/\d5 c0=false /\ ¬c0=34 /\ ¬c0=39/\qn c0=false)->c0≠124->vY (A++x.data.toList++C) A.length ⟨5,x,a⟩ x.data.toList.length:=fun c0 e hn hb=>by
  subst e
  refine J9 hs hn fun c h=>?_
  have:=hc c h
  unfold pj at this
  simp only[if_true,ByteArray.mk.injEq,Array.mk.injEq,List.cons.injEq,and_true] at this
  rw[AP]
  revert this
  by_cases e1:c0=45<;>by_cases e2:c0=47<;>by_cases e3:c0=60<;>by_cases e4:c0=62<;>simp_all
 have two:∀c0 c1:UInt8,x=⟨#[c0,c1]⟩->(cJ c0=false/\d5 c0=false /\ ¬c0=34 /\ ¬c0=39/\qn c0=false /\ ¬c0=45 /\ ¬c0=47)->vY (A++x.data.toList++C) A.length ⟨5,x,a⟩ x.data.toList.length:=fun c0 c1 e hn=>by
  subst e
  exact Ja hs hn
 unfold signs at hm
 simp only[List.mem_cons,List.not_mem_nil,or_false] at hm
 rcases hm with h|h|h|h|h|h|h|h|h|h|h|h|h|h|h|h
 all_goals first
  |exact one _ h ah ah
  |exact two _ _ h ah
theorem zC:∀x∈kws,x.data.toList≠[]/\∀b∈x.data.toList,cJ b=true:=by decide
theorem zD {x:ByteArray} (h:key x≠0):d4 x∈kws:=by
 unfold key mX at h
 split at h
 ·rename_i hl
  have:=List.findIdx_getElem (w:=hl)
  simp only[decide_eq_true_eq] at this
  rw[<-this]
  exact aM hl
 ·exact absurd rfl h
theorem wc (n:Nat):Go.Lib.decDigits n≠[]/\∀b∈Go.Lib.decDigits n,d5 b=true/\cJ b=false:=by
 have h1:∀i:Fin 10,d5 (UInt8.ofNat (48+i.1))=true/\cJ (UInt8.ofNat (48+i.1))=false:=by decide
 induction n using Nat.strongRecOn with
 |_ n ih=>
  rw[Go.Lib.decDigits]
  by_cases h:n<10
  ·rw[dif_pos h]
   exact⟨by simp,fun b hb=>by rw[List.mem_singleton.1 hb];exact h1 ⟨n,h⟩⟩
  ·rw[dif_neg h]
   refine⟨by simp,fun b hb=>?_⟩
   rcases List.mem_append.1 hb with hb|hb
   ·exact (ih (n / 10) aa).2 b hb
   ·rw[List.mem_singleton.1 hb];exact h1 ⟨n % 10,aa⟩
theorem Hy {A C:List UInt8} {t:Tok} (ok:aR t=true) (hc:∀c,C.head?=some c->pj t c=true):tb t≠[]/\vY (A++tb t++C) A.length t (tb t).length:=by
 have okf:¬aR t=false:=by rw[ok];simp
 by_cases k1:t.kind=1
 ·have o:=ok
  unfold aR at o
  rw[if_pos k1,Bool.and_eq_true,decide_eq_true_eq,decide_eq_true_eq] at o
  have hX:tb t=t.text.data.toList:=by
   unfold tb eZ
   rw[if_neg okf,if_neg aa,if_neg aa]
  obtain⟨m1,m2⟩:=zC _ (by have:=zD o.1;rwa[o.2] at this)
  refine⟨by rw[hX];exact m1,uG ok hX m1 (fun b hb=>by rw[m2 b hb];rfl) (fun c h=>?_) fun b hb=>.inl ⟨m2 b (List.mem_of_mem_head? hb),.inr ⟨k1,o.1,o.2⟩⟩⟩
  have:=hc c h
  unfold pj at this
  rw[if_neg aa,if_neg aa,if_pos (by unfold cQ;rw[ax k1];rfl)] at this
  simpa using this
 by_cases k3:t.kind=3
 ·have o:=ok
  unfold aR at o
  rw[if_neg k1,if_neg aa,if_pos k3] at o
  have hX:tb t=t.text.data.toList:=by
   unfold tb eZ
   rw[if_neg okf,if_neg aa,if_neg aa]
  obtain⟨m,hm⟩:=Option.isSome_iff_exists.1 (show (io t.text.data.toList).isSome=true from o)
  have hm:=(dt.1 hm).2
  obtain⟨m1,m2⟩:=wc m
  rw[hm] at m1 m2
  refine⟨by rw[hX];exact m1,uG ok hX m1 (fun b hb=>by rw[(m2 b hb).1];simp) (fun c h=>?_) fun b hb=>.inr ⟨(m2 b (List.mem_of_mem_head? hb)).2,(m2 b (List.mem_of_mem_head? hb)).1,k3⟩⟩
  have:=hc c h
  unfold pj at this
  rw[if_neg aa,if_neg aa,if_pos (by unfold cQ;rw[ax k3];simp)] at this
  simpa using this
 by_cases k4:t.kind=4
 ·have hX:tb t=39::(bL 39 t.text.data.toList++[39]):=by
   unfold tb eZ
   rw[if_neg okf,if_neg aa,if_pos k4];rfl
  refine⟨by rw[hX];simp,zB ok hX (fun c h=>?_) (.inr ⟨rfl,k4⟩)⟩
  have:=hc c h
  unfold pj at this
  rw[if_neg aa,if_pos k4] at this
  simpa using this
 by_cases k2:t.kind=2
 ·have o:=ok
  unfold aR at o
  rw[if_neg k1,if_pos k2,decide_eq_true_eq] at o
  cases hp:gg t.text with
  |true=>
   have hX:tb t=t.text.data.toList:=by
    unfold tb eZ mO
    rw[if_neg okf,if_pos k2,if_pos o,if_pos hp]
   have hp':=hp
   simp only[gg,Bool.and_eq_true,Bool.not_eq_true',decide_eq_true_eq,decide_eq_false_iff_not,List.all_eq_true] at hp
   obtain⟨_,h1,h2,h3⟩:=hp
   have hne:t.text.data.toList≠[]:=fun e=>by
    have:=aK t.text
    rw[e] at this;simp at this;omega
   refine⟨by rw[hX];exact hne,uG ok hX hne (fun b hb=>h3 b hb) (fun c h=>?_) fun b hb=>.inl ⟨?_,.inl ⟨k2,h2⟩⟩⟩
   ·have:=hc c h
    unfold pj at this
    rw[if_neg aa,if_neg aa,if_pos (by unfold cQ;rw[ax k2,hp'];simp)] at this
    simpa using this
   ·have e:=h3 b (List.mem_of_mem_head? hb)
    have e2:t.text.data.toList.headD 0=b:=by
     cases hl:t.text.data.toList with
     |nil=>exact absurd hl hne
     |cons y r=>rw[hl] at hb;injection hb with hb
    rw[e2] at h1
    unfold qV at e
    rw[aB h1,Bool.or_false] at e
    exact e
  |false=>
   have hX:tb t=34::(bL 34 t.text.data.toList++[34]):=by
    unfold tb eZ mO
    rw[if_neg okf,if_pos k2,if_pos o,if_neg (by rw[hp];simp)];rfl
   refine⟨by rw[hX];simp,zB ok hX (fun c h=>?_) (.inl ⟨rfl,k2⟩)⟩
   have:=hc c h
   unfold pj at this
   rw[if_neg aa,if_neg aa,if_neg (by unfold cQ;rw[aB k1,aB k3,hp];simp)] at this
   simpa using this
 ·have o:=ok
  unfold aR at o
  rw[if_neg k1,if_neg k2,if_neg k3,if_neg k4] at o
  by_cases k5:t.kind=5
  ·rw[if_pos k5] at o
   have hX:tb t=t.text.data.toList:=by
    unfold tb eZ
    rw[if_neg okf,if_neg k2,if_neg k4]
   rw[hX]
   obtain⟨kind,text,a⟩:=t
   have k5:kind=5:=k5
   subst k5
   refine⟨fun e=>?_,ER o hc⟩
   have:text=⟨#[]⟩:=Cm e
   rw[this] at o
   exact absurd (show dD ⟨#[]⟩=true from o) ah
  ·rw[if_neg k5] at o;cases o
theorem AQ (t:Tok):pj t 32=true:=by
 unfold pj
 split
 ·simp
 split
 ·rfl
 split
 ·decide
 ·rfl
theorem ES {b:UInt8} (h:(cJ b||d5 b)=true):b≠42/\b≠61/\b≠62:=by
 have h2:∀n:Fin 256,(cJ (UInt8.ofNat n.1)||d5 (UInt8.ofNat n.1))=true->(UInt8.ofNat n.1≠42/\UInt8.ofNat n.1≠61/\UInt8.ofNat n.1≠62):=by decide
 have:=h2 ⟨b.toNat,UInt8.toNat_lt b⟩
 simp only[UInt8.ofNat_toNat] at this
 exact this h
theorem jO:∀x∈signs,x.data.toList≠[]/\(cJ (x.data.toList.headD 0)||d5 (x.data.toList.headD 0))=false/\x.data.toList.headD 0≠34/\x.data.toList.headD 0≠39/\(x.data.toList.headD 0=45->x=⟨#[45]⟩)/\(x.data.toList.headD 0=42->x=⟨#[42]⟩):=by decide
theorem Co {x:ByteArray} (hs:dD x=true):x∈signs:=by
 unfold dD at hs
 obtain⟨y,hy,e⟩:=List.any_eq_true.1 hs
 rw[decide_eq_true_eq] at e
 rw[e];exact hy
theorem kG {u:Tok} (ok:aR u=true):∃c r,tb u=c::r/\((cQ u=true/\u.kind≠5/\u.kind≠4/\(cJ c||d5 c)=true)∨(eI u=true/\cQ u=false/\u.kind≠5/\u.kind≠4/\c=34)∨(u.kind=4/\c=39)∨(u.kind=5/\u.text∈signs/\u.text.data.toList.headD 0=c)):=by
 have okf:¬aR u=false:=by rw[ok];simp
 have o:=ok
 unfold aR at o
 by_cases k1:u.kind=1
 ·rw[if_pos k1,Bool.and_eq_true,decide_eq_true_eq,decide_eq_true_eq] at o
  obtain⟨m1,m2⟩:=zC _ (by have:=zD o.1;rwa[o.2] at this)
  have hX:tb u=u.text.data.toList:=by
   unfold tb eZ
   rw[if_neg okf,if_neg aa,if_neg aa]
  obtain⟨c,r,hc⟩:=List.exists_cons_of_ne_nil m1
  exact⟨c,r,by rw[hX,hc],.inl ⟨by unfold cQ;rw[ax k1];rfl,aa,aa,by rw[m2 c (by rw[hc];simp)];rfl⟩⟩
 rw[if_neg k1] at o
 by_cases k2:u.kind=2
 ·rw[if_pos k2,decide_eq_true_eq] at o
  cases hp:gg u.text with
  |true=>
   have hX:tb u=u.text.data.toList:=by
    unfold tb eZ mO
    rw[if_neg okf,if_pos k2,if_pos o,if_pos hp]
   have hp':=hp
   simp only[gg,Bool.and_eq_true,List.all_eq_true] at hp
   have hne:u.text.data.toList≠[]:=fun e=>by
    have:=aK u.text
    rw[e] at this;simp at this;omega
   obtain⟨c,r,hc⟩:=List.exists_cons_of_ne_nil hne
   exact⟨c,r,by rw[hX,hc],.inl ⟨by unfold cQ;rw[ax k2,hp'];simp,aa,aa,hp.2.2.2 c (by rw[hc];simp)⟩⟩
  |false=>
   have hX:tb u=34::(bL 34 u.text.data.toList++[34]):=by
    unfold tb eZ mO
    rw[if_neg okf,if_pos k2,if_pos o,if_neg (by rw[hp];simp)];rfl
   exact⟨34,_,hX,.inr (.inl ⟨by unfold eI;rw[ax k2,hp];rfl,by unfold cQ;rw[aB k1,aB aa,hp];simp,aa,aa,rfl⟩)⟩
 rw[if_neg k2] at o
 by_cases k3:u.kind=3
 ·rw[if_pos k3] at o
  have hX:tb u=u.text.data.toList:=by
   unfold tb eZ
   rw[if_neg okf,if_neg aa,if_neg aa]
  obtain⟨m,hm⟩:=Option.isSome_iff_exists.1 (show (io u.text.data.toList).isSome=true from o)
  have hm:=(dt.1 hm).2
  obtain⟨m1,m2⟩:=wc m
  rw[hm] at m1 m2
  obtain⟨c,r,hc⟩:=List.exists_cons_of_ne_nil m1
  exact⟨c,r,by rw[hX,hc],.inl ⟨by unfold cQ;rw[ax k3];simp,aa,aa,by rw[(m2 c (by rw[hc];simp)).1];simp⟩⟩
 rw[if_neg k3] at o
 by_cases k4:u.kind=4
 ·have hX:tb u=39::(bL 39 u.text.data.toList++[39]):=by
   unfold tb eZ
   rw[if_neg okf,if_neg aa,if_pos k4];rfl
  exact⟨39,_,hX,.inr (.inr (.inl ⟨k4,rfl⟩))⟩
 rw[if_neg k4] at o
 by_cases k5:u.kind=5
 ·rw[if_pos k5] at o
  have hX:tb u=u.text.data.toList:=by
   unfold tb eZ
   rw[if_neg okf,if_neg aa,if_neg aa]
  have hm:=Co o
  obtain⟨c,r,hc⟩:=List.exists_cons_of_ne_nil (jO _ hm).1
  exact⟨c,r,by rw[hX,hc],.inr (.inr (.inr ⟨k5,hm,by rw[hc];rfl⟩))⟩
 ·rw[if_neg k5] at o;cases o
theorem ET {t u:Tok} (ot:aR t=true) (ou:aR u=true) (hg:pc t u=false) {c:UInt8} (hc:(tb u).head?=some c):pj t c=true:=by
 obtain⟨c',r,e,hk⟩:=kG ou
 rw[e] at hc
 injection hc with hc
 subst hc
 unfold pc r6 at hg
 rw[ot,ou] at hg
 simp only[Bool.and_self,Bool.not_true,Bool.false_eq_true,if_false] at hg
 split at hg
 ·cases hg
 rename_i hh
 simp only[Bool.not_eq_true,Bool.or_eq_false_iff,Bool.and_eq_false_iff,decide_eq_false_iff_not] at hh
 obtain⟨⟨hw,hq⟩,ht⟩:=hh
 unfold pj
 by_cases k5:t.kind=5
 ·rw[if_pos k5]
  rcases hk with⟨_,_,_,hl⟩|⟨_,_,_,_,rfl⟩|⟨_,rfl⟩|⟨h5,hm,hh⟩
  ·obtain⟨_,a1,_,_,_⟩:=uF hl
   obtain⟨a2,a3,a4⟩:=ES hl
   simp [a1,a2,a3,a4]
  ·simp
  ·simp
  ·obtain⟨_,_,_,_,s1,s2⟩:=jO _ hm
   rw[hh] at s1 s2
   unfold Et at hg
   rw[if_neg (not_not_intro k5),if_neg (not_not_intro h5),hh] at hg
   by_cases e1:t.text=⟨#[45]⟩
   ·rw[if_pos e1,decide_eq_false_iff_not] at hg
    have:¬c'=45:=fun h=>hg (s1 h)
    rw[e1];simp [this]
   rw[if_neg e1] at hg
   by_cases e2:t.text=⟨#[47]⟩
   ·rw[if_pos e2,decide_eq_false_iff_not] at hg
    have:¬c'=42:=fun h=>hg (s2 h)
    rw[e2];simp [this]
   rw[if_neg e2] at hg
   by_cases e3:t.text=⟨#[60]⟩
   ·rw[if_pos e3,Bool.or_eq_false_iff,decide_eq_false_iff_not,decide_eq_false_iff_not] at hg
    rw[e3];simp [hg.1,hg.2]
   rw[if_neg e3] at hg
   by_cases e4:t.text=⟨#[62]⟩
   ·rw[if_pos e4,decide_eq_false_iff_not] at hg
    rw[e4];simp [hg]
   simp [e1,e2,e3,e4]
 rw[if_neg k5]
 by_cases k4:t.kind=4
 ·rw[if_pos k4]
  rcases hk with⟨_,_,_,hl⟩|⟨_,_,_,_,rfl⟩|⟨h4,rfl⟩|⟨h5,hm,hh⟩
  ·obtain⟨_,_,_,_,a1⟩:=uF hl
   simp [a1]
  ·rfl
  ·rcases ht with ht|ht
   ·exact absurd k4 ht
   ·exact absurd h4 ht
  ·obtain⟨_,_,_,s1,_⟩:=jO _ hm
   rw[hh] at s1
   simp [s1]
 rw[if_neg k4]
 cases wt:cQ t with
 |true=>
  rw[if_pos rfl]
  rcases hk with⟨wu,_,_,hl⟩|⟨_,_,_,_,rfl⟩|⟨h4,rfl⟩|⟨h5,hm,hh⟩
  ·rcases hw with hw|hw
   ·rw[wt] at hw;cases hw
   ·rw[wu] at hw;cases hw
  ·decide
  ·decide
  ·obtain⟨_,s1,_⟩:=jO _ hm
   rw[hh] at s1
   rw[s1];rfl
 |false=>
  rw[if_neg (by simp)]
  have qt:eI t=true:=by
   obtain⟨_,_,_,hk⟩:=kG ot
   rcases hk with⟨a,_⟩|⟨a,_⟩|⟨a,_⟩|⟨a,_⟩
   ·rw[wt] at a;cases a
   ·exact a
   ·exact absurd a k4
   ·exact absurd a k5
  rcases hk with⟨wu,_,_,hl⟩|⟨qu,_,_,_,rfl⟩|⟨h4,rfl⟩|⟨h5,hm,hh⟩
  ·obtain⟨_,_,_,a1,_⟩:=uF hl
   simp [a1]
  ·rcases hq with hq|hq
   ·rw[qt] at hq;cases hq
   ·rw[qu] at hq;cases hq
  ·rfl
  ·obtain⟨_,_,s1,_⟩:=jO _ hm
   rw[hh] at s1
   simp [s1]
def lj (p:Option Tok) (u:Tok):List UInt8:=match p with|some t=>if pc t u=true then [32] else []|none=>[]
def jl:Option Tok->List Tok->List UInt8
 |_,[]=>[]
 |p,u::r=>lj p u++(tb u++jl (some u) r)
theorem wf (l:List Tok):∀k,k<=l.length->fZ l k++jl (if k=0 then none else l[k-1]?) (l.drop k)=jl none l
 |0,_=>by simp [fZ]
 |k+1,h=>by
  have hk:k<l.length:=h
  rw[<-wf l k aa,fh,List.drop_eq_getElem_cons hk]
  have e1:(if k+1=0 then none else l[k+1-1]?)=some l[k]:=by
   rw[if_neg aa,Nat.add_sub_cancel];exact aC hk
  rw[e1]
  show _=fZ l k++(lj _ l[k]++(tb l[k]++jl (some l[k]) (l.drop (k+1))))
  have e2:jn l k=lj (if k=0 then none else l[k-1]?) l[k]++tb l[k]:=by
   rw[Gt l hk]
   congr 1
   by_cases h0:k=0
   ·subst h0;rfl
   ·rw[if_neg h0,aC aa]
    unfold lj
    simp only[show 0<k by omega,true_and]
  rw[e2];simp only[aL]
theorem tJ (l:List Tok):fZ l l.length=jl none l:=by
 have:=wf l l.length (Nat.le_refl _)
 rw[List.drop_length] at this
 rw[<-this];simp [jl]
theorem Hz {u:Tok} {r:List Tok} (ou:aR u=true) (hr:∀v,v∈r->aR v=true):∀c,(jl (some u) r).head?=some c->pj u c=true:=fun c h=>by
 cases r with
 |nil=>cases h
 |cons v r=>
  have ov:=hr v (by simp)
  obtain⟨c',r',e,_⟩:=kG ov
  simp only[jl,lj] at h
  by_cases hg:pc u v=true
  ·rw[if_pos hg] at h
   injection h with h
   rw[<-h];exact AQ u
  ·rw[if_neg hg,e] at h
   exact ET ou ov (by simpa using hg) (by rw[e];exact h)
theorem Cp:∀(r:List Tok) (p:Option Tok) (B A:List UInt8) (acc:List Tok) (n:Nat),(∀u,u∈r->aR u=true)->B=A++jl p r->r.length<n->∃r',qp B n A.length acc=some (.inl (acc++r'))/\SameK r' r
 | [],p,B,A,acc,n,_,hB,hn=>by
  obtain⟨n,rfl⟩:∃m,n=m+1:=⟨n-1,aa⟩
  have hB:B=A:=by rw[hB];simp [jl]
  subst hB
  have h0:B[B.length]?=none:=List.getElem?_eq_none_iff.2 (Nat.le_refl _)
  refine⟨[],?_,rfl⟩
  rw[qp,f6,h0]
  simp only[Bool.true_eq_false,if_false]
  rw[h0,List.append_nil]
 |u::r,p,B,A,acc,n,hok,hB,hn=>by
  obtain⟨n,rfl⟩:∃m,n=m+1:=⟨n-1,aa⟩
  have ou:=hok u (by simp)
  have hr:∀v,v∈r->aR v=true:=fun v hv=>hok v (by simp [hv])
  have hB2:B=(A++lj p u)++tb u++jl (some u) r:=by rw[hB];simp [jl]
  obtain⟨hne,b,hb,hp,ho⟩:=Hy (A:=A++lj p u) ou (Hz ou hr)
  rw[<-hB2] at hb hp ho
  have hpass:f6 B (B.length+1) A.length=some ((A++lj p u).length,true):=by
   have hg:lj p u=[]∨lj p u=[32]:=by
    unfold lj
    split
    ·split
     ·exact .inr rfl
     ·exact .inl rfl
    ·exact .inl rfl
   rcases hg with hg|hg
   ·have e:A++lj p u=A:=by rw[hg,List.append_nil]
    rw[e] at hp ⊢
    exact hp _
   ·have e:(A++lj p u).length=A.length+1:=by rw[hg];simp
    have h32:B[A.length]?=some 32:=by
     rw[hB2,hg,aL,aL,List.getElem?_append_right (Nat.le_refl _),Nat.sub_self];rfl
    have hl:1<=B.length:=by have:=(List.getElem?_eq_some_iff.1 h32).1;omega
    obtain⟨m,hm⟩:∃m,B.length=m+1:=⟨B.length-1,aa⟩
    rw[e] at hp ⊢
    rw[hm,f6,h32]
    simp only
    rw[if_pos ah]
    exact hp _
  obtain⟨r',h1,h2⟩:=Cp r (some u) B (A++lj p u++tb u) (acc++[⟨u.kind,u.text,(A++lj p u).length⟩]) n hr (by rw[hB2]) (by simp only[List.length_cons] at hn;omega)
  refine⟨⟨u.kind,u.text,(A++lj p u).length⟩::r',?_,?_⟩
  ·rw[qp,hpass]
   simp only[Bool.true_eq_false,if_false,hb,ho]
   have e9:(A++lj p u++tb u).length=(A++lj p u).length+(tb u).length:=aD
   rw[e9] at h1
   rw[h1];simp
  ·unfold SameK at h2 ⊢
   rw[List.map_cons,List.map_cons,h2]
theorem Cq:∀(r:List Tok) (p:Option Tok),(∀u,u∈r->aR u=true)->r.length<=(jl p r).length
 | [],_,_=>Nat.zero_le _
 |u::r,p,h=>by
  have h1:=Cq r (some u) fun v hv=>h v (by simp [hv])
  obtain⟨c,x,e,_⟩:=kG (h u (by simp))
  simp only[jl,aD,e,List.length_cons]
  omega
theorem ye {l:List Tok} (hok:l.all aR=true) (hl:(fZ l l.length).length<=2000):∃L,lg (dT l) = .inl L/\SameK L l:=by
 have ho:=List.all_eq_true.1 hok
 have e:dT l=⟨(jl none l).toArray⟩:=by
  unfold dT
  rw[if_pos hok,if_neg aa,tJ]
 rw[tJ] at hl
 have hlen:=Cq l none ho
 obtain⟨r',h1,h2⟩:=Cp l none (jl none l) [] [] ((jl none l).length+1) ho rfl aa
 refine⟨r',?_,h2⟩
 rw[e]
 unfold lg
 rw[if_neg (by rw[<-aK];show ¬ 2000<(jl none l).length;omega)]
 show (qp (jl none l) ((jl none l).length+1) 0 []).getD (.inr 0)=_
 rw[show (0:Nat)=([]:List UInt8).length from rfl,h1];rfl
theorem AR {l:List Tok} (h:dT l≠⟨#[]⟩):l.all aR=true/\(fZ l l.length).length<=2000:=by
 unfold dT at h
 split at h
 ·rename_i h1
  split at h
  ·exact absurd rfl h
  ·exact⟨h1,aa⟩
 ·exact absurd rfl h
theorem zE {x:Query} (h:gU x=true):iK fmE x=true:=by
 unfold gU at h
 simp only[Bool.and_eq_true] at h
 exact h.1
theorem nu (full:Bool) {x:Query} (hok:gU x=true) (hr:xO x) (hs:dT (dL (dG full) x)≠⟨#[]⟩):cU (dT (dL (dG full) x))=(x,(0,0)):=by
 obtain⟨h1,h2⟩:=AR hs
 obtain⟨L,hL,hk⟩:=ye h1 h2
 unfold cU sj
 rw[hL]
 have e:=rn (full:=full) (zE hok) hr hk
 simp only[e,hok,if_true]
 rw[if_neg aa]
 rfl
section
variable {L1 L2:List Tok} {k:Nat}
def Ag (k:Nat) (L1 L2:List Tok):Prop:=∀i,i<k->L1[i]?=L2[i]?
def Kr {α:Type} (k:Nat) (m1 m2:PM α):Prop:=∀s x s1 r,m1 s=some (x,s1)->s1.a<k->m2 s=some r->r=(x,s1)
variable (h:Ag k L1 L2)
include h
variable {f1 f2:Nat->PM Expr} {q1 q2:PM Query} (okf:∀lv,OkM (L:=L1) (f1 lv)) (okq:OkM (L:=L1) q1) (hf:∀lv,Kr k (f1 lv) (f2 lv)) (hq:Kr k q1 q2)
include okf hf
omit h okf hf
theorem wg {L:List Tok} {s:PS} (hs:fD L s=true):mv L s 2=true/\lI L s 1 5 ⟨#[46]⟩=true/\lI L s 2 5 ⟨#[42]⟩=true:=by
 unfold fD at hs
 simpa [Bool.and_eq_true] using hs
end
def kt (t:Tok):Int×ByteArray:=(t.kind,t.text)
def HA (L:List Tok) (a b:Nat):List Tok:=(L.drop a).take (b-a)
def Su (L l:List Tok) (a b:Nat):Prop:=a<=b/\(l.map kt).Sublist ((HA L a b).map kt)
section
variable {L:List Tok}
theorem EU {a b c:Nat} (h:a<=b) (k:b<=c):HA L a c=HA L a b++HA L b c:=by
 unfold HA
 have e:c-a=(b-a)+(c-b):=by omega
 rw[e,List.take_add,List.drop_drop,show a+(b-a)=b by omega]
theorem Su.app {l m:List Tok} {a b c:Nat} (h:Su L l a b) (k:Su L m b c):Su L (l++m) a c:=⟨Nat.le_trans h.1 k.1,by
 rw[EU h.1 k.1,List.map_append,List.map_append]
 exact h.2.append k.2⟩
theorem Su.nil {a b:Nat} (h:a<=b):Su L [] a b:=⟨h,List.nil_sublist _⟩
theorem Su.sub {l m:List Tok} {a b:Nat} (h:Su L l a b) (k:m.Sublist l):Su L m a b:=⟨h.1,(k.map kt).trans h.2⟩
theorem Su.one {t u:Tok} {a:Nat} (h:L[a]?=some u) (k:u.kind=t.kind) (m:u.text=t.text):Su L [t] a (a+1):=by
 obtain⟨hl,e⟩:=List.getElem?_eq_some_iff.1 h
 refine⟨Nat.le_succ _,?_⟩
 unfold HA
 rw[List.drop_eq_getElem_cons hl,show a+1-a=1 by omega,List.take_succ_cons,List.take_zero,e]
 show List.Sublist [kt t] [kt u]
 rw[show kt u=kt t by unfold kt;rw[k,m]]
 exact List.Sublist.refl _
theorem Cr {s:PS} {j:Nat} {kind:Int} {x:ByteArray} (h:lI L s j kind x=true) (a:Int):Su L [⟨kind,x,a⟩] (s.a+j) (s.a+j+1):=by
 unfold lI at h
 split at h
 ·rename_i t ht
  unfold jC at ht
  split at ht
  ·cases ht
  ·simp only[Bool.and_eq_true,decide_eq_true_eq] at h
   exact Su.one ht h.1 h.2
 ·cases h
theorem ft {s:PS} {k:Nat} (h:aA L s k=true):Su L [kT k] s.a (s.a+1):=Cr (j:=0) h 0
theorem rp {s:PS} {c:UInt8} (h:cr L s c=true):Su L [gT ⟨#[c]⟩] s.a (s.a+1):=Cr (j:=0) h 0
theorem AU {s:PS} {kind:Int} (h:mv L s kind=true) (a:Int):Su L [⟨kind,bP L s,a⟩] s.a (s.a+1):=by
 unfold mv at h
 unfold bP
 split at h
 ·rename_i t ht
  simp only[Bool.and_eq_true,decide_eq_true_eq] at h
  unfold jC at ht
  split at ht
  ·cases ht
  ·exact Su.one ht h.1 rfl
 ·cases h
theorem HB {s:PS} {kind:Int} (h:mv L s kind=true):aR ⟨kind,bP L s,0⟩=true:=by
 unfold mv at h
 unfold bP
 split at h
 ·rename_i t ht
  simp only[Bool.and_eq_true,decide_eq_true_eq] at h
  obtain⟨rfl,h2⟩:=h
  exact h2
 ·cases h
theorem GG {s:PS} {op:Nat} (h:lJ L s op=true) (h1:op<=14):Su L [cE op] s.a (s.a+1):=by
 have:=Cr (j:=0) h 0
 unfold cE
 by_cases c:op=1∨op=2
 ·rw[if_pos c] at this
  rw[if_pos aa];exact this
 ·rw[if_neg c] at this
  rw[if_neg aa];exact this
theorem pk {s:PS}:∀ {l:List Nat},jd L s l≠0->lJ L s (jd L s l)=true/\jd L s l∈l
 | [],h=>absurd rfl h
 |op::r,h=>by
  unfold jd at h ⊢
  split
  ·rename_i hh;exact⟨hh,by simp⟩
  ·rename_i hh
   rw[if_neg hh] at h
   have:=pk h
   exact⟨this.1,by simp [this.2]⟩
theorem Ok.nb {s t:PS} (h:Ok L s t) (hb:t.b=false):s.b=false:=by
 cases e:s.b with
 |false=>rfl
 |true=>rw[h.2.2 e,e] at hb;cases hb
theorem zF {c:Bool} {s:PS} (h:(must c s).b=false):c=true/\must c s=adv s:=by
 cases c with
 |true=>exact⟨rfl,rfl⟩
 |false=>cases h
theorem wj {kind:Int} {s:PS} (h:(mText L kind s).2.b=false):mv L s kind=true/\mText L kind s=(bP L s,adv s):=by
 unfold mText at h ⊢
 split
 ·rename_i hc;exact⟨hc,rfl⟩
 ·rename_i hc;rw[if_neg hc] at h;cases h
theorem Cs {kind:Int} {s:PS} (h:(mText L kind s).2.b=false) (a:Int):Su L [⟨kind,(mText L kind s).1,a⟩] s.a (mText L kind s).2.a:=by
 obtain⟨h1,h2⟩:=wj h
 rw[h2];exact AU h1 a
theorem mz {k:Nat} {s:PS} (h:(must (aA L s k) s).b=false):Su L [kT k] s.a (must (aA L s k) s).a:=by
 obtain⟨h1,h2⟩:=zF h
 rw[h2];exact ft h1
theorem iV {c:UInt8} {s:PS} (h:(must (cr L s c) s).b=false):Su L [gT ⟨#[c]⟩] s.a (must (cr L s c) s).a:=by
 obtain⟨h1,h2⟩:=zF h
 rw[h2];exact rp h1
theorem qG {k:Nat} {s:PS}:Su L (if aA L s k=true then [kT k] else []) s.a (tkIf (aA L s k) s).a:=by
 unfold tkIf
 by_cases h:aA L s k=true
 ·rw[if_pos h,if_pos h];exact ft h
 ·rw[if_neg h,if_neg h];exact Su.nil (Nat.le_refl _)
theorem oe {full:Bool} {g g':Expr->List Tok} {kind op:Int} {kids:List Expr} {k:Nat} (hk:k<kids.length) (h:∀x,x∈kids->g x=g' x):aO full g kind op kids k=aO full g' kind op kids k:=by
 unfold aO
 rw[h _ (by rw[List.getD_eq_getElem?_getD,aC hk];exact aM hk)]
theorem jp {f f':Nat->List Tok} {n:Nat} (h:∀i,i<n->f i=f' i):bf f n=bf f' n:=by
 unfold bf
 rw[List.flatMap_def,List.flatMap_def,List.map_congr_left fun i hi=>h i (List.mem_range.1 hi)]
theorem yf {α:Type} {l:List α} {h h':α->List Tok} {i:Nat} (e:∀x,x∈l->h x=h' x):qz l h i=qz l h' i:=by
 unfold qz
 cases hx:l[i]? with
 |none=>rfl
 |some x=>exact e x (List.mem_of_getElem? hx)
theorem HC {g g':Expr->List Tok} {q:Query} (h:∀x,x∈exprsQ q->g x=g' x):dL g q=dL g' q:=by
 obtain⟨d,it,fr,wh,od,li⟩:=q
 have e:exprsQ (.mk d it fr wh od li)=aU it++fr.flatMap Source.on++wh++od.map SortKey.e:=rfl
 rw[e] at h
 have h1:∀i,dk g it i=dk g' it i:=fun i=>by
  unfold dk
  rw[yf fun x hx=>?_]
  obtain⟨st,ql,e,a⟩:=x
  cases st with
  |true=>rfl
  |false=>
   have:e∈aU it:=List.mem_map.2 ⟨_,List.mem_filter.2 ⟨hx,rfl⟩,rfl⟩
   simp only[cH,h e (by simp [this])]
 have h2:∀i,dO g fr i=dO g' fr i:=fun i=>by
  unfold dO
  rw[yf fun x hx=>?_]
  obtain⟨tb,a,on⟩:=x
  cases on with
  |nil=>rfl
  |cons y r=>
   have:y∈fr.flatMap Source.on:=List.mem_flatMap.2 ⟨_,hx,by simp [Source.on]⟩
   simp only[fK,sc,h y (by simp [this])]
 have h3:nS g wh=nS g' wh:=by
  cases wh with
  |nil=>rfl
  |cons y r=>simp only[nS,h y (by simp)]
 have h4:∀i,eU g od i=eU g' od i:=fun i=>by
  unfold eU
  rw[yf fun x hx=>?_]
  obtain⟨e,d⟩:=x
  have:e∈od.map SortKey.e:=List.mem_map.2 ⟨_,hx,rfl⟩
  simp only[j3,h e (by simp [this])]
 simp only[dL]
 rw[jp fun i _=>h1 i,jp fun i _=>h2 i,h3,jp fun i _=>h4 i]
def KI (kind:Int) (n:Nat):Prop:=¬kind=1 -> ¬kind=2 -> ¬kind=9->1<=n/\(kind=4->2<=n)/\(kind=6->3<=n)
theorem kH {full:Bool} {kind op:Int} {not:Bool} {val:Val} {qual name:ByteArray} {kids:List Expr} {sub:List Query} (hs:KI kind kids.length):dG full (.mk kind op not val qual name kids sub)=jc full (dG full) (.mk kind op not val qual name kids sub):=by
 unfold dG
 rw[dP]
 suffices H:∀g:Expr->List Tok,(∀x,x∈kids->g x=dP (jc full) x)->(∀q,q∈sub->∀x,x∈exprsQ q->g x=dP (jc full) x)->jc full g (.mk kind op not val qual name kids sub)=jc full (dP (jc full)) (.mk kind op not val qual name kids sub) from
  H _ (fun x hx=>dif_pos (lG (e:=.mk kind op not val qual name kids sub) (.inl hx))) (fun q hq x hx=>dif_pos (lG (e:=.mk kind op not val qual name kids sub) (.inr ⟨q,hq,hx⟩)))
 intro g hk hq
 have hsub:lf g sub=lf (dP (jc full)) sub:=by
  cases sub with
  |nil=>rfl
  |cons q r=>exact HC (hq q (by simp))
 simp only[jc]
 by_cases k1:kind=1
 ·simp only[if_pos k1]
 by_cases k2:kind=2
 ·simp only[if_neg k1,if_pos k2]
 by_cases k9:kind=9
 ·have k3:¬kind=3:=by omega
  simp only[if_neg k1,if_neg k2,if_neg k3,if_pos k9,hsub]
 obtain⟨n1,n4,n6⟩:=hs k1 k2 k9
 have c0:=oe (full:=full) (kind:=kind) (op:=op) (k:=0) aa hk
 have cin:bf (oX full g kind op kids) (kids.length-1)=bf (oX full (dP (jc full)) kind op kids) (kids.length-1):=jp fun i hi=>by
  unfold oX
  rw[oe aa hk]
 simp only[if_neg k1,if_neg k2,if_neg k9,c0,hsub,cin]
 by_cases k4:kind=4
 ·rw[oe (full:=full) (kind:=kind) (op:=op) (k:=1) (by have:=n4 k4;omega) hk]
  simp only[if_pos k4]
 by_cases k6:kind=6
 ·rw[oe (full:=full) (kind:=kind) (op:=op) (k:=1) (by have:=n6 k6;omega) hk,oe (full:=full) (kind:=kind) (op:=op) (k:=2) (by have:=n6 k6;omega) hk]
 ·simp only[if_neg k4,if_neg k6]
noncomputable def wr (n:Int) (e:Expr):List Tok:=kf (decide (lC e<n)) (dG false e)
theorem nv {kind op:Int} {kids:List Expr} {k:Nat}:aO false (dG false) kind op kids k=wr (nd kind op k) (kids.getD k zeroX):=by
 unfold aO wr Bu l4
 rw[Bool.false_and,Bool.or_false];rfl
theorem uH {n m:Int} (h:n<=m) (e:Expr):(wr n e).Sublist (wr m e):=by
 unfold wr kf
 by_cases h1:lC e<n
 ·rw[if_pos (ax h1),if_pos (ax aa)]
  exact List.Sublist.refl _
 ·rw[if_neg (by simpa using h1)]
  split
  ·exact (List.sublist_append_left _ _).cons _
  ·exact List.Sublist.refl _
theorem HD (n:Int) (e:Expr):(wr n e).Sublist (jb::(dG false e++[je])):=by
 unfold wr kf
 split
 ·exact List.Sublist.refl _
 ·exact (List.sublist_append_left _ _).cons _
theorem l5 {n:Int} {e:Expr} (h:n<=lC e):wr n e=dG false e:=by
 unfold wr kf
 rw[if_neg (by simpa using h)]
theorem tK {n:Int} {e:Expr}:(dG false e).Sublist (wr n e):=by
 unfold wr kf
 split
 ·exact (List.sublist_append_left _ _).cons _
 ·exact List.Sublist.refl _
end
section
variable {L:List Tok}
def Cn {α:Type} (L:List Tok) (m:PM α) (pr:α->List Tok):Prop:=∀s x s1,m s=some (x,s1)->s1.b=false->Su L (pr x) s.a s1.a
def sq {α:Type} (p0:List Tok) (pr:α->List Tok) (l:List α):List Tok:=bf (fun i=>(if i=0 then p0 else [dM])++qz l pr i) l.length
theorem yg {α:Type} (p0:List Tok) (pr:α->List Tok) (x:α):sq p0 pr [x]=p0++pr x:=by
 unfold sq bf qz
 simp
theorem EV {α:Type} (p0:List Tok) (pr:α->List Tok) {l:List α} (x:α) (h:l≠[]):sq p0 pr (l++[x])=sq p0 pr l++dM::pr x:=by
 unfold sq
 rw[aD,List.length_singleton,dd]
 have hp:0<l.length:=List.length_pos_iff.2 h
 have e1:bf (fun i=>(if i=0 then p0 else [dM])++qz (l++[x]) pr i) l.length=bf (fun i=>(if i=0 then p0 else [dM])++qz l pr i) l.length:=jp fun i hi=>by
  unfold qz
  rw[List.getElem?_append_left hi]
 have e2:qz (l++[x]) pr l.length=pr x:=by
  unfold qz
  rw[List.getElem?_append_right (Nat.le_refl _),Nat.sub_self];rfl
 rw[e1,e2,if_neg aa];rfl
theorem Cn.sep {α:Type} {m:PM α} {pr:α->List Tok} (p0:List Tok) (ok:OkM (L:=L) m) (hm:Cn L m pr):∀(n:Nat) (l:List α) (s:PS) (x:List α) (s1:PS) (a:Nat),hM L m n l s=some (x,s1)->s1.b=false->l≠[]->Su L (sq p0 pr l) a s.a->Su L (sq p0 pr x) a s1.a
 |0,_,_,_,_,_,h,_,_,_=>by cases h
 |n+1,l,s,x,s1,a,h,hb,hl,hs=>by
  rw[hM] at h
  split at h
  ·rename_i hc
   split at h
   ·cases h
   ·rename_i y t hy
    have hb2:=(OkM.sep ok _ _ _ _ _ h).nb hb
    have h1:Su L [dM] s.a (s.a+1):=rp hc
    have h2:Su L (pr y) (s.a+1) t.a:=hm _ _ _ hy hb2
    exact Cn.sep p0 ok hm n _ _ _ _ _ h hb (by simp) (by rw[EV _ _ _ hl];exact hs.app (h1.app h2))
  ·injection h with h;injection h with e1 e2
   rw[<-e1,<-e2];exact hs
theorem Ct {op lv:Nat} (h:op∈gk lv):bl op=lv/\1<=op/\op<=14:=by
 unfold gk at h
 split at h
 ·rename_i e;simp at h;subst h e;decide
 split at h
 ·rename_i e;simp at h;subst h e;decide
 split at h
 ·rename_i e;simp at h;subst e
  rcases h with rfl|rfl|rfl|rfl|rfl|rfl<;>decide
 split at h
 ·rename_i e;simp at h;subst h e;decide
 split at h
 ·rename_i e;simp at h;subst e
  rcases h with rfl|rfl<;>decide
 split at h
 ·rename_i e;simp at h;subst e
  rcases h with rfl|rfl|rfl<;>decide
 ·cases h
theorem Cu {op:Nat} (x y:Expr):dG false (iS op x y)=wr (nd 4 op 0) x++cE op::wr (nd 4 op 1) y:=by
 unfold iS
 rw[kH (fun _ _ _=>⟨by simp,fun _=>by simp,fun h=>by omega⟩)]
 simp only[jc,nv,if_true,show ¬((4:Int)=1) by decide,show ¬((4:Int)=2) by decide,show ¬((4:Int)=3) by decide,show ¬((4:Int)=9) by decide,if_false]
 rfl
theorem Cw {op lv:Nat} (h:op∈gk lv) (x y:Expr):lC (iS op x y)=lv:=by
 show Go.Proofs.YtdmomaomffhidaaGreatDoor.lv 4 op=lv
 unfold Go.Proofs.YtdmomaomffhidaaGreatDoor.lv
 rw[if_pos rfl];exact (Ct h).1
theorem Cn.chain {g:PM Expr} {lv:Nat} (h4:lv≠4) (ok:OkM (L:=L) g) (hg:Cn L g (wr (lv+1:Nat))):∀(n:Nat) (e:Expr) (s:PS) (x:Expr) (s1:PS) (a:Nat),cj L g lv n e s=some (x,s1)->s1.b=false->Su L (wr lv e) a s.a->Su L (wr lv x) a s1.a
 |0,_,_,_,_,_,h,_,_=>by cases h
 |n+1,e,s,x,s1,a,h,hb,hs=>by
  rw[cj] at h
  split at h
  ·injection h with h;injection h with e1 e2
   rw[<-e1,<-e2];exact hs
  ·rename_i ho
   split at h
   ·cases h
   ·rename_i y t hy
    have hb2:=(OkM.chain ok lv _ _ _ _ _ h).nb hb
    obtain⟨hh,hm⟩:=pk (L:=L) (s:=s) (l:=gk lv) ho
    have hop:=Ct hm
    have hm':dH L s lv∈gk lv:=hm
    have h1:Su L [cE (dH L s lv)] s.a (s.a+1):=GG hh hop.2.2
    have h2:Su L (wr (lv+1:Nat) y) (s.a+1) t.a:=hg _ _ _ hy hb2
    have hlv:Go.Proofs.YtdmomaomffhidaaGreatDoor.lv 4 (dH L s lv:Nat)=lv:=by
     unfold Go.Proofs.YtdmomaomffhidaaGreatDoor.lv
     rw[if_pos rfl];exact hop.1
    have hb9:=o5 (op:=(dH L s lv:Nat)) (by have:=hop.2.1;show (1:Int)<=((jd L s (gk lv):Nat):Int);omega) (by have:=hop.2.2;show ((jd L s (gk lv):Nat):Int)<=14;omega)
    have e9:bl (dH L s lv:Nat)=lv:=hop.1
    have n0:nd 4 (dH L s lv:Nat) 0=lv:=by
     unfold nd
     rw[hlv,if_neg aa,if_pos rfl,if_neg aa,if_pos rfl]
    have n1:nd 4 (dH L s lv:Nat) 1=(lv+1:Nat):=by
     unfold nd
     rw[hlv,if_neg aa,if_pos rfl,if_neg aa,if_neg aa];omega
    refine Cn.chain h4 ok hg n _ _ _ _ _ h hb ?_
    rw[l5 (by rw[Cw hm'];exact Int.le_refl _),Cu,n0,n1]
    exact hs.app (h1.app h2)
theorem GH {op:Int} (x:Expr):dG false (xL op x)=cE op::wr (nd 3 op 0) x:=by
 unfold xL
 rw[kH (fun _ _ _=>⟨by simp,fun h=>by omega,fun h=>by omega⟩)]
 simp only[jc,nv,if_true,show ¬((3:Int)=1) by decide,show ¬((3:Int)=2) by decide,if_false]
 rfl
theorem Jb {n:Bool} (x:Expr):dG false (cG 5 n [x] [])=wr 5 x++kT 16::(bA n++[kT 20]):=by
 unfold cG
 rw[kH (fun _ _ _=>⟨by simp,fun h=>by omega,fun h=>by omega⟩)]
 simp only[jc,nv,if_true,show ¬((5:Int)=1) by decide,show ¬((5:Int)=2) by decide,show ¬((5:Int)=3) by decide,show ¬((5:Int)=4) by decide,show ¬((5:Int)=9) by decide,if_false]
 rfl
theorem Jc {n:Bool} (x y z:Expr):dG false (cG 6 n [x,y,z] [])=wr 5 x++(bA n++kT 18::(wr 5 y++kT 13::wr 5 z)):=by
 unfold cG
 rw[kH (fun _ _ _=>⟨by simp,fun h=>by omega,fun h=>by simp⟩)]
 simp only[jc,nv,if_true,show ¬((6:Int)=1) by decide,show ¬((6:Int)=2) by decide,show ¬((6:Int)=3) by decide,show ¬((6:Int)=4) by decide,show ¬((6:Int)=5) by decide,show ¬((6:Int)=9) by decide,if_false]
 rfl
theorem Cy {n:Bool} (x:Expr) (q:Query):dG false (cG 8 n [x] [q])=wr 5 x++(bA n++kT 17::jb::(dL (dG false) q++[je])):=by
 unfold cG
 rw[kH (fun _ _ _=>⟨by simp,fun h=>by omega,fun h=>by omega⟩)]
 simp only[jc,nv,if_true,show ¬((8:Int)=1) by decide,show ¬((8:Int)=2) by decide,show ¬((8:Int)=3) by decide,show ¬((8:Int)=4) by decide,show ¬((8:Int)=5) by decide,show ¬((8:Int)=6) by decide,show ¬((8:Int)=9) by decide,if_false]
 rfl
theorem Jd {n:Bool} (x:Expr) (l:List Expr):dG false (cG 7 n (x::l) [])=wr 5 x++(bA n++kT 17::jb::(sq [] (wr 1) l++[je])):=by
 unfold cG
 rw[kH (fun _ _ _=>⟨by simp,fun h=>by omega,fun h=>by omega⟩)]
 simp only[jc,nv,show ¬((7:Int)=1) by decide,show ¬((7:Int)=2) by decide,show ¬((7:Int)=3) by decide,show ¬((7:Int)=4) by decide,show ¬((7:Int)=5) by decide,show ¬((7:Int)=6) by decide,show ¬((7:Int)=8) by decide,show ¬((7:Int)=9) by decide,if_false]
 have e:bf (oX false (dG false) 7 0 (x::l)) ((x::l).length-1)=sq [] (wr 1) l:=by
  unfold sq
  rw[List.length_cons,Nat.add_sub_cancel]
  refine jp fun i hi=>?_
  unfold oX
  rw[nv]
  have e1:(x::l).getD (i+1) zeroX=l[i]:=by
   rw[List.getD_eq_getElem?_getD,List.getElem?_cons_succ,aC hi];rfl
  have e2:nd 7 0 (i+1)=1:=by
   unfold nd
   rw[if_neg ah,if_neg ah,if_neg ah,if_pos ⟨rfl,aa⟩]
  rw[e1,e2,dX hi]
  unfold kg
  by_cases h0:i=0
  ·rw[if_neg aa,if_pos h0]
  ·rw[if_pos aa,if_neg h0]
 rw[e]
 rfl
theorem Je (q:Query):dG false (cG 9 false [] [q])=kT 19::jb::(dL (dG false) q++[je]):=by
 unfold cG
 rw[kH (fun _ _ h=>absurd rfl h)]
 simp only[jc,if_true,show ¬((9:Int)=1) by decide,show ¬((9:Int)=2) by decide,show ¬((9:Int)=3) by decide,if_false]
 rfl
theorem HE (v:Val):dG false (eK v)=[eP v]:=by
 unfold eK
 rw[kH (fun h=>absurd rfl h)]
 simp only[jc,if_true]
theorem Cz (q n:ByteArray):dG false (qm q n)=cA q++[nT n]:=by
 unfold qm
 rw[kH (fun _ h=>absurd rfl h)]
 simp only[jc,if_true,show ¬((2:Int)=1) by decide,if_false]
theorem CA {x:ByteArray} (h:jk x=true):df (jB x)=x:=by
 unfold jk at h
 unfold jB
 obtain⟨m,hm⟩:=Option.isSome_iff_exists.1 h
 have h2:=(dt.1 hm).2
 rw[hm]
 show df ((m:Nat):Int)=x
 rw[Cm (x:=x) h2.symm]
 show (⟨(Go.Lib.itoa ((m:Nat):Int)).toArray⟩:ByteArray)=_
 rw[ly]
end
section
variable {L:List Tok}
theorem GJ {s:PS} (h:(asM L s).2.b=false):Su L (cP (asM L s).1) s.a (asM L s).2.a:=by
 unfold asM at h ⊢
 split
 ·rename_i hc
  rw[if_pos hc] at h
  have h1:=Cs h 0
  have h2:Su L ([kT 12]++[nT (mText L 2 (adv s)).1]) s.a (mText L 2 (adv s)).2.a:=(ft hc).app h1
  unfold cP
  split
  ·exact Su.nil h2.1
  ·exact h2
 ·exact Su.nil (Nat.le_refl _)
theorem zG {q:ByteArray} {l:List Tok} {a b:Nat} (h:Su L ([nT q]++([IU]++l)) a b):Su L (cA q++l) a b:=by
 unfold cA
 split
 ·exact h.sub ((List.sublist_append_right _ _).trans (List.sublist_append_right _ _))
 ·exact h
theorem zH {s:PS} (h:mv L s 3=true):Su L [iT (jB (bP L s))] s.a (s.a+1):=by
 have h1:=AU h 0
 have h2:jk (bP L s)=true:=HB h
 unfold iT
 rw[CA h2];exact h1
variable {f:Nat->PM Expr} {q:PM Query}
theorem Cn.prim (okf:∀lv,OkM (L:=L) (f lv)) (okq:OkM (L:=L) q) (hf:∀lv:Nat,Cn L (f lv) (wr lv)) (hq:Cn L q (dL (dG false))):Cn L (ed L f q) (wr (9:Nat)):=fun s x s1 h hb=>by
 have l9:∀v,wr ((9:Nat):Int) (eK v)=[eP v]:=fun v=>by rw[l5 (show (9:Int)<=lv 1 0 by decide),HE]
 unfold ed at h
 simp only at h
 split at h
 ·rename_i hc
  injection h with h;injection h with e1 e2;subst e1 e2
  rw[l9];exact zH hc
 split at h
 ·rename_i hc
  injection h with h;injection h with e1 e2;subst e1 e2
  rw[l9];exact AU hc 0
 split at h
 ·rename_i hc
  injection h with h;injection h with e1 e2;subst e1 e2
  rw[l9];exact ft hc
 split at h
 ·rename_i hc
  injection h with h;injection h with e1 e2;subst e1 e2
  rw[l9];exact ft hc
 split at h
 ·rename_i hc
  injection h with h;injection h with e1 e2;subst e1 e2
  rw[l9];exact ft hc
 split at h
 ·rename_i hc
  split at h
  ·rename_i hd
   injection h with h;injection h with e1 e2;subst e1 e2
   rw[l5 (show (9:Int)<=lv 2 0 by decide),Cz]
   exact zG ((AU hc 0).app ((rp hd).app (Cs hb 0)))
  ·injection h with h;injection h with e1 e2;subst e1 e2
   rw[l5 (show (9:Int)<=lv 2 0 by decide),Cz]
   exact AU hc 0
 split at h
 ·rename_i hc
  split at h
  ·cases h
  ·rename_i e t ht
   injection h with h;injection h with e1 e2;subst e1 e2
   have hb2:=(Ok.must (L:=L) (s:=t) (c:=cr L t 41) fun h=>bt h).nb hb
   have h1:Su L (wr (1:Nat) e) (s.a+1) t.a:=hf 1 _ _ _ ht hb2
   exact ((rp hc).app ((h1.sub tK).app (iV hb))).sub (HD _ _)
 split at h
 ·rename_i hc
  split at h
  ·cases h
  ·rename_i y t ht
   injection h with h;injection h with e1 e2;subst e1 e2
   have hb2:=(Ok.must (L:=L) (s:=t) (c:=cr L t 41) fun h=>bt h).nb hb
   have hb3:=(okq _ _ _ ht).nb hb2
   rw[l5 (show (9:Int)<=lv 9 0 by decide),Je]
   have h1:Su L (dL (dG false) y) (must (cr L (adv s) 40) (adv s)).a t.a:=hq _ _ _ ht hb2
   exact (ft hc).app ((iV hb3).app (h1.app (iV hb)))
 ·injection h with h;injection h with e1 e2;subst e1 e2
  cases hb
theorem Cn.ors (okf:∀lv,OkM (L:=L) (f lv)) (okq:OkM (L:=L) q) (hf:∀lv:Nat,Cn L (f lv) (wr lv)) (hq:Cn L q (dL (dG false))):Cn L (mM L f) (sq [] (wr 1)):=fun s x s1 h hb=>by
 unfold mM at h
 split at h
 ·cases h
 ·rename_i e t ht
  have hb2:=(OkM.sep (okf 1) _ _ _ _ _ h).nb hb
  have h1:Su L (wr (1:Nat) e) s.a t.a:=hf 1 _ _ _ ht hb2
  refine Cn.sep [] (okf 1) (hf 1) _ _ _ _ _ s.a h hb (by simp) ?_
  rw[yg];exact h1
theorem Cn.inn (okf:∀lv,OkM (L:=L) (f lv)) (okq:OkM (L:=L) q) (hf:∀lv:Nat,Cn L (f lv) (wr lv)) (hq:Cn L q (dL (dG false))) (e:Expr) (n:Bool) (s:PS) (x:Expr) (s1:PS) (a:Nat) (h:vN L f q e n s=some (x,s1)) (hb:s1.b=false) (hs:Su L (wr 5 e++(bA n++[kT 17])) a s.a):Su L (wr (4:Nat) x) a s1.a:=by
 unfold vN at h
 simp only at h
 split at h
 ·split at h
  ·cases h
  ·rename_i y t ht
   injection h with h;injection h with e1 e2;subst e1 e2
   have hb2:=(Ok.must (L:=L) (s:=t) (c:=cr L t 41) fun h=>bt h).nb hb
   have hb3:=(okq _ _ _ ht).nb hb2
   rw[l5 (show (4:Int)<=lv 8 0 by decide),Cy]
   have h1:Su L (dL (dG false) y) (must (cr L s 40) s).a t.a:=hq _ _ _ ht hb2
   have:=hs.app ((iV hb3).app (h1.app (iV hb)))
   simpa [aL,jb,je] using this
 ·split at h
  ·cases h
  ·rename_i l t ht
   injection h with h;injection h with e1 e2;subst e1 e2
   have hb2:=(Ok.must (L:=L) (s:=t) (c:=cr L t 41) fun h=>bt h).nb hb
   have hb3:=(OkM.ors okf _ _ _ ht).nb hb2
   rw[l5 (show (4:Int)<=lv 7 0 by decide),Jd]
   have h1:Su L (sq [] (wr 1) l) (must (cr L s 40) s).a t.a:=Cn.ors okf okq hf hq _ _ _ ht hb2
   have:=hs.app ((iV hb3).app (h1.app (iV hb)))
   simpa [aL,jb,je] using this
theorem Cn.cmpT (okf:∀lv,OkM (L:=L) (f lv)) (okq:OkM (L:=L) q) (hf:∀lv:Nat,Cn L (f lv) (wr lv)) (hq:Cn L q (dL (dG false))) (e:Expr) (s:PS) (x:Expr) (s1:PS) (a:Nat) (h:cmpT L f q e s=some (x,s1)) (hb:s1.b=false) (hs:Su L (wr 5 e) a s.a):Su L (wr (4:Nat) x) a s1.a:=by
 unfold Go.Proofs.YtdmomaomffhidaaGreatDoor.cmpT at h
 simp only at h
 split at h
 ·rename_i hc
  injection h with h;injection h with e1 e2;subst e1 e2
  rw[l5 (show (4:Int)<=lv 5 0 by decide),Jb]
  exact hs.app ((ft hc).app (qG.app (mz hb)))
 ·have hn:Su L (bA (aA L s 15)) s.a (tkIf (aA L s 15) s).a:=qG
  split at h
  ·rename_i hc
   split at h
   ·cases h
   rename_i y t ht
   split at h
   ·cases h
   rename_i z u hu
   injection h with h;injection h with e1 e2;subst e1 e2
   have b2:=(okf 5 _ _ _ hu).nb hb
   have b3:=(Ok.must (L:=L) (s:=t) (c:=aA L t 13) fun h=>aH h).nb b2
   rw[l5 (show (4:Int)<=lv 6 0 by decide),Jc]
   have h1:Su L (wr (5:Nat) y) ((tkIf (aA L s 15) s).a+1) t.a:=hf 5 _ _ _ ht b3
   have h2:Su L (wr (5:Nat) z) (must (aA L t 13) t).a u.a:=hf 5 _ _ _ hu hb
   exact hs.app (hn.app ((ft hc).app (h1.app ((mz b2).app h2))))
  split at h
  ·rename_i hc
   exact Cn.inn okf okq hf hq e _ _ _ _ a h hb (hs.app (hn.app (ft hc)))
  ·injection h with h;injection h with e1 e2;subst e1 e2
   simp only[Bool.or_eq_false_iff] at hb
   have et:tkIf (aA L s 15) s=s:=by rw[hb.2];rfl
   show Su L (wr (4:Nat) e) a (tkIf (aA L s 15) s).a
   rw[et]
   exact hs.sub (uH ah _)
theorem Cn.cmp (okf:∀lv,OkM (L:=L) (f lv)) (okq:OkM (L:=L) q) (hf:∀lv:Nat,Cn L (f lv) (wr lv)) (hq:Cn L q (dL (dG false))):Cn L (lK L f q) (wr (4:Nat)):=fun s x s1 h hb=>by
 unfold lK at h
 split at h
 ·cases h
 ·rename_i e t ht
  split at h
  ·have b2:=(OkM.cmpT okf okq _ _ _ _ h).nb hb
   have h1:Su L (wr (5:Nat) e) s.a t.a:=hf 5 _ _ _ ht b2
   exact Cn.cmpT okf okq hf hq e _ _ _ s.a h hb h1
  ·rename_i ho
   split at h
   ·cases h
   ·rename_i y u hu
    injection h with h;injection h with e1 e2;subst e1 e2
    have b1:=(okf 5 _ _ _ hu).nb hb
    have b2:=(Ok.adv (L:=L) (jm ho)).nb b1
    obtain⟨hh,hm⟩:=pk (L:=L) (s:=t) (l:=gk 4) ho
    have hop:=Ct hm
    have h1:Su L (wr (5:Nat) e) s.a t.a:=hf 5 _ _ _ ht b2
    have h2:Su L [cE (dH L t 4)] t.a (t.a+1):=GG hh hop.2.2
    have h3:Su L (wr (5:Nat) y) (t.a+1) u.a:=hf 5 _ _ _ hu hb
    have hlv:lv 4 (dH L t 4:Nat)=4:=by
     unfold lv
     rw[if_pos rfl];exact hop.1
    have nk:∀k,nd 4 (dH L t 4:Nat) k=5:=fun k=>by
     unfold nd
     rw[hlv,if_neg ah,if_pos rfl,if_pos rfl]
    rw[l5 (show ((4:Nat):Int)<=lC (iS _ _ _) by rw[Cw (show dH L t 4∈gk 4 from hm)];exact Int.le_refl _),Cu,nk,nk]
    exact h1.app (h2.app h3)
theorem Cn.stepE (okf:∀lv,OkM (L:=L) (f lv)) (okq:OkM (L:=L) q) (hf:∀lv:Nat,Cn L (f lv) (wr lv)) (hq:Cn L q (dL (dG false))) (lv:Nat):Cn L (stepE L f q lv) (wr lv):=fun s x s1 h hb=>by
 unfold Go.Proofs.YtdmomaomffhidaaGreatDoor.stepE at h
 split at h
 ·rename_i e3
  subst e3
  split at h
  ·rename_i hc
   split at h
   ·cases h
   ·rename_i y t ht
    injection h with h;injection h with e1 e2;subst e1 e2
    rw[l5 (show (3:Int)<=Go.Proofs.YtdmomaomffhidaaGreatDoor.lv 3 15 by decide),GH]
    have h1:Su L (wr (3:Nat) y) (s.a+1) t.a:=hf 3 _ _ _ ht hb
    have h2:Su L [cE 15] s.a (s.a+1):=ft hc
    exact h2.app h1
  ·exact (hf 4 _ _ _ h hb).sub (uH ah _)
 split at h
 ·rename_i e4
  subst e4
  exact Cn.cmp okf okq hf hq _ _ _ h hb
 rename_i n3 n4
 split at h
 ·rename_i e8
  subst e8
  split at h
  ·rename_i hc
   split at h
   ·cases h
   ·rename_i y t ht
    injection h with h;injection h with e1 e2;subst e1 e2
    rw[l5 (show (8:Int)<=Go.Proofs.YtdmomaomffhidaaGreatDoor.lv 3 16 by decide),GH]
    have h1:Su L (wr (8:Nat) y) (s.a+1) t.a:=hf 8 _ _ _ ht hb
    have h2:Su L [cE 16] s.a (s.a+1):=rp hc
    exact h2.app h1
  ·exact (hf 9 _ _ _ h hb).sub (uH ah _)
 split at h
 ·rename_i e9
  subst e9
  exact Cn.prim okf okq hf hq _ _ _ h hb
 ·split at h
  ·cases h
  ·rename_i e t ht
   have b2:=(OkM.chain (okf _) lv _ _ _ _ _ h).nb hb
   have h1:Su L (wr (lv+1:Nat) e) s.a t.a:=hf (lv+1) _ _ _ ht b2
   exact Cn.chain n4 (okf _) (hf (lv+1)) _ _ _ _ _ s.a h hb (h1.sub (uH aa _))
theorem Cn.item (okf:∀lv,OkM (L:=L) (f lv)) (okq:OkM (L:=L) q) (hf:∀lv:Nat,Cn L (f lv) (wr lv)) (hq:Cn L q (dL (dG false))):Cn L (eL L f) (cH (dG false)):=fun s x s1 h hb=>by
 unfold eL at h
 split at h
 ·rename_i hc
  injection h with h;injection h with e1 e2;subst e1 e2
  exact rp hc
 split at h
 ·rename_i hc
  injection h with h;injection h with e1 e2;subst e1 e2
  obtain⟨a1,a2,a3⟩:=wg hc
  have h2:Su L [IU] (s.a+1) (s.a+1+1):=Cr a2 0
  have h3:Su L [DE] (s.a+1+1) (s.a+1+1+1):=Cr (j:=2) a3 0
  exact zG ((AU a1 0).app (h2.app h3))
 split at h
 ·cases h
 ·rename_i e t ht
  injection h with h;injection h with e1 e2;subst e1 e2
  have b2:=(Ok.asM (L:=L) t).nb hb
  have h1:Su L (wr (1:Nat) e) s.a t.a:=hf 1 _ _ _ ht b2
  exact (h1.sub tK).app (GJ hb)
theorem yh {s:PS} (h:(sourceM L s).2.b=false):Su L ([nT (mText L 2 s).1]++cP (asM L (mText L 2 s).2).1) s.a (sourceM L s).2.a:=by
 have h1:(asM L (mText L 2 s).2).2.b=false:=h
 have b2:=(Ok.asM (L:=L) (mText L 2 s).2).nb h1
 exact (Cs b2 0).app (GJ h1)
theorem pm {g:Expr->List Tok} {l:List Source} (x:Source):bf (dO g (l++[x])) (l++[x]).length=bf (dO g l) l.length++fK g l.length x:=by
 rw[aD,List.length_singleton,dd]
 have e1:bf (dO g (l++[x])) l.length=bf (dO g l) l.length:=jp fun i hi=>by
  unfold dO qz
  rw[List.getElem?_append_left hi]
 have e2:dO g (l++[x]) l.length=fK g l.length x:=by
  unfold dO qz
  rw[List.getElem?_append_right (Nat.le_refl _),Nat.sub_self];rfl
 rw[e1,e2]
theorem Cn.sources (okf:∀lv,OkM (L:=L) (f lv)) (okq:OkM (L:=L) q) (hf:∀lv:Nat,Cn L (f lv) (wr lv)) (hq:Cn L q (dL (dG false))):∀(n:Nat) (l:List Source) (s:PS) (x:List Source) (s1:PS) (a:Nat),bW L f n l s=some (x,s1)->s1.b=false->l≠[]->Su L (bf (dO (dG false) l) l.length) a s.a->Su L (bf (dO (dG false) x) x.length) a s1.a
 |0,_,_,_,_,_,h,_,_,_=>by cases h
 |n+1,l,s,x,s1,a,h,hb,hl,hs=>by
  have hp:0<l.length:=List.length_pos_iff.2 hl
  rw[bW] at h
  simp only at h
  split at h
  ·rename_i hc
   have b1:=(OkM.sources okf _ _ _ _ _ h).nb hb
   refine Cn.sources okf okq hf hq n _ _ _ _ a h hb (by simp) ?_
   rw[pm]
   have e:fK (dG false) l.length (sourceM L (adv s)).1=[dM]++([nT (mText L 2 (adv s)).1]++cP (asM L (mText L 2 (adv s)).2).1):=by
    show (if 0<l.length then (if 0<([]:List Expr).length then [kT 4] else [dM]) else [])++(nT _::(cP _++[]))=_
    rw[if_pos hp,if_neg (by simp),List.append_nil];rfl
   rw[e]
   have h1:Su L [dM] s.a (s.a+1):=rp hc
   have h2:Su L ([nT (mText L 2 (adv s)).1]++cP (asM L (mText L 2 (adv s)).2).1) (s.a+1) (sourceM L (adv s)).2.a:=yh b1
   exact hs.app (h1.app h2)
  split at h
  ·rename_i hc
   split at h
   ·cases h
   ·rename_i y t ht
    have b1:=(OkM.sources okf _ _ _ _ _ h).nb hb
    have b2:=(okf 1 _ _ _ ht).nb b1
    have b3:=(Ok.must (L:=L) (s:=(sourceM L (adv s)).2) (c:=aA L (sourceM L (adv s)).2 5) fun h=>aH h).nb b2
    refine Cn.sources okf okq hf hq n _ _ _ _ a h hb (by simp) ?_
    rw[pm]
    have e:fK (dG false) l.length ((sourceM L (adv s)).1.withOn [y])=[kT 4]++(([nT (mText L 2 (adv s)).1]++cP (asM L (mText L 2 (adv s)).2).1)++([kT 5]++dG false y)):=by
     show (if 0<l.length then (if 0 < [y].length then [kT 4] else [dM]) else [])++(nT _::(cP _++(kT 5::dG false y)))=_
     rw[if_pos hp,if_pos (by simp)];rfl
    rw[e]
    have h1:Su L [kT 4] s.a (s.a+1):=ft hc
    have h2:Su L ([nT (mText L 2 (adv s)).1]++cP (asM L (mText L 2 (adv s)).2).1) (s.a+1) (sourceM L (adv s)).2.a:=yh b3
    have h3:Su L (wr (1:Nat) y) (must (aA L (sourceM L (adv s)).2 5) (sourceM L (adv s)).2).a t.a:=hf 1 _ _ _ ht b1
    exact hs.app (h1.app (h2.app ((mz b2).app (h3.sub tK))))
  ·injection h with h;injection h with e1 e2
   rw[<-e1,<-e2];exact hs
theorem Cn.wher (okf:∀lv,OkM (L:=L) (f lv)) (okq:OkM (L:=L) q) (hf:∀lv:Nat,Cn L (f lv) (wr lv)) (hq:Cn L q (dL (dG false))):Cn L (f4 L f) (nS (dG false)):=fun s x s1 h hb=>by
 unfold f4 at h
 split at h
 ·rename_i hc
  split at h
  ·cases h
  ·rename_i y t ht
   injection h with h;injection h with e1 e2;subst e1 e2
   have h1:Su L (wr (1:Nat) y) (s.a+1) t.a:=hf 1 _ _ _ ht hb
   exact (ft hc).app (h1.sub tK)
 ·injection h with h;injection h with e1 e2;subst e1 e2
  exact Su.nil (Nat.le_refl _)
theorem Cn.sort (okf:∀lv,OkM (L:=L) (f lv)) (okq:OkM (L:=L) q) (hf:∀lv:Nat,Cn L (f lv) (wr lv)) (hq:Cn L q (dL (dG false))):Cn L (fe L f) (j3 (dG false)):=fun s x s1 h hb=>by
 unfold fe at h
 split at h
 ·cases h
 ·rename_i y t ht
  split at h
  ·rename_i hc
   injection h with h;injection h with e1 e2;subst e1 e2
   have b2:=(Ok.adv (L:=L) (aH hc)).nb hb
   have h1:Su L (wr (1:Nat) y) s.a t.a:=hf 1 _ _ _ ht b2
   exact (h1.sub tK).app (Su.nil (Nat.le_succ _))
  ·injection h with h;injection h with e1 e2;subst e1 e2
   have b2:=(Ok.tkIf (L:=L) (s:=t) (c:=aA L t 10) fun h=>aH h).nb hb
   have h1:Su L (wr (1:Nat) y) s.a t.a:=hf 1 _ _ _ ht b2
   exact (h1.sub tK).app qG
theorem Cn.order (okf:∀lv,OkM (L:=L) (f lv)) (okq:OkM (L:=L) q) (hf:∀lv:Nat,Cn L (f lv) (wr lv)) (hq:Cn L q (dL (dG false))):Cn L (f5 L f) (fun od=>bf (eU (dG false) od) od.length):=fun s x s1 h hb=>by
 unfold f5 at h
 simp only at h
 split at h
 ·rename_i hc
  split at h
  ·cases h
  ·rename_i y t ht
   have b1:=(OkM.sep (OkM.sort okf) _ _ _ _ _ h).nb hb
   have b2:=(OkM.sort okf _ _ _ ht).nb b1
   refine Cn.sep [kT 7,kT 8] (OkM.sort okf) (Cn.sort okf okq hf hq) _ _ _ _ _ s.a h hb (by simp) ?_
   rw[yg]
   have h1:Su L ([kT 7]++[kT 8]) s.a (must (aA L (adv s) 8) (adv s)).a:=(ft hc).app (mz b2)
   exact h1.app (Cn.sort okf okq hf hq _ _ _ ht b1)
 ·injection h with h;injection h with e1 e2;subst e1 e2
  exact Su.nil (Nat.le_refl _)
theorem CB {s:PS} (h:(limitM L s).2.b=false):Su L (jg (limitM L s).1) s.a (limitM L s).2.a:=by
 unfold limitM at h ⊢
 split
 ·rename_i hc
  rw[if_pos hc] at h
  have h0:(mText L 3 (adv s)).2.b=false:=h
  obtain⟨h1,h2⟩:=wj h0
  have e:mNum L (adv s)=(jB (bP L (adv s)),adv (adv s)):=by unfold mNum;rw[h2]
  rw[e]
  have h3:Su L ([kT 11]++[iT (jB (bP L (adv s)))]) s.a (s.a+1+1):=(ft hc).app (zH h1)
  unfold jg
  split
  ·exact h3
  ·exact Su.nil h3.1
 ·exact Su.nil (Nat.le_refl _)
theorem Cn.items (okf:∀lv,OkM (L:=L) (f lv)) (okq:OkM (L:=L) q) (hf:∀lv:Nat,Cn L (f lv) (wr lv)) (hq:Cn L q (dL (dG false))):Cn L (fk L f) (fun it=>bf (dk (dG false) it) it.length):=fun s x s1 h hb=>by
 unfold fk at h
 split at h
 ·cases h
 ·rename_i y t ht
  have b1:=(OkM.sep (OkM.item okf) _ _ _ _ _ h).nb hb
  have e:∀it,bf (dk (dG false) it) it.length=sq [] (cH (dG false)) it:=fun it=>jp fun i _=>by
   unfold dk kg
   by_cases h0:i=0
   ·rw[if_neg aa,if_pos h0]
   ·rw[if_pos aa,if_neg h0]
  simp only[e]
  refine Cn.sep [] (OkM.item okf) (Cn.item okf okq hf hq) _ _ _ _ _ s.a h hb (by simp) ?_
  rw[yg]
  exact Cn.item okf okq hf hq _ _ _ ht b1
theorem Cn.stepQ (okf:∀lv,OkM (L:=L) (f lv)) (okq:OkM (L:=L) q) (hf:∀lv:Nat,Cn L (f lv) (wr lv)) (hq:Cn L q (dL (dG false))):Cn L (stepQ L f) (dL (dG false)):=fun s x s1 h hb=>by
 unfold Go.Proofs.YtdmomaomffhidaaGreatDoor.stepQ at h
 simp only at h
 split at h
 ·cases h
 rename_i its s2 hi
 split at h
 ·cases h
 rename_i frs s4 hfr
 split at h
 ·cases h
 rename_i wh s5 hw
 split at h
 ·cases h
 rename_i od s6 ho
 injection h with h;injection h with e1 e2;subst e1 e2
 have b6:=(Ok.limitM (L:=L) s6).nb hb
 have b5:=(OkM.order okf _ _ _ ho).nb b6
 have b4:=(OkM.wher okf _ _ _ hw).nb b5
 have b3:=(OkM.sources okf _ _ _ _ _ hfr).nb b4
 have b3':=(Ok.sourceM (L:=L) (must (aA L s2 3) s2)).nb b3
 have b2:=(Ok.must (L:=L) (s:=s2) (c:=aA L s2 3) fun h=>aH h).nb b3'
 have b1:=(OkM.items okf _ _ _ hi).nb b2
 have b0:=(Ok.tkIf (L:=L) (s:=must (aA L s 1) s) (c:=aA L (must (aA L s 1) s) 2) fun h=>aH h).nb b1
 have hs0:Su L (bf (dO (dG false) [(sourceM L (must (aA L s2 3) s2)).1]) 1) (must (aA L s2 3) s2).a (sourceM L (must (aA L s2 3) s2)).2.a:=by
  have e:bf (dO (dG false) [(sourceM L (must (aA L s2 3) s2)).1]) 1=[nT (mText L 2 (must (aA L s2 3) s2)).1]++cP (asM L (mText L 2 (must (aA L s2 3) s2)).2).1:=by
   have:=pm (g:=dG false) (l:=[]) (sourceM L (must (aA L s2 3) s2)).1
   rw[List.nil_append,List.length_singleton] at this
   rw[this]
   show []++((if 0<0 then (if 0<([]:List Expr).length then [kT 4] else [dM]) else [])++(nT _::(cP _++[])))=_
   rw[if_neg aa,List.append_nil];rfl
  rw[e];exact yh b3
 have h3:=Cn.sources okf okq hf hq _ _ _ _ _ _ hfr b4 (by simp) hs0
 exact (mz b0).app (qG.app ((Cn.items okf okq hf hq _ _ _ hi b2).app ((mz b3').app (h3.app ((Cn.wher okf okq hf hq _ _ _ hw b5).app ((Cn.order okf okq hf hq _ _ _ ho b6).app (CB hb)))))))
theorem wk:∀n:Nat,(∀lv:Nat,Cn L ((pP L n).1 lv) (wr lv))/\Cn L (pP L n).2 (dL (dG false))
 |0=>⟨fun _ _ _ _ h=>(by cases h),fun _ _ _ h=>(by cases h)⟩
 |n+1=>⟨fun lv=>Cn.stepE (lM n).1 (lM n).2 (wk n).1 (wk n).2 lv,Cn.stepQ (lM n).1 (lM n).2 (wk n).1 (wk n).2⟩
end
theorem HF {L l:List Tok} {a:Nat} (h:Su L l 0 a):(l.map kt).Sublist (L.map kt):=by
 refine h.2.trans (List.Sublist.map kt ?_)
 unfold HA
 rw[List.drop_zero]
 exact List.take_sublist _ _
theorem CC {α:Type} {L:List Tok} {z:α} {m:Option (α×PS)} {pr:α->List Tok} (hz:m≠none) (hm:∀x s1,m=some (x,s1)->s1.b=false->Su L (pr x) 0 s1.a) (h:(jo L z m).2 = -1):((pr (jo L z m).1).map kt).Sublist (L.map kt):=by
 cases m with
 |none=>exact absurd rfl hz
 |some y=>
  obtain⟨x,s⟩:=y
  unfold jo at h ⊢
  simp only at h ⊢
  by_cases h0:0<=nY L s
  ·rw[if_pos h0] at h;simp only at h;omega
  ·rw[if_neg h0]
   have hb:s.b=false:=by
    unfold nY at h0
    split at h0
    ·rename_i hc;exact hc.1
    ·exact absurd aa h0
   exact HF (hm x s rfl hb)
theorem AV {L:List Tok} (h:(cy L).2 = -1):((dL (dG false) (cy L).1).map kt).Sublist (L.map kt):=by
 have hp:=wk (L:=L) (pD L)
 refine CC (pr:=dL (dG false)) (fun e=>?_) (fun x s1 hx hb=>?_) h
 ·obtain⟨x,s,hx⟩:=mw (L:=L) s0
  rw[e] at hx;cases hx
 ·exact hp.2 _ _ _ hx hb
end Go.Proofs.YtdmomaomffhidaaGreatDoor
