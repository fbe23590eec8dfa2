/-
  Sizes of what is read.
  Conditions: none.
-/
import Derived.Test.YtdmomaomffhidaaGreatDoorFPB1
set_option linter.unusedVariables false
set_option linter.unusedSimpArgs false
set_option linter.unusedSectionVars false
set_option linter.unnecessarySimpa false
set_option maxRecDepth 8000
namespace Go.Proofs.YtdmomaomffhidaaGreatDoor
open Go Go.Dv
open Go.Vc (D cU cV cF b0)
section
variable {L:List Tok}
def Wt {α:Type} (m:PM α) (w:α->Nat) (c:Nat):Prop:=∀s x s',m s=some (x,s')->w x+64*s.a<=c+64*s'.a
theorem dJ (s:PS):(adv s).a=s.a+1:=rfl
theorem JG (s:PS):(fl s).a=s.a:=rfl
theorem gZ (c:Bool) (s:PS):s.a<=(must c s).a:=by unfold must;split<;>simp [adv,fl]
theorem uV (c:Bool) (s:PS):s.a<=(tkIf c s).a:=by unfold tkIf;split<;>simp [adv]
theorem FT (k:Int) (s:PS):s.a<=(mText L k s).2.a:=by unfold mText;split<;>simp [adv,fl]
theorem DF (s:PS):s.a<=(limitM L s).2.a:=by
 unfold limitM
 split
 ·have:=FT (L:=L) 3 (adv s);rw[dJ] at this;show s.a<=(mText L 3 (adv s)).2.a;omega
 ·exact Nat.le_refl _
variable {f:Nat->PM Expr} {q:PM Query}
end
section
variable {L:List Tok}
def lU {α:Type} (f:α->Nat) (x:α):Nat:=f x+1
theorem pq {α:Type} (f:α->Nat):∀l:List α,l.length+(l.map f).sum=fT (lU f) l
 | []=>rfl
 |x::r=>by
  have:=pq f r
  simp only[List.length_cons,List.map_cons,List.sum_cons,fT,lU] at *
  omega
theorem uW (l:List Expr):bI l=fT (lU szExpr) l:=by rw[aO];exact pq _ l
theorem FU (l:List Query):cJ l=fT (lU szQuery) l:=by rw[bJ];exact pq _ l
theorem dH (k o:Int) (n:Bool) (v:Val) (ql nm:ByteArray) (ks:List Expr) (ss:List Query):szExpr (.mk k o n v ql nm ks ss)=v.text.size+ql.size+nm.size+fT (lU szExpr) ks+fT (lU szQuery) ss:=by
 rw[bb,uW,FU]
 show v.text.size+_=_
 omega
theorem yL (b:Bool) (ql:ByteArray) (e:Expr) (a:ByteArray):iG (.mk b ql e a)=ql.size+szExpr e+a.size:=by rw[jw];omega
theorem Ah (tb a:ByteArray) (on:List Expr):cD (.mk tb a on)=tb.size+a.size+fT (lU szExpr) on:=by rw[dk,uW];omega
theorem I4 (d:Bool) (it:List Item) (fr:List Source) (wh:List Expr) (od:List SortKey) (li:Int):szQuery (.mk d it fr wh od li)=fT (lU iG) it+fT (lU cD) fr+fT (lU szExpr) wh+fT (lU dZ) od:=by
 rw[dt,uW,dM,pq,d4,pq,cI,pq];omega
theorem d6:(⟨#[]⟩:ByteArray).size=0:=rfl
theorem yM (h40:∀t∈L,t.text.size<=40) (s:PS):(cK L s).size<=40:=by
 unfold cK
 cases h:ki L s 0 with
 |none=>exact Nat.zero_le _
 |some t=>
  unfold ki at h
  split at h
  ·cases h
  ·exact h40 t (List.mem_of_getElem? h)
theorem uX (h40:∀t∈L,t.text.size<=40) (k:Int) (s:PS):(mText L k s).1.size<=40/\(mText L k s).1.size+64*s.a<=64*(mText L k s).2.a:=by
 have:=yM h40 s
 unfold mText
 split
 ·exact⟨this,by simp only[adv];omega⟩
 ·exact⟨Nat.zero_le _,by show (0:Nat)+_<=_;simp [fl]⟩
theorem GK (h40:∀t∈L,t.text.size<=40) (s:PS):(asM L s).1.size+64*s.a<=64*(asM L s).2.a:=by
 unfold asM
 split
 ·have:=(uX h40 2 (adv s)).2;rw[dJ] at this;omega
 ·show (0:Nat)+64*s.a<=64*s.a;omega
theorem xj (h40:∀t∈L,t.text.size<=40) (s:PS):cD (sourceM L s).1+64*s.a<=64*(sourceM L s).2.a:=by
 have h1:=(uX h40 2 s).2
 have h2:=GK h40 (mText L 2 s).2
 unfold sourceM
 rw[Ah]
 simp only[fT]
 omega
theorem Bz (x:Source) (e:Expr) (h:∃a b,x = .mk a b []):cD (x.withOn [e])=cD x+szExpr e+1:=by
 obtain⟨a,b,rfl⟩:=h
 simp only[Source.withOn,Ah,fT,lU]
 omega
theorem Wt.up {α:Type} {m:PM α} {w:α->Nat} {c:Nat} (h:Wt m w c):Wt m (lU w) (c+1):=fun s x s' hx=>by
 have:=h _ _ _ hx
 show w x+1+_<=_
 omega
variable {f:Nat->PM Expr} {q:PM Query}
theorem Wz.chain {g:PM Expr} (hg:Wt g szExpr 8) (lv:Nat):∀(n:Nat) (e:Expr) (s:PS) (x:Expr) (s':PS),cx L g lv n e s=some (x,s')->szExpr x+64*s.a<=szExpr e+64*s'.a
 |0,_,_,_,_,h=>by cases h
 |n+1,e,s,x,s',h=>by
  rw[cx] at h
  split at h
  ·injection h with h;injection h with hx h;subst hx h;exact Nat.le_refl _
  ·split at h
   ·cases h
   ·rename_i y s1 h1
    have a1:=hg _ _ _ h1
    have a2:=Wz.chain hg lv n _ _ _ _ h
    (try simp only[km,dH,fT,lU,dJ,zVal,z0,d6] at *);omega
theorem Wz.sep {α:Type} {g:PM α} {w:α->Nat} {c:Nat} (hc:c<=64) (hg:Wt g w c):∀(n:Nat) (l:List α) (s:PS) (x:List α) (s':PS),iI L g n l s=some (x,s')->fT w x+64*s.a<=fT w l+64*s'.a
 |0,_,_,_,_,h=>by cases h
 |n+1,l,s,x,s',h=>by
  rw[iI] at h
  split at h
  ·split at h
   ·cases h
   ·rename_i y s1 h1
    have a1:=hg _ _ _ h1
    have a2:=Wz.sep hc hg n _ _ _ _ h
    (try simp only[fT,qn,dJ] at *);omega
  ·injection h with h;injection h with hx h;subst hx h;exact Nat.le_refl _
theorem Wz.ors (hf:∀lv,Wt (f lv) szExpr 8):Wt (nJ L f) (fT (lU szExpr)) 9:=fun s x s' h=>by
 unfold nJ at h
 split at h
 ·cases h
 ·rename_i y s1 h1
  have a1:=hf 1 _ _ _ h1
  have a2:=Wz.sep aa (Wt.up (hf 1)) _ _ _ _ _ h
  (try simp only[fT,lU] at *);omega
theorem Wz.inn (hf:∀lv,Wt (f lv) szExpr 8) (hq:Wt q szQuery 15) (e:Expr) (n:Bool) (s:PS) (x:Expr) (s':PS) (h:xX L f q e n s=some (x,s')):szExpr x+64*s.a<=szExpr e+40+64*s'.a:=by
 unfold xX at h
 simp only at h
 have m1:=gZ (cO L s 40) s
 split at h
 ·split at h
  ·cases h
  ·rename_i y s1 h1
   injection h with h;injection h with hx h;subst hx h
   have a1:=hq _ _ _ h1
   have m2:=gZ (cO L s1 41) s1
   (try simp only[dE,dH,fT,lU,zVal,z0,d6] at *);omega
 ·split at h
  ·cases h
  ·rename_i y s1 h1
   injection h with h;injection h with hx h;subst hx h
   have a1:=Wz.ors hf _ _ _ h1
   have m2:=gZ (cO L s1 41) s1
   (try simp only[dE,dH,fT,lU,zVal,z0,d6] at *);omega
theorem Wz.cmpT (hf:∀lv,Wt (f lv) szExpr 8) (hq:Wt q szQuery 15) (e:Expr) (s:PS) (x:Expr) (s':PS) (h:cmpT L f q e s=some (x,s')):szExpr x+64*s.a<=szExpr e+64*s'.a:=by
 unfold Go.Proofs.YtdmomaomffhidaaGreatDoor.cmpT at h
 simp only at h
 split at h
 ·injection h with h;injection h with hx h;subst hx h
  have m1:=uV (aG L (adv s) 15) (adv s)
  have m2:=gZ (aG L (tkIf (aG L (adv s) 15) (adv s)) 20) (tkIf (aG L (adv s) 15) (adv s))
  (try simp only[dE,dH,fT,lU,dJ,zVal,z0,d6] at *);omega
 ·have m0:=uV (aG L s 15) s
  split at h
  ·split at h
   ·cases h
   ·rename_i y s1 h1
    split at h
    ·cases h
    ·rename_i z s2 h2
     injection h with h;injection h with hx h;subst hx h
     have a1:=hf 5 _ _ _ h1
     have a2:=hf 5 _ _ _ h2
     have m2:=gZ (aG L s1 13) s1
     (try simp only[dE,dH,fT,lU,dJ,zVal,z0,d6] at *);omega
  ·split at h
   ·have a1:=Wz.inn hf hq e _ _ _ _ h
    (try simp only[dJ] at *);omega
   ·injection h with h;injection h with hx h;subst hx h
    show szExpr e+64*s.a<=szExpr e+64*(tkIf (aG L s 15) s).a
    omega
theorem Wz.cmp (hf:∀lv,Wt (f lv) szExpr 8) (hq:Wt q szQuery 15):Wt (mK L f q) szExpr 8:=fun s x s' h=>by
 unfold mK at h
 split at h
 ·cases h
 ·rename_i y s1 h1
  have a1:=hf 5 _ _ _ h1
  split at h
  ·have a2:=Wz.cmpT hf hq _ _ _ _ h
   omega
  ·split at h
   ·cases h
   ·rename_i z s2 h2
    injection h with h;injection h with hx h;subst hx h
    have a2:=hf 5 _ _ _ h2
    (try simp only[km,dH,fT,lU,dJ,zVal,z0,d6] at *);omega
theorem Wz.prim (h40:∀t∈L,t.text.size<=40) (hf:∀lv,Wt (f lv) szExpr 8) (hq:Wt q szQuery 15):Wt (eG L f q) szExpr 8:=fun s x s' h=>by
 have x40:=yM h40 s
 unfold eG at h
 simp only at h
 split at h
 ·injection h with h;injection h with hx h;subst hx h;(try simp only[f8,dH,fT,dJ,z0,d6] at *);omega
 split at h
 ·injection h with h;injection h with hx h;subst hx h;(try simp only[f8,dH,fT,dJ,z0,d6] at *);omega
 split at h
 ·injection h with h;injection h with hx h;subst hx h;(try simp only[f8,dH,fT,dJ,zVal,z0,d6] at *);omega
 split at h
 ·injection h with h;injection h with hx h;subst hx h;(try simp only[f8,dH,fT,dJ,z0,d6] at *);omega
 split at h
 ·injection h with h;injection h with hx h;subst hx h;(try simp only[f8,dH,fT,dJ,z0,d6] at *);omega
 split at h
 ·split at h
  ·injection h with h;injection h with hx h;subst hx h
   have m1:=(uX h40 2 (adv (adv s))).2
   (try simp only[sC,dH,fT,dJ,zVal,d6] at *);omega
  ·injection h with h;injection h with hx h;subst hx h;(try simp only[sC,dH,fT,dJ,zVal,z0,d6] at *);omega
 split at h
 ·split at h
  ·cases h
  ·rename_i y s1 h1
   injection h with h;injection h with hx h;subst hx h
   have a1:=hf 1 _ _ _ h1
   have m1:=gZ (cO L s1 41) s1
   (try simp only[dJ] at *);omega
 split at h
 ·split at h
  ·cases h
  ·rename_i y s1 h1
   injection h with h;injection h with hx h;subst hx h
   have a1:=hq _ _ _ h1
   have m1:=gZ (cO L (adv s) 40) (adv s)
   have m2:=gZ (cO L s1 41) s1
   (try simp only[dE,dH,fT,lU,dJ,zVal,z0,d6] at *);omega
 ·injection h with h;injection h with hx h;subst hx h;(try simp only[zExpr,dH,fT,JG,zVal,z0,d6] at *);omega
theorem Wz.stepE (h40:∀t∈L,t.text.size<=40) (hf:∀lv,Wt (f lv) szExpr 8) (hq:Wt q szQuery 15) (lv:Nat):Wt (stepE L f q lv) szExpr 8:=fun s x s' h=>by
 unfold Go.Proofs.YtdmomaomffhidaaGreatDoor.stepE at h
 split at h
 ·split at h
  ·split at h
   ·cases h
   ·rename_i y s1 h1
    injection h with h;injection h with hx h;subst hx h
    have a1:=hf 3 _ _ _ h1
    (try simp only[pE,dH,fT,lU,dJ,zVal,z0,d6] at *);omega
  ·exact hf 4 _ _ _ h
 split at h
 ·exact Wz.cmp hf hq _ _ _ h
 split at h
 ·split at h
  ·split at h
   ·cases h
   ·rename_i y s1 h1
    injection h with h;injection h with hx h;subst hx h
    have a1:=hf 8 _ _ _ h1
    (try simp only[pE,dH,fT,lU,dJ,zVal,z0,d6] at *);omega
  ·exact hf 9 _ _ _ h
 split at h
 ·exact Wz.prim h40 hf hq _ _ _ h
 ·split at h
  ·cases h
  ·rename_i y s1 h1
   have a1:=hf _ _ _ _ h1
   have a2:=Wz.chain (hf _) lv _ _ _ _ _ h
   omega
theorem Wz.item (h40:∀t∈L,t.text.size<=40) (hf:∀lv,Wt (f lv) szExpr 8):Wt (f9 L f) iG 11:=fun s x s' h=>by
 have x40:=yM h40 s
 unfold f9 at h
 split at h
 ·injection h with h;injection h with hx h;subst hx h
  (try simp only[zExpr,dH,yL,fT,dJ,zVal,z0,d6] at *);omega
 split at h
 ·injection h with h;injection h with hx h;subst hx h
  (try simp only[zExpr,dH,yL,fT,dJ,zVal,z0,d6] at *);omega
 split at h
 ·cases h
 ·rename_i y s1' h1
  injection h with h;injection h with hx h;subst hx h
  have a1:=hf 1 _ _ _ h1
  have m1:=GK h40 s1'
  rw[yL]
  show (0:Nat)+_+_+_<=_
  omega
theorem Wz.sources (h40:∀t∈L,t.text.size<=40) (hf:∀lv,Wt (f lv) szExpr 8):∀(n:Nat) (l:List Source) (s:PS) (x:List Source) (s':PS),cy L f n l s=some (x,s')->fT (lU cD) x+64*s.a<=fT (lU cD) l+64*s'.a
 |0,_,_,_,_,h=>by cases h
 |n+1,l,s,x,s',h=>by
  rw[cy] at h
  have m1:=xj h40 (adv s)
  split at h
  ·have a2:=Wz.sources h40 hf n _ _ _ _ h
   (try simp only[fT,qn,lU,dJ] at *);omega
  simp only at h
  split at h
  ·split at h
   ·cases h
   ·rename_i y s1 h1
    have a1:=hf 1 _ _ _ h1
    have m2:=gZ (aG L (sourceM L (adv s)).2 5) (sourceM L (adv s)).2
    have a2:=Wz.sources h40 hf n _ _ _ _ h
    have w2:=Bz (sourceM L (adv s)).1 y ⟨_,_,rfl⟩
    (try simp only[fT,qn,lU,dJ] at *);omega
  ·injection h with h;injection h with hx h;subst hx h;exact Nat.le_refl _
theorem Wz.wher (hf:∀lv,Wt (f lv) szExpr 8):Wt (fD L f) (fT (lU szExpr)) 0:=fun s x s' h=>by
 unfold fD at h
 split at h
 ·split at h
  ·cases h
  ·rename_i y s1 h1
   injection h with h;injection h with hx h;subst hx h
   have a1:=hf 1 _ _ _ h1
   (try simp only[fT,lU,dJ] at *);omega
 ·injection h with h;injection h with hx h;subst hx h;(try simp only[fT] at *);omega
theorem tQ (e:Expr) (d:Bool):dZ (.mk e d)=szExpr e:=ii e d
theorem Wz.sort (hf:∀lv,Wt (f lv) szExpr 8):Wt (fE L f) dZ 9:=fun s x s' h=>by
 unfold fE at h
 split at h
 ·cases h
 ·rename_i y s1 h1
  have a1:=hf 1 _ _ _ h1
  split at h
  ·injection h with h;injection h with hx h;subst hx h
   rw[tQ,dJ]
   omega
  ·injection h with h;injection h with hx h;subst hx h
   have m1:=uV (aG L s1 10) s1
   rw[tQ]
   omega
theorem Wz.order (hf:∀lv,Wt (f lv) szExpr 8):Wt (fF L f) (fT (lU dZ)) 0:=fun s x s' h=>by
 unfold fF at h
 simp only at h
 split at h
 ·split at h
  ·cases h
  ·rename_i y s1 h1
   have m1:=gZ (aG L (adv s) 8) (adv s)
   have a1:=Wz.sort hf _ _ _ h1
   have a2:=Wz.sep aa (Wt.up (Wz.sort hf)) _ _ _ _ _ h
   (try simp only[fT,lU,dJ] at *);omega
 ·injection h with h;injection h with hx h;subst hx h;(try simp only[fT] at *);omega
theorem Wz.items (h40:∀t∈L,t.text.size<=40) (hf:∀lv,Wt (f lv) szExpr 8):Wt (ga L f) (fT (lU iG)) 12:=fun s x s' h=>by
 unfold ga at h
 split at h
 ·cases h
 ·rename_i y s1 h1
  have a1:=Wz.item h40 hf _ _ _ h1
  have a2:=Wz.sep aa (Wt.up (Wz.item h40 hf)) _ _ _ _ _ h
  (try simp only[fT,lU] at *);omega
theorem Wz.stepQ (h40:∀t∈L,t.text.size<=40) (hf:∀lv,Wt (f lv) szExpr 8):Wt (stepQ L f) szQuery 15:=fun s x s' h=>by
 unfold Go.Proofs.YtdmomaomffhidaaGreatDoor.stepQ at h
 simp only at h
 split at h
 ·cases h
 rename_i its s2 h1
 split at h
 ·cases h
 rename_i frs s4 h2
 split at h
 ·cases h
 rename_i wh s5 h3
 split at h
 ·cases h
 rename_i od s6 h4
 injection h with h;injection h with hx h;subst hx h
 have m1:=gZ (aG L s 1) s
 have m2:=uV (aG L (must (aG L s 1) s) 2) (must (aG L s 1) s)
 have a1:=Wz.items h40 hf _ _ _ h1
 have m3:=gZ (aG L s2 3) s2
 have m4:=xj h40 (must (aG L s2 3) s2)
 have a2:=Wz.sources h40 hf _ _ _ _ _ h2
 have a3:=Wz.wher hf _ _ _ h3
 have a4:=Wz.order hf _ _ _ h4
 have m5:=DF (L:=L) s6
 (try simp only[I4,fT,lU] at *);omega
theorem Ai (h40:∀t∈L,t.text.size<=40):∀k,(∀lv,Wt ((pP L k).1 lv) szExpr 8)/\Wt (pP L k).2 szQuery 15
 |0=>⟨fun _ _ _ _ h=>(by cases h),fun _ _ _ h=>(by cases h)⟩
 |k+1=>⟨fun lv=>Wz.stepE h40 (Ai h40 k).1 (Ai h40 k).2 lv,Wz.stepQ h40 (Ai h40 k).1⟩
theorem DH (h40:∀t∈L,t.text.size<=40) (hL:L.length<=2000):szExpr (cX L).1<=200000:=by
 have hz:szExpr zExpr<=200000:=by rw[zExpr,dH];exact (by decide:0+0+0+0+0<=200000)
 unfold cX
 cases h:bD L 1 s0 with
 |none=>exact hz
 |some p=>
  obtain⟨x,s⟩:=p
  have h1:=(Ai h40 (pD L)).1 1 _ _ _ h
  have h2:=(nL (L:=L) 1 _ _ _ h).2.1 (Nat.zero_le _)
  unfold ly
  simp only
  split
  ·exact hz
  ·show szExpr x<=_
   omega
end
theorem J2 {t:Tok} (h:aM t=true):t.text.size<=40:=by
 unfold aM at h
 split at h
 ·simp only[Bool.and_eq_true,decide_eq_true_eq] at h
  have:¬ 8<t.text.size:=fun hl=>h.1 (vt hl)
  omega
 split at h
 ·have:=of_decide_eq_true h;omega
 split at h
 ·unfold lg at h
  obtain⟨m,hm⟩:=Option.isSome_iff_exists.1 h
  obtain⟨h1,h2⟩:=dD.1 hm
  have:=eZ m 18 aa
  rw[h2,aF] at this
  omega
 split at h
 ·exact of_decide_eq_true h
 split at h
 ·unfold dm at h
  rw[List.any_eq_true] at h
  obtain⟨x,hx,he⟩:=h
  rw[of_decide_eq_true he]
  exact Nat.le_trans ((by decide:∀s∈signs,s.size<=2) x hx) aa
 ·cases h
end Go.Proofs.YtdmomaomffhidaaGreatDoor
