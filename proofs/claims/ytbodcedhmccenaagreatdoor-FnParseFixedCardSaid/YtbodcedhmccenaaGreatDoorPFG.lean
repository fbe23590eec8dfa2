/-
  Sizes of what is read.
  Conditions: none.
-/
import Derived.Test.YtbodcedhmccenaaGreatDoorPFB1
set_option linter.unusedVariables false
set_option linter.unusedSimpArgs false
set_option linter.unusedSectionVars false
set_option maxRecDepth 8000
namespace Go.Proofs.YtbodcedhmccenaaGreatDoor
open Go Go.Dv
open Go.Vc (D dg dh cX bk)
section
variable {L:List Tok}
def Wt {α:Type} (m:PM α) (w:α->Nat) (c:Nat):Prop:=∀s x s',m s=some (x,s')->w x+64*s.a<=c+64*s'.a
theorem dX (s:PS):(adv s).a=s.a+1:=rfl
theorem JJ (s:PS):(fl s).a=s.a:=rfl
theorem gN (c:Bool) (s:PS):s.a<=(must c s).a:=by unfold must;split<;>simp [adv,fl]
theorem uN (c:Bool) (s:PS):s.a<=(tkIf c s).a:=by unfold tkIf;split<;>simp [adv]
theorem FQ (k:Int) (s:PS):s.a<=(mText L k s).2.a:=by unfold mText;split<;>simp [adv,fl]
theorem Ds (s:PS):s.a<=(limitM L s).2.a:=by
 unfold limitM
 split
 ·have:=FQ (L:=L) 3 (adv s);rw[dX] at this;show s.a<=(mText L 3 (adv s)).2.a;omega
 ·exact Nat.le_refl _
variable {f:Nat->PM Expr} {q:PM Query}
end
section
variable {L:List Tok}
def lX {α:Type} (f:α->Nat) (x:α):Nat:=f x+1
theorem pk {α:Type} (f:α->Nat):∀l:List α,l.length+(l.map f).sum=fY (lX f) l
 | []=>rfl
 |x::r=>by
  have:=pk f r
  simp only[List.length_cons,List.map_cons,List.sum_cons,fY,lX] at *
  omega
theorem uO (l:List Expr):fF l=fY (lX szExpr) l:=by rw[aT];exact pk _ l
theorem FR (l:List Query):ik l=fY (lX szQuery) l:=by rw[bT];exact pk _ l
theorem eb (k o:Int) (n:Bool) (v:Val) (ql nm:ByteArray) (ks:List Expr) (ss:List Query):szExpr (.mk k o n v ql nm ks ss)=v.text.size+ql.size+nm.size+fY (lX szExpr) ks+fY (lX szQuery) ss:=by
 rw[cL,uO,FR]
 show v.text.size+_=_
 omega
theorem yw (b:Bool) (ql:ByteArray) (e:Expr) (a:ByteArray):ij (.mk b ql e a)=ql.size+szExpr e+a.size:=by rw[jv];omega
theorem A5 (tb a:ByteArray) (on:List Expr):cJ (.mk tb a on)=tb.size+a.size+fY (lX szExpr) on:=by rw[dt,uO];omega
theorem Dt (d:Bool) (it:List Item) (fr:List Source) (wh:List Expr) (od:List SortKey) (li:Int):szQuery (.mk d it fr wh od li)=fY (lX ij) it+fY (lX cJ) fr+fY (lX szExpr) wh+fY (lX eo) od:=by
 rw[dC,uO,dB,pk,cM,pk,cB,pk];omega
theorem d4:(⟨#[]⟩:ByteArray).size=0:=rfl
theorem yx (h40:∀t∈L,t.text.size<=40) (s:PS):(bv L s).size<=40:=by
 unfold bv
 cases h:gK L s 0 with
 |none=>exact Nat.zero_le _
 |some t=>
  unfold gK at h
  split at h
  ·cases h
  ·exact h40 t (List.mem_of_getElem? h)
theorem uP (h40:∀t∈L,t.text.size<=40) (k:Int) (s:PS):(mText L k s).1.size<=40/\(mText L k s).1.size+64*s.a<=64*(mText L k s).2.a:=by
 have:=yx h40 s
 unfold mText
 split
 ·exact⟨this,by simp only[adv];omega⟩
 ·exact⟨Nat.zero_le _,by show (0:Nat)+_<=_;simp [fl]⟩
theorem GO (h40:∀t∈L,t.text.size<=40) (s:PS):(asM L s).1.size+64*s.a<=64*(asM L s).2.a:=by
 unfold asM
 split
 ·have:=(uP h40 2 (adv s)).2;rw[dX] at this;omega
 ·show (0:Nat)+64*s.a<=64*s.a;omega
theorem x6 (h40:∀t∈L,t.text.size<=40) (s:PS):cJ (sourceM L s).1+64*s.a<=64*(sourceM L s).2.a:=by
 have h1:=(uP h40 2 s).2
 have h2:=GO h40 (mText L 2 s).2
 unfold sourceM
 rw[A5]
 simp only[fY]
 omega
theorem Bi (x:Source) (e:Expr) (h:∃a b,x = .mk a b []):cJ (x.withOn [e])=cJ x+szExpr e+1:=by
 obtain⟨a,b,rfl⟩:=h
 simp only[Source.withOn,A5,fY,lX]
 omega
theorem Wt.up {α:Type} {m:PM α} {w:α->Nat} {c:Nat} (h:Wt m w c):Wt m (lX w) (c+1):=fun s x s' hx=>by
 have:=h _ _ _ hx
 show w x+1+_<=_
 omega
variable {f:Nat->PM Expr} {q:PM Query}
theorem Wz.chain {g:PM Expr} (hg:Wt g szExpr 8) (lv:Nat):∀(n:Nat) (e:Expr) (s:PS) (x:Expr) (s':PS),bP L g lv n e s=some (x,s')->szExpr x+64*s.a<=szExpr e+64*s'.a
 |0,_,_,_,_,h=>by cases h
 |n+1,e,s,x,s',h=>by
  rw[bP] at h
  split at h
  ·injection h with h;injection h with hx h;subst hx h;exact Nat.le_refl _
  ·split at h
   ·cases h
   ·rename_i y s1 h1
    have a1:=hg _ _ _ h1
    have a2:=Wz.chain hg lv n _ _ _ _ h
    (try simp only[ed,eb,fY,lX,dX,zVal,z0,d4] at *);omega
theorem Wz.sep {α:Type} {g:PM α} {w:α->Nat} {c:Nat} (hc:c<=64) (hg:Wt g w c):∀(n:Nat) (l:List α) (s:PS) (x:List α) (s':PS),f9 L g n l s=some (x,s')->fY w x+64*s.a<=fY w l+64*s'.a
 |0,_,_,_,_,h=>by cases h
 |n+1,l,s,x,s',h=>by
  rw[f9] at h
  split at h
  ·split at h
   ·cases h
   ·rename_i y s1 h1
    have a1:=hg _ _ _ h1
    have a2:=Wz.sep hc hg n _ _ _ _ h
    (try simp only[fY,qe,dX] at *);omega
  ·injection h with h;injection h with hx h;subst hx h;exact Nat.le_refl _
theorem Wz.ors (hf:∀lv,Wt (f lv) szExpr 8):Wt (kd L f) (fY (lX szExpr)) 9:=fun s x s' h=>by
 unfold kd at h
 split at h
 ·cases h
 ·rename_i y s1 h1
  have a1:=hf 1 _ _ _ h1
  have a2:=Wz.sep aa (Wt.up (hf 1)) _ _ _ _ _ h
  (try simp only[fY,lX] at *);omega
theorem Wz.inn (hf:∀lv,Wt (f lv) szExpr 8) (hq:Wt q szQuery 15) (e:Expr) (n:Bool) (s:PS) (x:Expr) (s':PS) (h:sf L f q e n s=some (x,s')):szExpr x+64*s.a<=szExpr e+40+64*s'.a:=by
 unfold sf at h
 simp only at h
 have m1:=gN (bt L s 40) s
 split at h
 ·split at h
  ·cases h
  ·rename_i y s1 h1
   injection h with h;injection h with hx h;subst hx h
   have a1:=hq _ _ _ h1
   have m2:=gN (bt L s1 41) s1
   (try simp only[bR,eb,fY,lX,zVal,z0,d4] at *);omega
 ·split at h
  ·cases h
  ·rename_i y s1 h1
   injection h with h;injection h with hx h;subst hx h
   have a1:=Wz.ors hf _ _ _ h1
   have m2:=gN (bt L s1 41) s1
   (try simp only[bR,eb,fY,lX,zVal,z0,d4] at *);omega
theorem Wz.cmpT (hf:∀lv,Wt (f lv) szExpr 8) (hq:Wt q szQuery 15) (e:Expr) (s:PS) (x:Expr) (s':PS) (h:cmpT L f q e s=some (x,s')):szExpr x+64*s.a<=szExpr e+64*s'.a:=by
 unfold Go.Proofs.YtbodcedhmccenaaGreatDoor.cmpT at h
 simp only at h
 split at h
 ·injection h with h;injection h with hx h;subst hx h
  have m1:=uN (aw L (adv s) 15) (adv s)
  have m2:=gN (aw L (tkIf (aw L (adv s) 15) (adv s)) 20) (tkIf (aw L (adv s) 15) (adv s))
  (try simp only[bR,eb,fY,lX,dX,zVal,z0,d4] at *);omega
 ·have m0:=uN (aw L s 15) s
  split at h
  ·split at h
   ·cases h
   ·rename_i y s1 h1
    split at h
    ·cases h
    ·rename_i z s2 h2
     injection h with h;injection h with hx h;subst hx h
     have a1:=hf 5 _ _ _ h1
     have a2:=hf 5 _ _ _ h2
     have m2:=gN (aw L s1 13) s1
     (try simp only[bR,eb,fY,lX,dX,zVal,z0,d4] at *);omega
  ·split at h
   ·have a1:=Wz.inn hf hq e _ _ _ _ h
    (try simp only[dX] at *);omega
   ·injection h with h;injection h with hx h;subst hx h
    show szExpr e+64*s.a<=szExpr e+64*(tkIf (aw L s 15) s).a
    omega
theorem Wz.cmp (hf:∀lv,Wt (f lv) szExpr 8) (hq:Wt q szQuery 15):Wt (iP L f q) szExpr 8:=fun s x s' h=>by
 unfold iP at h
 split at h
 ·cases h
 ·rename_i y s1 h1
  have a1:=hf 5 _ _ _ h1
  split at h
  ·have a2:=Wz.cmpT hf hq _ _ _ _ h
   omega
  ·split at h
   ·cases h
   ·rename_i z s2 h2
    injection h with h;injection h with hx h;subst hx h
    have a2:=hf 5 _ _ _ h2
    (try simp only[ed,eb,fY,lX,dX,zVal,z0,d4] at *);omega
theorem Wz.prim (h40:∀t∈L,t.text.size<=40) (hf:∀lv,Wt (f lv) szExpr 8) (hq:Wt q szQuery 15):Wt (dk L f q) szExpr 8:=fun s x s' h=>by
 have x40:=yx h40 s
 unfold dk at h
 simp only at h
 split at h
 ·injection h with h;injection h with hx h;subst hx h;(try simp only[dj,eb,fY,dX,z0,d4] at *);omega
 split at h
 ·injection h with h;injection h with hx h;subst hx h;(try simp only[dj,eb,fY,dX,z0,d4] at *);omega
 split at h
 ·injection h with h;injection h with hx h;subst hx h;(try simp only[dj,eb,fY,dX,zVal,z0,d4] at *);omega
 split at h
 ·injection h with h;injection h with hx h;subst hx h;(try simp only[dj,eb,fY,dX,z0,d4] at *);omega
 split at h
 ·injection h with h;injection h with hx h;subst hx h;(try simp only[dj,eb,fY,dX,z0,d4] at *);omega
 split at h
 ·split at h
  ·injection h with h;injection h with hx h;subst hx h
   have m1:=(uP h40 2 (adv (adv s))).2
   (try simp only[lg,eb,fY,dX,zVal,d4] at *);omega
  ·injection h with h;injection h with hx h;subst hx h;(try simp only[lg,eb,fY,dX,zVal,z0,d4] at *);omega
 split at h
 ·split at h
  ·cases h
  ·rename_i y s1 h1
   injection h with h;injection h with hx h;subst hx h
   have a1:=hf 1 _ _ _ h1
   have m1:=gN (bt L s1 41) s1
   (try simp only[dX] at *);omega
 split at h
 ·split at h
  ·cases h
  ·rename_i y s1 h1
   injection h with h;injection h with hx h;subst hx h
   have a1:=hq _ _ _ h1
   have m1:=gN (bt L (adv s) 40) (adv s)
   have m2:=gN (bt L s1 41) s1
   (try simp only[bR,eb,fY,lX,dX,zVal,z0,d4] at *);omega
 ·injection h with h;injection h with hx h;subst hx h;(try simp only[zExpr,eb,fY,JJ,zVal,z0,d4] at *);omega
theorem Wz.stepE (h40:∀t∈L,t.text.size<=40) (hf:∀lv,Wt (f lv) szExpr 8) (hq:Wt q szQuery 15) (lv:Nat):Wt (stepE L f q lv) szExpr 8:=fun s x s' h=>by
 unfold Go.Proofs.YtbodcedhmccenaaGreatDoor.stepE at h
 split at h
 ·split at h
  ·split at h
   ·cases h
   ·rename_i y s1 h1
    injection h with h;injection h with hx h;subst hx h
    have a1:=hf 3 _ _ _ h1
    (try simp only[se,eb,fY,lX,dX,zVal,z0,d4] at *);omega
  ·exact hf 4 _ _ _ h
 split at h
 ·exact Wz.cmp hf hq _ _ _ h
 split at h
 ·split at h
  ·split at h
   ·cases h
   ·rename_i y s1 h1
    injection h with h;injection h with hx h;subst hx h
    have a1:=hf 8 _ _ _ h1
    (try simp only[se,eb,fY,lX,dX,zVal,z0,d4] at *);omega
  ·exact hf 9 _ _ _ h
 split at h
 ·exact Wz.prim h40 hf hq _ _ _ h
 ·split at h
  ·cases h
  ·rename_i y s1 h1
   have a1:=hf _ _ _ _ h1
   have a2:=Wz.chain (hf _) lv _ _ _ _ _ h
   omega
theorem Wz.item (h40:∀t∈L,t.text.size<=40) (hf:∀lv,Wt (f lv) szExpr 8):Wt (dF L f) ij 11:=fun s x s' h=>by
 have x40:=yx h40 s
 unfold dF at h
 split at h
 ·injection h with h;injection h with hx h;subst hx h
  (try simp only[zExpr,eb,yw,fY,dX,zVal,z0,d4] at *);omega
 split at h
 ·injection h with h;injection h with hx h;subst hx h
  (try simp only[zExpr,eb,yw,fY,dX,zVal,z0,d4] at *);omega
 split at h
 ·cases h
 ·rename_i y s1' h1
  injection h with h;injection h with hx h;subst hx h
  have a1:=hf 1 _ _ _ h1
  have m1:=GO h40 s1'
  rw[yw]
  show (0:Nat)+_+_+_<=_
  omega
theorem Wz.sources (h40:∀t∈L,t.text.size<=40) (hf:∀lv,Wt (f lv) szExpr 8):∀(n:Nat) (l:List Source) (s:PS) (x:List Source) (s':PS),bE L f n l s=some (x,s')->fY (lX cJ) x+64*s.a<=fY (lX cJ) l+64*s'.a
 |0,_,_,_,_,h=>by cases h
 |n+1,l,s,x,s',h=>by
  rw[bE] at h
  have m1:=x6 h40 (adv s)
  split at h
  ·have a2:=Wz.sources h40 hf n _ _ _ _ h
   (try simp only[fY,qe,lX,dX] at *);omega
  simp only at h
  split at h
  ·split at h
   ·cases h
   ·rename_i y s1 h1
    have a1:=hf 1 _ _ _ h1
    have m2:=gN (aw L (sourceM L (adv s)).2 5) (sourceM L (adv s)).2
    have a2:=Wz.sources h40 hf n _ _ _ _ h
    have w2:=Bi (sourceM L (adv s)).1 y ⟨_,_,rfl⟩
    (try simp only[fY,qe,lX,dX] at *);omega
  ·injection h with h;injection h with hx h;subst hx h;exact Nat.le_refl _
theorem Wz.wher (hf:∀lv,Wt (f lv) szExpr 8):Wt (dL L f) (fY (lX szExpr)) 0:=fun s x s' h=>by
 unfold dL at h
 split at h
 ·split at h
  ·cases h
  ·rename_i y s1 h1
   injection h with h;injection h with hx h;subst hx h
   have a1:=hf 1 _ _ _ h1
   (try simp only[fY,lX,dX] at *);omega
 ·injection h with h;injection h with hx h;subst hx h;(try simp only[fY] at *);omega
theorem tL (e:Expr) (d:Bool):eo (.mk e d)=szExpr e:=gS e d
theorem Wz.sort (hf:∀lv,Wt (f lv) szExpr 8):Wt (dV L f) eo 9:=fun s x s' h=>by
 unfold dV at h
 split at h
 ·cases h
 ·rename_i y s1 h1
  have a1:=hf 1 _ _ _ h1
  split at h
  ·injection h with h;injection h with hx h;subst hx h
   rw[tL,dX]
   omega
  ·injection h with h;injection h with hx h;subst hx h
   have m1:=uN (aw L s1 10) s1
   rw[tL]
   omega
theorem Wz.order (hf:∀lv,Wt (f lv) szExpr 8):Wt (dY L f) (fY (lX eo)) 0:=fun s x s' h=>by
 unfold dY at h
 simp only at h
 split at h
 ·split at h
  ·cases h
  ·rename_i y s1 h1
   have m1:=gN (aw L (adv s) 8) (adv s)
   have a1:=Wz.sort hf _ _ _ h1
   have a2:=Wz.sep aa (Wt.up (Wz.sort hf)) _ _ _ _ _ h
   (try simp only[fY,lX,dX] at *);omega
 ·injection h with h;injection h with hx h;subst hx h;(try simp only[fY] at *);omega
theorem Wz.items (h40:∀t∈L,t.text.size<=40) (hf:∀lv,Wt (f lv) szExpr 8):Wt (eu L f) (fY (lX ij)) 12:=fun s x s' h=>by
 unfold eu at h
 split at h
 ·cases h
 ·rename_i y s1 h1
  have a1:=Wz.item h40 hf _ _ _ h1
  have a2:=Wz.sep aa (Wt.up (Wz.item h40 hf)) _ _ _ _ _ h
  (try simp only[fY,lX] at *);omega
theorem Wz.stepQ (h40:∀t∈L,t.text.size<=40) (hf:∀lv,Wt (f lv) szExpr 8):Wt (stepQ L f) szQuery 15:=fun s x s' h=>by
 unfold Go.Proofs.YtbodcedhmccenaaGreatDoor.stepQ at h
 simp only at h
 split at h
 ·cases h
 rename_i its s2 h1
 split at h
 ·cases h
 rename_i frs s4 h2
 split at h
 ·cases h
 rename_i wh s5 h3
 split at h
 ·cases h
 rename_i od s6 h4
 injection h with h;injection h with hx h;subst hx h
 have m1:=gN (aw L s 1) s
 have m2:=uN (aw L (must (aw L s 1) s) 2) (must (aw L s 1) s)
 have a1:=Wz.items h40 hf _ _ _ h1
 have m3:=gN (aw L s2 3) s2
 have m4:=x6 h40 (must (aw L s2 3) s2)
 have a2:=Wz.sources h40 hf _ _ _ _ _ h2
 have a3:=Wz.wher hf _ _ _ h3
 have a4:=Wz.order hf _ _ _ h4
 have m5:=Ds (L:=L) s6
 (try simp only[Dt,fY,lX] at *);omega
theorem A6 (h40:∀t∈L,t.text.size<=40):∀k,(∀lv,Wt ((pP L k).1 lv) szExpr 8)/\Wt (pP L k).2 szQuery 15
 |0=>⟨fun _ _ _ _ h=>(by cases h),fun _ _ _ h=>(by cases h)⟩
 |k+1=>⟨fun lv=>Wz.stepE h40 (A6 h40 k).1 (A6 h40 k).2 lv,Wz.stepQ h40 (A6 h40 k).1⟩
theorem rH (h40:∀t∈L,t.text.size<=40) (hL:L.length<=2000):szQuery (bI L).1<=200000:=by
 have hz:szQuery zQuery<=200000:=by rw[zQuery,Dt];exact (by decide:0+0+0+0<=200000)
 unfold bI
 cases h:ey L s0 with
 |none=>exact hz
 |some p=>
  obtain⟨x,s⟩:=p
  have h1:=(A6 h40 (pD L)).2 _ _ _ h
  have h2:=(mj (L:=L) _ _ _ h).2.1 (Nat.zero_le _)
  unfold f7
  simp only
  split
  ·exact hz
  ·show szQuery x<=_
   omega
end
theorem A7 {t:Tok} (h:aJ t=true):t.text.size<=40:=by
 unfold aJ at h
 split at h
 ·simp only[Bool.and_eq_true,decide_eq_true_eq] at h
  have:¬ 8<t.text.size:=fun hl=>h.1 (vh hl)
  omega
 split at h
 ·have:=of_decide_eq_true h;omega
 split at h
 ·unfold iY at h
  obtain⟨m,hm⟩:=Option.isSome_iff_exists.1 h
  obtain⟨h1,h2⟩:=d7.1 hm
  have:=fa m 18 aa
  rw[h2,aE] at this
  omega
 split at h
 ·exact of_decide_eq_true h
 split at h
 ·unfold cW at h
  rw[List.any_eq_true] at h
  obtain⟨x,hx,he⟩:=h
  rw[of_decide_eq_true he]
  exact Nat.le_trans ((by decide:∀s∈signs,s.size<=2) x hx) aa
 ·cases h
end Go.Proofs.YtbodcedhmccenaaGreatDoor
