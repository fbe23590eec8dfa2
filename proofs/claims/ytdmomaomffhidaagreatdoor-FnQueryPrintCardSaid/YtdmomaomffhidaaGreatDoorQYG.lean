/-
  Sizes of what is read.
  Conditions: none.
-/
import Derived.Test.YtdmomaomffhidaaGreatDoorQYB1
set_option linter.unusedVariables false
set_option linter.unusedSimpArgs false
set_option linter.unusedSectionVars false
set_option linter.unnecessarySimpa false
set_option maxRecDepth 8000
namespace Go.Proofs.YtdmomaomffhidaaGreatDoor
open Go Go.Dv
open Go.Vc (D dm dq cV bq)
section
variable {L:List Tok}
def Wt {α:Type} (m:PM α) (w:α->Nat) (c:Nat):Prop:=∀s x s',m s=some (x,s')->w x+64*s.a<=c+64*s'.a
theorem dQ (s:PS):(adv s).a=s.a+1:=rfl
theorem Kd (s:PS):(fl s).a=s.a:=rfl
theorem hZ (c:Bool) (s:PS):s.a<=(must c s).a:=by unfold must;split<;>simp [adv,fl]
theorem vl (c:Bool) (s:PS):s.a<=(tkIf c s).a:=by unfold tkIf;split<;>simp [adv]
theorem FV (k:Int) (s:PS):s.a<=(mText L k s).2.a:=by unfold mText;split<;>simp [adv,fl]
theorem DJ (s:PS):s.a<=(limitM L s).2.a:=by
 unfold limitM
 split
 ·have:=FV (L:=L) 3 (adv s);rw[dQ] at this;show s.a<=(mText L 3 (adv s)).2.a;omega
 ·exact Nat.le_refl _
variable {f:Nat->PM Expr} {q:PM Query}
end
section
variable {L:List Tok}
def mi {α:Type} (f:α->Nat) (x:α):Nat:=f x+1
theorem pJ {α:Type} (f:α->Nat):∀l:List α,l.length+(l.map f).sum=gc (mi f) l
 | []=>rfl
 |x::r=>by
  have:=pJ f r
  simp only[List.length_cons,List.map_cons,List.sum_cons,gc,mi] at *
  omega
theorem vm (l:List Expr):bw l=gc (mi szExpr) l:=by rw[aP];exact pJ _ l
theorem FW (l:List Query):cL l=gc (mi szQuery) l:=by rw[bO];exact pJ _ l
theorem dY (k o:Int) (n:Bool) (v:Val) (ql nm:ByteArray) (ks:List Expr) (ss:List Query):szExpr (.mk k o n v ql nm ks ss)=v.text.size+ql.size+nm.size+gc (mi szExpr) ks+gc (mi szQuery) ss:=by
 rw[bh,vm,FW]
 show v.text.size+_=_
 omega
theorem yO (b:Bool) (ql:ByteArray) (e:Expr) (a:ByteArray):iQ (.mk b ql e a)=ql.size+szExpr e+a.size:=by rw[iD];omega
theorem Am (tb a:ByteArray) (on:List Expr):cF (.mk tb a on)=tb.size+a.size+gc (mi szExpr) on:=by rw[cM,vm];omega
theorem DK (d:Bool) (it:List Item) (fr:List Source) (wh:List Expr) (od:List SortKey) (li:Int):szQuery (.mk d it fr wh od li)=gc (mi iQ) it+gc (mi cF) fr+gc (mi szExpr) wh+gc (mi ei) od:=by
 rw[bU,vm,dS,pJ,cX,pJ,cK,pJ];omega
theorem cY:(⟨#[]⟩:ByteArray).size=0:=rfl
theorem yP (h40:∀t∈L,t.text.size<=40) (s:PS):(bP L s).size<=40:=by
 unfold bP
 cases h:jC L s 0 with
 |none=>exact Nat.zero_le _
 |some t=>
  unfold jC at h
  split at h
  ·cases h
  ·exact h40 t (List.mem_of_getElem? h)
theorem vn (h40:∀t∈L,t.text.size<=40) (k:Int) (s:PS):(mText L k s).1.size<=40/\(mText L k s).1.size+64*s.a<=64*(mText L k s).2.a:=by
 have:=yP h40 s
 unfold mText
 split
 ·exact⟨this,by simp only[adv];omega⟩
 ·exact⟨Nat.zero_le _,by show (0:Nat)+_<=_;simp [fl]⟩
theorem GZ (h40:∀t∈L,t.text.size<=40) (s:PS):(asM L s).1.size+64*s.a<=64*(asM L s).2.a:=by
 unfold asM
 split
 ·have:=(vn h40 2 (adv s)).2;rw[dQ] at this;omega
 ·show (0:Nat)+64*s.a<=64*s.a;omega
theorem xp (h40:∀t∈L,t.text.size<=40) (s:PS):cF (sourceM L s).1+64*s.a<=64*(sourceM L s).2.a:=by
 have h1:=(vn h40 2 s).2
 have h2:=GZ h40 (mText L 2 s).2
 unfold sourceM
 rw[Am]
 simp only[gc]
 omega
theorem Bw (x:Source) (e:Expr) (h:∃a b,x = .mk a b []):cF (x.withOn [e])=cF x+szExpr e+1:=by
 obtain⟨a,b,rfl⟩:=h
 simp only[Source.withOn,Am,gc,mi]
 omega
theorem Wt.up {α:Type} {m:PM α} {w:α->Nat} {c:Nat} (h:Wt m w c):Wt m (mi w) (c+1):=fun s x s' hx=>by
 have:=h _ _ _ hx
 show w x+1+_<=_
 omega
variable {f:Nat->PM Expr} {q:PM Query}
theorem Wz.chain {g:PM Expr} (hg:Wt g szExpr 8) (lv:Nat):∀(n:Nat) (e:Expr) (s:PS) (x:Expr) (s':PS),cj L g lv n e s=some (x,s')->szExpr x+64*s.a<=szExpr e+64*s'.a
 |0,_,_,_,_,h=>by cases h
 |n+1,e,s,x,s',h=>by
  rw[cj] at h
  split at h
  ·injection h with h;injection h with hx h;subst hx h;exact Nat.le_refl _
  ·split at h
   ·cases h
   ·rename_i y s1 h1
    have a1:=hg _ _ _ h1
    have a2:=Wz.chain hg lv n _ _ _ _ h
    (try simp only[iS,dY,gc,mi,dQ,zVal,z0,cY] at *);omega
theorem Wz.sep {α:Type} {g:PM α} {w:α->Nat} {c:Nat} (hc:c<=64) (hg:Wt g w c):∀(n:Nat) (l:List α) (s:PS) (x:List α) (s':PS),hM L g n l s=some (x,s')->gc w x+64*s.a<=gc w l+64*s'.a
 |0,_,_,_,_,h=>by cases h
 |n+1,l,s,x,s',h=>by
  rw[hM] at h
  split at h
  ·split at h
   ·cases h
   ·rename_i y s1 h1
    have a1:=hg _ _ _ h1
    have a2:=Wz.sep hc hg n _ _ _ _ h
    (try simp only[gc,qD,dQ] at *);omega
  ·injection h with h;injection h with hx h;subst hx h;exact Nat.le_refl _
theorem Wz.ors (hf:∀lv,Wt (f lv) szExpr 8):Wt (mM L f) (gc (mi szExpr)) 9:=fun s x s' h=>by
 unfold mM at h
 split at h
 ·cases h
 ·rename_i y s1 h1
  have a1:=hf 1 _ _ _ h1
  have a2:=Wz.sep aa (Wt.up (hf 1)) _ _ _ _ _ h
  (try simp only[gc,mi] at *);omega
theorem Wz.inn (hf:∀lv,Wt (f lv) szExpr 8) (hq:Wt q szQuery 15) (e:Expr) (n:Bool) (s:PS) (x:Expr) (s':PS) (h:vN L f q e n s=some (x,s')):szExpr x+64*s.a<=szExpr e+40+64*s'.a:=by
 unfold vN at h
 simp only at h
 have m1:=hZ (cr L s 40) s
 split at h
 ·split at h
  ·cases h
  ·rename_i y s1 h1
   injection h with h;injection h with hx h;subst hx h
   have a1:=hq _ _ _ h1
   have m2:=hZ (cr L s1 41) s1
   (try simp only[cG,dY,gc,mi,zVal,z0,cY] at *);omega
 ·split at h
  ·cases h
  ·rename_i y s1 h1
   injection h with h;injection h with hx h;subst hx h
   have a1:=Wz.ors hf _ _ _ h1
   have m2:=hZ (cr L s1 41) s1
   (try simp only[cG,dY,gc,mi,zVal,z0,cY] at *);omega
theorem Wz.cmpT (hf:∀lv,Wt (f lv) szExpr 8) (hq:Wt q szQuery 15) (e:Expr) (s:PS) (x:Expr) (s':PS) (h:cmpT L f q e s=some (x,s')):szExpr x+64*s.a<=szExpr e+64*s'.a:=by
 unfold Go.Proofs.YtdmomaomffhidaaGreatDoor.cmpT at h
 simp only at h
 split at h
 ·injection h with h;injection h with hx h;subst hx h
  have m1:=vl (aA L (adv s) 15) (adv s)
  have m2:=hZ (aA L (tkIf (aA L (adv s) 15) (adv s)) 20) (tkIf (aA L (adv s) 15) (adv s))
  (try simp only[cG,dY,gc,mi,dQ,zVal,z0,cY] at *);omega
 ·have m0:=vl (aA L s 15) s
  split at h
  ·split at h
   ·cases h
   ·rename_i y s1 h1
    split at h
    ·cases h
    ·rename_i z s2 h2
     injection h with h;injection h with hx h;subst hx h
     have a1:=hf 5 _ _ _ h1
     have a2:=hf 5 _ _ _ h2
     have m2:=hZ (aA L s1 13) s1
     (try simp only[cG,dY,gc,mi,dQ,zVal,z0,cY] at *);omega
  ·split at h
   ·have a1:=Wz.inn hf hq e _ _ _ _ h
    (try simp only[dQ] at *);omega
   ·injection h with h;injection h with hx h;subst hx h
    show szExpr e+64*s.a<=szExpr e+64*(tkIf (aA L s 15) s).a
    omega
theorem Wz.cmp (hf:∀lv,Wt (f lv) szExpr 8) (hq:Wt q szQuery 15):Wt (lK L f q) szExpr 8:=fun s x s' h=>by
 unfold lK at h
 split at h
 ·cases h
 ·rename_i y s1 h1
  have a1:=hf 5 _ _ _ h1
  split at h
  ·have a2:=Wz.cmpT hf hq _ _ _ _ h
   omega
  ·split at h
   ·cases h
   ·rename_i z s2 h2
    injection h with h;injection h with hx h;subst hx h
    have a2:=hf 5 _ _ _ h2
    (try simp only[iS,dY,gc,mi,dQ,zVal,z0,cY] at *);omega
theorem Wz.prim (h40:∀t∈L,t.text.size<=40) (hf:∀lv,Wt (f lv) szExpr 8) (hq:Wt q szQuery 15):Wt (ed L f q) szExpr 8:=fun s x s' h=>by
 have x40:=yP h40 s
 unfold ed at h
 simp only at h
 split at h
 ·injection h with h;injection h with hx h;subst hx h;(try simp only[eK,dY,gc,dQ,z0,cY] at *);omega
 split at h
 ·injection h with h;injection h with hx h;subst hx h;(try simp only[eK,dY,gc,dQ,z0,cY] at *);omega
 split at h
 ·injection h with h;injection h with hx h;subst hx h;(try simp only[eK,dY,gc,dQ,zVal,z0,cY] at *);omega
 split at h
 ·injection h with h;injection h with hx h;subst hx h;(try simp only[eK,dY,gc,dQ,z0,cY] at *);omega
 split at h
 ·injection h with h;injection h with hx h;subst hx h;(try simp only[eK,dY,gc,dQ,z0,cY] at *);omega
 split at h
 ·split at h
  ·injection h with h;injection h with hx h;subst hx h
   have m1:=(vn h40 2 (adv (adv s))).2
   (try simp only[qm,dY,gc,dQ,zVal,cY] at *);omega
  ·injection h with h;injection h with hx h;subst hx h;(try simp only[qm,dY,gc,dQ,zVal,z0,cY] at *);omega
 split at h
 ·split at h
  ·cases h
  ·rename_i y s1 h1
   injection h with h;injection h with hx h;subst hx h
   have a1:=hf 1 _ _ _ h1
   have m1:=hZ (cr L s1 41) s1
   (try simp only[dQ] at *);omega
 split at h
 ·split at h
  ·cases h
  ·rename_i y s1 h1
   injection h with h;injection h with hx h;subst hx h
   have a1:=hq _ _ _ h1
   have m1:=hZ (cr L (adv s) 40) (adv s)
   have m2:=hZ (cr L s1 41) s1
   (try simp only[cG,dY,gc,mi,dQ,zVal,z0,cY] at *);omega
 ·injection h with h;injection h with hx h;subst hx h;(try simp only[zExpr,dY,gc,Kd,zVal,z0,cY] at *);omega
theorem Wz.stepE (h40:∀t∈L,t.text.size<=40) (hf:∀lv,Wt (f lv) szExpr 8) (hq:Wt q szQuery 15) (lv:Nat):Wt (stepE L f q lv) szExpr 8:=fun s x s' h=>by
 unfold Go.Proofs.YtdmomaomffhidaaGreatDoor.stepE at h
 split at h
 ·split at h
  ·split at h
   ·cases h
   ·rename_i y s1 h1
    injection h with h;injection h with hx h;subst hx h
    have a1:=hf 3 _ _ _ h1
    (try simp only[xL,dY,gc,mi,dQ,zVal,z0,cY] at *);omega
  ·exact hf 4 _ _ _ h
 split at h
 ·exact Wz.cmp hf hq _ _ _ h
 split at h
 ·split at h
  ·split at h
   ·cases h
   ·rename_i y s1 h1
    injection h with h;injection h with hx h;subst hx h
    have a1:=hf 8 _ _ _ h1
    (try simp only[xL,dY,gc,mi,dQ,zVal,z0,cY] at *);omega
  ·exact hf 9 _ _ _ h
 split at h
 ·exact Wz.prim h40 hf hq _ _ _ h
 ·split at h
  ·cases h
  ·rename_i y s1 h1
   have a1:=hf _ _ _ _ h1
   have a2:=Wz.chain (hf _) lv _ _ _ _ _ h
   omega
theorem Wz.item (h40:∀t∈L,t.text.size<=40) (hf:∀lv,Wt (f lv) szExpr 8):Wt (eL L f) iQ 11:=fun s x s' h=>by
 have x40:=yP h40 s
 unfold eL at h
 split at h
 ·injection h with h;injection h with hx h;subst hx h
  (try simp only[zExpr,dY,yO,gc,dQ,zVal,z0,cY] at *);omega
 split at h
 ·injection h with h;injection h with hx h;subst hx h
  (try simp only[zExpr,dY,yO,gc,dQ,zVal,z0,cY] at *);omega
 split at h
 ·cases h
 ·rename_i y s1' h1
  injection h with h;injection h with hx h;subst hx h
  have a1:=hf 1 _ _ _ h1
  have m1:=GZ h40 s1'
  rw[yO]
  show (0:Nat)+_+_+_<=_
  omega
theorem Wz.sources (h40:∀t∈L,t.text.size<=40) (hf:∀lv,Wt (f lv) szExpr 8):∀(n:Nat) (l:List Source) (s:PS) (x:List Source) (s':PS),bW L f n l s=some (x,s')->gc (mi cF) x+64*s.a<=gc (mi cF) l+64*s'.a
 |0,_,_,_,_,h=>by cases h
 |n+1,l,s,x,s',h=>by
  rw[bW] at h
  have m1:=xp h40 (adv s)
  split at h
  ·have a2:=Wz.sources h40 hf n _ _ _ _ h
   (try simp only[gc,qD,mi,dQ] at *);omega
  simp only at h
  split at h
  ·split at h
   ·cases h
   ·rename_i y s1 h1
    have a1:=hf 1 _ _ _ h1
    have m2:=hZ (aA L (sourceM L (adv s)).2 5) (sourceM L (adv s)).2
    have a2:=Wz.sources h40 hf n _ _ _ _ h
    have w2:=Bw (sourceM L (adv s)).1 y ⟨_,_,rfl⟩
    (try simp only[gc,qD,mi,dQ] at *);omega
  ·injection h with h;injection h with hx h;subst hx h;exact Nat.le_refl _
theorem Wz.wher (hf:∀lv,Wt (f lv) szExpr 8):Wt (f4 L f) (gc (mi szExpr)) 0:=fun s x s' h=>by
 unfold f4 at h
 split at h
 ·split at h
  ·cases h
  ·rename_i y s1 h1
   injection h with h;injection h with hx h;subst hx h
   have a1:=hf 1 _ _ _ h1
   (try simp only[gc,mi,dQ] at *);omega
 ·injection h with h;injection h with hx h;subst hx h;(try simp only[gc] at *);omega
theorem ub (e:Expr) (d:Bool):ei (.mk e d)=szExpr e:=iq e d
theorem Wz.sort (hf:∀lv,Wt (f lv) szExpr 8):Wt (fe L f) ei 9:=fun s x s' h=>by
 unfold fe at h
 split at h
 ·cases h
 ·rename_i y s1 h1
  have a1:=hf 1 _ _ _ h1
  split at h
  ·injection h with h;injection h with hx h;subst hx h
   rw[ub,dQ]
   omega
  ·injection h with h;injection h with hx h;subst hx h
   have m1:=vl (aA L s1 10) s1
   rw[ub]
   omega
theorem Wz.order (hf:∀lv,Wt (f lv) szExpr 8):Wt (f5 L f) (gc (mi ei)) 0:=fun s x s' h=>by
 unfold f5 at h
 simp only at h
 split at h
 ·split at h
  ·cases h
  ·rename_i y s1 h1
   have m1:=hZ (aA L (adv s) 8) (adv s)
   have a1:=Wz.sort hf _ _ _ h1
   have a2:=Wz.sep aa (Wt.up (Wz.sort hf)) _ _ _ _ _ h
   (try simp only[gc,mi,dQ] at *);omega
 ·injection h with h;injection h with hx h;subst hx h;(try simp only[gc] at *);omega
theorem Wz.items (h40:∀t∈L,t.text.size<=40) (hf:∀lv,Wt (f lv) szExpr 8):Wt (fk L f) (gc (mi iQ)) 12:=fun s x s' h=>by
 unfold fk at h
 split at h
 ·cases h
 ·rename_i y s1 h1
  have a1:=Wz.item h40 hf _ _ _ h1
  have a2:=Wz.sep aa (Wt.up (Wz.item h40 hf)) _ _ _ _ _ h
  (try simp only[gc,mi] at *);omega
theorem Wz.stepQ (h40:∀t∈L,t.text.size<=40) (hf:∀lv,Wt (f lv) szExpr 8):Wt (stepQ L f) szQuery 15:=fun s x s' h=>by
 unfold Go.Proofs.YtdmomaomffhidaaGreatDoor.stepQ at h
 simp only at h
 split at h
 ·cases h
 rename_i its s2 h1
 split at h
 ·cases h
 rename_i frs s4 h2
 split at h
 ·cases h
 rename_i wh s5 h3
 split at h
 ·cases h
 rename_i od s6 h4
 injection h with h;injection h with hx h;subst hx h
 have m1:=hZ (aA L s 1) s
 have m2:=vl (aA L (must (aA L s 1) s) 2) (must (aA L s 1) s)
 have a1:=Wz.items h40 hf _ _ _ h1
 have m3:=hZ (aA L s2 3) s2
 have m4:=xp h40 (must (aA L s2 3) s2)
 have a2:=Wz.sources h40 hf _ _ _ _ _ h2
 have a3:=Wz.wher hf _ _ _ h3
 have a4:=Wz.order hf _ _ _ h4
 have m5:=DJ (L:=L) s6
 (try simp only[DK,gc,mi] at *);omega
theorem An (h40:∀t∈L,t.text.size<=40):∀k,(∀lv,Wt ((pP L k).1 lv) szExpr 8)/\Wt (pP L k).2 szQuery 15
 |0=>⟨fun _ _ _ _ h=>(by cases h),fun _ _ _ h=>(by cases h)⟩
 |k+1=>⟨fun lv=>Wz.stepE h40 (An h40 k).1 (An h40 k).2 lv,Wz.stepQ h40 (An h40 k).1⟩
theorem DL (h40:∀t∈L,t.text.size<=40) (hL:L.length<=2000):szQuery (cy L).1<=200000:=by
 have hz:szQuery dh<=200000:=by rw[dh,DK];exact (by decide:0+0+0+0<=200000)
 unfold cy
 cases h:eM L s0 with
 |none=>exact hz
 |some p=>
  obtain⟨x,s⟩:=p
  have h1:=(An h40 (pD L)).2 _ _ _ h
  have h2:=(ph (L:=L) _ _ _ h).2.1 (Nat.zero_le _)
  unfold jo
  simp only
  split
  ·exact hz
  ·show szQuery x<=_
   omega
end
theorem Js {t:Tok} (h:aR t=true):t.text.size<=40:=by
 unfold aR at h
 split at h
 ·simp only[Bool.and_eq_true,decide_eq_true_eq] at h
  have:¬ 8<t.text.size:=fun hl=>h.1 (vG hl)
  omega
 split at h
 ·have:=of_decide_eq_true h;omega
 split at h
 ·unfold jk at h
  obtain⟨m,hm⟩:=Option.isSome_iff_exists.1 h
  obtain⟨h1,h2⟩:=dt.1 hm
  have:=fc m 18 aa
  rw[h2,aK] at this
  omega
 split at h
 ·exact of_decide_eq_true h
 split at h
 ·unfold dD at h
  rw[List.any_eq_true] at h
  obtain⟨x,hx,he⟩:=h
  rw[of_decide_eq_true he]
  exact Nat.le_trans ((by decide:∀s∈signs,s.size<=2) x hx) aa
 ·cases h
end Go.Proofs.YtdmomaomffhidaaGreatDoor
