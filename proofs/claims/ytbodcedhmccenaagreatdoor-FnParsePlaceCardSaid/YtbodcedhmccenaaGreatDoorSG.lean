/-
  Sizes of what is read.
  Conditions: none.
-/
import Derived.Test.YtbodcedhmccenaaGreatDoorSB1
set_option linter.unusedVariables false
set_option linter.unusedSimpArgs false
set_option linter.unusedSectionVars false
set_option maxRecDepth 8000
namespace Go.Proofs.YtbodcedhmccenaaGreatDoor
open Go Go.Dv
open Go.Vc (D d5 d6 cM bo)
section
variable {L:List Tok}
def Wt {α:Type} (m:PM α) (w:α->Nat) (c:Nat):Prop:=∀s x s',m s=some (x,s')->w x+64*s.a<=c+64*s'.a
theorem dL (s:PS):(adv s).a=s.a+1:=rfl
theorem FF (s:PS):(fl s).a=s.a:=rfl
theorem gx (c:Bool) (s:PS):s.a<=(must c s).a:=by unfold must;split<;>simp [adv,fl]
theorem tG (c:Bool) (s:PS):s.a<=(tkIf c s).a:=by unfold tkIf;split<;>simp [adv]
theorem De (k:Int) (s:PS):s.a<=(mText L k s).2.a:=by unfold mText;split<;>simp [adv,fl]
theorem BU (s:PS):s.a<=(limitM L s).2.a:=by
 unfold limitM
 split
 ·have:=De (L:=L) 3 (adv s);rw[dL] at this;show s.a<=(mText L 3 (adv s)).2.a;omega
 ·exact Nat.le_refl _
variable {f:Nat->PM Expr} {q:PM Query}
end
section
variable {L:List Tok}
def kW {α:Type} (f:α->Nat) (x:α):Nat:=f x+1
theorem ol {α:Type} (f:α->Nat):∀l:List α,l.length+(l.map f).sum=fH (kW f) l
 | []=>rfl
 |x::r=>by
  have:=ol f r
  simp only[List.length_cons,List.map_cons,List.sum_cons,fH,kW] at *
  omega
theorem tH (l:List Expr):cx l=fH (kW szExpr) l:=by rw[aC];exact ol _ l
theorem Dg (l:List Query):gW l=fH (kW szQuery) l:=by rw[bw];exact ol _ l
theorem dB (k o:Int) (n:Bool) (v:Val) (ql nm:ByteArray) (ks:List Expr) (ss:List Query):szExpr (.mk k o n v ql nm ks ss)=v.text.size+ql.size+nm.size+fH (kW szExpr) ks+fH (kW szQuery) ss:=by
 rw[bQ,tH,Dg]
 show v.text.size+_=_
 omega
theorem wM (b:Bool) (ql:ByteArray) (e:Expr) (a:ByteArray):gV (.mk b ql e a)=ql.size+szExpr e+a.size:=by rw[ja];omega
theorem yq (tb a:ByteArray) (on:List Expr):cA (.mk tb a on)=tb.size+a.size+fH (kW szExpr) on:=by rw[dF,tH];omega
theorem El (d:Bool) (it:List Item) (fr:List Source) (wh:List Expr) (od:List SortKey) (li:Int):szQuery (.mk d it fr wh od li)=fH (kW gV) it+fH (kW cA) fr+fH (kW szExpr) wh+fH (kW dV) od:=by
 rw[cV,tH,cU,ol,bX,ol,bN,ol];omega
theorem cN:(⟨#[]⟩:ByteArray).size=0:=rfl
theorem wN (h40:∀t∈L,t.text.size<=40) (s:PS):(bG L s).size<=40:=by
 unfold bG
 cases h:gj L s 0 with
 |none=>exact Nat.zero_le _
 |some t=>
  unfold gj at h
  split at h
  ·cases h
  ·exact h40 t (List.mem_of_getElem? h)
theorem tI (h40:∀t∈L,t.text.size<=40) (k:Int) (s:PS):(mText L k s).1.size<=40/\(mText L k s).1.size+64*s.a<=64*(mText L k s).2.a:=by
 have:=wN h40 s
 unfold mText
 split
 ·exact⟨this,by simp only[adv];omega⟩
 ·exact⟨Nat.zero_le _,by show (0:Nat)+_<=_;simp [fl]⟩
theorem DG (h40:∀t∈L,t.text.size<=40) (s:PS):(asM L s).1.size+64*s.a<=64*(asM L s).2.a:=by
 unfold asM
 split
 ·have:=(tI h40 2 (adv s)).2;rw[dL] at this;omega
 ·show (0:Nat)+64*s.a<=64*s.a;omega
theorem vv (h40:∀t∈L,t.text.size<=40) (s:PS):cA (sourceM L s).1+64*s.a<=64*(sourceM L s).2.a:=by
 have h1:=(tI h40 2 s).2
 have h2:=DG h40 (mText L 2 s).2
 unfold sourceM
 rw[yq]
 simp only[fH]
 omega
theorem zI (x:Source) (e:Expr) (h:∃a b,x = .mk a b []):cA (x.withOn [e])=cA x+szExpr e+1:=by
 obtain⟨a,b,rfl⟩:=h
 simp only[Source.withOn,yq,fH,kW]
 omega
theorem Wt.up {α:Type} {m:PM α} {w:α->Nat} {c:Nat} (h:Wt m w c):Wt m (kW w) (c+1):=fun s x s' hx=>by
 have:=h _ _ _ hx
 show w x+1+_<=_
 omega
variable {f:Nat->PM Expr} {q:PM Query}
theorem Wz.chain {g:PM Expr} (hg:Wt g szExpr 8) (lv:Nat):∀(n:Nat) (e:Expr) (s:PS) (x:Expr) (s':PS),cJ L g lv n e s=some (x,s')->szExpr x+64*s.a<=szExpr e+64*s'.a
 |0,_,_,_,_,h=>by cases h
 |n+1,e,s,x,s',h=>by
  rw[cJ] at h
  split at h
  ·injection h with h;injection h with hx h;subst hx h;exact Nat.le_refl _
  ·split at h
   ·cases h
   ·rename_i y s1 h1
    have a1:=hg _ _ _ h1
    have a2:=Wz.chain hg lv n _ _ _ _ h
    (try simp only[ft,dB,fH,kW,dL,bC,z0,cN] at *);omega
theorem Wz.sep {α:Type} {g:PM α} {w:α->Nat} {c:Nat} (hc:c<=64) (hg:Wt g w c):∀(n:Nat) (l:List α) (s:PS) (x:List α) (s':PS),dt L g n l s=some (x,s')->fH w x+64*s.a<=fH w l+64*s'.a
 |0,_,_,_,_,h=>by cases h
 |n+1,l,s,x,s',h=>by
  rw[dt] at h
  split at h
  ·split at h
   ·cases h
   ·rename_i y s1 h1
    have a1:=hg _ _ _ h1
    have a2:=Wz.sep hc hg n _ _ _ _ h
    (try simp only[fH,pi,dL] at *);omega
  ·injection h with h;injection h with hx h;subst hx h;exact Nat.le_refl _
theorem Wz.ors (hf:∀lv,Wt (f lv) szExpr 8):Wt (jb L f) (fH (kW szExpr)) 9:=fun s x s' h=>by
 unfold jb at h
 split at h
 ·cases h
 ·rename_i y s1 h1
  have a1:=hf 1 _ _ _ h1
  have a2:=Wz.sep (by omega) (Wt.up (hf 1)) _ _ _ _ _ h
  (try simp only[fH,kW] at *);omega
theorem Wz.inn (hf:∀lv,Wt (f lv) szExpr 8) (hq:Wt q szQuery 15) (e:Expr) (n:Bool) (s:PS) (x:Expr) (s':PS) (h:ug L f q e n s=some (x,s')):szExpr x+64*s.a<=szExpr e+40+64*s'.a:=by
 unfold ug at h
 simp only at h
 have m1:=gx (aN L s 40) s
 split at h
 ·split at h
  ·cases h
  ·rename_i y s1 h1
   injection h with h;injection h with hx h;subst hx h
   have a1:=hq _ _ _ h1
   have m2:=gx (aN L s1 41) s1
   (try simp only[cP,dB,fH,kW,bC,z0,cN] at *);omega
 ·split at h
  ·cases h
  ·rename_i y s1 h1
   injection h with h;injection h with hx h;subst hx h
   have a1:=Wz.ors hf _ _ _ h1
   have m2:=gx (aN L s1 41) s1
   (try simp only[cP,dB,fH,kW,bC,z0,cN] at *);omega
theorem Wz.cmpT (hf:∀lv,Wt (f lv) szExpr 8) (hq:Wt q szQuery 15) (e:Expr) (s:PS) (x:Expr) (s':PS) (h:cmpT L f q e s=some (x,s')):szExpr x+64*s.a<=szExpr e+64*s'.a:=by
 unfold Go.Proofs.YtbodcedhmccenaaGreatDoor.cmpT at h
 simp only at h
 split at h
 ·injection h with h;injection h with hx h;subst hx h
  have m1:=tG (ap L (adv s) 15) (adv s)
  have m2:=gx (ap L (tkIf (ap L (adv s) 15) (adv s)) 20) (tkIf (ap L (adv s) 15) (adv s))
  (try simp only[cP,dB,fH,kW,dL,bC,z0,cN] at *);omega
 ·have m0:=tG (ap L s 15) s
  split at h
  ·split at h
   ·cases h
   ·rename_i y s1 h1
    split at h
    ·cases h
    ·rename_i z s2 h2
     injection h with h;injection h with hx h;subst hx h
     have a1:=hf 5 _ _ _ h1
     have a2:=hf 5 _ _ _ h2
     have m2:=gx (ap L s1 13) s1
     (try simp only[cP,dB,fH,kW,dL,bC,z0,cN] at *);omega
  ·split at h
   ·have a1:=Wz.inn hf hq e _ _ _ _ h
    (try simp only[dL] at *);omega
   ·injection h with h;injection h with hx h;subst hx h
    show szExpr e+64*s.a<=szExpr e+64*(tkIf (ap L s 15) s).a
    omega
theorem Wz.cmp (hf:∀lv,Wt (f lv) szExpr 8) (hq:Wt q szQuery 15):Wt (kj L f q) szExpr 8:=fun s x s' h=>by
 unfold kj at h
 split at h
 ·cases h
 ·rename_i y s1 h1
  have a1:=hf 5 _ _ _ h1
  split at h
  ·have a2:=Wz.cmpT hf hq _ _ _ _ h
   omega
  ·split at h
   ·cases h
   ·rename_i z s2 h2
    injection h with h;injection h with hx h;subst hx h
    have a2:=hf 5 _ _ _ h2
    (try simp only[ft,dB,fH,kW,dL,bC,z0,cN] at *);omega
theorem Wz.prim (h40:∀t∈L,t.text.size<=40) (hf:∀lv,Wt (f lv) szExpr 8) (hq:Wt q szQuery 15):Wt (fa L f q) szExpr 8:=fun s x s' h=>by
 have x40:=wN h40 s
 unfold fa at h
 simp only at h
 split at h
 ·injection h with h;injection h with hx h;subst hx h;(try simp only[dD,dB,fH,dL,z0,cN] at *);omega
 split at h
 ·injection h with h;injection h with hx h;subst hx h;(try simp only[dD,dB,fH,dL,z0,cN] at *);omega
 split at h
 ·injection h with h;injection h with hx h;subst hx h;(try simp only[dD,dB,fH,dL,bC,z0,cN] at *);omega
 split at h
 ·injection h with h;injection h with hx h;subst hx h;(try simp only[dD,dB,fH,dL,z0,cN] at *);omega
 split at h
 ·injection h with h;injection h with hx h;subst hx h;(try simp only[dD,dB,fH,dL,z0,cN] at *);omega
 split at h
 ·split at h
  ·injection h with h;injection h with hx h;subst hx h
   have m1:=(tI h40 2 (adv (adv s))).2
   (try simp only[mG,dB,fH,dL,bC,cN] at *);omega
  ·injection h with h;injection h with hx h;subst hx h;(try simp only[mG,dB,fH,dL,bC,z0,cN] at *);omega
 split at h
 ·split at h
  ·cases h
  ·rename_i y s1 h1
   injection h with h;injection h with hx h;subst hx h
   have a1:=hf 1 _ _ _ h1
   have m1:=gx (aN L s1 41) s1
   (try simp only[dL] at *);omega
 split at h
 ·split at h
  ·cases h
  ·rename_i y s1 h1
   injection h with h;injection h with hx h;subst hx h
   have a1:=hq _ _ _ h1
   have m1:=gx (aN L (adv s) 40) (adv s)
   have m2:=gx (aN L s1 41) s1
   (try simp only[cP,dB,fH,kW,dL,bC,z0,cN] at *);omega
 ·injection h with h;injection h with hx h;subst hx h;(try simp only[zExpr,dB,fH,FF,bC,z0,cN] at *);omega
theorem Wz.stepE (h40:∀t∈L,t.text.size<=40) (hf:∀lv,Wt (f lv) szExpr 8) (hq:Wt q szQuery 15) (lv:Nat):Wt (stepE L f q lv) szExpr 8:=fun s x s' h=>by
 unfold Go.Proofs.YtbodcedhmccenaaGreatDoor.stepE at h
 split at h
 ·split at h
  ·split at h
   ·cases h
   ·rename_i y s1 h1
    injection h with h;injection h with hx h;subst hx h
    have a1:=hf 3 _ _ _ h1
    (try simp only[nD,dB,fH,kW,dL,bC,z0,cN] at *);omega
  ·exact hf 4 _ _ _ h
 split at h
 ·exact Wz.cmp hf hq _ _ _ h
 split at h
 ·split at h
  ·split at h
   ·cases h
   ·rename_i y s1 h1
    injection h with h;injection h with hx h;subst hx h
    have a1:=hf 8 _ _ _ h1
    (try simp only[nD,dB,fH,kW,dL,bC,z0,cN] at *);omega
  ·exact hf 9 _ _ _ h
 split at h
 ·exact Wz.prim h40 hf hq _ _ _ h
 ·split at h
  ·cases h
  ·rename_i y s1 h1
   have a1:=hf _ _ _ _ h1
   have a2:=Wz.chain (hf _) lv _ _ _ _ _ h
   omega
theorem Wz.item (h40:∀t∈L,t.text.size<=40) (hf:∀lv,Wt (f lv) szExpr 8):Wt (fc L f) gV 11:=fun s x s' h=>by
 have x40:=wN h40 s
 unfold fc at h
 split at h
 ·injection h with h;injection h with hx h;subst hx h
  (try simp only[zExpr,dB,wM,fH,dL,bC,z0,cN] at *);omega
 split at h
 ·injection h with h;injection h with hx h;subst hx h
  (try simp only[zExpr,dB,wM,fH,dL,bC,z0,cN] at *);omega
 split at h
 ·cases h
 ·rename_i y s1' h1
  injection h with h;injection h with hx h;subst hx h
  have a1:=hf 1 _ _ _ h1
  have m1:=DG h40 s1'
  rw[wM]
  show (0:Nat)+_+_+_<=_
  omega
theorem Wz.sources (h40:∀t∈L,t.text.size<=40) (hf:∀lv,Wt (f lv) szExpr 8):∀(n:Nat) (l:List Source) (s:PS) (x:List Source) (s':PS),bR L f n l s=some (x,s')->fH (kW cA) x+64*s.a<=fH (kW cA) l+64*s'.a
 |0,_,_,_,_,h=>by cases h
 |n+1,l,s,x,s',h=>by
  rw[bR] at h
  have m1:=vv h40 (adv s)
  split at h
  ·have a2:=Wz.sources h40 hf n _ _ _ _ h
   (try simp only[fH,pi,kW,dL] at *);omega
  simp only at h
  split at h
  ·split at h
   ·cases h
   ·rename_i y s1 h1
    have a1:=hf 1 _ _ _ h1
    have m2:=gx (ap L (sourceM L (adv s)).2 5) (sourceM L (adv s)).2
    have a2:=Wz.sources h40 hf n _ _ _ _ h
    have w2:=zI (sourceM L (adv s)).1 y ⟨_,_,rfl⟩
    (try simp only[fH,pi,kW,dL] at *);omega
  ·injection h with h;injection h with hx h;subst hx h;exact Nat.le_refl _
theorem Wz.wher (hf:∀lv,Wt (f lv) szExpr 8):Wt (du L f) (fH (kW szExpr)) 0:=fun s x s' h=>by
 unfold du at h
 split at h
 ·split at h
  ·cases h
  ·rename_i y s1 h1
   injection h with h;injection h with hx h;subst hx h
   have a1:=hf 1 _ _ _ h1
   (try simp only[fH,kW,dL] at *);omega
 ·injection h with h;injection h with hx h;subst hx h;(try simp only[fH] at *);omega
theorem sd (e:Expr) (d:Bool):dV (.mk e d)=szExpr e:=gH e d
theorem Wz.sort (hf:∀lv,Wt (f lv) szExpr 8):Wt (fe L f) dV 9:=fun s x s' h=>by
 unfold fe at h
 split at h
 ·cases h
 ·rename_i y s1 h1
  have a1:=hf 1 _ _ _ h1
  split at h
  ·injection h with h;injection h with hx h;subst hx h
   rw[sd,dL]
   omega
  ·injection h with h;injection h with hx h;subst hx h
   have m1:=tG (ap L s1 10) s1
   rw[sd]
   omega
theorem Wz.order (hf:∀lv,Wt (f lv) szExpr 8):Wt (eW L f) (fH (kW dV)) 0:=fun s x s' h=>by
 unfold eW at h
 simp only at h
 split at h
 ·split at h
  ·cases h
  ·rename_i y s1 h1
   have m1:=gx (ap L (adv s) 8) (adv s)
   have a1:=Wz.sort hf _ _ _ h1
   have a2:=Wz.sep (by omega) (Wt.up (Wz.sort hf)) _ _ _ _ _ h
   (try simp only[fH,kW,dL] at *);omega
 ·injection h with h;injection h with hx h;subst hx h;(try simp only[fH] at *);omega
theorem Wz.items (h40:∀t∈L,t.text.size<=40) (hf:∀lv,Wt (f lv) szExpr 8):Wt (eX L f) (fH (kW gV)) 12:=fun s x s' h=>by
 unfold eX at h
 split at h
 ·cases h
 ·rename_i y s1 h1
  have a1:=Wz.item h40 hf _ _ _ h1
  have a2:=Wz.sep (by omega) (Wt.up (Wz.item h40 hf)) _ _ _ _ _ h
  (try simp only[fH,kW] at *);omega
theorem Wz.stepQ (h40:∀t∈L,t.text.size<=40) (hf:∀lv,Wt (f lv) szExpr 8):Wt (stepQ L f) szQuery 15:=fun s x s' h=>by
 unfold Go.Proofs.YtbodcedhmccenaaGreatDoor.stepQ at h
 simp only at h
 split at h
 ·cases h
 rename_i its s2 h1
 split at h
 ·cases h
 rename_i frs s4 h2
 split at h
 ·cases h
 rename_i wh s5 h3
 split at h
 ·cases h
 rename_i od s6 h4
 injection h with h;injection h with hx h;subst hx h
 have m1:=gx (ap L s 1) s
 have m2:=tG (ap L (must (ap L s 1) s) 2) (must (ap L s 1) s)
 have a1:=Wz.items h40 hf _ _ _ h1
 have m3:=gx (ap L s2 3) s2
 have m4:=vv h40 (must (ap L s2 3) s2)
 have a2:=Wz.sources h40 hf _ _ _ _ _ h2
 have a3:=Wz.wher hf _ _ _ h3
 have a4:=Wz.order hf _ _ _ h4
 have m5:=BU (L:=L) s6
 (try simp only[El,fH,kW] at *);omega
theorem yr (h40:∀t∈L,t.text.size<=40):∀k,(∀lv,Wt ((pP L k).1 lv) szExpr 8)/\Wt (pP L k).2 szQuery 15
 |0=>⟨fun _ _ _ _ h=>(by cases h),fun _ _ _ h=>(by cases h)⟩
 |k+1=>⟨fun lv=>Wz.stepE h40 (yr h40 k).1 (yr h40 k).2 lv,Wz.stepQ h40 (yr h40 k).1⟩
theorem qH (h40:∀t∈L,t.text.size<=40) (hL:L.length<=2000):szExpr (bK L).1<=200000:=by
 have hz:szExpr zExpr<=200000:=by rw[zExpr,dB];exact (by decide:0+0+0+0+0<=200000)
 unfold bK
 cases h:hD L 1 s0 with
 |none=>exact hz
 |some p=>
  obtain⟨x,s⟩:=p
  have h1:=(yr h40 (pD L)).1 1 _ _ _ h
  have h2:=(eh (L:=L) 1 _ _ _ h).2.1 (Nat.zero_le _)
  unfold ff
  simp only
  split
  ·exact hz
  ·show szExpr x<=_
   omega
end
theorem yu {t:Tok} (h:bg t=true):t.text.size<=40:=by
 unfold bg at h
 split at h
 ·simp only[Bool.and_eq_true,decide_eq_true_eq] at h
  have:¬ 8<t.text.size:=fun hl=>h.1 (u7 hl)
  omega
 split at h
 ·have:=of_decide_eq_true h;omega
 split at h
 ·unfold mE at h
  obtain⟨m,hm⟩:=Option.isSome_iff_exists.1 h
  obtain⟨h1,h2⟩:=f7.1 hm
  have:=eL m 18 (by omega)
  rw[h2,aD] at this
  omega
 split at h
 ·exact of_decide_eq_true h
 split at h
 ·unfold fp at h
  rw[List.any_eq_true] at h
  obtain⟨x,hx,he⟩:=h
  rw[of_decide_eq_true he]
  exact Nat.le_trans ((by decide:∀s∈signs,s.size<=2) x hx) (by omega)
 ·cases h
end Go.Proofs.YtbodcedhmccenaaGreatDoor
