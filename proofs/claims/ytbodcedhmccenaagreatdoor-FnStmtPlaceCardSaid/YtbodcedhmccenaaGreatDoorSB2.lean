/-
  What is read ahead.
  Conditions: none.
-/
import Derived.Test.YtbodcedhmccenaaGreatDoorSB1
set_option linter.unusedVariables false
set_option linter.unusedSimpArgs false
set_option linter.unusedSectionVars false
set_option maxRecDepth 8000
namespace Go.Proofs.YtbodcedhmccenaaGreatDoor
open Go Go.Dv
open Go.Vc (D d5 d6 cM bo)
section
variable {L1 L2:List Tok} {k:Nat}
def Ag (k:Nat) (L1 L2:List Tok):Prop:=∀i,i<k->L1[i]?=L2[i]?
def LcM {α:Type} (k:Nat) (m1 m2:PM α):Prop:=∀s x s1 r,m1 s=some (x,s1)->s1.a<k->m2 s=some r->r=(x,s1)
variable (h:Ag k L1 L2)
include h
theorem Ah {s:PS} {j:Nat} (hs:s.a+j<k):gj L2 s j=gj L1 s j:=by
 unfold gj
 rw[h _ hs]
theorem vZ {s:PS} {j:Nat} (hs:s.a+j<k) (kind:Int) (x:ByteArray):iA L2 s j kind x=iA L1 s j kind x:=by
 unfold iA
 rw[Ah h hs]
theorem bH {s:PS} (hs:s.a<k) (n:Nat):ap L2 s n=ap L1 s n:=vZ h (j:=0) hs 1 _
theorem gB {s:PS} (hs:s.a<k) (c:UInt8):aN L2 s c=aN L1 s c:=vZ h (j:=0) hs 5 _
theorem Cx {s:PS} (hs:s.a<k) (kind:Int):jz L2 s kind=jz L1 s kind:=by
 unfold jz
 rw[Ah h (j:=0) hs]
theorem sH {s:PS} (hs:s.a<k):bG L2 s=bG L1 s:=by
 unfold bG
 rw[Ah h (j:=0) hs]
theorem oE {s:PS} (hs:s.a<k) (kind:Int):mText L2 kind s=mText L1 kind s:=by
 unfold mText
 rw[Cx h hs,sH h hs]
theorem xu {s:PS} (hs:s.a<k):∀l:List Nat,gZ L2 s l=gZ L1 s l
 | []=>rfl
 |op::r=>by
  rw[gZ,gZ,xu hs r]
  have:jY L2 s op=jY L1 s op:=vZ h (j:=0) hs _ _
  rw[this]
theorem Ai {s:PS} (hs:s.a<k) (lv:Nat):cI L2 s lv=cI L1 s lv:=xu h hs _
theorem Dt {s:PS} (hs:(asM L1 s).2.a<k):asM L2 s=asM L1 s:=by
 have h0:=(Ok.asM (L:=L1) s).1
 have hsa:s.a<k:=Nat.lt_of_le_of_lt h0 hs
 unfold asM at hs ⊢
 rw[bH h (by omega)]
 split
 ·rename_i hc
  rw[if_pos hc] at hs
  have:=(Ok.mText (L:=L1) 2 (adv s)).1
  rw[oE h (by omega)]
 ·rfl
theorem nM {s:PS} (hs:(sourceM L1 s).2.a<k):sourceM L2 s=sourceM L1 s:=by
 have h0:=(Ok.mText (L:=L1) 2 s).1
 have h1:=(Ok.asM (L:=L1) (mText L1 2 s).2).1
 unfold sourceM at hs ⊢
 simp only at hs
 rw[oE h (by omega),Dt h hs]
theorem LcM.chain {g1 g2:PM Expr} (ok:OkM (L:=L1) g1) (hg:LcM k g1 g2) (lv:Nat):∀(n n':Nat) (e:Expr),LcM k (cJ L1 g1 lv n e) (cJ L2 g2 lv n' e)
 |0,_,_,_,_,_,_,h1,_,_=>by cases h1
 |_+1,0,_,_,_,_,_,_,_,h2=>by cases h2
 |n+1,n'+1,e,s,x,s1,r,h1,hk,h2=>by
  have o:=(OkM.chain ok lv _ _ _ _ _ h1).1
  rw[cJ] at h1 h2
  rw[Ai h (by omega)] at h2
  split at h1
  ·rename_i hc
   rw[if_pos hc] at h2
   injection h1 with h1;injection h1 with e1 e2
   injection h2 with h2;rw[<-h2,e1,e2]
  ·rename_i hc
   rw[if_neg hc] at h2
   split at h1
   ·cases h1
   ·rename_i y t hy
    have o2:=(OkM.chain ok lv _ _ _ _ _ h1).1
    split at h2
    ·cases h2
    ·rename_i z u hz
     have:=hg _ _ _ _ hy (by omega) hz
     injection this with e1 e2
     subst e1 e2
     exact LcM.chain ok hg lv n n' _ _ _ _ _ h1 hk h2
theorem LcM.sep {α:Type} {g1 g2:PM α} (ok:OkM (L:=L1) g1) (hg:LcM k g1 g2):∀(n n':Nat) (l:List α),LcM k (dt L1 g1 n l) (dt L2 g2 n' l)
 |0,_,_,_,_,_,_,h1,_,_=>by cases h1
 |_+1,0,_,_,_,_,_,_,_,h2=>by cases h2
 |n+1,n'+1,l,s,x,s1,r,h1,hk,h2=>by
  have o:=(OkM.sep ok _ _ _ _ _ h1).1
  rw[dt] at h1 h2
  rw[gB h (by omega)] at h2
  split at h1
  ·rename_i hc
   rw[if_pos hc] at h2
   split at h1
   ·cases h1
   ·rename_i y t hy
    have o2:=(OkM.sep ok _ _ _ _ _ h1).1
    split at h2
    ·cases h2
    ·rename_i z u hz
     have:=hg _ _ _ _ hy (by omega) hz
     injection this with e1 e2
     subst e1 e2
     exact LcM.sep ok hg n n' _ _ _ _ _ h1 hk h2
  ·rename_i hc
   rw[if_neg hc] at h2
   injection h1 with h1;injection h1 with e1 e2
   injection h2 with h2;rw[<-h2,e1,e2]
variable {f1 f2:Nat->PM Expr} {q1 q2:PM Query} (okf:∀lv,OkM (L:=L1) (f1 lv)) (okq:OkM (L:=L1) q1) (hf:∀lv,LcM k (f1 lv) (f2 lv)) (hq:LcM k q1 q2)
include okf hf
theorem LcM.ors:LcM k (jb L1 f1) (jb L2 f2):=fun s x s1 r h1 hk h2=>by
 unfold jb at h1 h2
 split at h1
 ·cases h1
 ·rename_i y t hy
  have o2:=(OkM.sep (okf 1) _ _ _ _ _ h1).1
  split at h2
  ·cases h2
  ·rename_i z u hz
   have:=hf 1 _ _ _ _ hy (by omega) hz
   injection this with e1 e2
   subst e1 e2
   exact LcM.sep h (okf 1) (hf 1) _ _ _ _ _ _ _ h1 hk h2
include okq hq in
theorem LcM.inn (e:Expr) (n:Bool):LcM k (ug L1 f1 q1 e n) (ug L2 f2 q2 e n):=fun s x s1 r h1 hk h2=>by
 have o:=(OkM.inn okf okq e n _ _ _ h1).1
 have o1:Ok L1 s (must (aN L1 s 40) s):=Ok.must fun h=>ax h
 unfold ug at h1 h2
 simp only at h1 h2
 rw[gB h (s:=s) (by omega)] at h2
 have o1':=o1.1
 split at h1
 ·rename_i hc
  split at h1
  ·cases h1
  ·rename_i y t hy
   injection h1 with h1;injection h1 with e1 e2
   have o3:Ok L1 t (must (aN L1 t 41) t):=Ok.must fun h=>ax h
   have o2:=(okq _ _ _ hy).1
   have o3':=o3.1
   rw[e2] at o3'
   rw[bH h (s:=must (aN L1 s 40) s) (by omega),if_pos hc] at h2
   split at h2
   ·cases h2
   ·rename_i z u hz
    have:=hq _ _ _ _ hy (by omega) hz
    injection this with e3 e4
    subst e3 e4
    rw[gB h (by omega)] at h2
    injection h2 with h2;rw[<-h2,e1,e2]
 ·rename_i hc
  split at h1
  ·cases h1
  ·rename_i y t hy
   injection h1 with h1;injection h1 with e1 e2
   have o3:Ok L1 t (must (aN L1 t 41) t):=Ok.must fun h=>ax h
   have o2:=(OkM.ors okf _ _ _ hy).1
   have o3':=o3.1
   rw[e2] at o3'
   rw[bH h (s:=must (aN L1 s 40) s) (by omega),if_neg hc] at h2
   split at h2
   ·cases h2
   ·rename_i z u hz
    have:=LcM.ors h okf hf _ _ _ _ hy (by omega) hz
    injection this with e3 e4
    subst e3 e4
    rw[gB h (by omega)] at h2
    injection h2 with h2;rw[<-h2,e1,e2]
include okq hq in
theorem LcM.cmpT (e:Expr):LcM k (cmpT L1 f1 q1 e) (cmpT L2 f2 q2 e):=fun s x s1 r h1 hk h2=>by
 have o:=(OkM.cmpT okf okq e _ _ _ h1).1
 have o1:Ok L1 s (tkIf (ap L1 s 15) s):=Ok.tkIf fun h=>ao h
 unfold Go.Proofs.YtbodcedhmccenaaGreatDoor.cmpT at h1 h2
 simp only at h1 h2
 rw[bH h (s:=s) (by omega),bH h (s:=s) (by omega)] at h2
 split at h1
 ·rename_i hc
  rw[if_pos hc] at h2
  have a1:=(Ok.adv (ao hc)).1
  have o2:Ok L1 (adv s) (tkIf (ap L1 (adv s) 15) (adv s)):=Ok.tkIf fun h=>ao h
  have o3:Ok L1 (tkIf (ap L1 (adv s) 15) (adv s)) (must (ap L1 (tkIf (ap L1 (adv s) 15) (adv s)) 20) (tkIf (ap L1 (adv s) 15) (adv s))):=Ok.must fun h=>ao h
  have e2:=congrArg Prod.snd (Option.some.inj h1)
  simp only at e2
  have o2':=o2.1
  have o3':=o3.1
  rw[e2] at o3'
  rw[bH h (s:=adv s) (by omega),bH h (s:=tkIf (ap L1 (adv s) 15) (adv s)) (by omega)] at h2
  exact (Option.some.inj (h1.symm.trans h2)).symm
 ·rename_i hc
  rw[if_neg hc] at h2
  have o1':=o1.1
  generalize tkIf (ap L1 s 15) s=u at *
  split at h1
  ·rename_i hc2
   have a1:=(Ok.adv (ao hc2)).1
   split at h1
   ·cases h1
   ·rename_i y t hy
    split at h1
    ·cases h1
    ·rename_i z v hz
     have e2:=congrArg Prod.snd (Option.some.inj h1)
     simp only at e2
     have b1:=(okf 5 _ _ _ hy).1
     have b2:Ok L1 t (must (ap L1 t 13) t):=Ok.must fun h=>ao h
     have b2':=b2.1
     have b3:=(okf 5 _ _ _ hz).1
     rw[e2] at b3
     rw[bH h (s:=u) (by omega),if_pos hc2] at h2
     split at h2
     ·cases h2
     ·rename_i y' t' hy'
      have:=hf 5 _ _ _ _ hy (by omega) hy'
      injection this with e3 e4
      subst e3 e4
      rw[bH h (s:=t') (by omega)] at h2
      split at h2
      ·cases h2
      ·rename_i z' v' hz'
       have:=hf 5 _ _ _ _ hz (by rw[e2];omega) hz'
       injection this with e5 e6
       subst e5 e6
       exact (Option.some.inj (h1.symm.trans h2)).symm
  ·rename_i hc2
   split at h1
   ·rename_i hc3
    have a1:=(Ok.adv (ao hc3)).1
    have b1:=(OkM.inn okf okq _ _ _ _ _ h1).1
    rw[bH h (s:=u) (by omega),if_neg hc2,bH h (s:=u) (by omega),if_pos hc3] at h2
    exact LcM.inn h okf okq hf hq _ _ _ _ _ _ h1 hk h2
   ·rename_i hc3
    have e2:=congrArg Prod.snd (Option.some.inj h1)
    simp only at e2
    have:u.a<k:=by rw[<-e2] at hk;exact hk
    rw[bH h (s:=u) this,if_neg hc2,bH h (s:=u) this,if_neg hc3] at h2
    exact (Option.some.inj (h1.symm.trans h2)).symm
include okq hq in
theorem LcM.cmp:LcM k (kj L1 f1 q1) (kj L2 f2 q2):=fun s x s1 r h1 hk h2=>by
 unfold kj at h1 h2
 split at h1
 ·cases h1
 ·rename_i y t hy
  split at h1
  ·rename_i hc
   have o:=(OkM.cmpT okf okq _ _ _ _ h1).1
   split at h2
   ·cases h2
   ·rename_i y' t' hy'
    have:=hf 5 _ _ _ _ hy (by omega) hy'
    injection this with e3 e4
    subst e3 e4
    rw[Ai h (by omega),if_pos hc] at h2
    exact LcM.cmpT h okf okq hf hq _ _ _ _ _ h1 hk h2
  ·rename_i hc
   have a1:=(Ok.adv (d7 hc)).1
   split at h1
   ·cases h1
   ·rename_i z v hz
    have e2:=congrArg Prod.snd (Option.some.inj h1)
    simp only at e2
    have b1:=(okf 5 _ _ _ hz).1
    rw[e2] at b1
    split at h2
    ·cases h2
    ·rename_i y' t' hy'
     have:=hf 5 _ _ _ _ hy (by omega) hy'
     injection this with e3 e4
     subst e3 e4
     rw[Ai h (by omega),if_neg hc] at h2
     split at h2
     ·cases h2
     ·rename_i z' v' hz'
      have:=hf 5 _ _ _ _ hz (by rw[e2];omega) hz'
      injection this with e5 e6
      subst e5 e6
      exact (Option.some.inj (h1.symm.trans h2)).symm
include okq hq in
theorem LcM.prim:LcM k (fa L1 f1 q1) (fa L2 f2 q2):=fun s x s1 r h1 hk h2=>by
 have o:=(OkM.prim okf okq _ _ _ h1).1
 have hs:s.a<k:=by omega
 unfold fa at h1 h2
 simp only at h1 h2
 simp only[Cx h hs,bH h hs,gB h hs,sH h hs] at h2
 split at h1
 ·rename_i hc;rw[if_pos hc] at h2;exact (Option.some.inj (h1.symm.trans h2)).symm
 rename_i c1
 rw[if_neg c1] at h2
 split at h1
 ·rename_i hc;rw[if_pos hc] at h2;exact (Option.some.inj (h1.symm.trans h2)).symm
 rename_i c2
 rw[if_neg c2] at h2
 split at h1
 ·rename_i hc;rw[if_pos hc] at h2;exact (Option.some.inj (h1.symm.trans h2)).symm
 rename_i c3
 rw[if_neg c3] at h2
 split at h1
 ·rename_i hc;rw[if_pos hc] at h2;exact (Option.some.inj (h1.symm.trans h2)).symm
 rename_i c4
 rw[if_neg c4] at h2
 split at h1
 ·rename_i hc;rw[if_pos hc] at h2;exact (Option.some.inj (h1.symm.trans h2)).symm
 rename_i c5
 rw[if_neg c5] at h2
 split at h1
 ·rename_i hc
  rw[if_pos hc] at h2
  have e0:(adv s).a=s.a+1:=rfl
  have e00:(adv (adv s)).a=s.a+1+1:=rfl
  split at h1
  ·rename_i hd
   have e2:=congrArg Prod.snd (Option.some.inj h1)
   simp only at e2
   have b:=(Ok.mText (L:=L1) 2 (adv (adv s))).1
   rw[e2] at b
   rw[gB h (s:=adv s) (by omega),if_pos hd,oE h (s:=adv (adv s)) (by omega)] at h2
   exact (Option.some.inj (h1.symm.trans h2)).symm
  ·rename_i hd
   have e2:=congrArg Prod.snd (Option.some.inj h1)
   simp only at e2
   rw[<-e2] at hk
   rw[gB h (s:=adv s) hk,if_neg hd] at h2
   exact (Option.some.inj (h1.symm.trans h2)).symm
 rename_i c6
 rw[if_neg c6] at h2
 split at h1
 ·rename_i hc
  rw[if_pos hc] at h2
  split at h1
  ·cases h1
  ·rename_i y t hy
   have e2:=congrArg Prod.snd (Option.some.inj h1)
   simp only at e2
   have b:Ok L1 t (must (aN L1 t 41) t):=Ok.must fun h=>ax h
   have b':=b.1
   rw[e2] at b'
   split at h2
   ·cases h2
   ·rename_i y' t' hy'
    have:=hf 1 _ _ _ _ hy (by omega) hy'
    injection this with e3 e4
    subst e3 e4
    rw[gB h (s:=t') (by omega)] at h2
    exact (Option.some.inj (h1.symm.trans h2)).symm
 rename_i c7
 rw[if_neg c7] at h2
 split at h1
 ·rename_i hc
  rw[if_pos hc] at h2
  have b0:Ok L1 (adv s) (must (aN L1 (adv s) 40) (adv s)):=Ok.must fun h=>ax h
  have b0':=b0.1
  split at h1
  ·cases h1
  ·rename_i y t hy
   have e2:=congrArg Prod.snd (Option.some.inj h1)
   simp only at e2
   have b:Ok L1 t (must (aN L1 t 41) t):=Ok.must fun h=>ax h
   have b':=b.1
   have b1:=(okq _ _ _ hy).1
   rw[e2] at b'
   rw[gB h (s:=adv s) (by omega)] at h2
   split at h2
   ·cases h2
   ·rename_i y' t' hy'
    have:=hq _ _ _ _ hy (by omega) hy'
    injection this with e3 e4
    subst e3 e4
    rw[gB h (s:=t') (by omega)] at h2
    exact (Option.some.inj (h1.symm.trans h2)).symm
 ·rename_i hc
  rw[if_neg hc] at h2
  exact (Option.some.inj (h1.symm.trans h2)).symm
include okq hq in
theorem LcM.stepE (lv:Nat):LcM k (stepE L1 f1 q1 lv) (stepE L2 f2 q2 lv):=fun s x s1 r h1 hk h2=>by
 have o:=(OkM.stepE okf okq lv _ _ _ h1).1
 have hs:s.a<k:=by omega
 unfold Go.Proofs.YtbodcedhmccenaaGreatDoor.stepE at h1 h2
 split at h1
 ·rename_i e3
  rw[if_pos e3,bH h hs] at h2
  split at h1
  ·rename_i hc
   rw[if_pos hc] at h2
   split at h1
   ·cases h1
   ·rename_i y t hy
    have e2:=congrArg Prod.snd (Option.some.inj h1)
    simp only at e2
    subst e2
    split at h2
    ·cases h2
    ·rename_i y' t' hy'
     have:=hf 3 _ _ _ _ hy hk hy'
     injection this with e3 e4
     subst e3 e4
     exact (Option.some.inj (h1.symm.trans h2)).symm
  ·rename_i hc
   rw[if_neg hc] at h2
   exact hf 4 _ _ _ _ h1 hk h2
 rename_i c1
 rw[if_neg c1] at h2
 split at h1
 ·rename_i hc;rw[if_pos hc] at h2;exact LcM.cmp h okf okq hf hq _ _ _ _ h1 hk h2
 rename_i c2
 rw[if_neg c2] at h2
 split at h1
 ·rename_i e3
  rw[if_pos e3,gB h hs] at h2
  split at h1
  ·rename_i hc
   rw[if_pos hc] at h2
   split at h1
   ·cases h1
   ·rename_i y t hy
    have e2:=congrArg Prod.snd (Option.some.inj h1)
    simp only at e2
    subst e2
    split at h2
    ·cases h2
    ·rename_i y' t' hy'
     have:=hf 8 _ _ _ _ hy hk hy'
     injection this with e3 e4
     subst e3 e4
     exact (Option.some.inj (h1.symm.trans h2)).symm
  ·rename_i hc
   rw[if_neg hc] at h2
   exact hf 9 _ _ _ _ h1 hk h2
 rename_i c3
 rw[if_neg c3] at h2
 split at h1
 ·rename_i hc;rw[if_pos hc] at h2;exact LcM.prim h okf okq hf hq _ _ _ _ h1 hk h2
 ·rename_i hc
  rw[if_neg hc] at h2
  split at h1
  ·cases h1
  ·rename_i y t hy
   have b:=(OkM.chain (okf _) lv _ _ _ _ _ h1).1
   split at h2
   ·cases h2
   ·rename_i y' t' hy'
    have:=hf _ _ _ _ _ hy (by omega) hy'
    injection this with e3 e4
    subst e3 e4
    exact LcM.chain h (okf _) (hf _) lv _ _ _ _ _ _ _ h1 hk h2
omit h okf hf
def EB (L:List Tok) (f:PM Expr):Prop:=∀s e t,jz L s 2=true->f s=some (e,t)->s.a+1<=t.a/\(aN L (adv s) 46=true->s.a+2<=t.a)
theorem Cy {L:List Tok} {s:PS} (hk:jz L s 2=true):(∀n,ap L s n=false)/\(∀c,aN L s c=false)/\jz L s 3=false/\jz L s 4=false:=by
 unfold jz at hk
 cases ht:gj L s 0 with
 |none=>rw[ht] at hk;cases hk
 |some t=>
  rw[ht] at hk
  simp only[Bool.and_eq_true,decide_eq_true_eq] at hk
  have e:=hk.1
  refine⟨fun n=>?_,fun c=>?_,?_,?_⟩
  ·unfold ap iA;rw[ht];simp [e]
  ·unfold aN iA;rw[ht];simp [e]
  ·unfold jz;rw[ht];simp [e]
  ·unfold jz;rw[ht];simp [e]
theorem xv:∀(m:Nat) (lv:Nat),EB L1 ((pP L1 m).1 lv)
 |0,_,_,_,_,_,h=>by cases h
 |m+1,lv,s,e,t,hk,h=>by
  obtain⟨k1,k2,k3,k4⟩:=Cy hk
  have ih:=xv m
  have ok:=(jZ (L:=L1) m)
  have h:Go.Proofs.YtbodcedhmccenaaGreatDoor.stepE L1 (pP L1 m).1 (pP L1 m).2 lv s=some (e,t):=h
  unfold Go.Proofs.YtbodcedhmccenaaGreatDoor.stepE at h
  split at h
  ·rw[if_neg (by rw[k1];simp)] at h
   exact ih _ _ _ _ hk h
  split at h
  ·unfold kj at h
   split at h
   ·cases h
   ·rename_i y u hy
    have i1:=ih _ _ _ _ hk hy
    have o:Ok L1 u t:=by
     split at h
     ·exact OkM.cmpT ok.1 ok.2 _ _ _ _ h
     ·rename_i hc
      split at h
      ·cases h
      ·rename_i z v hz
       have e2:=congrArg Prod.snd (Option.some.inj h)
       simp only at e2
       subst e2
       exact (Ok.adv (d7 hc)).trans (ok.1 _ _ _ _ hz)
    have:=o.1
    exact⟨by omega,fun hd=>by have:=i1.2 hd;omega⟩
  split at h
  ·rw[if_neg (by rw[k2];simp)] at h
   exact ih _ _ _ _ hk h
  split at h
  ·unfold fa at h
   simp only[k3,k4,k1,hk,Bool.false_eq_true,if_false,if_true] at h
   split at h
   ·rename_i hd
    have e2:=congrArg Prod.snd (Option.some.inj h)
    simp only at e2
    have b:=(Ok.mText (L:=L1) 2 (adv (adv s))).1
    rw[e2] at b
    have b:s.a+1+1<=t.a:=b
    exact⟨by omega,fun _=>by omega⟩
   ·rename_i hd
    have e2:=congrArg Prod.snd (Option.some.inj h)
    simp only at e2
    subst e2
    exact⟨Nat.le_refl _,fun h=>absurd h hd⟩
  ·split at h
   ·cases h
   ·rename_i y u hy
    have i1:=ih _ _ _ _ hk hy
    have:=(OkM.chain (ok.1 _) lv _ _ _ _ _ h).1
    exact⟨by omega,fun hd=>by have:=i1.2 hd;omega⟩
theorem oF {L:List Tok} {s:PS} (hs:dG L s=true):jz L s 2=true/\iA L s 1 5 ⟨#[46]⟩=true/\iA L s 2 5 ⟨#[42]⟩=true:=by
 unfold dG at hs
 simpa [Bool.and_eq_true] using hs
theorem Cz {L:List Tok} {s:PS} {j:Nat} {kind:Int} {x:ByteArray}:iA L (adv s) j kind x=iA L s (j+1) kind x:=by
 unfold iA gj adv
 simp only
 rw[show s.a+1+j=s.a+(j+1) by omega]
theorem CA (h:Ag k L1 L2) {f:PM Expr} (ht:EB L1 f) {s t:PS} {e:Expr} (hf1:f s=some (e,t)) (hk:t.a<k) (hs:s.a<k) (hn:dG L1 s=false):dG L2 s=false:=by
 cases h2:dG L2 s with
 |false=>rfl
 |true=>
  exfalso
  obtain⟨a1,a2,a3⟩:=oF h2
  rw[Cx h hs] at a1
  obtain⟨c1,c2⟩:=ht _ _ _ a1 hf1
  by_cases b1:s.a+1<k
  ·rw[vZ h b1] at a2
   have a2':aN L1 (adv s) 46=true:=by unfold aN;rw[Cz];exact a2
   have:=c2 a2'
   rw[vZ h (j:=2) (by omega)] at a3
   unfold dG at hn
   rw[a1,a2,a3] at hn
   cases hn
  ·omega
theorem LcM.item (h:Ag k L1 L2) (okf:∀lv,OkM (L:=L1) (f1 lv)) (hf:∀lv,LcM k (f1 lv) (f2 lv)) (ht:EB L1 (f1 1)):LcM k (fc L1 f1) (fc L2 f2):=fun s x s1 r h1 hk h2=>by
 have o:=(OkM.item okf _ _ _ h1).1
 have hs:s.a<k:=by omega
 unfold fc at h1 h2
 rw[gB h hs] at h2
 split at h1
 ·rename_i hc;rw[if_pos hc] at h2;exact (Option.some.inj (h1.symm.trans h2)).symm
 rename_i c1
 rw[if_neg c1] at h2
 split at h1
 ·rename_i hc
  have e2:=congrArg Prod.snd (Option.some.inj h1)
  simp only at e2
  have e3:s.a+1+1+1=s1.a:=by rw[<-e2];rfl
  obtain⟨a1,a2,a3⟩:=oF hc
  have:dG L2 s=true:=by
   unfold dG
   rw[Cx h hs,vZ h (j:=1) (by omega),vZ h (j:=2) (by omega),a1,a2,a3];rfl
  rw[if_pos this,sH h hs] at h2
  exact (Option.some.inj (h1.symm.trans h2)).symm
 rename_i c2
 split at h1
 ·cases h1
 ·rename_i y t hy
  have e2:=congrArg Prod.snd (Option.some.inj h1)
  simp only at e2
  have b:=(Ok.asM (L:=L1) t).1
  rw[e2] at b
  have n2:=CA h ht hy (by omega) hs (by simpa using c2)
  rw[if_neg (by rw[n2];simp)] at h2
  split at h2
  ·cases h2
  ·rename_i y' t' hy'
   have:=hf 1 _ _ _ _ hy (by omega) hy'
   injection this with e3 e4
   subst e3 e4
   rw[Dt h (by rw[e2];exact hk)] at h2
   exact (Option.some.inj (h1.symm.trans h2)).symm
theorem LcM.sources (h:Ag k L1 L2) (okf:∀lv,OkM (L:=L1) (f1 lv)) (hf:∀lv,LcM k (f1 lv) (f2 lv)):∀(n n':Nat) (l:List Source),LcM k (bR L1 f1 n l) (bR L2 f2 n' l)
 |0,_,_,_,_,_,_,h1,_,_=>by cases h1
 |_+1,0,_,_,_,_,_,_,_,h2=>by cases h2
 |n+1,n'+1,l,s,x,s1,r,h1,hk,h2=>by
  have o:=(OkM.sources okf _ _ _ _ _ h1).1
  have hs:s.a<k:=by omega
  rw[bR] at h1 h2
  simp only at h1 h2
  rw[gB h hs,bH h hs] at h2
  split at h1
  ·rename_i hc
   rw[if_pos hc] at h2
   have o2:=(OkM.sources okf _ _ _ _ _ h1).1
   rw[nM h (s:=adv s) (by omega)] at h2
   exact LcM.sources h okf hf n n' _ _ _ _ _ h1 hk h2
  rename_i c1
  rw[if_neg c1] at h2
  split at h1
  ·rename_i hc
   rw[if_pos hc] at h2
   split at h1
   ·cases h1
   ·rename_i y t hy
    have o2:=(OkM.sources okf _ _ _ _ _ h1).1
    have o3:=(okf 1 _ _ _ hy).1
    have o4:Ok L1 (sourceM L1 (adv s)).2 (must (ap L1 (sourceM L1 (adv s)).2 5) (sourceM L1 (adv s)).2):=Ok.must fun h=>ao h
    have o5:=o4.1
    rw[nM h (s:=adv s) (by omega),bH h (s:=(sourceM L1 (adv s)).2) (by omega)] at h2
    split at h2
    ·cases h2
    ·rename_i y' t' hy'
     have:=hf 1 _ _ _ _ hy (by omega) hy'
     injection this with e3 e4
     subst e3 e4
     exact LcM.sources h okf hf n n' _ _ _ _ _ h1 hk h2
  ·rename_i hc
   rw[if_neg hc] at h2
   exact (Option.some.inj (h1.symm.trans h2)).symm
theorem LcM.wher (h:Ag k L1 L2) (okf:∀lv,OkM (L:=L1) (f1 lv)) (hf:∀lv,LcM k (f1 lv) (f2 lv)):LcM k (du L1 f1) (du L2 f2):=fun s x s1 r h1 hk h2=>by
 have o:=(OkM.wher okf _ _ _ h1).1
 have hs:s.a<k:=by omega
 unfold du at h1 h2
 rw[bH h hs] at h2
 split at h1
 ·rename_i hc
  rw[if_pos hc] at h2
  split at h1
  ·cases h1
  ·rename_i y t hy
   have e2:=congrArg Prod.snd (Option.some.inj h1)
   simp only at e2
   subst e2
   split at h2
   ·cases h2
   ·rename_i y' t' hy'
    have:=hf 1 _ _ _ _ hy hk hy'
    injection this with e3 e4
    subst e3 e4
    exact (Option.some.inj (h1.symm.trans h2)).symm
 ·rename_i hc
  rw[if_neg hc] at h2
  exact (Option.some.inj (h1.symm.trans h2)).symm
theorem LcM.sort (h:Ag k L1 L2) (okf:∀lv,OkM (L:=L1) (f1 lv)) (hf:∀lv,LcM k (f1 lv) (f2 lv)):LcM k (fe L1 f1) (fe L2 f2):=fun s x s1 r h1 hk h2=>by
 unfold fe at h1 h2
 split at h1
 ·cases h1
 ·rename_i y t hy
  have ht:t.a<k:=by
   split at h1
   ·rename_i hc
    have e2:=congrArg Prod.snd (Option.some.inj h1)
    simp only at e2
    have:t.a+1=s1.a:=by rw[<-e2];rfl
    omega
   ·have e2:=congrArg Prod.snd (Option.some.inj h1)
    simp only at e2
    have b:Ok L1 t (tkIf (ap L1 t 10) t):=Ok.tkIf fun h=>ao h
    have b':=b.1
    rw[e2] at b';omega
  split at h2
  ·cases h2
  ·rename_i y' t' hy'
   have:=hf 1 _ _ _ _ hy ht hy'
   injection this with e3 e4
   subst e3 e4
   rw[bH h ht,bH h ht] at h2
   exact (Option.some.inj (h1.symm.trans h2)).symm
theorem LcM.order (h:Ag k L1 L2) (okf:∀lv,OkM (L:=L1) (f1 lv)) (hf:∀lv,LcM k (f1 lv) (f2 lv)):LcM k (eW L1 f1) (eW L2 f2):=fun s x s1 r h1 hk h2=>by
 have o:=(OkM.order okf _ _ _ h1).1
 have hs:s.a<k:=by omega
 unfold eW at h1 h2
 simp only at h1 h2
 rw[bH h hs] at h2
 split at h1
 ·rename_i hc
  rw[if_pos hc] at h2
  split at h1
  ·cases h1
  ·rename_i y t hy
   have o2:=(OkM.sep (OkM.sort okf) _ _ _ _ _ h1).1
   have o3:=(OkM.sort okf _ _ _ hy).1
   have o4:Ok L1 (adv s) (must (ap L1 (adv s) 8) (adv s)):=Ok.must fun h=>ao h
   have o5:=o4.1
   rw[bH h (s:=adv s) (by omega)] at h2
   split at h2
   ·cases h2
   ·rename_i y' t' hy'
    have:=LcM.sort h okf hf _ _ _ _ hy (by omega) hy'
    injection this with e3 e4
    subst e3 e4
    exact LcM.sep h (OkM.sort okf) (LcM.sort h okf hf) _ _ _ _ _ _ _ h1 hk h2
 ·rename_i hc
  rw[if_neg hc] at h2
  exact (Option.some.inj (h1.symm.trans h2)).symm
theorem LcM.items (h:Ag k L1 L2) (okf:∀lv,OkM (L:=L1) (f1 lv)) (hf:∀lv,LcM k (f1 lv) (f2 lv)) (ht:EB L1 (f1 1)):LcM k (eX L1 f1) (eX L2 f2):=fun s x s1 r h1 hk h2=>by
 unfold eX at h1 h2
 split at h1
 ·cases h1
 ·rename_i y t hy
  have o2:=(OkM.sep (OkM.item okf) _ _ _ _ _ h1).1
  split at h2
  ·cases h2
  ·rename_i y' t' hy'
   have:=LcM.item h okf hf ht _ _ _ _ hy (by omega) hy'
   injection this with e3 e4
   subst e3 e4
   exact LcM.sep h (OkM.item okf) (LcM.item h okf hf ht) _ _ _ _ _ _ _ h1 hk h2
theorem Aj (h:Ag k L1 L2) {s:PS} (hs:(limitM L1 s).2.a<k):limitM L2 s=limitM L1 s:=by
 have h0:=(Ok.limitM (L:=L1) s).1
 have hsa:s.a<k:=Nat.lt_of_le_of_lt h0 hs
 unfold limitM at hs ⊢
 rw[bH h (by omega)]
 split
 ·rename_i hc
  rw[if_pos hc] at hs
  have:(mNum L1 (adv s)).2=(mText L1 3 (adv s)).2:=rfl
  rw[this] at hs
  have:=(Ok.mText (L:=L1) 3 (adv s)).1
  unfold mNum
  rw[oE h (by omega)]
 ·rfl
theorem LcM.stepQ (h:Ag k L1 L2) (okf:∀lv,OkM (L:=L1) (f1 lv)) (hf:∀lv,LcM k (f1 lv) (f2 lv)) (ht:EB L1 (f1 1)):LcM k (stepQ L1 f1) (stepQ L2 f2):=fun s x s1 r h1 hk h2=>by
 have o:=(OkM.stepQ okf _ _ _ h1).1
 have hs:s.a<k:=by omega
 unfold Go.Proofs.YtbodcedhmccenaaGreatDoor.stepQ at h1 h2
 simp only at h1 h2
 split at h1
 ·cases h1
 rename_i its s2 hi
 split at h1
 ·cases h1
 rename_i frs s4 hf'
 split at h1
 ·cases h1
 rename_i wh s5 hw
 split at h1
 ·cases h1
 rename_i od s6 hod
 have e2:=congrArg Prod.snd (Option.some.inj h1)
 simp only at e2
 have a1:Ok L1 s (must (ap L1 s 1) s):=Ok.must fun h=>ao h
 have a2:Ok L1 (must (ap L1 s 1) s) (tkIf (ap L1 (must (ap L1 s 1) s) 2) (must (ap L1 s 1) s)):=Ok.tkIf fun h=>ao h
 have a3:=(OkM.items okf _ _ _ hi).1
 have a4:Ok L1 s2 (must (ap L1 s2 3) s2):=Ok.must fun h=>ao h
 have a5:=(Ok.sourceM (L:=L1) (must (ap L1 s2 3) s2)).1
 have a6:=(OkM.sources okf _ _ _ _ _ hf').1
 have a7:=(OkM.wher okf _ _ _ hw).1
 have a8:=(OkM.order okf _ _ _ hod).1
 have a9:=(Ok.limitM (L:=L1) s6).1
 rw[e2] at a9
 have a1':=a1.1
 have a2':=a2.1
 have a4':=a4.1
 rw[bH h hs,bH h (s:=must (ap L1 s 1) s) (by omega)] at h2
 split at h2
 ·cases h2
 rename_i its' s2' hi'
 have:=LcM.items h okf hf ht _ _ _ _ hi (by omega) hi'
 injection this with e3 e4
 subst e3 e4
 rw[bH h (s:=s2') (by omega),nM h (s:=must (ap L1 s2' 3) s2') (by omega)] at h2
 split at h2
 ·cases h2
 rename_i frs' s4' hf2
 have:=LcM.sources h okf hf _ _ _ _ _ _ _ hf' (by omega) hf2
 injection this with e3 e4
 subst e3 e4
 split at h2
 ·cases h2
 rename_i wh' s5' hw'
 have:=LcM.wher h okf hf _ _ _ _ hw (by omega) hw'
 injection this with e3 e4
 subst e3 e4
 split at h2
 ·cases h2
 rename_i od' s6' hod'
 have:=LcM.order h okf hf _ _ _ _ hod (by omega) hod'
 injection this with e3 e4
 subst e3 e4
 rw[Aj h (by rw[e2];exact hk)] at h2
 exact (Option.some.inj (h1.symm.trans h2)).symm
theorem ul (h:Ag k L1 L2):∀m m':Nat,(∀lv,LcM k ((pP L1 m).1 lv) ((pP L2 m').1 lv))/\LcM k (pP L1 m).2 (pP L2 m').2
 |0,_=>⟨fun _ _ _ _ _ h=>(by cases h),fun _ _ _ _ h=>(by cases h)⟩
 |_+1,0=>⟨fun _ _ _ _ _ _ _ h=>(by cases h),fun _ _ _ _ _ _ h=>(by cases h)⟩
 |m+1,m'+1=>⟨fun lv=>LcM.stepE h (jZ m).1 (jZ m).2 (ul h m m').1 (ul h m m').2 lv,LcM.stepQ h (jZ m).1 (ul h m m').1 (xv m 1)⟩
end
end Go.Proofs.YtbodcedhmccenaaGreatDoor
