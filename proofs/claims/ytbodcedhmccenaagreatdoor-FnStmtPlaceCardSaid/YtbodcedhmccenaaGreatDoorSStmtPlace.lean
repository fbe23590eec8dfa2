/-
  What stands ahead of the place of a statement can go on.
  Conditions: none.
-/
import Derived.Test.YtbodcedhmccenaaGreatDoorSB2
import Derived.Test.YtbodcedhmccenaaGreatDoorSD3
import Derived.Test.YtbodcedhmccenaaGreatDoorSV3
import Derived.Test.YtbodcedhmccenaaGreatDoorSK
set_option linter.unusedVariables false
set_option linter.unusedSimpArgs false
set_option linter.unusedSectionVars false
set_option maxRecDepth 8000
namespace Go.Proofs.YtbodcedhmccenaaGreatDoor
open Go Go.Dv
open Go.Vc (D d5 d6 cM bo)
section
variable {L1 L2:List Tok} {k:Nat} {f1 f2:Nat->PM Expr} {q1 q2:PM Query}
theorem LcM.row (h:Ag k L1 L2) (okf:∀lv,OkM (L:=L1) (f1 lv)) (hf:∀lv,LcM k (f1 lv) (f2 lv)):LcM k (mb L1 f1) (mb L2 f2):=fun s x s1 r h1 hk h2=>by
 have a1:Ok L1 s (must (aN L1 s 40) s):=Ok.must fun h=>ax h
 have a1':=a1.1
 unfold mb at h1 h2
 split at h1
 ·cases h1
 ·rename_i y t hy
  have e2:=congrArg Prod.snd (Option.some.inj h1)
  simp only at e2
  have b:Ok L1 t (must (aN L1 t 41) t):=Ok.must fun h=>ax h
  have b':=b.1
  rw[e2] at b'
  have o:=(OkM.ors okf _ _ _ hy).1
  rw[gB h (s:=s) (by omega)] at h2
  split at h2
  ·cases h2
  ·rename_i y' t' hy'
   have:=LcM.ors h okf hf _ _ _ _ hy (by omega) hy'
   injection this with e3 e4
   subst e3 e4
   rw[gB h (s:=t') (by omega)] at h2
   exact (Option.some.inj (h1.symm.trans h2)).symm
theorem LcM.rows (h:Ag k L1 L2) (okf:∀lv,OkM (L:=L1) (f1 lv)) (hf:∀lv,LcM k (f1 lv) (f2 lv)):LcM k (lN L1 f1) (lN L2 f2):=fun s x s1 r h1 hk h2=>by
 unfold lN at h1 h2
 split at h1
 ·cases h1
 ·rename_i y t hy
  have o2:=(OkM.sep (OkM.row okf) _ _ _ _ _ h1).1
  split at h2
  ·cases h2
  ·rename_i y' t' hy'
   have:=LcM.row h okf hf _ _ _ _ hy (by omega) hy'
   injection this with e3 e4
   subst e3 e4
   exact LcM.sep h (OkM.row okf) (LcM.row h okf hf) _ _ _ _ _ _ _ h1 hk h2
theorem LcM.set1 (h:Ag k L1 L2) (okf:∀lv,OkM (L:=L1) (f1 lv)) (hf:∀lv,LcM k (f1 lv) (f2 lv)):LcM k (lE L1 f1) (lE L2 f2):=fun s x s1 r h1 hk h2=>by
 have a1:=(Ok.mText (L:=L1) 2 s).1
 have a2:Ok L1 (mText L1 2 s).2 (must (aN L1 (mText L1 2 s).2 61) (mText L1 2 s).2):=Ok.must fun h=>ax h
 have a2':=a2.1
 unfold lE at h1 h2
 simp only at h1 h2
 split at h1
 ·cases h1
 ·rename_i y t hy
  have e2:=congrArg Prod.snd (Option.some.inj h1)
  simp only at e2
  have o:=(okf 1 _ _ _ hy).1
  rw[e2] at o
  rw[oE h (s:=s) (by omega),gB h (s:=(mText L1 2 s).2) (by omega)] at h2
  split at h2
  ·cases h2
  ·rename_i y' t' hy'
   have:=hf 1 _ _ _ _ hy (by rw[e2];omega) hy'
   injection this with e3 e4
   subst e3 e4
   exact (Option.some.inj (h1.symm.trans h2)).symm
theorem LcM.sets (h:Ag k L1 L2) (okf:∀lv,OkM (L:=L1) (f1 lv)) (hf:∀lv,LcM k (f1 lv) (f2 lv)):LcM k (mL L1 f1) (mL L2 f2):=fun s x s1 r h1 hk h2=>by
 unfold mL at h1 h2
 split at h1
 ·cases h1
 ·rename_i y t hy
  have o2:=(OkM.sep (OkM.set1 okf) _ _ _ _ _ h1).1
  split at h2
  ·cases h2
  ·rename_i y' t' hy'
   have:=LcM.set1 h okf hf _ _ _ _ hy (by omega) hy'
   injection this with e3 e4
   subst e3 e4
   exact LcM.sep h (OkM.set1 okf) (LcM.set1 h okf hf) _ _ _ _ _ _ _ h1 hk h2
theorem LcM.insert (h:Ag k L1 L2) (okf:∀lv,OkM (L:=L1) (f1 lv)) (hf:∀lv,LcM k (f1 lv) (f2 lv)):LcM k (fW L1 f1) (fW L2 f2):=fun s x s1 r h1 hk h2=>by
 have a1:Ok L1 s (must (ap L1 s 24) s):=Ok.must fun h=>ao h
 have a1':=a1.1
 have a2:=(Ok.mText (L:=L1) 2 (must (ap L1 s 24) s)).1
 have a3:Ok L1 (mText L1 2 (must (ap L1 s 24) s)).2 (must (ap L1 (mText L1 2 (must (ap L1 s 24) s)).2 25) (mText L1 2 (must (ap L1 s 24) s)).2):=Ok.must fun h=>ao h
 have a3':=a3.1
 unfold fW at h1 h2
 simp only at h1 h2
 split at h1
 ·cases h1
 ·rename_i y t hy
  have e2:=congrArg Prod.snd (Option.some.inj h1)
  simp only at e2
  have o:=(OkM.rows okf _ _ _ hy).1
  rw[e2] at o
  rw[bH h (s:=s) (by omega),oE h (s:=must (ap L1 s 24) s) (by omega),bH h (s:=(mText L1 2 (must (ap L1 s 24) s)).2) (by omega)] at h2
  split at h2
  ·cases h2
  ·rename_i y' t' hy'
   have:=LcM.rows h okf hf _ _ _ _ hy (by rw[e2];omega) hy'
   injection this with e3 e4
   subst e3 e4
   exact (Option.some.inj (h1.symm.trans h2)).symm
theorem LcM.update (h:Ag k L1 L2) (okf:∀lv,OkM (L:=L1) (f1 lv)) (hf:∀lv,LcM k (f1 lv) (f2 lv)):LcM k (fX L1 f1) (fX L2 f2):=fun s x s1 r h1 hk h2=>by
 have a2:=(Ok.mText (L:=L1) 2 s).1
 have a3:Ok L1 (mText L1 2 s).2 (must (ap L1 (mText L1 2 s).2 27) (mText L1 2 s).2):=Ok.must fun h=>ao h
 have a3':=a3.1
 unfold fX at h1 h2
 simp only at h1 h2
 split at h1
 ·cases h1
 rename_i y t hy
 split at h1
 ·cases h1
 rename_i z u hz
 have e2:=congrArg Prod.snd (Option.some.inj h1)
 simp only at e2
 have o:=(OkM.sets okf _ _ _ hy).1
 have o2:=(OkM.wher okf _ _ _ hz).1
 rw[e2] at o2
 rw[oE h (s:=s) (by omega),bH h (s:=(mText L1 2 s).2) (by omega)] at h2
 split at h2
 ·cases h2
 rename_i y' t' hy'
 have:=LcM.sets h okf hf _ _ _ _ hy (by omega) hy'
 injection this with e3 e4
 subst e3 e4
 split at h2
 ·cases h2
 rename_i z' u' hz'
 have:=LcM.wher h okf hf _ _ _ _ hz (by rw[e2];omega) hz'
 injection this with e5 e6
 subst e5 e6
 exact (Option.some.inj (h1.symm.trans h2)).symm
theorem LcM.delete (h:Ag k L1 L2) (okf:∀lv,OkM (L:=L1) (f1 lv)) (hf:∀lv,LcM k (f1 lv) (f2 lv)):LcM k (gI L1 f1) (gI L2 f2):=fun s x s1 r h1 hk h2=>by
 have a1:Ok L1 s (must (ap L1 s 3) s):=Ok.must fun h=>ao h
 have a1':=a1.1
 have a2:=(Ok.mText (L:=L1) 2 (must (ap L1 s 3) s)).1
 unfold gI at h1 h2
 simp only at h1 h2
 split at h1
 ·cases h1
 ·rename_i y t hy
  have e2:=congrArg Prod.snd (Option.some.inj h1)
  simp only at e2
  have o:=(OkM.wher okf _ _ _ hy).1
  rw[e2] at o
  rw[bH h (s:=s) (by omega),oE h (s:=must (ap L1 s 3) s) (by omega)] at h2
  split at h2
  ·cases h2
  ·rename_i y' t' hy'
   have:=LcM.wher h okf hf _ _ _ _ hy (by rw[e2];omega) hy'
   injection this with e3 e4
   subst e3 e4
   exact (Option.some.inj (h1.symm.trans h2)).symm
theorem LcM.stmt (h:Ag k L1 L2) (okf:∀lv,OkM (L:=L1) (f1 lv)) (hf:∀lv,LcM k (f1 lv) (f2 lv)) (okq:OkM (L:=L1) q1) (hq:LcM k q1 q2):LcM k (gA L1 f1 q1) (gA L2 f2 q2):=fun s x s1 r h1 hk h2=>by
 have hs:=(OkM.stmt okf okq _ _ _ h1).1
 unfold gA at h1 h2
 rw[bH h (s:=s) (by omega),bH h (s:=s) (by omega),bH h (s:=s) (by omega),bH h (s:=s) (by omega)] at h2
 split at h1
 ·rename_i hc
  rw[if_pos hc] at h2
  split at h1
  ·cases h1
  ·rename_i y t hy
   have e2:=congrArg Prod.snd (Option.some.inj h1)
   simp only at e2
   subst e2
   split at h2
   ·cases h2
   ·rename_i y' t' hy'
    have:=hq _ _ _ _ hy hk hy'
    injection this with e3 e4
    subst e3 e4
    exact (Option.some.inj (h1.symm.trans h2)).symm
 rename_i c1
 rw[if_neg c1] at h2
 split at h1
 ·rename_i hc;rw[if_pos hc] at h2;exact LcM.insert h okf hf _ _ _ _ h1 hk h2
 rename_i c2
 rw[if_neg c2] at h2
 split at h1
 ·rename_i hc;rw[if_pos hc] at h2;exact LcM.update h okf hf _ _ _ _ h1 hk h2
 rename_i c3
 rw[if_neg c3] at h2
 split at h1
 ·rename_i hc;rw[if_pos hc] at h2;exact LcM.delete h okf hf _ _ _ _ h1 hk h2
 rename_i c4
 rw[if_neg c4] at h2
 exact (Option.some.inj (h1.symm.trans h2)).symm
end
theorem yz (L:List Tok) (k:Nat):Ag k L (L.take k):=fun i hi=>by rw[List.getElem?_take,if_pos hi]
theorem C5 (L:List Tok) (k:Nat):Ag k (L.take k) L:=fun i hi=>(yz L k i hi).symm
theorem yA (L1 L2:List Tok) (k:Nat) (h:Ag k L1 L2):LcM k (gA L1 (hD L1) (iX L1)) (gA L2 (hD L2) (iX L2)):=
 LcM.stmt h (fun lv=>eh lv) (ul h _ _).1 je (ul h _ _).2
theorem oo (L:List Tok):∃x s,gA L (hD L) (iX L) s0=some (x,s)/\s.a<=L.length/\(eG L).2=fM L s:=by
 obtain⟨x,s,hx⟩:=pK (f:=hD L) (fun lv=>eh (L:=L) lv) (fun s=>jc 1 (by omega) (by omega) s) (fun s=>jd s) s0
 refine⟨x,s,hx,(OkM.stmt (fun lv=>eh (L:=L) lv) je _ _ _ hx).2.1 (Nat.zero_le _),?_⟩
 unfold eG ff
 rw[hx]
 simp only
 split
 ·rfl
 ·rename_i h0
  unfold fM at h0 ⊢
  split
  ·rfl
  ·rename_i h1;rw[if_neg h1] at h0;omega
theorem vC (L:List Tok) (h:(eG L).2 ≠ -1):∃b:Nat,(eG L).2=b/\b<=L.length/\((eG (L.take b)).2=b∨(eG (L.take b)).2 = -1)/\(b<L.length->(eG (L.take (b+1))).2=b):=by
 obtain⟨x,s,hx,hs,he⟩:=oo L
 rw[he] at h
 have e1:fM L s=s.a:=by
  unfold fM at h ⊢
  split
  ·rename_i hc;rw[if_pos hc] at h;exact absurd rfl h
  ·rfl
 have hn:¬(s.b=false/\L.length<=s.a):=fun hc=>by
  unfold fM at h;rw[if_pos hc] at h;exact h rfl
 refine⟨s.a,he.trans e1,hs,?_,fun hlt=>?_⟩
 ·obtain⟨y,u,hy,hu,hf⟩:=oo (L.take s.a)
  rw[hf]
  rw[List.length_take] at hu
  by_cases hk:u.a<s.a
  ·have:=yA _ _ _ (C5 L s.a) _ _ _ _ hy hk hx
   injection this with _ h4
   rw[h4] at hk;omega
  ·unfold fM
   split
   ·exact .inr rfl
   ·exact .inl (by omega)
 ·obtain⟨y,u,hy,hu,hf⟩:=oo (L.take (s.a+1))
  have:=yA _ _ _ (yz L (s.a+1)) _ _ _ _ hx (by omega) hy
  injection this with _ h4
  rw[hf,h4]
  unfold fM
  rw[if_neg (fun hc=>by have:=hc.2;rw[List.length_take] at this;omega)]
end Go.Proofs.YtbodcedhmccenaaGreatDoor
set_option maxRecDepth 8000
namespace Go.Proofs.YtbodcedhmccenaaGreatDoor
open Go Go.Dv Go.Cv
open Go.Vc (D d5 d6 cM bo)
set_option maxHeartbeats 8000000 in
theorem C6 (bs:List Int):Cl Tryz.prog 3 [.c (.sl bs.length (bs.flatMap jR) none)] [] fun r _=>r=vb true:=by
 refine ah ab false Tryz.func3 rfl (by kernel_rfl) ?_
 simp only[Tryz.f3,tt,seval]
 refine cZ (DJ bs) ?_ ?_<;>simp only[tt,seval]
 refine aa (fun hbig=>⟨_,_,rfl,ak rfl⟩) (fun hbig=>?_)
 refine eb (qQ bs) ?_ ?_ ?_
 ·decide
 ·simp only[tt,seval]
 rintro r ⟨L,rfl,hL,hT⟩
 simp only[tt,seval]
 have q1:=iP L (by omega) (fun t ht=>Nat.le_trans (hT t ht) (by decide))
 generalize (eG L).1=x1 at q1
 obtain⟨k1,⟨d1,i1,f1,w1,o1,l1⟩,t1,r1,c1x,s1x,h1x⟩:=x1
 simp only[Stmt.row_mk,ay,aw,lc] at q1
 have q2:=wg L (by omega) (fun t ht=>Nat.le_trans (hT t ht) (by decide))
 generalize (eG L).1=x2 at q2
 obtain⟨k2,⟨d2,i2,f2,w2,o2,l2⟩,t2,r2,c2x,s2x,h2x⟩:=x2
 simp only[Stmt.row_mk,ay,lc] at q2
 have hpl:=vC L
 obtain⟨b,hb⟩:∃b,b=(eG L).2:=⟨_,rfl⟩
 rw[<-hb] at q1 q2 hpl
 refine eb (q1) ?_ ?_ ?_
 ·decide
 ·simp only[tt,seval]
 rintro r ⟨Fi,Ff,Fw,Fo,Fr,Fc,Fe,Fx,rfl⟩
 simp only[tt,seval,bM]
 refine cZ (q2) ?_ ?_<;>simp only[tt,seval,bM]
 refine aa (fun hneg=>⟨_,_,rfl,ak rfl⟩) (fun hneg=>?_)
 obtain⟨n,rfl,hn,hah,hag⟩:=hpl (by omega)
 have q3:=iP (L.take n) (by rw[List.length_take];omega) (fun t ht=>Nat.le_trans (hT t (List.mem_of_mem_take ht)) (by decide))
 generalize (eG (L.take n)).1=x3 at q3
 obtain⟨k3,⟨d3,i3,f3,w3,o3,l3⟩,t3,r3,c3x,s3x,h3x⟩:=x3
 simp only[Stmt.row_mk,ay,aw,lc] at q3
 rw[List.length_take,Nat.min_eq_left hn] at q3
 obtain⟨a,ha⟩:∃a,a=(eG (L.take n)).2:=⟨_,rfl⟩
 rw[<-ha] at q3 hah
 refine⟨by omega,by omega,?_⟩
 rw[show ((n:Int)-0).toNat=n by omega,fk cn]
 refine eb (q3) ?_ ?_ ?_
 ·decide
 ·simp only[tt,seval]
 rintro r ⟨Fi,Ff,Fw,Fo,Fr,Fc,Fe,Fx,rfl⟩
 simp only[tt,seval,bM]
 refine aa (fun hA=>?_) (fun hA=>?_)
 ·have h1:a = -1:=hah.resolve_left (by simpa using hA)
  subst h1
  simp only[tt,seval]
  refine fun _=>aa (fun heq=>⟨_,_,rfl,ak rfl⟩) (fun hne=>?_)
  have hlt:n<L.length:=by omega
  have q4:=iP (L.take (n+1)) (by rw[List.length_take];omega) (fun t ht=>Nat.le_trans (hT t (List.mem_of_mem_take ht)) (by decide))
  generalize (eG (L.take (n+1))).1=x4 at q4
  obtain⟨k4,⟨d4,i4,f4,w4,o4,l4⟩,t4,r4,c4x,s4x,h4x⟩:=x4
  simp only[Stmt.row_mk,ay,aw,lc] at q4
  rw[List.length_take,Nat.min_eq_left hlt,hag hlt] at q4
  rw[aq (n:=(n:Int)+1) (by omega) (by omega)]
  refine⟨by omega,by omega,?_⟩
  rw[show ((n:Int)+1-0).toNat=n+1 by omega,fk cn]
  refine eb (q4) ?_ ?_ ?_
  ·decide
  ·simp only[tt,seval]
  rintro r ⟨Gi,Gf,Gw,Go,Gr,Gc,Ge,Gx,rfl⟩
  simp only[tt,seval,bM]
  exact⟨_,_,rfl,ak rfl⟩
 ·skip
  simp only[tt,seval]
  refine fun _=>aa (fun heq=>⟨_,_,rfl,ak rfl⟩) (fun hne=>?_)
  have hlt:n<L.length:=by omega
  have q4:=iP (L.take (n+1)) (by rw[List.length_take];omega) (fun t ht=>Nat.le_trans (hT t (List.mem_of_mem_take ht)) (by decide))
  generalize (eG (L.take (n+1))).1=x4 at q4
  obtain⟨k4,⟨d4,i4,f4,w4,o4,l4⟩,t4,r4,c4x,s4x,h4x⟩:=x4
  simp only[Stmt.row_mk,ay,aw,lc] at q4
  rw[List.length_take,Nat.min_eq_left hlt,hag hlt] at q4
  rw[aq (n:=(n:Int)+1) (by omega) (by omega)]
  refine⟨by omega,by omega,?_⟩
  rw[show ((n:Int)+1-0).toNat=n+1 by omega,fk cn]
  refine eb (q4) ?_ ?_ ?_
  ·decide
  ·simp only[tt,seval]
  rintro r ⟨Gi,Gf,Gw,Go,Gr,Gc,Ge,Gx,rfl⟩
  simp only[tt,seval,bM]
  exact⟨_,_,rfl,ak rfl⟩
end Go.Proofs.YtbodcedhmccenaaGreatDoor
set_option maxRecDepth 8000
namespace Go.Proofs.YtbodcedhmccenaaGreatDoor
open Go Go.Dv
open Go.Vc (D d5 d6 cM bo)
open Go.Cv
open Go.Vc (CellF ValsF aT vI)
theorem C7 (bs:List Int) (w:World) (v0:Value) (F:List Nat) (hq:CellF w (.sl bs.length (bs.flatMap jR)) v0 F) (hG:GlW w (fun _=>False)):aT Tryz.prog 3=true/\Calls Tryz.prog 3 #[v0] w fun e w'=>∃v,e = .returned v/\v = .bool true/\Gr w w':=by
 obtain⟨hc,hk⟩:=Go.Cv.Cl.at (P:=Tryz.prog) (C6 bs) rfl (vs:=[v0]) (w:=w) ⟨yw hq,trivial⟩ hG
 refine⟨hc,hk.mono ?_⟩
 rintro e w' ⟨v,he,r,rfl,g,hres⟩
 exact⟨v,he,hres.val,g⟩
end Go.Proofs.YtbodcedhmccenaaGreatDoor
set_option maxRecDepth 8000
namespace Go.Proofs.YtbodcedhmccenaaGreatDoor
open Go Go.Dv Go.ChangeShapes Go.WideShapes Go.ChangeAt Go.RowKit
theorem wT {W:World} (hL:laidMetH Tryz.prog Rows.fnStmtPlaceRow.laid W) (hs:W.ShapedOpen Tryz.prog):GlW W (fun _=>False):=by
 rw[MakeChecks.laidMetH_plain _ _ _ (by kernel_rfl)] at hL
 have h2:laidMet Tryz.prog ((((Rows.fnStmtPlaceRow.laid.map (·.1)).getD 2 ""),Lib.tabData .u64 Lib.pow10Tab)::Rows.fnStmtPlaceRow.laid.drop 3) W:=laidMet.tail (laidMet.tail hL)
 have h4:laidMet Tryz.prog (Rows.fnStmtPlaceRow.laid.drop 4) W:=laidMet.tail (laidMet.tail h2)
 have h5:laidMet Tryz.prog (Rows.fnStmtPlaceRow.laid.drop 5) W:=laidMet.tail h4
 obtain⟨a5,s5,v5,_⟩:=laid_sentinel (g:=2) (ti:=166) (tp:=296) (te:=298) (ts:=9) h4 (by kernel_rfl) (by kernel_rfl) Tryz.underlying166 tQ Tryz.underlying296 Tryz.underlying298 rfl rfl Tryz.underlying9 nv tP
 obtain⟨a4,s4,v4,_⟩:=laid_sentinel (g:=1) (ti:=166) (tp:=296) (te:=298) (ts:=9) h5 (by kernel_rfl) (by kernel_rfl) Tryz.underlying166 tQ Tryz.underlying296 Tryz.underlying298 rfl rfl Tryz.underlying9 nv tP
 exact C0 (t:=3) (zero:=#[.int .i64 0]) (by kernel_rfl) (Lib.tabIs_of_head (g:=3) (t:=292) (e:=277) (n:=20) (by kernel_rfl) (by kernel_rfl) Tryz.underlying292 Tryz.underlying277 (by kernel_rfl) (by kernel_rfl) h2) hs (of_decide_eq_true (by kernel_rfl)) (by kernel_rfl) rfl (by kernel_rfl) (by kernel_rfl) Tryz.underlying3 (by kernel_rfl) v4 (by kernel_rfl) v5
namespace fnStmtPlace
open Go Go.Dv Go.ChangeShapes Go.WideShapes Go.ChangeAt Go.RowKit
set_option maxRecDepth 100000 in
theorem wS (os:Os) (started:os.Started) (H:Type) (enc:TypeId×Value->H) :
 ReturnsInHanded {} Tryz.checked os 3 .any (fun w args=>(Rows.fnStmtPlaceSpec.pre enc Tryz.prog Tryz.f3 Rows.fnStmtPlaceRow.domain false w args/\laidMetH Tryz.prog Rows.fnStmtPlaceRow.laid w)/\sizedMet enc Tryz.prog Tryz.f3 (OpenSpec.ofChange Rows.fnStmtPlaceSpec) false w args)
  (Rows.fnStmtPlaceSpec.post enc Tryz.prog Tryz.f3 false true false false):=by
 refine gr (C:=Tryz.checked) (X:=fun w _=>laidMetH Tryz.prog Rows.fnStmtPlaceRow.laid w) (fun _ _ _ hh h=>h.of_heap hh) own started (by as_aux_lemma=>kernel_rfl) Tryz.func3
  (ChangeSpec.witness_shaped (enc:=enc) (C:=Tryz.checked) (os:=os) (X:=fun w _=>laidMetH Tryz.prog Rows.fnStmtPlaceRow.laid w) false (World.laidAll Tryz.prog os Rows.fnStmtPlaceRow.laid) #[.slice none 0 0] 8 (World.laidAll_os _ _ _)
    (World.shaped_of_ZipB (by as_aux_lemma=>kernel_rfl) (by as_aux_lemma=>kernel_rfl)) (by as_aux_lemma=>kernel_rfl) (by as_aux_lemma=>kernel_rfl) (by as_aux_lemma=>kernel_rfl)
    (by rw[MakeChecks.laidMetH_plain _ _ _ (by as_aux_lemma=>kernel_rfl)];exact laidMet_laidAll _ (by as_aux_lemma=>kernel_rfl) (by as_aux_lemma=>kernel_rfl))) ?_
 intro W base args ds gs before hval0 hW _ hL hsh
 have hval:∀(j:Nat) t v,Tryz.f3.params[j]?=some t->args[j]?=some v->Value.okWide Tryz.prog W .any base t v:=hval0
 have hW':=hW
 obtain⟨p,q,hA0,hV,rfl,hfz,hnd⟩:=hW
 have hA:DataW.TrodAll enc Tryz.prog W 0 (fun _=>true) true Tryz.f3.params.toList args.toList ds p:=hA0
 rw[Tryz.params3] at hA hval
 obtain⟨v0,vs0,d0,ds0,p0,q0,hargs,rfl,rfl,h0,r0⟩:=trodAll_cons hA
 obtain⟨rfl,rfl,rfl⟩:=trodAll_nil r0
 obtain rfl:args = #[v0]:=by cases args;simp_all
 obtain⟨rfl,rfl⟩:=trodVars_none hV
 obtain⟨_,_,_,rfl⟩:=okWide_slice Tryz.underlying22 (hval 0 22 v0 rfl rfl)
 obtain⟨n0,t0⟩:=h0
 obtain⟨x,v,F0,ev,hx⟩:=qK t0
 obtain rfl:=List.head_eq_of_cons_eq ev
 clear hA0 hval0
 simp only[List.append_nil] at hW'
 have hlt:∀p∈p0,p.block<W.heap.size:=fun p hp=>hW'.lt p hp
 have hcall:Calls Tryz.prog 3 #[_] W fun e w'=>∃v,e = .returned v/\v = .bool true/\Go.Cv.Gr W w':=(C7 x W _ F0 hx (wT hL hsh)).2
 refine hcall.mono fun e W' ⟨v,he,hr,g⟩=>?_
 have hb:Below W.heap.size W W':=⟨g.os,g.tape,g.output,g.size,g.keep⟩
 have hf:=si g
 subst he hr
 exact⟨_,rfl,vA (pa:=p0) (pv:=[]) hW' (fun _ _ _=>(trodAll_cons_mk (shut_bool Tryz.underlying4 _) trodAll_mk0))
  (fun sp hsp=>trodAll_mk1 (WideElems.Trod_stays (t:=22) yx (by as_aux_lemma=>kernel_rfl) (of_decide_eq_true (by as_aux_lemma=>kernel_rfl)) ⟨n0,t0⟩ (fun p hp=>hb.same (hlt p hp)) (fun p hp=>hsp p hp)))
  (fun _ _=>rfl) (by simp)
  (hb.frame _) hf (ok_one (by as_aux_lemma=>kernel_rfl) rfl (okWide_bool_mk Tryz.underlying4 _))⟩
set_option maxHeartbeats 4000000 in
theorem jf:joinedFacts Tryz.prog 3 Tryz.f3 Rows.fnStmtPlaceSpec Rows.fnStmtPlaceRow=true:=by
 unfold joinedFacts
 refine Bool.and_eq_true_iff.2 ⟨Bool.and_eq_true_iff.2 ⟨Bool.and_eq_true_iff.2 ⟨Bool.and_eq_true_iff.2 ⟨Bool.and_eq_true_iff.2 ⟨Bool.and_eq_true_iff.2 ⟨Bool.and_eq_true_iff.2 ⟨Bool.and_eq_true_iff.2 ⟨Bool.and_eq_true_iff.2 ⟨Bool.and_eq_true_iff.2 ⟨Bool.and_eq_true_iff.2 ⟨Bool.and_eq_true_iff.2 ⟨Bool.and_eq_true_iff.2 ⟨Bool.and_eq_true_iff.2 ⟨Bool.and_eq_true_iff.2 ⟨Bool.and_eq_true_iff.2 ⟨Bool.and_eq_true_iff.2 ⟨Bool.and_eq_true_iff.2 ⟨Bool.and_eq_true_iff.2 ⟨Bool.and_eq_true_iff.2 ⟨Bool.and_eq_true_iff.2 ⟨Bool.and_eq_true_iff.2 ⟨Bool.and_eq_true_iff.2 ⟨Bool.and_eq_true_iff.2 ⟨Bool.and_eq_true_iff.2 ⟨Bool.and_eq_true_iff.2 ⟨Bool.and_eq_true_iff.2 ⟨Bool.and_eq_true_iff.2 ⟨Bool.and_eq_true_iff.2 ⟨Bool.and_eq_true_iff.2 ⟨Bool.and_eq_true_iff.2 ⟨?_,?_⟩,?_⟩,?_⟩,?_⟩,?_⟩,?_⟩,?_⟩,?_⟩,?_⟩,?_⟩,?_⟩,?_⟩,?_⟩,?_⟩,?_⟩,?_⟩,?_⟩,?_⟩,?_⟩,?_⟩,?_⟩,?_⟩,?_⟩,?_⟩,?_⟩,?_⟩,?_⟩,?_⟩,?_⟩,?_⟩,?_⟩
 all_goals as_aux_lemma=>kernel_rfl
theorem qL:Tryz.prog.funcNamed Rows.fnStmtPlaceRow.func=some 3:=by kernel_rfl
set_option maxHeartbeats 4000000 in
theorem over:Rows.fnStmtPlaceRow.holds Tryz.pinned (OpenSpec.ofChange Rows.fnStmtPlaceSpec):=
 OpenClaim.holds_of_wide 3 Tryz.f3 rfl rfl rfl rfl rfl rfl rfl ⟨rfl,rfl,rfl,rfl,rfl⟩ rfl rfl rfl rfl rfl qL Tryz.func3 jf
  (of_decide_eq_true (by as_aux_lemma=>kernel_rfl)) (by unfold Func.isWrapper;first|(rw[if_pos (by decide +kernel)];kernel_rfl)|(rw[if_neg (by decide +kernel)];exact⟨rfl,rfl⟩))
  (fun os started H enc _=>wS os started H enc)
set_option maxHeartbeats 4000000 in
theorem proved:Rows.FnStmtPlaceCardSaid:=
 Claim7.holds_tied_plain_at .later [] [.data,.data,.data,.data,.sentinel,.sentinel,.pinned] true (true, "796f33dc7e0d93919cc3837bfc29ebaff7d323313d981385f8d76db43e74cc6c") true over (fun _ h=>by cases h) (by as_aux_lemma=>kernel_rfl) (fun _ h=>by cases h) fnStmtPlace_row_tie rfl ⟨rfl,rfl⟩ (by as_aux_lemma=>kernel_rfl) rfl
  (fun f fn hf hfn=>by
    obtain rfl:f=3:=Option.some.inj (qL.symm.trans hf) |>.symm
    obtain rfl:fn=Tryz.f3:=(Option.some.inj (Tryz.func3.symm.trans hfn)).symm
    exact⟨by as_aux_lemma=>kernel_rfl,fun j t ht=>by
     rw[Tryz.params3] at ht
     have hm:t∈[22]:=by simpa using Array.mem_of_getElem? ht
     have hall:([22].all fun u=>!Tryz.prog.wantsStandIn u)=true:=by as_aux_lemma=>kernel_rfl
     exact (show Tryz.prog.wantsStandIn t=false by simpa using List.all_eq_true.1 hall t hm)⟩)
  (by as_aux_lemma=>kernel_rfl)
#print axioms proved
end fnStmtPlace
end Go.Proofs.YtbodcedhmccenaaGreatDoor
