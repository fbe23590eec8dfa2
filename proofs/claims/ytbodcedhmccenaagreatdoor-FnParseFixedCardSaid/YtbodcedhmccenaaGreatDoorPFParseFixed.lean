/-
  What is parsed and printed is parsed as the same query.
  Conditions: none.
-/
import Derived.Test.YtbodcedhmccenaaGreatDoorPFH2
import Derived.Test.YtbodcedhmccenaaGreatDoorPFK
set_option linter.unusedVariables false
set_option linter.unusedSimpArgs false
set_option linter.unusedSectionVars false
set_option maxRecDepth 8000
namespace Go.Proofs.YtbodcedhmccenaaGreatDoor
open Go Go.Dv Go.Cv
open Go.Vc (D dg dh cX bk)
theorem xp {P:Query->Prop} (hz:P zQuery) (h:∀L:List Tok,L.length<=2000->(∀t∈L,aJ t=true)->P (bI L).1) (s:ByteArray):P (aV s).1:=by
 unfold aV jj
 split
 ·exact hz
 ·rename_i L hlx
  have:=h L (lY hlx).1 (lY hlx).2
  simp only
  split
  ·exact hz
  ·split
   ·exact this
   ·exact hz
theorem Bu (s:ByteArray):RgQ (aV s).1:=xp xe (fun L _ _=>xg) s
theorem KQ:szQuery zQuery=0:=by
 rw[zQuery,dC,dB,cM,aT,cB];rfl
theorem Bv (s:ByteArray):szQuery (aV s).1<=200000:=xp (P:=fun x=>szQuery x<=200000) (by
 show szQuery zQuery<=200000
 rw[KQ];decide) (fun L h1 h2=>rH (fun t ht=>A7 (h2 t ht)) h1) s
theorem E8 {q:Query} (hr:RgQ q) (h:fD q=true):Sm 40000 (dP (dH false) q):=by
 simp only[fD,Bool.and_eq_true,decide_eq_true_eq] at h
 have hb:∀x∈exprsQ q,fmE x=true:=by
  have h1:=h.1
  obtain⟨d,it,fr,wh,or,li⟩:=q
  exact (ff h1).2.2.2.2.2.2.2
 exact (FO (gn:=ndE) (g:=dH false) h.1 hr.1 fun x hx=>yt false x (hb x hx) (hr.2 x hx)).le aa
set_option maxHeartbeats 8000000 in
theorem Ge (bs:List Int):Cl Tryz.prog 5 [.c (.sl bs.length (bs.flatMap oI) none)] [] fun r _=>r=vb true:=by
 refine ai ac false Tryz.func5 rfl ae ?_
 simp only[Tryz.f5,tt,seval]
 refine cZ (Jj bs) ?_ ?_<;>simp only[tt,seval]
 refine ab (fun hbig=>⟨_,_,rfl,ap rfl⟩) (fun hbig=>?_)
 refine fV (pm bs) ?_ ?_ ?_
 ·decide
 ·simp only[tt,seval]
 rintro r ⟨s,rfl,hs⟩
 simp only[tt,seval]
 have c1:=mM s
 have c2:=uR s
 have hrg:=Bu s
 have hsz:=Bv s
 have hfx:=xj (s:=s)
 have cq:=xb (aV s).1
 have ct:=rK (aV s).1 hrg (Nat.le_trans hsz aa)
 generalize (aV s).1=q at *
 generalize (aV s).2=f at *
 obtain⟨f1,f2⟩:=f
 simp only at hfx
 by_cases hf:f1=0
 ·subst hf
  obtain⟨_,h2,h3⟩:=hfx rfl
  have eT:uQ q=dP (dH false) q:=if_pos h3
  rw[eT] at ct
  have hsm:=E8 hrg h3
  have csp:=AA (dP (dH false) q) (fun t ht=>Nat.le_trans (hsm.2 t ht) ah) (Dr hsm aa)
  have hsp:=xk (dP (dH false) q)
  have c3:=mM (bS (dP (dH false) q))
  rw[h2] at c3
  generalize bS (dP (dH false) q)=tx at *
  generalize dP (dH false) q=l at *
  obtain⟨dz,iz,fz,wz,oz,lz⟩:=q
  simp only[aF,aG] at c1 c2 c3 ct cq
  refine fV (c1) ?_ ?_ ?_
  ·decide
  ·simp only[tt,seval]
  rintro r ⟨Fi,Ff,Fw,Fo,rfl⟩
  simp only[tt,seval,gX]
  refine cZ (c2) ?_ ?_<;>simp only[tt,seval,gX]
  rw[dw ae (GW 0 f2)]
  simp only[tt,seval]
  refine cZ (ct) ?_ ?_<;>simp only[tt,seval]
  refine cZ (csp) ?_ ?_<;>simp only[tt,seval]
  refine fV (c3) ?_ ?_ ?_
  ·decide
  ·simp only[tt,seval]
  rintro r ⟨Gi,Gf,Gw,Go,rfl⟩
  simp only[tt,seval,gX]
  refine cZ (cq) ?_ ?_<;>simp only[tt,seval]
  have hlen:((tx.size:Int)<=2000)=True:=eq_true aa
  refine fun _=>?_
  simp only[tt,seval,hlen]
  exact⟨_,_,rfl,ap rfl⟩
 ·clear hfx ct
  obtain⟨dz,iz,fz,wz,oz,lz⟩:=q
  simp only[aF,aG] at c1 c2 cq
  refine fV (c1) ?_ ?_ ?_
  ·decide
  ·simp only[tt,seval]
  rintro r ⟨Fi,Ff,Fw,Fo,rfl⟩
  simp only[tt,seval,gX]
  refine cZ (c2) ?_ ?_<;>simp only[tt,seval,gX]
  rw[dw ae (GW f1 f2)]
  simp only[tt,seval]
  have h0:(f1=0)=False:=eq_false hf
  simp only[tt,seval,h0]
  exact⟨_,_,rfl,ap rfl⟩
end Go.Proofs.YtbodcedhmccenaaGreatDoor
set_option maxRecDepth 8000
namespace Go.Proofs.YtbodcedhmccenaaGreatDoor
open Go Go.Dv
open Go.Vc (D dg dh cX bk)
open Go.Cv
open Go.Vc (CellF ValsF bi Ar)
theorem Gg (bs:List Int) (w:World) (v0:Value) (F:List Nat) (hq:CellF w (.sl bs.length (bs.flatMap oI)) v0 F) (hG:GlW w (fun _=>False)):bi Tryz.prog 5=true/\Calls Tryz.prog 5 #[v0] w fun e w'=>∃v,e = .returned v/\v = .bool true/\Gr w w':=by
 obtain⟨hc,hk⟩:=Go.Cv.Cl.at (P:=Tryz.prog) (Ge bs) rfl (vs:=[v0]) (w:=w) ⟨Gb hq,trivial⟩ hG
 refine⟨hc,hk.mono ?_⟩
 rintro e w' ⟨v,he,r,rfl,g,hres⟩
 exact⟨v,he,hres.val,g⟩
end Go.Proofs.YtbodcedhmccenaaGreatDoor
set_option maxRecDepth 8000
namespace Go.Proofs.YtbodcedhmccenaaGreatDoor
open Go Go.Dv Go.ChangeShapes Go.WideShapes Go.ChangeAt Go.RowKit
theorem yE {W:World} (hL:laidMetH Tryz.prog Rows.fnParseFixedRow.laid W) (hs:W.ShapedOpen Tryz.prog):GlW W (fun _=>False):=by
 rw[MakeChecks.laidMetH_plain _ _ _ ae] at hL
 have h2:laidMet Tryz.prog ((((Rows.fnParseFixedRow.laid.map (·.1)).getD 2 ""),Lib.tabData .u64 Lib.pow10Tab)::Rows.fnParseFixedRow.laid.drop 3) W:=laidMet.tail (laidMet.tail hL)
 have h4:laidMet Tryz.prog (Rows.fnParseFixedRow.laid.drop 4) W:=laidMet.tail (laidMet.tail h2)
 have h5:laidMet Tryz.prog (Rows.fnParseFixedRow.laid.drop 5) W:=laidMet.tail h4
 obtain⟨a5,s5,v5,_⟩:=laid_sentinel (g:=2) (ti:=166) (tp:=296) (te:=298) (ts:=9) h4 ae ae Tryz.underlying166 E7 Tryz.underlying296 Tryz.underlying298 rfl rfl Tryz.underlying9 xm E6
 obtain⟨a4,s4,v4,_⟩:=laid_sentinel (g:=1) (ti:=166) (tp:=296) (te:=298) (ts:=9) h5 ae ae Tryz.underlying166 E7 Tryz.underlying296 Tryz.underlying298 rfl rfl Tryz.underlying9 xm E6
 exact Ik (t:=3) (zero:=#[.int .i64 0]) ae (Lib.tabIs_of_head (g:=3) (t:=292) (e:=277) (n:=20) ae ae Tryz.underlying292 Tryz.underlying277 ae ae h2) hs (of_decide_eq_true ae) ae rfl ae ae Tryz.underlying3 ae v4 ae v5
namespace fnParseFixed
open Go Go.Dv Go.ChangeShapes Go.WideShapes Go.ChangeAt Go.RowKit
set_option maxRecDepth 100000 in
theorem Il (os:Os) (started:os.Started) (H:Type) (enc:TypeId×Value->H) :
 ReturnsInHanded {} Tryz.checked os 5 .any (fun w args=>(Rows.fnParseFixedSpec.pre enc Tryz.prog Tryz.f5 Rows.fnParseFixedRow.domain false w args/\laidMetH Tryz.prog Rows.fnParseFixedRow.laid w)/\sizedMet enc Tryz.prog Tryz.f5 (OpenSpec.ofChange Rows.fnParseFixedSpec) false w args)
  (Rows.fnParseFixedSpec.post enc Tryz.prog Tryz.f5 false true false false):=by
 refine lZ (C:=Tryz.checked) (X:=fun w _=>laidMetH Tryz.prog Rows.fnParseFixedRow.laid w) (fun _ _ _ hh h=>h.of_heap hh) own started (by as_aux_lemma=>kernel_rfl) Tryz.func5
  (ChangeSpec.witness_shaped (enc:=enc) (C:=Tryz.checked) (os:=os) (X:=fun w _=>laidMetH Tryz.prog Rows.fnParseFixedRow.laid w) false (World.laidAll Tryz.prog os Rows.fnParseFixedRow.laid) #[.slice none 0 0] 8 (World.laidAll_os _ _ _)
    (World.shaped_of_ZipB (by as_aux_lemma=>kernel_rfl) (by as_aux_lemma=>kernel_rfl)) (by as_aux_lemma=>kernel_rfl) (by as_aux_lemma=>kernel_rfl) (by as_aux_lemma=>kernel_rfl)
    (by rw[MakeChecks.laidMetH_plain _ _ _ (by as_aux_lemma=>kernel_rfl)];exact laidMet_laidAll _ (by as_aux_lemma=>kernel_rfl) (by as_aux_lemma=>kernel_rfl))) ?_
 intro W base args ds gs before hval0 hW _ hL hsh
 have hval:∀(j:Nat) t v,Tryz.f5.params[j]?=some t->args[j]?=some v->Value.okWide Tryz.prog W .any base t v:=hval0
 have hW':=hW
 obtain⟨p,q,hA0,hV,rfl,hfz,hnd⟩:=hW
 have hA:DataW.TrodAll enc Tryz.prog W 0 (fun _=>true) true Tryz.f5.params.toList args.toList ds p:=hA0
 rw[Tryz.params5] at hA hval
 obtain⟨v0,vs0,d0,ds0,p0,q0,hargs,rfl,rfl,h0,r0⟩:=trodAll_cons hA
 obtain⟨rfl,rfl,rfl⟩:=trodAll_nil r0
 obtain rfl:args = #[v0]:=by cases args;simp_all
 obtain⟨rfl,rfl⟩:=trodVars_none hV
 obtain⟨_,_,_,rfl⟩:=okWide_slice Tryz.underlying22 (hval 0 22 v0 rfl rfl)
 obtain⟨n0,t0⟩:=h0
 obtain⟨x,v,F0,ev,hx⟩:=yD t0
 obtain rfl:=List.head_eq_of_cons_eq ev
 clear hA0 hval0
 simp only[List.append_nil] at hW'
 have hlt:∀p∈p0,p.block<W.heap.size:=fun p hp=>hW'.lt p hp
 have hcall:Calls Tryz.prog 5 #[_] W fun e w'=>∃v,e = .returned v/\v = .bool true/\Go.Cv.Gr W w':=(Gg x W _ F0 hx (yE hL hsh)).2
 refine hcall.mono fun e W' ⟨v,he,hr,g⟩=>?_
 have hb:Below W.heap.size W W':=⟨g.os,g.tape,g.output,g.size,g.keep⟩
 have hf:=Bt g
 subst he hr
 exact⟨_,rfl,E5 (pa:=p0) (pv:=[]) hW' (fun _ _ _=>(trodAll_cons_mk (shut_bool Tryz.underlying4 _) trodAll_mk0))
  (fun sp hsp=>trodAll_mk1 (WideElems.Trod_stays (t:=22) Gc (by as_aux_lemma=>kernel_rfl) (of_decide_eq_true (by as_aux_lemma=>kernel_rfl)) ⟨n0,t0⟩ (fun p hp=>hb.same (hlt p hp)) (fun p hp=>hsp p hp)))
  (fun _ _=>rfl) (by simp)
  (hb.frame _) hf (ok_one (by as_aux_lemma=>kernel_rfl) rfl (okWide_bool_mk Tryz.underlying4 _))⟩
set_option maxHeartbeats 4000000 in
theorem jf:joinedFacts Tryz.prog 5 Tryz.f5 Rows.fnParseFixedSpec Rows.fnParseFixedRow=true:=by
 unfold joinedFacts
 refine Bool.and_eq_true_iff.2 ⟨Bool.and_eq_true_iff.2 ⟨Bool.and_eq_true_iff.2 ⟨Bool.and_eq_true_iff.2 ⟨Bool.and_eq_true_iff.2 ⟨Bool.and_eq_true_iff.2 ⟨Bool.and_eq_true_iff.2 ⟨Bool.and_eq_true_iff.2 ⟨Bool.and_eq_true_iff.2 ⟨Bool.and_eq_true_iff.2 ⟨Bool.and_eq_true_iff.2 ⟨Bool.and_eq_true_iff.2 ⟨Bool.and_eq_true_iff.2 ⟨Bool.and_eq_true_iff.2 ⟨Bool.and_eq_true_iff.2 ⟨Bool.and_eq_true_iff.2 ⟨Bool.and_eq_true_iff.2 ⟨Bool.and_eq_true_iff.2 ⟨Bool.and_eq_true_iff.2 ⟨Bool.and_eq_true_iff.2 ⟨Bool.and_eq_true_iff.2 ⟨Bool.and_eq_true_iff.2 ⟨Bool.and_eq_true_iff.2 ⟨Bool.and_eq_true_iff.2 ⟨Bool.and_eq_true_iff.2 ⟨Bool.and_eq_true_iff.2 ⟨Bool.and_eq_true_iff.2 ⟨Bool.and_eq_true_iff.2 ⟨Bool.and_eq_true_iff.2 ⟨Bool.and_eq_true_iff.2 ⟨Bool.and_eq_true_iff.2 ⟨?_,?_⟩,?_⟩,?_⟩,?_⟩,?_⟩,?_⟩,?_⟩,?_⟩,?_⟩,?_⟩,?_⟩,?_⟩,?_⟩,?_⟩,?_⟩,?_⟩,?_⟩,?_⟩,?_⟩,?_⟩,?_⟩,?_⟩,?_⟩,?_⟩,?_⟩,?_⟩,?_⟩,?_⟩,?_⟩,?_⟩,?_⟩
 all_goals as_aux_lemma=>kernel_rfl
theorem E9:Tryz.prog.funcNamed Rows.fnParseFixedRow.func=some 5:=by kernel_rfl
set_option maxHeartbeats 4000000 in
theorem over:Rows.fnParseFixedRow.holds Tryz.pinned (OpenSpec.ofChange Rows.fnParseFixedSpec):=
 OpenClaim.holds_of_wide 5 Tryz.f5 rfl rfl rfl rfl rfl rfl rfl ⟨rfl,rfl,rfl,rfl,rfl⟩ rfl rfl rfl rfl rfl E9 Tryz.func5 jf
  (of_decide_eq_true (by as_aux_lemma=>kernel_rfl)) (by unfold Func.isWrapper;first|(rw[if_pos (by decide +kernel)];kernel_rfl)|(rw[if_neg (by decide +kernel)];exact⟨rfl,rfl⟩))
  (fun os started H enc _=>Il os started H enc)
set_option maxHeartbeats 4000000 in
theorem proved:Rows.FnParseFixedCardSaid:=
 Claim7.holds_tied_plain_at .later [] [.data,.data,.data,.data,.sentinel,.sentinel,.pinned] true (true, "796f33dc7e0d93919cc3837bfc29ebaff7d323313d981385f8d76db43e74cc6c") true over (fun _ h=>by cases h) (by as_aux_lemma=>kernel_rfl) (fun _ h=>by cases h) fnParseFixed_row_tie rfl ⟨rfl,rfl⟩ (by as_aux_lemma=>kernel_rfl) rfl
  (fun f fn hf hfn=>by
    obtain rfl:f=5:=Option.some.inj (E9.symm.trans hf) |>.symm
    obtain rfl:fn=Tryz.f5:=(Option.some.inj (Tryz.func5.symm.trans hfn)).symm
    exact⟨by as_aux_lemma=>kernel_rfl,fun j t ht=>by
     rw[Tryz.params5] at ht
     have hm:t∈[22]:=by simpa using Array.mem_of_getElem? ht
     have hall:([22].all fun u=>!Tryz.prog.wantsStandIn u)=true:=by as_aux_lemma=>kernel_rfl
     exact (show Tryz.prog.wantsStandIn t=false by simpa using List.all_eq_true.1 hall t hm)⟩)
  (by as_aux_lemma=>kernel_rfl)
#print axioms proved
end fnParseFixed
end Go.Proofs.YtbodcedhmccenaaGreatDoor
