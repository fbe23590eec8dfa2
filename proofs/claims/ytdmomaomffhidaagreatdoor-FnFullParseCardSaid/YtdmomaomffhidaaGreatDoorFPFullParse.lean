/-
  What is written with all parentheses is read as it was, and is no shorter than what is written with few.
  Conditions: none.
-/
import Derived.Test.YtdmomaomffhidaaGreatDoorFPB3
import Derived.Test.YtdmomaomffhidaaGreatDoorFPV2
import Derived.Test.YtdmomaomffhidaaGreatDoorFPSa
import Derived.Test.YtdmomaomffhidaaGreatDoorFPK
set_option linter.unusedVariables false
set_option linter.unusedSimpArgs false
set_option linter.unusedSectionVars false
set_option linter.unnecessarySimpa false
set_option maxRecDepth 8000
namespace Go.Proofs.YtdmomaomffhidaaGreatDoor
open Go Go.Dv Go.Cv
open Go.Vc (D cU cV cF b0)
theorem rQ (bs:List Int):Cl Tryz.prog 22 [.c (.sl bs.length (bs.flatMap iW) none)] [] fun r _=>Eb r:=by
 refine ai ac false Tryz.func22 rfl ae ?_
 simp only[Tryz.f22,tt,seval]
 refine iQ (xB bs) ?_ ?_ ?_
 ·decide
 ·simp only[tt,seval]
 rintro r ⟨⟨k1,p1,n1,v1,q1,m1,ks1,ss1⟩,rfl,hg,hz⟩
 simp only[tt,seval,ak]
 exact⟨_,_,⟨(Expr.mk k1 p1 n1 v1 q1 m1 ks1 ss1),by rw[ak];rfl,hg,hz⟩,am rfl⟩
theorem Af {e:Expr} (hs:fN e≠⟨#[]⟩):mA e=true/\fN e=bf (nw true e):=by
 unfold fN at hs ⊢
 by_cases h:mA e=true
 ·exact⟨h,if_pos h⟩
 ·rw[if_neg h] at hs;exact absurd rfl hs
theorem FR {e:Expr} (hs:bf (cA e)≠⟨#[]⟩):mA e=true/\cA e=nw false e:=by
 unfold cA at hs ⊢
 by_cases h:mA e=true
 ·exact⟨h,if_pos h⟩
 ·rw[if_neg h] at hs
  exact absurd (by simp [bf,dT]) hs
theorem DB {e:Expr} (hr:Rg e) (hs:fN e≠⟨#[]⟩):eg (fN e)=(e,(0,0))/\(bf (cA e)).size<=(fN e).size:=by
 obtain⟨h1,h2⟩:=Af hs
 rw[h2] at hs ⊢
 refine⟨j8 true h1 hr hs,?_⟩
 unfold cA
 rw[if_pos h1]
 exact Ct hs
theorem DC {e:Expr} (hr:Rg e) (hs:bf (cA e)≠⟨#[]⟩):eg (bf (cA e))=(e,(0,0)):=by
 obtain⟨h1,h2⟩:=FR hs
 rw[h2] at hs ⊢
 exact j8 false h1 hr hs
set_option maxHeartbeats 8000000 in
theorem DD (bs:List Int):Cl Tryz.prog 5 [.c (.sl bs.length (bs.flatMap iW) none)] [] fun r _=>r=vb true:=by
 refine ai ac false Tryz.func5 rfl ae ?_
 simp only[Tryz.f5,tt,seval]
 refine cZ (GP bs) ?_ ?_<;>simp only[tt,seval]
 refine ab (fun hbig=>⟨_,_,rfl,am rfl⟩) (fun hbig=>?_)
 refine iQ (rQ bs) ?_ ?_ ?_
 ·decide
 ·simp only[tt,seval]
 rintro r ⟨e,rfl,hr,hsz⟩
 simp only[tt,seval,er]
 have c1:=xp e hr hsz
 have c2:=yO e hr hsz
 have c3:=rS e hr hsz
 have c4:=oB e hr hsz
 have ce:=rZ e
 have hl:=DB hr
 have cp:=ol (fN e)
 have hs0:fN e≠⟨#[]⟩->(fN e).size<=2000:=fun h=>by rw[(Af h).2];exact yc _
 have ln:(cA e).length<=1000000:=by
  unfold cA
  split
  ·rename_i h;exact (gx false e hr h).2.1
  ·exact Nat.zero_le _
 generalize bf (cA e)=t at *
 generalize cA e=l at *
 generalize fN e=s at *
 by_cases hs:s=⟨#[]⟩
 ·subst hs
  obtain⟨k1,p1,n1,v1,q1,m1,ks1,ss1⟩:=e
  simp only[ak] at c1 c2
  simp only[tt,seval,ak]
  refine cZ (c1) ?_ ?_<;>simp only[tt,seval]
  refine cZ (c2) ?_ ?_<;>simp only[tt,seval]
  exact⟨_,_,rfl,am rfl⟩
 obtain⟨hp,hz⟩:=hl hs
 have hs1:=hs0 hs
 rw[hp] at cp
 obtain⟨k1,p1,n1,v1,q1,m1,ks1,ss1⟩:=e
 simp only[ak,av] at c1 c2 c3 c4 ce cp
 simp only[tt,seval,ak]
 refine cZ (c1) ?_ ?_<;>simp only[tt,seval]
 refine cZ (c2) ?_ ?_<;>simp only[tt,seval]
 have g0:decide (s=⟨#[]⟩)=false:=ax hs
 have g1:(s=⟨#[]⟩)=False:=eq_false hs
 simp only[tt,seval,g1]
 refine iQ (cp) ?_ ?_ ?_
 ·decide
 ·simp only[tt,seval]
 rintro r ⟨Fk,Fs,rfl⟩
 simp only[tt,seval,nq]
 refine dDrawn.intro [] (dC [0,2,4,6,8,10,13,14,16,18,20,22,28,25,26,31,32,34,36,38,40]) ae ?_
 simp only[tt,seval]
 rw[o5 ae (GQ 0 0)]
 simp only[tt,seval]
 refine cZ (ce) ?_ ?_<;>simp only[tt,seval]
 refine fun _=>?_
 refine cZ (c3) ?_ ?_<;>simp only[tt,seval]
 refine fun _=>?_
 refine cZ (c4) ?_ ?_<;>simp only[tt,seval]
 (try refine fun _=>?_)
 (try rw[aC (n:=(t.size:Int)-(l.length:Int)) aa aa])
 have g5:decide ((t.size:Int)-(l.length:Int)<=(s.size:Int))=true:=aw aa
 simp only[seval,g5]
 exact⟨_,_,rfl,am rfl⟩
end Go.Proofs.YtdmomaomffhidaaGreatDoor
set_option maxRecDepth 8000
namespace Go.Proofs.YtdmomaomffhidaaGreatDoor
open Go Go.Dv
open Go.Vc (D cU cV cF b0)
open Go.Cv
open Go.Vc (CellF ValsF callable Cells)
theorem DE (bs:List Int) (w:World) (v0:Value) (F:List Nat) (hq:CellF w (.sl bs.length (bs.flatMap iW)) v0 F) (hG:GlW w (fun _=>False)):callable Tryz.prog 5=true/\Calls Tryz.prog 5 #[v0] w fun e w'=>∃v,e = .returned v/\v = .bool true/\Gr w w':=by
 obtain⟨hc,hk⟩:=Go.Cv.Cl.at (P:=Tryz.prog) (DD bs) rfl (vs:=[v0]) (w:=w) ⟨Aq hq,trivial⟩ hG
 refine⟨hc,hk.mono ?_⟩
 rintro e w' ⟨v,he,r,rfl,g,hres⟩
 exact⟨v,he,hres.val,g⟩
end Go.Proofs.YtdmomaomffhidaaGreatDoor
set_option maxRecDepth 8000
namespace Go.Proofs.YtdmomaomffhidaaGreatDoor
open Go Go.Dv Go.ChangeShapes Go.WideShapes Go.ChangeAt Go.RowKit
theorem xh {W:World} (hL:laidMetH Tryz.prog Rows.fnFullParseRow.laid W) (hs:W.ShapedOpen Tryz.prog):GlW W (fun _=>False):=by
 rw[MakeChecks.laidMetH_plain _ _ _ ae] at hL
 have h2:laidMet Tryz.prog ((((Rows.fnFullParseRow.laid.map (·.1)).getD 2 ""),Lib.tabData .u64 Lib.pow10Tab)::Rows.fnFullParseRow.laid.drop 3) W:=laidMet.tail (laidMet.tail hL)
 have h4:laidMet Tryz.prog (Rows.fnFullParseRow.laid.drop 4) W:=laidMet.tail (laidMet.tail h2)
 have h5:laidMet Tryz.prog (Rows.fnFullParseRow.laid.drop 5) W:=laidMet.tail h4
 obtain⟨a5,s5,v5,_⟩:=laid_sentinel (g:=3) (ti:=188) (tp:=264) (te:=266) (ts:=9) h4 ae ae Tryz.underlying188 vd Tryz.underlying264 Tryz.underlying266 rfl rfl Tryz.underlying9 oC vc
 obtain⟨a4,s4,v4,_⟩:=laid_sentinel (g:=2) (ti:=188) (tp:=264) (te:=266) (ts:=9) h5 ae ae Tryz.underlying188 vd Tryz.underlying264 Tryz.underlying266 rfl rfl Tryz.underlying9 oC vc
 exact DW (t:=3) (zero:=#[.int .i64 0]) ae (Lib.tabIs_of_head (g:=1) (t:=246) (e:=232) (n:=20) ae ae Tryz.underlying246 Tryz.underlying232 ae ae h2) hs (of_decide_eq_true ae) ae rfl ae ae Tryz.underlying3 ae v4 ae v5
namespace fnFullParse
open Go Go.Dv Go.ChangeShapes Go.WideShapes Go.ChangeAt Go.RowKit
set_option maxRecDepth 100000 in
theorem yK (os:Os) (started:os.Started) (H:Type) (enc:TypeId×Value->H) :
 ReturnsInHanded {} Tryz.checked os 5 .any (fun w args=>(Rows.fnFullParseSpec.pre enc Tryz.prog Tryz.f5 Rows.fnFullParseRow.domain false w args/\laidMetH Tryz.prog Rows.fnFullParseRow.laid w)/\sizedMet enc Tryz.prog Tryz.f5 (OpenSpec.ofChange Rows.fnFullParseSpec) false w args)
  (Rows.fnFullParseSpec.post enc Tryz.prog Tryz.f5 false true false false):=by
 refine gQ (C:=Tryz.checked) (X:=fun w _=>laidMetH Tryz.prog Rows.fnFullParseRow.laid w) (fun _ _ _ hh h=>h.of_heap hh) own started (by as_aux_lemma=>kernel_rfl) Tryz.func5
  (ChangeSpec.witness_shaped (enc:=enc) (C:=Tryz.checked) (os:=os) (X:=fun w _=>laidMetH Tryz.prog Rows.fnFullParseRow.laid w) false (World.laidAll Tryz.prog os Rows.fnFullParseRow.laid) #[.slice none 0 0] 8 (World.laidAll_os _ _ _)
    (World.shaped_of_ZipB (by as_aux_lemma=>kernel_rfl) (by as_aux_lemma=>kernel_rfl)) (by as_aux_lemma=>kernel_rfl) (by as_aux_lemma=>kernel_rfl) (by as_aux_lemma=>kernel_rfl)
    (by rw[MakeChecks.laidMetH_plain _ _ _ (by as_aux_lemma=>kernel_rfl)];exact laidMet_laidAll _ (by as_aux_lemma=>kernel_rfl) (by as_aux_lemma=>kernel_rfl))) ?_
 intro W base args ds gs before hval0 hW _ hL hsh
 have hval:∀(j:Nat) t v,Tryz.f5.params[j]?=some t->args[j]?=some v->Value.okWide Tryz.prog W .any base t v:=hval0
 have hW':=hW
 obtain⟨p,q,hA0,hV,rfl,hfz,hnd⟩:=hW
 have hA:DataW.TrodAll enc Tryz.prog W 0 (fun _=>true) true Tryz.f5.params.toList args.toList ds p:=hA0
 rw[Tryz.params5] at hA hval
 obtain⟨v0,vs0,d0,ds0,p0,q0,hargs,rfl,rfl,h0,r0⟩:=trodAll_cons hA
 obtain⟨rfl,rfl,rfl⟩:=trodAll_nil r0
 obtain rfl:args = #[v0]:=by cases args;simp_all
 obtain⟨rfl,rfl⟩:=trodVars_none hV
 obtain⟨_,_,_,rfl⟩:=okWide_slice Tryz.underlying22 (hval 0 22 v0 rfl rfl)
 obtain⟨n0,t0⟩:=h0
 obtain⟨x,v,F0,ev,hx⟩:=rU t0
 obtain rfl:=List.head_eq_of_cons_eq ev
 clear hA0 hval0
 simp only[List.append_nil] at hW'
 have hlt:∀p∈p0,p.block<W.heap.size:=fun p hp=>hW'.lt p hp
 have hcall:Calls Tryz.prog 5 #[_] W fun e w'=>∃v,e = .returned v/\v = .bool true/\Go.Cv.Gr W w':=(DE x W _ F0 hx (xh hL hsh)).2
 refine hcall.mono fun e W' ⟨v,he,hr,g⟩=>?_
 have hb:Below W.heap.size W W':=⟨g.os,g.tape,g.output,g.size,g.keep⟩
 have hf:=tU g
 subst he hr
 exact⟨_,rfl,xr (pa:=p0) (pv:=[]) hW' (fun _ _ _=>(trodAll_cons_mk (shut_bool Tryz.underlying4 _) trodAll_mk0))
  (fun sp hsp=>trodAll_mk1 (WideElems.Trod_stays (t:=22) Ar (by as_aux_lemma=>kernel_rfl) (of_decide_eq_true (by as_aux_lemma=>kernel_rfl)) ⟨n0,t0⟩ (fun p hp=>hb.same (hlt p hp)) (fun p hp=>hsp p hp)))
  (fun _ _=>rfl) (by simp)
  (hb.frame _) hf (ok_one (by as_aux_lemma=>kernel_rfl) rfl (okWide_bool_mk Tryz.underlying4 _))⟩
set_option maxHeartbeats 4000000 in
theorem jf:joinedFacts Tryz.prog 5 Tryz.f5 Rows.fnFullParseSpec Rows.fnFullParseRow=true:=by
 unfold joinedFacts
 refine Bool.and_eq_true_iff.2 ⟨Bool.and_eq_true_iff.2 ⟨Bool.and_eq_true_iff.2 ⟨Bool.and_eq_true_iff.2 ⟨Bool.and_eq_true_iff.2 ⟨Bool.and_eq_true_iff.2 ⟨Bool.and_eq_true_iff.2 ⟨Bool.and_eq_true_iff.2 ⟨Bool.and_eq_true_iff.2 ⟨Bool.and_eq_true_iff.2 ⟨Bool.and_eq_true_iff.2 ⟨Bool.and_eq_true_iff.2 ⟨Bool.and_eq_true_iff.2 ⟨Bool.and_eq_true_iff.2 ⟨Bool.and_eq_true_iff.2 ⟨Bool.and_eq_true_iff.2 ⟨Bool.and_eq_true_iff.2 ⟨Bool.and_eq_true_iff.2 ⟨Bool.and_eq_true_iff.2 ⟨Bool.and_eq_true_iff.2 ⟨Bool.and_eq_true_iff.2 ⟨Bool.and_eq_true_iff.2 ⟨Bool.and_eq_true_iff.2 ⟨Bool.and_eq_true_iff.2 ⟨Bool.and_eq_true_iff.2 ⟨Bool.and_eq_true_iff.2 ⟨Bool.and_eq_true_iff.2 ⟨Bool.and_eq_true_iff.2 ⟨Bool.and_eq_true_iff.2 ⟨Bool.and_eq_true_iff.2 ⟨Bool.and_eq_true_iff.2 ⟨?_,?_⟩,?_⟩,?_⟩,?_⟩,?_⟩,?_⟩,?_⟩,?_⟩,?_⟩,?_⟩,?_⟩,?_⟩,?_⟩,?_⟩,?_⟩,?_⟩,?_⟩,?_⟩,?_⟩,?_⟩,?_⟩,?_⟩,?_⟩,?_⟩,?_⟩,?_⟩,?_⟩,?_⟩,?_⟩,?_⟩,?_⟩
 all_goals as_aux_lemma=>kernel_rfl
theorem rR:Tryz.prog.funcNamed Rows.fnFullParseRow.func=some 5:=by kernel_rfl
set_option maxHeartbeats 4000000 in
theorem over:Rows.fnFullParseRow.holds Tryz.pinned (OpenSpec.ofChange Rows.fnFullParseSpec):=
 OpenClaim.holds_of_wide 5 Tryz.f5 rfl rfl rfl rfl rfl rfl rfl ⟨rfl,rfl,rfl,rfl,rfl⟩ rfl rfl rfl rfl rfl rR Tryz.func5 jf
  (of_decide_eq_true (by as_aux_lemma=>kernel_rfl)) (by unfold Func.isWrapper;first|(rw[if_pos (by decide +kernel)];kernel_rfl)|(rw[if_neg (by decide +kernel)];exact⟨rfl,rfl⟩))
  (fun os started H enc _=>yK os started H enc)
set_option maxHeartbeats 4000000 in
theorem proved:Rows.FnFullParseCardSaid:=
 Claim7.holds_tied_plain_at .later [] [.data,.data,.data,.data,.sentinel,.sentinel,.pinned] true (true, "eb94e160aafef1bbe4cba681530ddcf0793260068ee1dec24b658a4b04df300b") true over (fun _ h=>by cases h) (by as_aux_lemma=>kernel_rfl) (fun _ h=>by cases h) fnFullParse_row_tie rfl ⟨rfl,rfl⟩ (by as_aux_lemma=>kernel_rfl) rfl
  (fun f fn hf hfn=>by
    obtain rfl:f=5:=Option.some.inj (rR.symm.trans hf) |>.symm
    obtain rfl:fn=Tryz.f5:=(Option.some.inj (Tryz.func5.symm.trans hfn)).symm
    exact⟨by as_aux_lemma=>kernel_rfl,fun j t ht=>by
     rw[Tryz.params5] at ht
     have hm:t∈[22]:=by simpa using Array.mem_of_getElem? ht
     have hall:([22].all fun u=>!Tryz.prog.wantsStandIn u)=true:=by as_aux_lemma=>kernel_rfl
     exact (show Tryz.prog.wantsStandIn t=false by simpa using List.all_eq_true.1 hall t hm)⟩)
  (by as_aux_lemma=>kernel_rfl)
#print axioms proved
end fnFullParse
end Go.Proofs.YtdmomaomffhidaaGreatDoor
