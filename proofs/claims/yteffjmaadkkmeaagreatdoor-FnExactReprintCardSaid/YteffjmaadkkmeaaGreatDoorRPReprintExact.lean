/-
  The program reprints statements as the reference does.
  Conditions: none.
-/
import Derived.Test.YteffjmaadkkmeaaGreatDoorRPX2
set_option linter.unusedVariables false
set_option linter.unusedSimpArgs false
set_option linter.unusedSectionVars false
set_option maxRecDepth 8000
namespace Go.Proofs.YteffjmaadkkmeaaGreatDoor
open Go Go.Dv
open Go.Vc (D cY d3 cN bk)
open Go.Cv
open Go.Vc (CellF ValsF bf y3)
theorem D9 (s:ByteArray):Cl Tryz.prog 9 [vs s] [] fun r _=>r=vb true:=by
 by_cases hs:s.size<=1048576
 ·have c1:=zq s hs
  have c2:=wO s hs
  have h0:((1048576:Int)<(s.size:Int))=False:=eq_false (by omega)
  generalize (gt s).1=tx at *
  generalize (gt s).2=f at *
  obtain⟨f1,f2⟩:=f
  have ce:=yZ (f1,f2)
  refine ae ab false Tryz.func9 rfl (by kernel_rfl) ?_
  simp only[Tryz.f9,tt,seval]
  simp only[tt,seval,h0]
  refine fun _=>?_
  refine cZ (c1) ?_ ?_<;>simp only[tt,seval,f6]
  refine cZ (c2) ?_ ?_<;>simp only[tt,seval,f6]
  refine cZ (ce) ?_ ?_<;>simp only[tt,seval,F4]
  exact⟨_,_,rfl,ai rfl⟩
 ·have h0:((1048576:Int)<(s.size:Int))=True:=eq_true (by omega)
  refine ae ab false Tryz.func9 rfl (by kernel_rfl) ?_
  simp only[Tryz.f9,tt,seval]
  simp only[tt,seval,h0]
  exact fun _=>⟨_,_,rfl,ai rfl⟩
theorem Da (s:ByteArray) (w:World) (hok:Go.Vc.okV (.string s)) (hG:GlW w (fun _=>False)):bf Tryz.prog 9=true/\Calls Tryz.prog 9 #[.string s] w fun e w'=>∃v,e = .returned v/\v = .bool true/\Gr w w':=by
 obtain⟨hc,hk⟩:=Go.Cv.Cl.at (P:=Tryz.prog) (D9 s) rfl (vs:=[.string s]) (w:=w) ⟨⟨rfl,hok⟩,trivial⟩ hG
 refine⟨hc,hk.mono ?_⟩
 rintro e w' ⟨v,he,r,rfl,g,hres⟩
 exact⟨v,he,hres.val,g⟩
end Go.Proofs.YteffjmaadkkmeaaGreatDoor
set_option maxRecDepth 8000
namespace Go.Proofs.YteffjmaadkkmeaaGreatDoor
open Go Go.Dv Go.ChangeShapes Go.WideShapes Go.ChangeAt Go.RowKit
theorem zk {W:World} (hL:laidMetH Tryz.prog Rows.fnExactReprintRow.laid W) (hs:W.ShapedOpen Tryz.prog):GlW W (fun _=>False):=by
 rw[MakeChecks.laidMetH_plain _ _ _ (by kernel_rfl)] at hL
 have h2:laidMet Tryz.prog ((((Rows.fnExactReprintRow.laid.map (·.1)).getD 2 ""),Lib.tabData .u64 Lib.pow10Tab)::Rows.fnExactReprintRow.laid.drop 3) W:=laidMet.tail (laidMet.tail hL)
 have h4:laidMet Tryz.prog (Rows.fnExactReprintRow.laid.drop 4) W:=laidMet.tail (laidMet.tail h2)
 have h5:laidMet Tryz.prog (Rows.fnExactReprintRow.laid.drop 5) W:=laidMet.tail h4
 obtain⟨a5,s5,v5,_⟩:=laid_sentinel (g:=2) (ti:=203) (tp:=273) (te:=275) (ts:=9) h4 (by kernel_rfl) (by kernel_rfl) Tryz.underlying203 Bx Tryz.underlying273 Tryz.underlying275 rfl rfl Tryz.underlying9 vq Bw
 obtain⟨a4,s4,v4,_⟩:=laid_sentinel (g:=1) (ti:=203) (tp:=273) (te:=275) (ts:=9) h5 (by kernel_rfl) (by kernel_rfl) Tryz.underlying203 Bx Tryz.underlying273 Tryz.underlying275 rfl rfl Tryz.underlying9 vq Bw
 exact Eb (t:=3) (zero:=#[.int .i64 0]) (by kernel_rfl) (Lib.tabIs_of_head (g:=3) (t:=285) (e:=260) (n:=20) (by kernel_rfl) (by kernel_rfl) Tryz.underlying285 Tryz.underlying260 (by kernel_rfl) (by kernel_rfl) h2) hs (of_decide_eq_true (by kernel_rfl)) (by kernel_rfl) rfl (by kernel_rfl) (by kernel_rfl) Tryz.underlying3 (by kernel_rfl) v4 (by kernel_rfl) v5
namespace fnExactReprint
open Go Go.Dv Go.ChangeShapes Go.WideShapes Go.ChangeAt Go.RowKit
set_option maxRecDepth 100000 in
theorem Ei (os:Os) (started:os.Started) (H:Type) (enc:TypeId×Value->H) :
 ReturnsInHanded {} Tryz.checked os 9 .any (fun w args=>(Rows.fnExactReprintSpec.pre enc Tryz.prog Tryz.f9 Rows.fnExactReprintRow.domain false w args/\laidMetH Tryz.prog Rows.fnExactReprintRow.laid w)/\sizedMet enc Tryz.prog Tryz.f9 (OpenSpec.ofChange Rows.fnExactReprintSpec) false w args)
  (Rows.fnExactReprintSpec.post enc Tryz.prog Tryz.f9 false true false false):=by
 refine kW (C:=Tryz.checked) (X:=fun w _=>laidMetH Tryz.prog Rows.fnExactReprintRow.laid w) (fun _ _ _ hh h=>h.of_heap hh) own started (by as_aux_lemma=>kernel_rfl) Tryz.func9
  (ChangeSpec.witness_shaped (enc:=enc) (C:=Tryz.checked) (os:=os) (X:=fun w _=>laidMetH Tryz.prog Rows.fnExactReprintRow.laid w) false (World.laidAll Tryz.prog os Rows.fnExactReprintRow.laid) #[.string ByteArray.empty] 8 (World.laidAll_os _ _ _)
    (World.shaped_of_ZipB (by as_aux_lemma=>kernel_rfl) (by as_aux_lemma=>kernel_rfl)) (by as_aux_lemma=>kernel_rfl) (by as_aux_lemma=>kernel_rfl) (by as_aux_lemma=>kernel_rfl)
    (by rw[MakeChecks.laidMetH_plain _ _ _ (by as_aux_lemma=>kernel_rfl)];exact laidMet_laidAll _ (by as_aux_lemma=>kernel_rfl) (by as_aux_lemma=>kernel_rfl))) ?_
 intro W base args ds gs before hval0 hW _ hL hsh
 have hval:∀(j:Nat) t v,Tryz.f9.params[j]?=some t->args[j]?=some v->Value.okWide Tryz.prog W .any base t v:=hval0
 have hW':=hW
 obtain⟨p,q,hA0,hV,rfl,hfz,hnd⟩:=hW
 have hA:DataW.TrodAll enc Tryz.prog W 0 (fun _=>true) true Tryz.f9.params.toList args.toList ds p:=hA0
 rw[Tryz.params9] at hA hval
 obtain⟨v0,vs0,d0,ds0,p0,q0,hargs,rfl,rfl,h0,r0⟩:=trodAll_cons hA
 obtain⟨rfl,rfl,rfl⟩:=trodAll_nil r0
 obtain rfl:args = #[v0]:=by cases args;simp_all
 obtain⟨rfl,rfl⟩:=trodVars_none hV
 have hv0:=hval 0 9 v0 rfl rfl
 obtain⟨s0,rfl⟩:=okWide_string Tryz.underlying9 hv0
 have hok:Go.Vc.okV (.string s0):=by
  simp only[Value.okWide,Tryz.underlying9,Cell.okWide,Cell.ok] at hv0
  have hmx:IntKind.i64.max=9223372036854775807:=rfl
  rw[hmx] at hv0
  show s0.size<=9223372036854775807
  omega
 obtain⟨n0,t0⟩:=h0
 clear hA0 hval0
 simp only[List.append_nil] at hW'
 have hlt:∀p∈p0,p.block<W.heap.size:=fun p hp=>hW'.lt p hp
 have hcall:Calls Tryz.prog 9 #[_] W fun e w'=>∃v,e = .returned v/\v = .bool true/\Go.Cv.Gr W w':=(Da s0 W hok (zk hL hsh)).2
 refine hcall.mono fun e W' ⟨v,he,hr,g⟩=>?_
 have hb:Below W.heap.size W W':=⟨g.os,g.tape,g.output,g.size,g.keep⟩
 have hf:=yX g
 subst he hr
 exact⟨_,rfl,Bv (pa:=p0) (pv:=[]) hW' (fun _ _ _=>(trodAll_cons_mk (shut_bool Tryz.underlying4 _) trodAll_mk0))
  (fun sp hsp=>trodAll_mk1 (WideElems.Trod_stays (t:=9) D0 (by as_aux_lemma=>kernel_rfl) (of_decide_eq_true (by as_aux_lemma=>kernel_rfl)) ⟨n0,t0⟩ (fun p hp=>hb.same (hlt p hp)) (fun p hp=>hsp p hp)))
  (fun _ _=>rfl) (by simp)
  (hb.frame _) hf (ok_one (by as_aux_lemma=>kernel_rfl) rfl (okWide_bool_mk Tryz.underlying4 _))⟩
set_option maxHeartbeats 4000000 in
theorem jf:joinedFacts Tryz.prog 9 Tryz.f9 Rows.fnExactReprintSpec Rows.fnExactReprintRow=true:=by
 unfold joinedFacts
 refine Bool.and_eq_true_iff.2 ⟨Bool.and_eq_true_iff.2 ⟨Bool.and_eq_true_iff.2 ⟨Bool.and_eq_true_iff.2 ⟨Bool.and_eq_true_iff.2 ⟨Bool.and_eq_true_iff.2 ⟨Bool.and_eq_true_iff.2 ⟨Bool.and_eq_true_iff.2 ⟨Bool.and_eq_true_iff.2 ⟨Bool.and_eq_true_iff.2 ⟨Bool.and_eq_true_iff.2 ⟨Bool.and_eq_true_iff.2 ⟨Bool.and_eq_true_iff.2 ⟨Bool.and_eq_true_iff.2 ⟨Bool.and_eq_true_iff.2 ⟨Bool.and_eq_true_iff.2 ⟨Bool.and_eq_true_iff.2 ⟨Bool.and_eq_true_iff.2 ⟨Bool.and_eq_true_iff.2 ⟨Bool.and_eq_true_iff.2 ⟨Bool.and_eq_true_iff.2 ⟨Bool.and_eq_true_iff.2 ⟨Bool.and_eq_true_iff.2 ⟨Bool.and_eq_true_iff.2 ⟨Bool.and_eq_true_iff.2 ⟨Bool.and_eq_true_iff.2 ⟨Bool.and_eq_true_iff.2 ⟨Bool.and_eq_true_iff.2 ⟨Bool.and_eq_true_iff.2 ⟨Bool.and_eq_true_iff.2 ⟨Bool.and_eq_true_iff.2 ⟨?_,?_⟩,?_⟩,?_⟩,?_⟩,?_⟩,?_⟩,?_⟩,?_⟩,?_⟩,?_⟩,?_⟩,?_⟩,?_⟩,?_⟩,?_⟩,?_⟩,?_⟩,?_⟩,?_⟩,?_⟩,?_⟩,?_⟩,?_⟩,?_⟩,?_⟩,?_⟩,?_⟩,?_⟩,?_⟩,?_⟩,?_⟩
 all_goals as_aux_lemma=>kernel_rfl
theorem BK:Tryz.prog.funcNamed Rows.fnExactReprintRow.func=some 9:=by kernel_rfl
set_option maxHeartbeats 4000000 in
theorem over:Rows.fnExactReprintRow.holds Tryz.pinned (OpenSpec.ofChange Rows.fnExactReprintSpec):=
 OpenClaim.holds_of_wide 9 Tryz.f9 rfl rfl rfl rfl rfl rfl rfl ⟨rfl,rfl,rfl,rfl,rfl⟩ rfl rfl rfl rfl rfl BK Tryz.func9 jf
  (of_decide_eq_true (by as_aux_lemma=>kernel_rfl)) (by unfold Func.isWrapper;first|(rw[if_pos (by decide +kernel)];kernel_rfl)|(rw[if_neg (by decide +kernel)];exact⟨rfl,rfl⟩))
  (fun os started H enc _=>Ei os started H enc)
set_option maxHeartbeats 4000000 in
theorem proved:Rows.FnExactReprintCardSaid:=
 Claim7.holds_tied_plain_at .later [] [.data,.data,.data,.data,.sentinel,.sentinel,.pinned] true (true, "d117c1e6b76b058e49b910101838f26852bd41ec55806f975281d979b3de11dc") true over (fun _ h=>by cases h) (by as_aux_lemma=>kernel_rfl) (fun _ h=>by cases h) fnExactReprint_row_tie rfl ⟨rfl,rfl⟩ (by as_aux_lemma=>kernel_rfl) rfl
  (fun f fn hf hfn=>by
    obtain rfl:f=9:=Option.some.inj (BK.symm.trans hf) |>.symm
    obtain rfl:fn=Tryz.f9:=(Option.some.inj (Tryz.func9.symm.trans hfn)).symm
    exact⟨by as_aux_lemma=>kernel_rfl,fun j t ht=>by
     rw[Tryz.params9] at ht
     have hm:t∈[9]:=by simpa using Array.mem_of_getElem? ht
     have hall:([9].all fun u=>!Tryz.prog.wantsStandIn u)=true:=by as_aux_lemma=>kernel_rfl
     exact (show Tryz.prog.wantsStandIn t=false by simpa using List.all_eq_true.1 hall t hm)⟩)
  (by as_aux_lemma=>kernel_rfl)
#print axioms proved
end fnExactReprint
end Go.Proofs.YteffjmaadkkmeaaGreatDoor
