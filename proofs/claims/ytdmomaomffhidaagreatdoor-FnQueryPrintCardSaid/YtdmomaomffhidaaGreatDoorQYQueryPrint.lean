/-
  A query is read as it was written.
  Conditions: none.
-/
import Derived.Test.YtdmomaomffhidaaGreatDoorQYB3
import Derived.Test.YtdmomaomffhidaaGreatDoorQYV2
import Derived.Test.YtdmomaomffhidaaGreatDoorQYSa
import Derived.Test.YtdmomaomffhidaaGreatDoorQYK
set_option linter.unusedVariables false
set_option linter.unusedSimpArgs false
set_option linter.unusedSectionVars false
set_option linter.unnecessarySimpa false
set_option maxRecDepth 8000
namespace Go.Proofs.YtdmomaomffhidaaGreatDoor
open Go Go.Dv Go.Cv
open Go.Vc (D dm dq cV bq)
def H4 (r:S):Prop:=∃q:Query,r = .ag (aw q.row)/\xO q/\szQuery q<=1048576
theorem xy:∀l:List Go.Vc.D,(aw l).length=l.length
 | []=>rfl
 |a::r=>by cases a<;>simp [aw,sM,xy r]
theorem td (bs:List Int):Cl Tryz.prog 36 [.c (.sl bs.length (bs.flatMap km) none)] [] fun r _=>H4 r:=by
 refine IB ae fun w v G hv hg=>?_
 refine (qB hv hg).2.mono ?_
 rintro e w' ⟨r,rfl,q,vs,G',rfl,h1,h2,h3,h4,h5⟩
 refine⟨_,rfl,.ag (aw q.row),⟨q,rfl,h4,h5⟩,?_,fun β=>⟨vs,rfl,rz h1 h2⟩,h3⟩
 have hl:(bb (S.ag (aw q.row))).length=6:=by
  show (aw q.row).length=6
  rw[xy,Query.row_len]
 rw[hl]
 exact Bool.and_eq_true_iff.2 ⟨pY _,rfl⟩
theorem oP (bs:List Int):Cl Tryz.prog 8 [.c (.sl bs.length (bs.flatMap km) none)] [] fun r _=>H4 r:=by
 refine ai ac false Tryz.func8 rfl ae ?_
 simp only[Tryz.f8,tt,seval]
 refine iZ (td bs) ?_ ?_ ?_
 ·decide
 ·simp only[tt,seval]
 rintro r ⟨⟨distinct,items,from_,where_,order,limit⟩,rfl,hg,hz⟩
 simp only[tt,seval,aG]
 exact⟨_,_,⟨(Query.mk distinct items from_ where_ order limit),by rw[aG];rfl,hg,hz⟩,ao rfl⟩
theorem E6 {q:Query} (hr:xO q) (h:gU q=true):Sm 40000 (dL (dG false) q):=by
 simp only[gU,Bool.and_eq_true,decide_eq_true_eq] at h
 have hb:∀x∈exprsQ q,fmE x=true:=by
  have h1:=h.1
  obtain⟨d,it,fr,wh,od,li⟩:=q
  exact (eQ h1).2.2.2.2.2.2.2
 exact (Ij (gn:=ndE) (g:=dG false) h.1 hr.1 fun x hx=>DH false x (hb x hx) (hr.2 x hx)).le aa
theorem BE (l:List Tok):SameK l l:=by
 induction l with
 |nil=>first|exact trivial|constructor|simp [SameK]
 |cons a r ih=>first|exact⟨rfl,rfl,ih⟩|(constructor<;>simp_all [SameK])|simp_all [SameK]
theorem Iq (a b:Int) (h:a≠0) (w:World):(Op.equalIn 10000 38 (.agg [.int .i64 a,.int .i64 b].toArray) (.agg [.int .i64 0,.int .i64 0].toArray)).run Tryz.prog w = .ok false w:=by
 refine Go.Vc.equalIn_fk (ks:=[(0,.int),(1,.int)]) ae ae ae ?_ w
 simp only[Go.Vc.eqFK,List.getElem?_cons_zero,List.getElem?_cons_succ]
 simp [h]
theorem Ga:lg ⟨#[]⟩ = .inl []:=by first|rfl|decide
theorem yS:∃i,(cU ⟨#[]⟩).2=(2,i):=by
 have h0:0<=(cy ([]:List Tok)).2:=by
  rcases (show ((cy ([]:List Tok)).2 = -1∨0<=(cy ([]:List Tok)).2)/\_ from xr).1 with h|h
  ·have hs:=AV h
   generalize (cy ([]:List Tok)).1=q at hs
   obtain⟨distinct,items,from_,where_,order,limit⟩:=q
   simp [dL] at hs
  ·exact h
 unfold cU sj
 rw[Ga]
 simp only[xq,if_pos h0]
 exact⟨_,rfl⟩
set_option maxHeartbeats 8000000 in
theorem E7 (bs:List Int):Cl Tryz.prog 3 [.c (.sl bs.length (bs.flatMap km) none)] [] fun r _=>r=vb true:=by
 refine ai ac false Tryz.func3 rfl ae ?_
 simp only[Tryz.f3,tt,seval]
 refine cZ (JA bs) ?_ ?_<;>simp only[tt,seval]
 refine ab (fun hbig=>⟨_,_,rfl,ao rfl⟩) (fun hbig=>?_)
 refine iZ (oP bs) ?_ ?_ ?_
 ·decide
 ·simp only[tt,seval]
 rintro r ⟨q,rfl,hr,hsz⟩
 simp only[tt,seval]
 have c1:=sr q hr hsz
 have c2:=ue q hsz
 cases hok:gU q
 case false=>
  rw[hok] at c2
  have e0:mj q=[]:=if_neg (by simp [hok])
  rw[e0] at c1
  obtain⟨distinct,items,from_,where_,order,limit⟩:=q
  simp only[aG] at c1 c2
  simp only[tt,seval,aG]
  refine cZ (c1) ?_ ?_<;>simp only[tt,seval]
  refine cZ (c2) ?_ ?_<;>simp only[tt,seval]
  exact⟨_,_,rfl,ao rfl⟩
 case true=>
  rw[hok] at c2
  have e0:mj q=dL (dG false) q:=if_pos hok
  have c3:=ta q hr hsz
  rw[e0] at c1 c3
  have hsm:=E6 hr hok
  have hrd:=rn (full:=false) (zE hok) hr (BE (dL (dG false) q))
  have ctk:=oJ (dL (dG false) q) (by have:=hsm.1;omega) (fun t ht=>Nat.le_trans (hsm.2 t ht) ah)
  rw[hrd] at ctk
  have cq:=xB q
  have csp:=BW (dL (dG false) q) (fun t ht=>Nat.le_trans (hsm.2 t ht) ah) (DI hsm aa)
  have cp:=sY (dT (dL (dG false) q))
  have hp:=fun h=>nu false hok hr h
  have hnil:=yS
  generalize dT (dL (dG false) q)=s at *
  generalize dL (dG false) q=l at *
  by_cases hs:s=⟨#[]⟩
  ·subst hs
   generalize (cU ⟨#[]⟩).1=y at *
   generalize (cU ⟨#[]⟩).2=f at *
   obtain⟨i,rfl⟩:=hnil
   clear hp hrd
   obtain⟨distinct,items,from_,where_,order,limit⟩:=q
   obtain⟨d2,it2,fr2,wh2,od2,li2⟩:=y
   simp only[aG,av] at c1 c2 c3 ctk cq cp
   simp only[tt,seval,aG]
   refine cZ (c1) ?_ ?_<;>simp only[tt,seval]
   refine cZ (c2) ?_ ?_<;>simp only[tt,seval]
   refine iZ (ctk) ?_ ?_ ?_
   ·decide
   ·simp only[tt,seval]
   rintro r ⟨Fi,Ff,Fw,Fo,rfl⟩
   simp only[tt,seval]
   refine cZ (cq) ?_ ?_<;>simp only[tt,seval]
   refine cZ (c3) ?_ ?_<;>simp only[tt,seval]
   refine cZ (csp) ?_ ?_<;>simp only[tt,seval]
   refine iZ (cp) ?_ ?_ ?_
   ·decide
   ·simp only[tt,seval]
   rintro r ⟨Gi,Gf,Gw,Go,rfl⟩
   simp only[tt,seval,nO]
   rw[rQ ae (Iq 2 i ah)]
   simp only[tt,seval]
   refine cZ (c3) ?_ ?_<;>simp only[tt,seval]
   refine cZ (csp) ?_ ?_<;>simp only[tt,seval]
   exact⟨_,_,rfl,ao rfl⟩
  ·have hp:=hp hs
   rw[hp] at cp
   obtain⟨distinct,items,from_,where_,order,limit⟩:=q
   simp only[aG,av] at c1 c2 c3 ctk cq cp
   simp only[tt,seval,aG]
   refine cZ (c1) ?_ ?_<;>simp only[tt,seval]
   refine cZ (c2) ?_ ?_<;>simp only[tt,seval]
   refine iZ (ctk) ?_ ?_ ?_
   ·decide
   ·simp only[tt,seval]
   rintro r ⟨Fi,Ff,Fw,Fo,rfl⟩
   simp only[tt,seval]
   refine cZ (cq) ?_ ?_<;>simp only[tt,seval]
   refine cZ (c3) ?_ ?_<;>simp only[tt,seval]
   refine cZ (csp) ?_ ?_<;>simp only[tt,seval]
   refine iZ (cp) ?_ ?_ ?_
   ·decide
   ·simp only[tt,seval]
   rintro r ⟨Gi,Gf,Gw,Go,rfl⟩
   simp only[tt,seval,nO]
   rw[rQ ae (JB 0 0)]
   simp only[tt,seval]
   refine cZ (cq) ?_ ?_<;>simp only[tt,seval]
   exact⟨_,_,rfl,ao rfl⟩
end Go.Proofs.YtdmomaomffhidaaGreatDoor
set_option maxRecDepth 8000
namespace Go.Proofs.YtdmomaomffhidaaGreatDoor
open Go Go.Dv
open Go.Vc (D dm dq cV bq)
open Go.Cv
open Go.Vc (CellF ValsF callable Cells)
theorem E8 (bs:List Int) (w:World) (v0:Value) (F:List Nat) (hq:CellF w (.sl bs.length (bs.flatMap km)) v0 F) (hG:GlW w (fun _=>False)):callable Tryz.prog 3=true/\Calls Tryz.prog 3 #[v0] w fun e w'=>∃v,e = .returned v/\v = .bool true/\Gr w w':=by
 obtain⟨hc,hk⟩:=Go.Cv.Cl.at (P:=Tryz.prog) (E7 bs) rfl (vs:=[v0]) (w:=w) ⟨G8 hq,trivial⟩ hG
 refine⟨hc,hk.mono ?_⟩
 rintro e w' ⟨v,he,r,rfl,g,hres⟩
 exact⟨v,he,hres.val,g⟩
end Go.Proofs.YtdmomaomffhidaaGreatDoor
set_option maxRecDepth 8000
namespace Go.Proofs.YtdmomaomffhidaaGreatDoor
open Go Go.Dv Go.ChangeShapes Go.WideShapes Go.ChangeAt Go.RowKit
theorem xz {W:World} (hL:laidMetH Tryz.prog Rows.fnQueryPrintRow.laid W) (hs:W.ShapedOpen Tryz.prog):GlW W (fun _=>False):=by
 rw[MakeChecks.laidMetH_plain _ _ _ ae] at hL
 have h2:laidMet Tryz.prog ((((Rows.fnQueryPrintRow.laid.map (·.1)).getD 2 ""),Lib.tabData .u64 Lib.pow10Tab)::Rows.fnQueryPrintRow.laid.drop 3) W:=laidMet.tail (laidMet.tail hL)
 have h4:laidMet Tryz.prog (Rows.fnQueryPrintRow.laid.drop 4) W:=laidMet.tail (laidMet.tail h2)
 have h5:laidMet Tryz.prog (Rows.fnQueryPrintRow.laid.drop 5) W:=laidMet.tail h4
 obtain⟨a5,s5,v5,_⟩:=laid_sentinel (g:=3) (ti:=188) (tp:=264) (te:=266) (ts:=9) h4 ae ae Tryz.underlying188 E5 Tryz.underlying264 Tryz.underlying266 rfl rfl Tryz.underlying9 xx DZ
 obtain⟨a4,s4,v4,_⟩:=laid_sentinel (g:=2) (ti:=188) (tp:=264) (te:=266) (ts:=9) h5 ae ae Tryz.underlying188 E5 Tryz.underlying264 Tryz.underlying266 rfl rfl Tryz.underlying9 xx DZ
 exact Ip (t:=3) (zero:=#[.int .i64 0]) ae (Lib.tabIs_of_head (g:=1) (t:=246) (e:=232) (n:=20) ae ae Tryz.underlying246 Tryz.underlying232 ae ae h2) hs (of_decide_eq_true ae) ae rfl ae ae Tryz.underlying3 ae v4 ae v5
namespace fnQueryPrint
open Go Go.Dv Go.ChangeShapes Go.WideShapes Go.ChangeAt Go.RowKit
set_option maxRecDepth 100000 in
theorem Ir (os:Os) (started:os.Started) (H:Type) (enc:TypeId×Value->H) :
 ReturnsInHanded {} Tryz.checked os 3 .any (fun w args=>(Rows.fnQueryPrintSpec.pre enc Tryz.prog Tryz.f3 Rows.fnQueryPrintRow.domain false w args/\laidMetH Tryz.prog Rows.fnQueryPrintRow.laid w)/\sizedMet enc Tryz.prog Tryz.f3 (OpenSpec.ofChange Rows.fnQueryPrintSpec) false w args)
  (Rows.fnQueryPrintSpec.post enc Tryz.prog Tryz.f3 false true false false):=by
 refine ml (C:=Tryz.checked) (X:=fun w _=>laidMetH Tryz.prog Rows.fnQueryPrintRow.laid w) (fun _ _ _ hh h=>h.of_heap hh) own started (by as_aux_lemma=>kernel_rfl) Tryz.func3
  (ChangeSpec.witness_shaped (enc:=enc) (C:=Tryz.checked) (os:=os) (X:=fun w _=>laidMetH Tryz.prog Rows.fnQueryPrintRow.laid w) false (World.laidAll Tryz.prog os Rows.fnQueryPrintRow.laid) #[.slice none 0 0] 8 (World.laidAll_os _ _ _)
    (World.shaped_of_ZipB (by as_aux_lemma=>kernel_rfl) (by as_aux_lemma=>kernel_rfl)) (by as_aux_lemma=>kernel_rfl) (by as_aux_lemma=>kernel_rfl) (by as_aux_lemma=>kernel_rfl)
    (by rw[MakeChecks.laidMetH_plain _ _ _ (by as_aux_lemma=>kernel_rfl)];exact laidMet_laidAll _ (by as_aux_lemma=>kernel_rfl) (by as_aux_lemma=>kernel_rfl))) ?_
 intro W base args ds gs before hval0 hW _ hL hsh
 have hval:∀(j:Nat) t v,Tryz.f3.params[j]?=some t->args[j]?=some v->Value.okWide Tryz.prog W .any base t v:=hval0
 have hW':=hW
 obtain⟨p,q,hA0,hV,rfl,hfz,hnd⟩:=hW
 have hA:DataW.TrodAll enc Tryz.prog W 0 (fun _=>true) true Tryz.f3.params.toList args.toList ds p:=hA0
 rw[Tryz.params3] at hA hval
 obtain⟨v0,vs0,d0,ds0,p0,q0,hargs,rfl,rfl,h0,r0⟩:=trodAll_cons hA
 obtain⟨rfl,rfl,rfl⟩:=trodAll_nil r0
 obtain rfl:args = #[v0]:=by cases args;simp_all
 obtain⟨rfl,rfl⟩:=trodVars_none hV
 obtain⟨_,_,_,rfl⟩:=okWide_slice Tryz.underlying22 (hval 0 22 v0 rfl rfl)
 obtain⟨n0,t0⟩:=h0
 obtain⟨x,v,F0,ev,hx⟩:=yR t0
 obtain rfl:=List.head_eq_of_cons_eq ev
 clear hA0 hval0
 simp only[List.append_nil] at hW'
 have hlt:∀p∈p0,p.block<W.heap.size:=fun p hp=>hW'.lt p hp
 have hcall:Calls Tryz.prog 3 #[_] W fun e w'=>∃v,e = .returned v/\v = .bool true/\Go.Cv.Gr W w':=(E8 x W _ F0 hx (xz hL hsh)).2
 refine hcall.mono fun e W' ⟨v,he,hr,g⟩=>?_
 have hb:Below W.heap.size W W':=⟨g.os,g.tape,g.output,g.size,g.keep⟩
 have hf:=BD g
 subst he hr
 exact⟨_,rfl,DY (pa:=p0) (pv:=[]) hW' (fun _ _ _=>(trodAll_cons_mk (shut_bool Tryz.underlying4 _) trodAll_mk0))
  (fun sp hsp=>trodAll_mk1 (WideElems.Trod_stays (t:=22) G9 (by as_aux_lemma=>kernel_rfl) (of_decide_eq_true (by as_aux_lemma=>kernel_rfl)) ⟨n0,t0⟩ (fun p hp=>hb.same (hlt p hp)) (fun p hp=>hsp p hp)))
  (fun _ _=>rfl) (by simp)
  (hb.frame _) hf (ok_one (by as_aux_lemma=>kernel_rfl) rfl (okWide_bool_mk Tryz.underlying4 _))⟩
set_option maxHeartbeats 4000000 in
theorem jf:joinedFacts Tryz.prog 3 Tryz.f3 Rows.fnQueryPrintSpec Rows.fnQueryPrintRow=true:=by
 unfold joinedFacts
 refine Bool.and_eq_true_iff.2 ⟨Bool.and_eq_true_iff.2 ⟨Bool.and_eq_true_iff.2 ⟨Bool.and_eq_true_iff.2 ⟨Bool.and_eq_true_iff.2 ⟨Bool.and_eq_true_iff.2 ⟨Bool.and_eq_true_iff.2 ⟨Bool.and_eq_true_iff.2 ⟨Bool.and_eq_true_iff.2 ⟨Bool.and_eq_true_iff.2 ⟨Bool.and_eq_true_iff.2 ⟨Bool.and_eq_true_iff.2 ⟨Bool.and_eq_true_iff.2 ⟨Bool.and_eq_true_iff.2 ⟨Bool.and_eq_true_iff.2 ⟨Bool.and_eq_true_iff.2 ⟨Bool.and_eq_true_iff.2 ⟨Bool.and_eq_true_iff.2 ⟨Bool.and_eq_true_iff.2 ⟨Bool.and_eq_true_iff.2 ⟨Bool.and_eq_true_iff.2 ⟨Bool.and_eq_true_iff.2 ⟨Bool.and_eq_true_iff.2 ⟨Bool.and_eq_true_iff.2 ⟨Bool.and_eq_true_iff.2 ⟨Bool.and_eq_true_iff.2 ⟨Bool.and_eq_true_iff.2 ⟨Bool.and_eq_true_iff.2 ⟨Bool.and_eq_true_iff.2 ⟨Bool.and_eq_true_iff.2 ⟨Bool.and_eq_true_iff.2 ⟨?_,?_⟩,?_⟩,?_⟩,?_⟩,?_⟩,?_⟩,?_⟩,?_⟩,?_⟩,?_⟩,?_⟩,?_⟩,?_⟩,?_⟩,?_⟩,?_⟩,?_⟩,?_⟩,?_⟩,?_⟩,?_⟩,?_⟩,?_⟩,?_⟩,?_⟩,?_⟩,?_⟩,?_⟩,?_⟩,?_⟩,?_⟩
 all_goals as_aux_lemma=>kernel_rfl
theorem E9:Tryz.prog.funcNamed Rows.fnQueryPrintRow.func=some 3:=by kernel_rfl
set_option maxHeartbeats 4000000 in
theorem over:Rows.fnQueryPrintRow.holds Tryz.pinned (OpenSpec.ofChange Rows.fnQueryPrintSpec):=
 OpenClaim.holds_of_wide 3 Tryz.f3 rfl rfl rfl rfl rfl rfl rfl ⟨rfl,rfl,rfl,rfl,rfl⟩ rfl rfl rfl rfl rfl E9 Tryz.func3 jf
  (of_decide_eq_true (by as_aux_lemma=>kernel_rfl)) (by unfold Func.isWrapper;first|(rw[if_pos (by decide +kernel)];kernel_rfl)|(rw[if_neg (by decide +kernel)];exact⟨rfl,rfl⟩))
  (fun os started H enc _=>Ir os started H enc)
set_option maxHeartbeats 4000000 in
theorem proved:Rows.FnQueryPrintCardSaid:=
 Claim7.holds_tied_plain_at .later [] [.data,.data,.data,.data,.sentinel,.sentinel,.pinned] true (true, "eb94e160aafef1bbe4cba681530ddcf0793260068ee1dec24b658a4b04df300b") true over (fun _ h=>by cases h) (by as_aux_lemma=>kernel_rfl) (fun _ h=>by cases h) fnQueryPrint_row_tie rfl ⟨rfl,rfl⟩ (by as_aux_lemma=>kernel_rfl) rfl
  (fun f fn hf hfn=>by
    obtain rfl:f=3:=Option.some.inj (E9.symm.trans hf) |>.symm
    obtain rfl:fn=Tryz.f3:=(Option.some.inj (Tryz.func3.symm.trans hfn)).symm
    exact⟨by as_aux_lemma=>kernel_rfl,fun j t ht=>by
     rw[Tryz.params3] at ht
     have hm:t∈[22]:=by simpa using Array.mem_of_getElem? ht
     have hall:([22].all fun u=>!Tryz.prog.wantsStandIn u)=true:=by as_aux_lemma=>kernel_rfl
     exact (show Tryz.prog.wantsStandIn t=false by simpa using List.all_eq_true.1 hall t hm)⟩)
  (by as_aux_lemma=>kernel_rfl)
#print axioms proved
end fnQueryPrint
end Go.Proofs.YtdmomaomffhidaaGreatDoor
