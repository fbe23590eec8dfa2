/-
  The program derives a tree from tokens exactly where the reference does.
  Conditions: none.
-/
import Derived.Test.YtabhiapifcanoaaGreatDoorEDW
import Derived.Test.YtabhiapifcanoaaGreatDoorEDK
set_option linter.unusedVariables false
set_option linter.unusedSimpArgs false
set_option linter.unusedSectionVars false
set_option linter.unnecessarySimpa false
set_option maxRecDepth 8000
namespace Go.Proofs.YtabhiapifcanoaaGreatDoor
open Go Go.Dv
open Go.Vc (D shrI xorI andI)
open Go.Cv
open Go.Vc (CellF ValsF callable Cells)
theorem lawED_c (a : List Tok) (e : Expr) (hr : Rg e) (w : World) (v0 : Value) (F : List Nat) (hq : CellF w (.sl a.length (a.flatMap Tok.row)) v0 F) (cs : List Value) (F1 : List Nat) (he : ValsF w e.row cs F1) (hG : GlW w (fun _ => False)) : callable Tryz.prog 4 = true ∧ Calls Tryz.prog 4 #[v0, .agg cs.toArray] w fun e w' => ∃ v, e = .returned v ∧ v = .bool true ∧ Gr w w' := by
 obtain ⟨hc, hk⟩ := Go.Cv.Cl.at (P := Tryz.prog) (lawED_d a e hr) (by simp only [List.flatMap_cons, List.flatMap_nil, List.append_nil, plainL_append, cellsS, plainL_csOf, Bool.and_true]; rfl) (vs := [v0, .agg cs.toArray]) (w := w) ⟨relS_sl hq, relS_ag he, trivial⟩ hG
 refine ⟨hc, hk.mono ?_⟩
 rintro e w' ⟨v, he, r, rfl, g, hres⟩
 exact ⟨v, he, hres.val, g⟩
end Go.Proofs.YtabhiapifcanoaaGreatDoor
set_option maxRecDepth 8000
namespace Go.Proofs.YtabhiapifcanoaaGreatDoor
open Go Go.Dv Go.ChangeShapes Go.WideShapes Go.ChangeAt Go.RowKit
theorem laid_glwED {W : World} (hL : laidMetH Tryz.prog Rows.fnExactDerivesRow.laid W) (hs : W.ShapedOpen Tryz.prog) : GlW W (fun _ => False) := by
 rw [MakeChecks.laidMetH_plain _ _ _ (by kernel_rfl)] at hL
 have h2 : laidMet Tryz.prog ((((Rows.fnExactDerivesRow.laid.map (·.1)).getD 2 ""), Lib.tabData .u64 Lib.pow10Tab) :: Rows.fnExactDerivesRow.laid.drop 3) W := laidMet.tail (laidMet.tail hL)
 have h4 : laidMet Tryz.prog (Rows.fnExactDerivesRow.laid.drop 4) W := laidMet.tail (laidMet.tail h2)
 have h5 : laidMet Tryz.prog (Rows.fnExactDerivesRow.laid.drop 5) W := laidMet.tail h4
 obtain ⟨a5, s5, v5, _⟩ := laid_sentinel (g := 1) (ti := 223) (tp := 247) (te := 249) (ts := 9) h4 (by kernel_rfl) (by kernel_rfl) Tryz.underlying223 row247 Tryz.underlying247 Tryz.underlying249 rfl rfl Tryz.underlying9 cells249 cells9
 obtain ⟨a4, s4, v4, _⟩ := laid_sentinel (g := 0) (ti := 223) (tp := 247) (te := 249) (ts := 9) h5 (by kernel_rfl) (by kernel_rfl) Tryz.underlying223 row247 Tryz.underlying247 Tryz.underlying249 rfl rfl Tryz.underlying9 cells249 cells9
 exact glw_of (t := 3) (zero := #[.int .i64 0]) (by kernel_rfl) (Lib.tabIs_of_head (g := 2) (t := 259) (e := 237) (n := 20) (by kernel_rfl) (by kernel_rfl) Tryz.underlying259 Tryz.underlying237 (by kernel_rfl) (by kernel_rfl) h2) hs (of_decide_eq_true (by kernel_rfl)) (by kernel_rfl) rfl (by kernel_rfl) (by kernel_rfl) Tryz.underlying3 (by kernel_rfl) v4 (by kernel_rfl) v5
namespace fnExactDerives
open Go Go.Dv Go.ChangeShapes Go.WideShapes Go.ChangeAt Go.RowKit
set_option maxRecDepth 100000 in
theorem lifted (os : Os) (started : os.Started) (H : Type) (enc : TypeId × Value → H) :
 ReturnsInHanded {} Tryz.checked os 4 .any (fun w args => (Rows.fnExactDerivesSpec.pre enc Tryz.prog Tryz.f4 Rows.fnExactDerivesRow.domain false w args ∧ laidMetH Tryz.prog Rows.fnExactDerivesRow.laid w) ∧ sizedMet enc Tryz.prog Tryz.f4 (OpenSpec.ofChange Rows.fnExactDerivesSpec) false w args)
  (Rows.fnExactDerivesSpec.post enc Tryz.prog Tryz.f4 false true false false) := by
 refine returnsInHanded_both (C := Tryz.checked) (X := fun w _ => laidMetH Tryz.prog Rows.fnExactDerivesRow.laid w) (fun _ _ _ hh h => h.of_heap hh) own started (by as_aux_lemma => kernel_rfl) Tryz.func4
  (ChangeSpec.witness_shaped (enc := enc) (C := Tryz.checked) (os := os) (X := fun w _ => laidMetH Tryz.prog Rows.fnExactDerivesRow.laid w) false (World.laidAll Tryz.prog os Rows.fnExactDerivesRow.laid) #[.slice none 0 0, .agg #[.int .i64 0, .int .i64 0, .bool false, .int .i64 0, .int .i64 0, .string ByteArray.empty, .string ByteArray.empty, .string ByteArray.empty, .slice none 0 0, .slice none 0 0]] 8 (World.laidAll_os _ _ _)
    (World.shaped_of_ZipB (by as_aux_lemma => kernel_rfl) (by as_aux_lemma => kernel_rfl)) (by as_aux_lemma => kernel_rfl) (by as_aux_lemma => kernel_rfl) (by as_aux_lemma => kernel_rfl)
    (by rw [MakeChecks.laidMetH_plain _ _ _ (by as_aux_lemma => kernel_rfl)]; exact laidMet_laidAll _ (by as_aux_lemma => kernel_rfl) (by as_aux_lemma => kernel_rfl))) ?_
 intro W base args ds gs before hval0 hW _ hL hsh
 have hval : ∀ (j : Nat) t v, Tryz.f4.params[j]? = some t → args[j]? = some v → Value.okWide Tryz.prog W .any base t v := hval0
 have hW' := hW
 obtain ⟨p, q, hA0, hV, rfl, hfz, hnd⟩ := hW
 have hA : DataW.TrodAll enc Tryz.prog W 0 (fun _ => true) true Tryz.f4.params.toList args.toList ds p := hA0
 rw [Tryz.params4] at hA hval
 obtain ⟨v0, vs0, d0, ds0, p0, q0, hargs, rfl, rfl, h0, r0⟩ := trodAll_cons hA
 obtain ⟨v1, vs1, d1, ds1, p1, q1, hvs, rfl, rfl, h1, r1⟩ := trodAll_cons r0
 obtain ⟨rfl, rfl, rfl⟩ := trodAll_nil r1
 subst hvs
 obtain rfl : args = #[v0, v1] := by cases args; simp_all
 obtain ⟨rfl, rfl⟩ := trodVars_none hV
 obtain ⟨_, _, _, rfl⟩ := okWide_slice Tryz.underlying37 (hval 0 37 v0 rfl rfl)
 obtain ⟨n0, t0⟩ := h0
 obtain ⟨x, v, F0, ev, hx⟩ := read_Toks t0
 obtain rfl := List.head_eq_of_cons_eq ev
 obtain ⟨cs1, rfl, _⟩ := okWide_struct Tryz.underlying42 (hval 1 42 v1 rfl rfl)
 obtain ⟨n1, t1⟩ := h1
 obtain ⟨⟨y, hy⟩, F1, hy1⟩ := (read_trees n1).1 _ _ t1
 clear hA0 hval0
 simp only [List.append_nil] at hW'
 have hlt : ∀ p ∈ p0 ++ p1, p.block < W.heap.size := fun p hp => hW'.lt p hp
 have hcall : Calls Tryz.prog 4 #[_, .agg cs1] W fun e w' => ∃ v, e = .returned v ∧ v = .bool true ∧ Go.Cv.Gr W w' := (lawED_c x y hy W _ F0 hx cs1.toList F1 hy1 (laid_glwED hL hsh)).2
 refine hcall.mono fun e W' ⟨v, he, hr, g⟩ => ?_
 have hb : Below W.heap.size W W' := ⟨g.os, g.tape, g.output, g.size, g.keep⟩
 have hf := gr_frozen g
 subst he hr
 exact ⟨_, rfl, post_old (pa := p0 ++ (p1 ++ [])) (pv := []) hW' (fun _ _ _ => (trodAll_cons_mk (shut_bool Tryz.underlying4 _) trodAll_mk0))
  (fun sp hsp => trodAll_cons_mk (WideElems.Trod_stays (t := 37) laidOut (by as_aux_lemma => kernel_rfl) (of_decide_eq_true (by as_aux_lemma => kernel_rfl)) ⟨n0, t0⟩ (fun p hp => hb.same (hlt p (by simp [hp]))) (fun p hp => hsp p (by simp [hp])))
    (trodAll_cons_mk (WideElems.Trod_stays (t := 42) laidOut (by as_aux_lemma => kernel_rfl) (of_decide_eq_true (by as_aux_lemma => kernel_rfl)) ⟨n1, t1⟩ (fun p hp => hb.same (hlt p (by simp [hp]))) (fun p hp => hsp p (by simp [hp]))) trodAll_mk0))
  (fun _ _ => rfl) (by simp)
  (hb.frame _) hf (ok_one (by as_aux_lemma => kernel_rfl) rfl (okWide_bool_mk Tryz.underlying4 _))⟩
set_option maxHeartbeats 4000000 in
theorem jf : joinedFacts Tryz.prog 4 Tryz.f4 Rows.fnExactDerivesSpec Rows.fnExactDerivesRow = true := by
 unfold joinedFacts
 refine Bool.and_eq_true_iff.2 ⟨Bool.and_eq_true_iff.2 ⟨Bool.and_eq_true_iff.2 ⟨Bool.and_eq_true_iff.2 ⟨Bool.and_eq_true_iff.2 ⟨Bool.and_eq_true_iff.2 ⟨Bool.and_eq_true_iff.2 ⟨Bool.and_eq_true_iff.2 ⟨Bool.and_eq_true_iff.2 ⟨Bool.and_eq_true_iff.2 ⟨Bool.and_eq_true_iff.2 ⟨Bool.and_eq_true_iff.2 ⟨Bool.and_eq_true_iff.2 ⟨Bool.and_eq_true_iff.2 ⟨Bool.and_eq_true_iff.2 ⟨Bool.and_eq_true_iff.2 ⟨Bool.and_eq_true_iff.2 ⟨Bool.and_eq_true_iff.2 ⟨Bool.and_eq_true_iff.2 ⟨Bool.and_eq_true_iff.2 ⟨Bool.and_eq_true_iff.2 ⟨Bool.and_eq_true_iff.2 ⟨Bool.and_eq_true_iff.2 ⟨Bool.and_eq_true_iff.2 ⟨Bool.and_eq_true_iff.2 ⟨Bool.and_eq_true_iff.2 ⟨Bool.and_eq_true_iff.2 ⟨Bool.and_eq_true_iff.2 ⟨Bool.and_eq_true_iff.2 ⟨Bool.and_eq_true_iff.2 ⟨Bool.and_eq_true_iff.2 ⟨?_, ?_⟩, ?_⟩, ?_⟩, ?_⟩, ?_⟩, ?_⟩, ?_⟩, ?_⟩, ?_⟩, ?_⟩, ?_⟩, ?_⟩, ?_⟩, ?_⟩, ?_⟩, ?_⟩, ?_⟩, ?_⟩, ?_⟩, ?_⟩, ?_⟩, ?_⟩, ?_⟩, ?_⟩, ?_⟩, ?_⟩, ?_⟩, ?_⟩, ?_⟩, ?_⟩, ?_⟩
 all_goals as_aux_lemma => kernel_rfl
theorem fnamed : Tryz.prog.funcNamed Rows.fnExactDerivesRow.func = some 4 := by kernel_rfl
set_option maxHeartbeats 4000000 in
theorem over : Rows.fnExactDerivesRow.holds Tryz.pinned (OpenSpec.ofChange Rows.fnExactDerivesSpec) :=
 OpenClaim.holds_of_wide 4 Tryz.f4 rfl rfl rfl rfl rfl rfl rfl ⟨rfl, rfl, rfl, rfl, rfl⟩ rfl rfl rfl rfl rfl fnamed Tryz.func4 jf
  (of_decide_eq_true (by as_aux_lemma => kernel_rfl)) (by unfold Func.isWrapper; first | (rw [if_pos (by decide +kernel)]; kernel_rfl) | (rw [if_neg (by decide +kernel)]; exact ⟨rfl, rfl⟩))
  (fun os started H enc _ => lifted os started H enc)
set_option maxHeartbeats 4000000 in
theorem proved : Rows.FnExactDerivesCardSaid :=
 Claim7.holds_tied_plain_at .later [] [.data, .data, .data, .data, .sentinel, .sentinel, .pinned] true (true, "698c7446436c16dd73a842ae5bf6ca63a3502a142091f1a62cd8d28d869e7c4f") true over (fun _ h => by cases h) (by as_aux_lemma => kernel_rfl) (fun _ h => by cases h) fnExactDerives_row_tie rfl ⟨rfl, rfl⟩ (by as_aux_lemma => kernel_rfl) rfl
  (fun f fn hf hfn => by
    obtain rfl : f = 4 := Option.some.inj (fnamed.symm.trans hf) |>.symm
    obtain rfl : fn = Tryz.f4 := (Option.some.inj (Tryz.func4.symm.trans hfn)).symm
    exact ⟨by as_aux_lemma => kernel_rfl, fun j t ht => by
     rw [Tryz.params4] at ht
     have hm : t ∈ [37, 42] := by simpa using Array.mem_of_getElem? ht
     have hall : ([37, 42].all fun u => !Tryz.prog.wantsStandIn u) = true := by as_aux_lemma => kernel_rfl
     exact (show Tryz.prog.wantsStandIn t = false by simpa using List.all_eq_true.1 hall t hm)⟩)
  (by as_aux_lemma => kernel_rfl)
#print axioms proved
end fnExactDerives
end Go.Proofs.YtabhiapifcanoaaGreatDoor
