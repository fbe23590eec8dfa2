/-
  As many pairs of parentheses for grouping are printed as operands are wrapped.
  Conditions: none.
-/
import Derived.Test.YtoegnikpokgbfaaGreatDoorPCJ2
import Derived.Test.YtoegnikpokgbfaaGreatDoorPCV2
import Derived.Test.YtoegnikpokgbfaaGreatDoorPCW
import Derived.Test.YtoegnikpokgbfaaGreatDoorPCK
set_option linter.unusedVariables false
set_option linter.unusedSimpArgs false
set_option linter.unusedSectionVars false
set_option linter.unnecessarySimpa false
set_option maxRecDepth 8000
namespace Go.Proofs.YtoegnikpokgbfaaGreatDoor
open Go Go.Dv Go.Cv
open Go.Vc (D shrI xorI andI and255)
theorem DrawExprTokens_d (bs : List Int) : Cl Tryz.prog 9 [.c (.sl bs.length (bs.flatMap brow) none)] [] fun r _ => DrawE r := by
 refine cl_of_d follows_mixed false Tryz.func9 rfl (by kernel_rfl) ?_
 simp only [Tryz.f9, tt, seval]
 refine call0 (l7Draw_d bs) ?_ ?_ ?_
 ·decide
 ·simp only [tt, seval]
 rintro r ⟨⟨k1, p1, n1, v1, q1, m1, ks1, ss1⟩, rfl, hg, hz⟩
 simp only [tt, seval, Expr.row_mk]
 exact ⟨_, _, ⟨(Expr.mk k1 p1 n1 v1 q1 m1 ks1 ss1), by rw [Expr.row_mk]; rfl, hg, hz⟩, end0 rfl⟩
theorem exToks_ok {e : Expr} (h : okE e = true) : exToks e = tkE false e := by unfold exToks; rw [if_pos h]
theorem exToks_no {e : Expr} (h : ¬ okE e = true) : exToks e = [] := by unfold exToks; rw [if_neg h]
theorem exToks_len {e : Expr} (hr : Rg e) : (exToks e).length ≤ 1000000 := by
 unfold exToks
 split
 ·rename_i h; exact (toks_small false e hr h).2.1
 ·exact Nat.zero_le _
theorem pairs_law {e : Expr} (hr : Rg e) (h : okE e = true) : (prs (exToks e)).length = wpE e := by
 rw [prs_len, exToks_ok h, pc_printed (toks_small false e hr h).1]
set_option maxHeartbeats 8000000 in
theorem lawPCt_d (bs : List Int) : Cl Tryz.prog 3 [.c (.sl bs.length (bs.flatMap brow) none)] [] fun r _ => r = vb true := by
 refine cl_of_d follows_mixed false Tryz.func3 rfl (by kernel_rfl) ?_
 simp only [Tryz.f3, tt, seval]
 refine cZ (big_d bs) (by decide) ?_ ?_ <;> simp only [tt, seval]
 refine And.intro (fun hbig => ⟨_, _, rfl, end0 rfl⟩) (fun hbig => ?_)
 refine call0 (DrawExprTokens_d bs) ?_ ?_ ?_
 ·decide
 ·simp only [tt, seval]
 rintro r ⟨e, rfl, hr, hsz⟩
 simp only [tt, seval, baE]
 have c1 := iExprTokens_d e hr hsz
 have c2 := ExprTokens_d e hr hsz
 have co := ExprOk_d e hsz
 have cw := (Wraps_d e).1 hsz
 have hwl := (Wraps_d e).2
 have ln := exToks_len hr
 have cp := iPairsOf_d (exToks e) (by omega)
 have hpl : (prs (exToks e)).length ≤ (exToks e).length := by
  unfold prs
  exact Nat.le_trans (List.length_filterMap_le _ _) (by simp)
 have hok : (okE e = true ∧ (prs (exToks e)).length = wpE e) ∨ (okE e = false ∧ exToks e = []) := by
  cases h : okE e with
  | true => exact .inl ⟨rfl, pairs_law hr h⟩
  | false => exact .inr ⟨rfl, exToks_no (by rw [h]; simp)⟩
 obtain ⟨n, hn⟩ : ∃ n, n = (prs (exToks e)).length := ⟨_, rfl⟩
 rw [← hn] at cp hpl hok
 generalize (prs (exToks e)).flatMap prow = pd at cp
 generalize exToks e = l at *
 generalize wpE e = m at *
 generalize okE e = ob at *
 obtain ⟨k1, p1, n1, v1, q1, m1, ks1, ss1⟩ := e
 simp only [Expr.row_mk] at c1 c2 co cw
 simp only [tt, seval, Expr.row_mk]
 refine cZ (c1) (by decide) ?_ ?_ <;> simp only [tt, seval]
 refine fun _ => ?_
 refine cZ (c2) (by decide) ?_ ?_ <;> simp only [tt, seval]
 refine fun _ => ?_
 refine dDrawn.intro [] (pln [0, 6, 3, 4, 9, 10, 12, 14, 17, 18, 20, 22, 24, 26, 28, 30, 32]) (by kernel_rfl) ?_
 simp only [tt, seval]
 rcases hok with ⟨rfl, rfl⟩ | ⟨rfl, hl⟩
 ·skip
  refine cZ (cp) (by decide) ?_ ?_ <;> simp only [tt, seval]
  (try refine fun _ => ?_)
  refine cZ (cw) (by decide) ?_ ?_ <;> simp only [tt, seval]
  exact ⟨_, _, rfl, end0 rfl⟩
 ·have hl0 : l.length = 0 := by rw [hl]; rfl
  obtain rfl : n = 0 := by omega
  have g2 : decide ((l.length : Int) = 0) = true := decide_eq_true (by omega)
  refine cZ (cp) (by decide) ?_ ?_ <;> simp only [tt, seval]
  (try refine fun _ => ?_)
  refine cZ (cw) (by decide) ?_ ?_ <;> simp only [tt, seval]
  by_cases hm : m = 0
  ·subst hm
   simp only [tt, seval]
   exact ⟨_, _, rfl, end0 rfl⟩
  ·have g : decide ((0 : Int) = (m : Int)) = false := decide_eq_false (by omega)
   simp only [tt, seval, g]
   skip
   refine cZ (co) (by decide) ?_ ?_ <;> simp only [tt, seval]
   simp only [seval, g2]
   (try refine fun _ => ?_)
   exact ⟨_, _, rfl, end0 rfl⟩
end Go.Proofs.YtoegnikpokgbfaaGreatDoor
set_option maxRecDepth 8000
namespace Go.Proofs.YtoegnikpokgbfaaGreatDoor
open Go Go.Dv
open Go.Vc (D shrI xorI andI and255)
open Go.Cv
open Go.Vc (CellF ValsF callable Cells)
theorem lawPCt_c (bs : List Int) (w : World) (v0 : Value) (F : List Nat) (hq : CellF w (.sl bs.length (bs.flatMap brow)) v0 F) (hG : GlW w (fun _ => False)) : callable Tryz.prog 3 = true ∧ Calls Tryz.prog 3 #[v0] w fun e w' => ∃ v, e = .returned v ∧ v = .bool true ∧ Gr w w' := by
 obtain ⟨hc, hk⟩ := Go.Cv.Cl.at (P := Tryz.prog) (lawPCt_d bs) rfl (vs := [v0]) (w := w) ⟨relS_sl hq, trivial⟩ hG
 refine ⟨hc, hk.mono ?_⟩
 rintro e w' ⟨v, he, r, rfl, g, hres⟩
 exact ⟨v, he, hres.val, g⟩
end Go.Proofs.YtoegnikpokgbfaaGreatDoor
set_option maxRecDepth 8000
namespace Go.Proofs.YtoegnikpokgbfaaGreatDoor
open Go Go.Dv Go.ChangeShapes Go.WideShapes Go.ChangeAt Go.RowKit
theorem laid_glwPC {W : World} (hL : laidMetH Tryz.prog Rows.fnPairCountRow.laid W) (hs : W.ShapedOpen Tryz.prog) : GlW W (fun _ => False) := by
 rw [MakeChecks.laidMetH_plain _ _ _ (by kernel_rfl)] at hL
 have h2 : laidMet Tryz.prog ((((Rows.fnPairCountRow.laid.map (·.1)).getD 2 ""), Lib.tabData .u64 Lib.pow10Tab) :: Rows.fnPairCountRow.laid.drop 3) W := laidMet.tail (laidMet.tail hL)
 exact glw_of (t := 3) (zero := #[.int .i64 0]) (by kernel_rfl) (Lib.tabIs_of_head (g := 1) (t := 242) (e := 167) (n := 20) (by kernel_rfl) (by kernel_rfl) Tryz.underlying242 Tryz.underlying167 (by kernel_rfl) (by kernel_rfl) h2) hs (of_decide_eq_true (by kernel_rfl)) (by kernel_rfl) rfl (by kernel_rfl) (by kernel_rfl) Tryz.underlying3
namespace fnPairCount
open Go Go.Dv Go.ChangeShapes Go.WideShapes Go.ChangeAt Go.RowKit
set_option maxRecDepth 100000 in
theorem lifted (os : Os) (started : os.Started) (H : Type) (enc : TypeId × Value → H) :
 ReturnsInHanded {} Tryz.checked os 3 .any (fun w args => (Rows.fnPairCountSpec.pre enc Tryz.prog Tryz.f3 Rows.fnPairCountRow.domain false w args ∧ laidMetH Tryz.prog Rows.fnPairCountRow.laid w) ∧ sizedMet enc Tryz.prog Tryz.f3 (OpenSpec.ofChange Rows.fnPairCountSpec) false w args)
  (Rows.fnPairCountSpec.post enc Tryz.prog Tryz.f3 false true false false) := by
 refine returnsInHanded_both (C := Tryz.checked) (X := fun w _ => laidMetH Tryz.prog Rows.fnPairCountRow.laid w) (fun _ _ _ hh h => h.of_heap hh) own started (by as_aux_lemma => kernel_rfl) Tryz.func3
  (ChangeSpec.witness_shaped (enc := enc) (C := Tryz.checked) (os := os) (X := fun w _ => laidMetH Tryz.prog Rows.fnPairCountRow.laid w) false (World.laidAll Tryz.prog os Rows.fnPairCountRow.laid) #[.slice none 0 0] 8 (World.laidAll_os _ _ _)
    (World.shaped_of_ZipB (by as_aux_lemma => kernel_rfl) (by as_aux_lemma => kernel_rfl)) (by as_aux_lemma => kernel_rfl) (by as_aux_lemma => kernel_rfl) (by as_aux_lemma => kernel_rfl)
    (by rw [MakeChecks.laidMetH_plain _ _ _ (by as_aux_lemma => kernel_rfl)]; exact laidMet_laidAll _ (by as_aux_lemma => kernel_rfl) (by as_aux_lemma => kernel_rfl))) ?_
 intro W base args ds gs before hval0 hW _ hL hsh
 have hval : ∀ (j : Nat) t v, Tryz.f3.params[j]? = some t → args[j]? = some v → Value.okWide Tryz.prog W .any base t v := hval0
 have hW' := hW
 obtain ⟨p, q, hA0, hV, rfl, hfz, hnd⟩ := hW
 have hA : DataW.TrodAll enc Tryz.prog W 0 (fun _ => true) true Tryz.f3.params.toList args.toList ds p := hA0
 rw [Tryz.params3] at hA hval
 obtain ⟨v0, vs0, d0, ds0, p0, q0, hargs, rfl, rfl, h0, r0⟩ := trodAll_cons hA
 obtain ⟨rfl, rfl, rfl⟩ := trodAll_nil r0
 obtain rfl : args = #[v0] := by cases args; simp_all
 obtain ⟨rfl, rfl⟩ := trodVars_none hV
 obtain ⟨_, _, _, rfl⟩ := okWide_slice Tryz.underlying22 (hval 0 22 v0 rfl rfl)
 obtain ⟨n0, t0⟩ := h0
 obtain ⟨x, v, F0, ev, hx⟩ := read_Bytes t0
 obtain rfl := List.head_eq_of_cons_eq ev
 clear hA0 hval0
 simp only [List.append_nil] at hW'
 have hlt : ∀ p ∈ p0, p.block < W.heap.size := fun p hp => hW'.lt p hp
 have hcall : Calls Tryz.prog 3 #[_] W fun e w' => ∃ v, e = .returned v ∧ v = .bool true ∧ Go.Cv.Gr W w' := (lawPCt_c x W _ F0 hx (laid_glwPC hL hsh)).2
 refine hcall.mono fun e W' ⟨v, he, hr, g⟩ => ?_
 have hb : Below W.heap.size W W' := ⟨g.os, g.tape, g.output, g.size, g.keep⟩
 have hf := gr_frozen g
 subst he hr
 exact ⟨_, rfl, post_old (pa := p0) (pv := []) hW' (fun _ _ _ => (trodAll_cons_mk (shut_bool Tryz.underlying4 _) trodAll_mk0))
  (fun sp hsp => trodAll_mk1 (WideElems.Trod_stays (t := 22) laidOut (by as_aux_lemma => kernel_rfl) (of_decide_eq_true (by as_aux_lemma => kernel_rfl)) ⟨n0, t0⟩ (fun p hp => hb.same (hlt p hp)) (fun p hp => hsp p hp)))
  (fun _ _ => rfl) (by simp)
  (hb.frame _) hf (ok_one (by as_aux_lemma => kernel_rfl) rfl (okWide_bool_mk Tryz.underlying4 _))⟩
set_option maxHeartbeats 4000000 in
theorem jf : joinedFacts Tryz.prog 3 Tryz.f3 Rows.fnPairCountSpec Rows.fnPairCountRow = true := by
 unfold joinedFacts
 refine Bool.and_eq_true_iff.2 ⟨Bool.and_eq_true_iff.2 ⟨Bool.and_eq_true_iff.2 ⟨Bool.and_eq_true_iff.2 ⟨Bool.and_eq_true_iff.2 ⟨Bool.and_eq_true_iff.2 ⟨Bool.and_eq_true_iff.2 ⟨Bool.and_eq_true_iff.2 ⟨Bool.and_eq_true_iff.2 ⟨Bool.and_eq_true_iff.2 ⟨Bool.and_eq_true_iff.2 ⟨Bool.and_eq_true_iff.2 ⟨Bool.and_eq_true_iff.2 ⟨Bool.and_eq_true_iff.2 ⟨Bool.and_eq_true_iff.2 ⟨Bool.and_eq_true_iff.2 ⟨Bool.and_eq_true_iff.2 ⟨Bool.and_eq_true_iff.2 ⟨Bool.and_eq_true_iff.2 ⟨Bool.and_eq_true_iff.2 ⟨Bool.and_eq_true_iff.2 ⟨Bool.and_eq_true_iff.2 ⟨Bool.and_eq_true_iff.2 ⟨Bool.and_eq_true_iff.2 ⟨Bool.and_eq_true_iff.2 ⟨Bool.and_eq_true_iff.2 ⟨Bool.and_eq_true_iff.2 ⟨Bool.and_eq_true_iff.2 ⟨Bool.and_eq_true_iff.2 ⟨Bool.and_eq_true_iff.2 ⟨Bool.and_eq_true_iff.2 ⟨?_, ?_⟩, ?_⟩, ?_⟩, ?_⟩, ?_⟩, ?_⟩, ?_⟩, ?_⟩, ?_⟩, ?_⟩, ?_⟩, ?_⟩, ?_⟩, ?_⟩, ?_⟩, ?_⟩, ?_⟩, ?_⟩, ?_⟩, ?_⟩, ?_⟩, ?_⟩, ?_⟩, ?_⟩, ?_⟩, ?_⟩, ?_⟩, ?_⟩, ?_⟩, ?_⟩, ?_⟩
 all_goals as_aux_lemma => kernel_rfl
theorem fnamed : Tryz.prog.funcNamed Rows.fnPairCountRow.func = some 3 := by kernel_rfl
set_option maxHeartbeats 4000000 in
theorem over : Rows.fnPairCountRow.holds Tryz.pinned (OpenSpec.ofChange Rows.fnPairCountSpec) :=
 OpenClaim.holds_of_wide 3 Tryz.f3 rfl rfl rfl rfl rfl rfl rfl ⟨rfl, rfl, rfl, rfl, rfl⟩ rfl rfl rfl rfl rfl fnamed Tryz.func3 jf
  (of_decide_eq_true (by as_aux_lemma => kernel_rfl)) (by unfold Func.isWrapper; first | (rw [if_pos (by decide +kernel)]; kernel_rfl) | (rw [if_neg (by decide +kernel)]; exact ⟨rfl, rfl⟩))
  (fun os started H enc _ => lifted os started H enc)
set_option maxHeartbeats 4000000 in
theorem proved : Rows.FnPairCountCardSaid :=
 Claim7.holds_tied_plain_at .later [] [.data, .data, .data, .data, .pinned] true (true, "42e287ad64d5d40f3a131f1678192987e7d0fc0882149558d2739cfd91474f63") true over (fun _ h => by cases h) (by as_aux_lemma => kernel_rfl) (fun _ h => by cases h) fnPairCount_row_tie rfl ⟨rfl, rfl⟩ (by as_aux_lemma => kernel_rfl) rfl
  (fun f fn hf hfn => by
    obtain rfl : f = 3 := Option.some.inj (fnamed.symm.trans hf) |>.symm
    obtain rfl : fn = Tryz.f3 := (Option.some.inj (Tryz.func3.symm.trans hfn)).symm
    exact ⟨by as_aux_lemma => kernel_rfl, fun j t ht => by
     rw [Tryz.params3] at ht
     have hm : t ∈ [22] := by simpa using Array.mem_of_getElem? ht
     have hall : ([22].all fun u => !Tryz.prog.wantsStandIn u) = true := by as_aux_lemma => kernel_rfl
     exact (show Tryz.prog.wantsStandIn t = false by simpa using List.all_eq_true.1 hall t hm)⟩)
  (by as_aux_lemma => kernel_rfl)
#print axioms proved
end fnPairCount
end Go.Proofs.YtoegnikpokgbfaaGreatDoor
