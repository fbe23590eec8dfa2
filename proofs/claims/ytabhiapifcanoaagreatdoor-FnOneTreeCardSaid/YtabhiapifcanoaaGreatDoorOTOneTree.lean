/-
  No row of tokens has two trees, and it has one exactly if it is read.
  Conditions: none.
-/
import Derived.Test.YtabhiapifcanoaaGreatDoorOTW
import Derived.Test.YtabhiapifcanoaaGreatDoorOTK
set_option linter.unusedVariables false
set_option linter.unusedSimpArgs false
set_option linter.unusedSectionVars false
set_option linter.unnecessarySimpa false
set_option maxRecDepth 8000
namespace Go.Proofs.YtabhiapifcanoaaGreatDoor
open Go Go.Dv
open Go.Vc (D shrI xorI andI and255)
open Go.Cv
open Go.Vc (CellF ValsF callable Cells)
theorem lawOT_c (bs : List Int) (w : World) (v0 : Value) (F : List Nat) (hq : CellF w (.sl bs.length (bs.flatMap brow)) v0 F) (hG : GlW w (fun _ => False)) : callable Tryz.prog 3 = true ∧ Calls Tryz.prog 3 #[v0] w fun e w' => ∃ v, e = .returned v ∧ v = .bool true ∧ Gr w w' := by
 obtain ⟨hc, hk⟩ := Go.Cv.Cl.at (P := Tryz.prog) (lawOT_d bs) rfl (vs := [v0]) (w := w) ⟨relS_sl hq, trivial⟩ hG
 refine ⟨hc, hk.mono ?_⟩
 rintro e w' ⟨v, he, r, rfl, g, hres⟩
 exact ⟨v, he, hres.val, g⟩
end Go.Proofs.YtabhiapifcanoaaGreatDoor
set_option maxRecDepth 8000
namespace Go.Proofs.YtabhiapifcanoaaGreatDoor
open Go Go.Dv Go.ChangeShapes Go.WideShapes Go.ChangeAt Go.RowKit
theorem laid_glwOT {W : World} (hL : laidMetH Tryz.prog Rows.fnOneTreeRow.laid W) (hs : W.ShapedOpen Tryz.prog) : GlW W (fun _ => False) := by
 rw [MakeChecks.laidMetH_plain _ _ _ (by kernel_rfl)] at hL
 have h2 : laidMet Tryz.prog ((((Rows.fnOneTreeRow.laid.map (·.1)).getD 2 ""), Lib.tabData .u64 Lib.pow10Tab) :: Rows.fnOneTreeRow.laid.drop 3) W := laidMet.tail (laidMet.tail hL)
 have h4 : laidMet Tryz.prog (Rows.fnOneTreeRow.laid.drop 4) W := laidMet.tail (laidMet.tail h2)
 have h5 : laidMet Tryz.prog (Rows.fnOneTreeRow.laid.drop 5) W := laidMet.tail h4
 obtain ⟨a5, s5, v5, _⟩ := laid_sentinel (g := 1) (ti := 223) (tp := 247) (te := 249) (ts := 9) h4 (by kernel_rfl) (by kernel_rfl) Tryz.underlying223 row247 Tryz.underlying247 Tryz.underlying249 rfl rfl Tryz.underlying9 cells249 cells9
 obtain ⟨a4, s4, v4, _⟩ := laid_sentinel (g := 0) (ti := 223) (tp := 247) (te := 249) (ts := 9) h5 (by kernel_rfl) (by kernel_rfl) Tryz.underlying223 row247 Tryz.underlying247 Tryz.underlying249 rfl rfl Tryz.underlying9 cells249 cells9
 exact glw_of (t := 3) (zero := #[.int .i64 0]) (by kernel_rfl) (Lib.tabIs_of_head (g := 2) (t := 259) (e := 237) (n := 20) (by kernel_rfl) (by kernel_rfl) Tryz.underlying259 Tryz.underlying237 (by kernel_rfl) (by kernel_rfl) h2) hs (of_decide_eq_true (by kernel_rfl)) (by kernel_rfl) rfl (by kernel_rfl) (by kernel_rfl) Tryz.underlying3 (by kernel_rfl) v4 (by kernel_rfl) v5
namespace fnOneTree
open Go Go.Dv Go.ChangeShapes Go.WideShapes Go.ChangeAt Go.RowKit
set_option maxRecDepth 100000 in
theorem lifted (os : Os) (started : os.Started) (H : Type) (enc : TypeId × Value → H) :
 ReturnsInHanded {} Tryz.checked os 3 .any (fun w args => (Rows.fnOneTreeSpec.pre enc Tryz.prog Tryz.f3 Rows.fnOneTreeRow.domain false w args ∧ laidMetH Tryz.prog Rows.fnOneTreeRow.laid w) ∧ sizedMet enc Tryz.prog Tryz.f3 (OpenSpec.ofChange Rows.fnOneTreeSpec) false w args)
  (Rows.fnOneTreeSpec.post enc Tryz.prog Tryz.f3 false true false false) := by
 refine returnsInHanded_both (C := Tryz.checked) (X := fun w _ => laidMetH Tryz.prog Rows.fnOneTreeRow.laid w) (fun _ _ _ hh h => h.of_heap hh) own started (by as_aux_lemma => kernel_rfl) Tryz.func3
  (ChangeSpec.witness_shaped (enc := enc) (C := Tryz.checked) (os := os) (X := fun w _ => laidMetH Tryz.prog Rows.fnOneTreeRow.laid w) false (World.laidAll Tryz.prog os Rows.fnOneTreeRow.laid) #[.slice none 0 0] 8 (World.laidAll_os _ _ _)
    (World.shaped_of_ZipB (by as_aux_lemma => kernel_rfl) (by as_aux_lemma => kernel_rfl)) (by as_aux_lemma => kernel_rfl) (by as_aux_lemma => kernel_rfl) (by as_aux_lemma => kernel_rfl)
    (by rw [MakeChecks.laidMetH_plain _ _ _ (by as_aux_lemma => kernel_rfl)]; exact laidMet_laidAll _ (by as_aux_lemma => kernel_rfl) (by as_aux_lemma => kernel_rfl))) ?_
 intro W base args ds gs before hval0 hW _ hL hsh
 have hval : ∀ (j : Nat) t v, Tryz.f3.params[j]? = some t → args[j]? = some v → Value.okWide Tryz.prog W .any base t v := hval0
 have hW' := hW
 obtain ⟨p, q, hA0, hV, rfl, hfz, hnd⟩ := hW
 have hA : DataW.TrodAll enc Tryz.prog W 0 (fun _ => true) true Tryz.f3.params.toList args.toList ds p := hA0
 rw [Tryz.params3] at hA hval
 obtain ⟨v0, vs0, d0, ds0, p0, q0, hargs, rfl, rfl, h0, r0⟩ := trodAll_cons hA
 obtain ⟨rfl, rfl, rfl⟩ := trodAll_nil r0
 obtain rfl : args = #[v0] := by cases args; simp_all
 obtain ⟨rfl, rfl⟩ := trodVars_none hV
 obtain ⟨_, _, _, rfl⟩ := okWide_slice Tryz.underlying22 (hval 0 22 v0 rfl rfl)
 obtain ⟨n0, t0⟩ := h0
 obtain ⟨x, v, F0, ev, hx⟩ := read_Bytes t0
 obtain rfl := List.head_eq_of_cons_eq ev
 clear hA0 hval0
 simp only [List.append_nil] at hW'
 have hlt : ∀ p ∈ p0, p.block < W.heap.size := fun p hp => hW'.lt p hp
 have hcall : Calls Tryz.prog 3 #[_] W fun e w' => ∃ v, e = .returned v ∧ v = .bool true ∧ Go.Cv.Gr W w' := (lawOT_c x W _ F0 hx (laid_glwOT hL hsh)).2
 refine hcall.mono fun e W' ⟨v, he, hr, g⟩ => ?_
 have hb : Below W.heap.size W W' := ⟨g.os, g.tape, g.output, g.size, g.keep⟩
 have hf := gr_frozen g
 subst he hr
 exact ⟨_, rfl, post_old (pa := p0) (pv := []) hW' (fun _ _ _ => (trodAll_cons_mk (shut_bool Tryz.underlying4 _) trodAll_mk0))
  (fun sp hsp => trodAll_mk1 (WideElems.Trod_stays (t := 22) laidOut (by as_aux_lemma => kernel_rfl) (of_decide_eq_true (by as_aux_lemma => kernel_rfl)) ⟨n0, t0⟩ (fun p hp => hb.same (hlt p hp)) (fun p hp => hsp p hp)))
  (fun _ _ => rfl) (by simp)
  (hb.frame _) hf (ok_one (by as_aux_lemma => kernel_rfl) rfl (okWide_bool_mk Tryz.underlying4 _))⟩
set_option maxHeartbeats 4000000 in
theorem jf : joinedFacts Tryz.prog 3 Tryz.f3 Rows.fnOneTreeSpec Rows.fnOneTreeRow = true := by
 unfold joinedFacts
 refine Bool.and_eq_true_iff.2 ⟨Bool.and_eq_true_iff.2 ⟨Bool.and_eq_true_iff.2 ⟨Bool.and_eq_true_iff.2 ⟨Bool.and_eq_true_iff.2 ⟨Bool.and_eq_true_iff.2 ⟨Bool.and_eq_true_iff.2 ⟨Bool.and_eq_true_iff.2 ⟨Bool.and_eq_true_iff.2 ⟨Bool.and_eq_true_iff.2 ⟨Bool.and_eq_true_iff.2 ⟨Bool.and_eq_true_iff.2 ⟨Bool.and_eq_true_iff.2 ⟨Bool.and_eq_true_iff.2 ⟨Bool.and_eq_true_iff.2 ⟨Bool.and_eq_true_iff.2 ⟨Bool.and_eq_true_iff.2 ⟨Bool.and_eq_true_iff.2 ⟨Bool.and_eq_true_iff.2 ⟨Bool.and_eq_true_iff.2 ⟨Bool.and_eq_true_iff.2 ⟨Bool.and_eq_true_iff.2 ⟨Bool.and_eq_true_iff.2 ⟨Bool.and_eq_true_iff.2 ⟨Bool.and_eq_true_iff.2 ⟨Bool.and_eq_true_iff.2 ⟨Bool.and_eq_true_iff.2 ⟨Bool.and_eq_true_iff.2 ⟨Bool.and_eq_true_iff.2 ⟨Bool.and_eq_true_iff.2 ⟨Bool.and_eq_true_iff.2 ⟨?_, ?_⟩, ?_⟩, ?_⟩, ?_⟩, ?_⟩, ?_⟩, ?_⟩, ?_⟩, ?_⟩, ?_⟩, ?_⟩, ?_⟩, ?_⟩, ?_⟩, ?_⟩, ?_⟩, ?_⟩, ?_⟩, ?_⟩, ?_⟩, ?_⟩, ?_⟩, ?_⟩, ?_⟩, ?_⟩, ?_⟩, ?_⟩, ?_⟩, ?_⟩, ?_⟩, ?_⟩
 all_goals as_aux_lemma => kernel_rfl
theorem fnamed : Tryz.prog.funcNamed Rows.fnOneTreeRow.func = some 3 := by kernel_rfl
set_option maxHeartbeats 4000000 in
theorem over : Rows.fnOneTreeRow.holds Tryz.pinned (OpenSpec.ofChange Rows.fnOneTreeSpec) :=
 OpenClaim.holds_of_wide 3 Tryz.f3 rfl rfl rfl rfl rfl rfl rfl ⟨rfl, rfl, rfl, rfl, rfl⟩ rfl rfl rfl rfl rfl fnamed Tryz.func3 jf
  (of_decide_eq_true (by as_aux_lemma => kernel_rfl)) (by unfold Func.isWrapper; first | (rw [if_pos (by decide +kernel)]; kernel_rfl) | (rw [if_neg (by decide +kernel)]; exact ⟨rfl, rfl⟩))
  (fun os started H enc _ => lifted os started H enc)
set_option maxHeartbeats 4000000 in
theorem proved : Rows.FnOneTreeCardSaid :=
 Claim7.holds_tied_plain_at .later [] [.data, .data, .data, .data, .sentinel, .sentinel, .pinned] true (true, "698c7446436c16dd73a842ae5bf6ca63a3502a142091f1a62cd8d28d869e7c4f") true over (fun _ h => by cases h) (by as_aux_lemma => kernel_rfl) (fun _ h => by cases h) fnOneTree_row_tie rfl ⟨rfl, rfl⟩ (by as_aux_lemma => kernel_rfl) rfl
  (fun f fn hf hfn => by
    obtain rfl : f = 3 := Option.some.inj (fnamed.symm.trans hf) |>.symm
    obtain rfl : fn = Tryz.f3 := (Option.some.inj (Tryz.func3.symm.trans hfn)).symm
    exact ⟨by as_aux_lemma => kernel_rfl, fun j t ht => by
     rw [Tryz.params3] at ht
     have hm : t ∈ [22] := by simpa using Array.mem_of_getElem? ht
     have hall : ([22].all fun u => !Tryz.prog.wantsStandIn u) = true := by as_aux_lemma => kernel_rfl
     exact (show Tryz.prog.wantsStandIn t = false by simpa using List.all_eq_true.1 hall t hm)⟩)
  (by as_aux_lemma => kernel_rfl)
#print axioms proved
end fnOneTree
end Go.Proofs.YtabhiapifcanoaaGreatDoor
