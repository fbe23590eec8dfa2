/-
  The program and the reference print statements alike, for all arguments: FnExactStmtText holds.
  Conditions: none.
-/
import Derived.Test.YtfdcibofiibppaaGreatDoorSStB
set_option linter.unusedVariables false
set_option linter.unusedSimpArgs false
namespace Go.Proofs.YtfdcibofiibppaaGreatDoor
namespace fnExactStmtText
open Go Go.Dv Go.ChangeShapes Go.WideShapes Go.ChangeAt Go.RowKit
set_option maxRecDepth 100000 in
theorem lifted (os : Os) (started : os.Started) (H : Type) (enc : TypeId × Value → H) :
    ReturnsInHanded {} Tryz.checked os 6 .any (fun w args => (Rows.fnExactStmtTextSpec.pre enc Tryz.prog Tryz.f6 Rows.fnExactStmtTextRow.domain false w args ∧ laidMetH Tryz.prog Rows.fnExactStmtTextRow.laid w) ∧ sizedMet enc Tryz.prog Tryz.f6 (OpenSpec.ofChange Rows.fnExactStmtTextSpec) false w args)
      (Rows.fnExactStmtTextSpec.post enc Tryz.prog Tryz.f6 false true false false) := by
  refine returnsInHanded_both (C := Tryz.checked) (X := fun w _ => laidMetH Tryz.prog Rows.fnExactStmtTextRow.laid w) (fun _ _ _ hh h => h.of_heap hh) own started (by kernel_rfl) Tryz.func6
    (ChangeSpec.witness_shaped (enc := enc) (C := Tryz.checked) (os := os) (X := fun w _ => laidMetH Tryz.prog Rows.fnExactStmtTextRow.laid w) false (World.laidAll Tryz.prog os Rows.fnExactStmtTextRow.laid) #[.agg #[.int .i64 0, .bool false, .slice none 0 0, .slice none 0 0, .slice none 0 0, .slice none 0 0, .int .i64 0, .string ByteArray.empty, .slice none 0 0, .slice none 0 0, .slice none 0 0, .slice none 0 0]] 8 (World.laidAll_os _ _ _)
      (World.shaped_of_ZipB (by kernel_rfl) (by kernel_rfl)) (by kernel_rfl) (by kernel_rfl) (by kernel_rfl)
      (by rw [MakeChecks.laidMetH_plain _ _ _ (by kernel_rfl)]; exact laidMet_laidAll _ (by kernel_rfl) (by kernel_rfl))) ?_
  intro W base args ds gs before hval0 hW _ hL hsh
  have hval : ∀ (j : Nat) t v, Tryz.f6.params[j]? = some t → args[j]? = some v → Value.okWide Tryz.prog W .any base t v := hval0
  have hW' := hW
  obtain ⟨p, q, hA0, hV, rfl, hfz, hnd⟩ := hW
  have hA : DataW.TrodAll enc Tryz.prog W 0 (fun _ => true) true Tryz.f6.params.toList args.toList ds p := hA0
  rw [Tryz.params6] at hA hval
  obtain ⟨v0, vs0, d0, ds0, p0, q0, hargs, rfl, rfl, h0, r0⟩ := trodAll_cons hA
  obtain ⟨rfl, rfl, rfl⟩ := trodAll_nil r0
  obtain rfl : args = #[v0] := by cases args; simp_all
  obtain ⟨rfl, rfl⟩ := trodVars_none hV
  obtain ⟨cs0, rfl, _⟩ := okWide_struct Tryz.underlying46 (hval 0 46 v0 rfl rfl)
  obtain ⟨n0, t0⟩ := h0
  obtain ⟨⟨x, hok⟩, F0, hx⟩ := read_stmt t0
  clear hA0 hval0
  simp only [List.append_nil] at hW'
  have hlt : ∀ p ∈ p0, p.block < W.heap.size := fun p hp => hW'.lt p hp
  have hrel : RelA Tryz.prog W (fun _ => none) (fun _ => True) [.ag (csOf x.row)] [.agg cs0] := ⟨⟨cs0.toList, by simp, csOf_rel hx fun _ _ => trivial⟩, trivial⟩
  have hcall := (lawStText_d x hok).top (by simp only [List.flatMap_cons, List.flatMap_nil, List.append_nil]; exact plainL_csOf _) hrel (laid_glw hL hsh)
  refine hcall.mono fun e W' ⟨v, r, he, hr, hb, hf, β, okk, hv⟩ => ?_
  subst he hr
  obtain ⟨rfl, _⟩ := hv
  exact ⟨_, rfl, post_old (pa := p0) (pv := []) hW' (fun _ _ _ => (trodAll_cons_mk (shut_bool Tryz.underlying4 _) trodAll_mk0))
    (fun sp hsp => trodAll_mk1 (WideElems.Trod_stays (t := 46) laidOut (by kernel_rfl) (of_decide_eq_true (by kernel_rfl)) ⟨n0, t0⟩ (fun p hp => hb.same (hlt p hp)) (fun p hp => hsp p hp)))
    (fun _ _ => rfl) (by simp)
    (hb.frame _) hf (ok_one (by kernel_rfl) rfl (okWide_bool_mk Tryz.underlying4 _))⟩
theorem over : Rows.fnExactStmtTextRow.holds Tryz.pinned (OpenSpec.ofChange Rows.fnExactStmtTextSpec) :=
  OpenClaim.holds_of_wide 6 Tryz.f6 rfl rfl rfl rfl rfl rfl rfl ⟨rfl, rfl, rfl, rfl, rfl⟩ rfl rfl rfl rfl rfl (by kernel_rfl) Tryz.func6 (by kernel_rfl)
    (of_decide_eq_true (by kernel_rfl)) (by unfold Func.isWrapper; first | (rw [if_pos (by decide +kernel)]; kernel_rfl) | (rw [if_neg (by decide +kernel)]; exact ⟨rfl, rfl⟩))
    (fun os started H enc _ => lifted os started H enc)
theorem proved : Rows.FnExactStmtTextCardSaid :=
  Claim7.holds_tied_plain_at .later [] [.data, .data, .data, .data, .sentinel, .sentinel, .pinned] true (true, "6590688ff009dfb47587b89caa252e7ba678d27157de1c43c810c5668e054754") true over (fun _ h => by cases h) (by kernel_rfl) (fun _ h => by cases h) fnExactStmtText_row_tie rfl ⟨rfl, rfl⟩ (by kernel_rfl) rfl
    (fun f fn hf hfn => by
      obtain rfl : f = 6 := Option.some.inj ((show Tryz.prog.funcNamed Rows.fnExactStmtTextRow.func = some 6 by kernel_rfl).symm.trans hf) |>.symm
      obtain rfl : fn = Tryz.f6 := (Option.some.inj (Tryz.func6.symm.trans hfn)).symm
      exact ⟨by kernel_rfl, fun j t ht => by
        rw [Tryz.params6] at ht
        have hm : t ∈ [46] := by simpa using Array.mem_of_getElem? ht
        have hall : ([46].all fun u => !Tryz.prog.wantsStandIn u) = true := by kernel_rfl
        exact (show Tryz.prog.wantsStandIn t = false by simpa using List.all_eq_true.1 hall t hm)⟩)
    (by kernel_rfl)
#print axioms proved
end fnExactStmtText
end Go.Proofs.YtfdcibofiibppaaGreatDoor
