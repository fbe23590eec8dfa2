/-
  The reference carries negations inwards in trees of its own; the sizes.
  Conditions: none.
-/
import Derived.Test.YtklligemdfnimaaPPosA
set_option linter.unusedVariables false
set_option linter.unusedSimpArgs false
set_option linter.unusedVariables false
set_option linter.unusedSimpArgs false
set_option maxRecDepth 4000
namespace Go.Proofs.Ytklligemdfnimaa
open Go Go.Vc
def sp : Bool → PExpr → PExpr
  | true => negE
  | false => posE
/-- What the reference does with a tree of its own. -/
def SaR (m : World) (F : List Nat) (e' : PExpr) (r : Value) (m' : World) : Prop :=
  ∃ us F', r = .agg us.toArray ∧ ValsF m' e'.row us F' ∧ Chg F m m' ∧ F'.Nodup ∧ Own m' F' ∧ (∀ x ∈ F', x ∈ F ∨ ¬ Go.Vc.vis m x)
def SaC (b : Bool) (e : PExpr) : Prop := ∀ (m : World) (vs : List Value) (F : List Nat), ValsF m e.row vs F → F.Nodup → Own m F → FCalls Try.prog 81 #[.agg vs.toArray, .bool b] m fun r m' => SaR m F (sp b e) r m'
theorem l31Not_c (k o n v u a ks ss) (m : World) (vs : List Value) (F : List Nat) (h : ValsF m (PExpr.mk k o n v u a ks ss).row vs F) : FCalls Try.prog 138 #[.agg vs.toArray] m fun r m' => m' = m ∧ r = .bool (decide ((k = 3 ∧ o = 15) ∧ ks.length = 1)) := by
  have h0 := h
  obtain ⟨x, y, F1, F2, rfl, hv, c1, c2, rfl⟩ := PExpr.vals h0
  obtain ⟨ax, px, rfl, hax1, hax2, _⟩ := c1.slice
  obtain ⟨ay, py, rfl, _⟩ := c2.slice
  refine fcalls_of_vc (args := [_]) follows_mixed Try.func138 rfl (by kernel_rfl) (by simp [Try.f138]) ?_
  simp only [Try.f138, vcs, tbl, crs, List.map, reduceIte, Nat.reduceLT, Nat.reduceLeDiff, Nat.reduceEqDiff, Nat.reduceAdd, Nat.reduceMul, Nat.reduceSub, List.all_cons, List.all_nil, Bool.and_true, Bool.and_self, ne_eq, reduceCtorEq, not_false_eq_true, and_self]
  refine ⟨fun h1 => ?_, fun h1 => ?_⟩
  · have h1 : k = 3 := by simpa using h1
    simp only [vcs, tbl, crs, List.map, reduceIte, Nat.reduceLT, Nat.reduceLeDiff, Nat.reduceEqDiff, Nat.reduceAdd, Nat.reduceMul, Nat.reduceSub, List.all_cons, List.all_nil, Bool.and_true, Bool.and_self, ne_eq, reduceCtorEq, not_false_eq_true, and_self]
    refine ⟨fun h2 => ?_, fun h2 => ?_⟩
    · simp only [vcs, tbl, crs, List.map, reduceIte, Nat.reduceLT, Nat.reduceLeDiff, Nat.reduceEqDiff, Nat.reduceAdd, Nat.reduceMul, Nat.reduceSub, List.all_cons, List.all_nil, Bool.and_true, Bool.and_self, ne_eq, reduceCtorEq, not_false_eq_true, and_self]
      simp_all; try omega
    · simp only [vcs, tbl, crs, List.map, reduceIte, Nat.reduceLT, Nat.reduceLeDiff, Nat.reduceEqDiff, Nat.reduceAdd, Nat.reduceMul, Nat.reduceSub, List.all_cons, List.all_nil, Bool.and_true, Bool.and_self, ne_eq, reduceCtorEq, not_false_eq_true, and_self]
      simp_all
  · simp only [vcs, tbl, crs, List.map, reduceIte, Nat.reduceLT, Nat.reduceLeDiff, Nat.reduceEqDiff, Nat.reduceAdd, Nat.reduceMul, Nat.reduceSub, List.all_cons, List.all_nil, Bool.and_true, Bool.and_self, ne_eq, reduceCtorEq, not_false_eq_true, and_self]
    have h1 : ¬ k = 3 := by simpa using h1
    simp_all
theorem l1In_c (x lo hi : Int) (m : World) : FCalls Try.prog 41 #[.int .i64 x, .int .i64 lo, .int .i64 hi] m fun r m' => m' = m ∧ r = .bool (decide (lo ≤ x ∧ x ≤ hi)) := by
  refine fcalls_of_vc (args := [_, _, _]) follows_mixed Try.func41 rfl (by kernel_rfl) (by simp [Try.f41]) ?_
  simp only [Try.f41, vcs, tbl, crs, List.map, reduceIte, Nat.reduceLT, Nat.reduceLeDiff, Nat.reduceEqDiff, Nat.reduceAdd, Nat.reduceMul, Nat.reduceSub, List.all_cons, List.all_nil, Bool.and_true, Bool.and_self, ne_eq, reduceCtorEq, not_false_eq_true, and_self]
  refine ⟨fun h1 => ?_, fun h1 => ?_⟩
  · simp only [vcs, tbl, crs, List.map, reduceIte, Nat.reduceLT, Nat.reduceLeDiff, Nat.reduceEqDiff, Nat.reduceAdd, Nat.reduceMul, Nat.reduceSub, List.all_cons, List.all_nil, Bool.and_true, Bool.and_self, ne_eq, reduceCtorEq, not_false_eq_true, and_self]
    simp_all
  · simp only [vcs, tbl, crs, List.map, reduceIte, Nat.reduceLT, Nat.reduceLeDiff, Nat.reduceEqDiff, Nat.reduceAdd, Nat.reduceMul, Nat.reduceSub, List.all_cons, List.all_nil, Bool.and_true, Bool.and_self, ne_eq, reduceCtorEq, not_false_eq_true, and_self]
    simp_all; try omega
theorem specAgainst_c (o : Int) (m : World) : FCalls Try.prog 10 #[.int .i64 o] m fun r m' => Grow m m' ∧ r = .int .i64 (against o) := by
  refine fcalls_of_vc (args := [_]) follows_mixed Try.func10 rfl (by kernel_rfl) (by simp [Try.f10]) ?_
  simp only [Try.f10, vcs, tbl, crs, List.map, reduceIte, Nat.reduceLT, Nat.reduceLeDiff, Nat.reduceEqDiff, Nat.reduceAdd, Nat.reduceMul, Nat.reduceSub, List.all_cons, List.all_nil, Bool.and_true, Bool.and_self, ne_eq, reduceCtorEq, not_false_eq_true, and_self]
  refine (l1In_c o 1 8 m).mono ?_
  rintro r m1 ⟨rfl, rfl⟩
  have hr9 : List.range 9 = [0, 1, 2, 3, 4, 5, 6, 7, 8] := rfl
  have hz9 : (List.replicate 9 [Value.int .i64 0]).flatten = [.int .i64 0, .int .i64 0, .int .i64 0, .int .i64 0, .int .i64 0, .int .i64 0, .int .i64 0, .int .i64 0, .int .i64 0] := rfl
  by_cases hb : 1 ≤ o ∧ o ≤ 8
  · have hd : decide (1 ≤ o ∧ o ≤ 8) = true := by simpa using hb
    rw [hd]
    have h8 : o = 1 ∨ o = 2 ∨ o = 3 ∨ o = 4 ∨ o = 5 ∨ o = 6 ∨ o = 7 ∨ o = 8 := by omega
    rcases h8 with rfl | rfl | rfl | rfl | rfl | rfl | rfl | rfl
    all_goals
      simp only [vcs, tbl, crs, List.map, reduceIte, Nat.reduceLT, Nat.reduceLeDiff, Nat.reduceEqDiff, Nat.reduceAdd, Nat.reduceMul, Nat.reduceSub, List.all_cons, List.all_nil, Bool.and_true, Bool.and_self, ne_eq, reduceCtorEq, not_false_eq_true, and_self, hr9, hz9, Bool.not_true]
      refine ⟨fun h => h.elim, fun _ => ?_⟩
      exact ⟨by omega, by omega, _, rfl, Grow.refl _, by simp [against]⟩
  · have hd : decide (1 ≤ o ∧ o ≤ 8) = false := by simpa using hb
    rw [hd]
    simp only [vcs, tbl, crs, List.map, reduceIte, Nat.reduceLT, Nat.reduceLeDiff, Nat.reduceEqDiff, Nat.reduceAdd, Nat.reduceMul, Nat.reduceSub, List.all_cons, List.all_nil, Bool.and_true, Bool.and_self, ne_eq, reduceCtorEq, not_false_eq_true, and_self, Bool.not_false]
    have : against o = 0 := by rw [against, if_neg (by omega), if_neg (by omega), if_neg (by omega), if_neg (by omega), if_neg (by omega), if_neg (by omega), if_neg (by omega), if_neg (by omega)]
    rw [this]
    exact ⟨fun _ => ⟨Grow.refl _, rfl⟩, fun h => h.elim⟩

theorem l31Kids_c (k o n v u a ks ss) (b : Bool) (hk : ∀ e ∈ ks, SaC b e) (m : World) (vs : List Value) (F : List Nat) (h : ValsF m (PExpr.mk k o n v u a ks ss).row vs F) (hn : F.Nodup) (ho : Own m F) :
   FCalls Try.prog 139 #[.agg vs.toArray, .bool b] m fun r m' => SaR m F (.mk k o n v u a (ks.map (sp b)) ss) r m' := by
  have hml : maxLen = 9223372036854775807 := rfl
  have h0 := h
  obtain ⟨x, y, F1, F2, rfl, hv, c1, c2, rfl⟩ := PExpr.vals h0
  obtain ⟨ax, px, rfl, hax1, hax2, _⟩ := c1.slice
  obtain ⟨ay, py, rfl, _⟩ := c2.slice
  have hn0 := hn
  rw [List.nodup_append] at hn0
  obtain ⟨n1, n2, n12⟩ := hn0
  have o1 : Own m F1 := ho.sub (by simp; intro x hx; simp [hx])
  have o2 : Own m F2 := ho.sub (by simp; intro x hx; simp [hx])
  refine fcalls_of_vc (args := [_, _]) follows_mixed Try.func139 rfl (by kernel_rfl) (by simp [Try.f139]) ?_
  simp only [Try.f139, vcs, tbl, crs, List.map, reduceIte, Nat.reduceLT, Nat.reduceLeDiff, Nat.reduceEqDiff, Nat.reduceAdd, Nat.reduceMul, Nat.reduceSub, List.all_cons, List.all_nil, Bool.and_true, Bool.and_self, ne_eq, reduceCtorEq, not_false_eq_true, and_self]
  by_cases hks : ks = []
  · subst hks
    refine vcLoop.intro (fun f L m1 => f 5 = .c (.v (.int .i64 0)) ∧ m1 = m ∧ L = [(4, .str 56 [.v (.int .i64 0), .v (.int .i64 0), .v (.bool false), .v (.int .i64 0), .v (.int .i64 0), .v (.string ByteArray.empty), .v (.int .i64 0), .v (.int .i64 0), .v (.slice none 0 0), .v (.slice none 0 0)]), (2, .str 56 [.v (.int .i64 k), .v (.int .i64 o), .v (.bool n), .v (.int .i64 v.kind), .v (.int .i64 v.num), .v (.string v.text), .v (.int .i64 u), .v (.int .i64 a), .v (.slice ax 0 px), .v (.slice ay ss.length py)])]) (fun _ _ _ => 0) ⟨_, Sub.at 4 rfl (Sub.at 2 rfl (Sub.nil _)), ?_⟩ ?_
    · simp only [vcs, tbl, crs, List.map, reduceIte, Nat.reduceLT, Nat.reduceLeDiff, Nat.reduceEqDiff, Nat.reduceAdd, Nat.reduceMul, Nat.reduceSub, List.all_cons, List.all_nil, Bool.and_true, Bool.and_self, ne_eq, reduceCtorEq, not_false_eq_true, and_self]
    · rintro g L1 m1 ⟨h5, rfl, rfl⟩
      simp only [vcs, tbl, crs, List.map, reduceIte, Nat.reduceLT, Nat.reduceLeDiff, Nat.reduceEqDiff, Nat.reduceAdd, Nat.reduceMul, Nat.reduceSub, List.all_cons, List.all_nil, Bool.and_true, Bool.and_self, ne_eq, reduceCtorEq, not_false_eq_true, and_self] at h5
      simp only [vcs, tbl, crs, List.map, reduceIte, Nat.reduceLT, Nat.reduceLeDiff, Nat.reduceEqDiff, Nat.reduceAdd, Nat.reduceMul, Nat.reduceSub, List.all_cons, List.all_nil, Bool.and_true, Bool.and_self, ne_eq, reduceCtorEq, not_false_eq_true, and_self, h5]
      refine ⟨fun hlt => by simp at hlt, fun _ => ?_⟩
      exact ⟨_, _, rfl, PExpr.mk_vals hv c1 c2, Chg.refl _ _, hn, ho, fun x hx => .inl hx⟩
  · have hne : ks.flatMap PExpr.row ≠ [] := fun e => by have := congrArg List.length e; rw [flatMap_len PExpr.row_len] at this; have h0 : ([] : List D).length = 0 := rfl; have : ks.length ≠ 0 := fun e => hks (List.eq_nil_of_length_eq_zero e); omega
    obtain ⟨bk, ok, hax, hS0⟩ := Sd.start c1 hne n1 o1
    subst hax
    refine vcLoop.intro (fun f L m1 => ∃ i : Nat, f 5 = .c (.v (.int .i64 i)) ∧ i ≤ ks.length ∧ L = [(4, .str 56 [.v (.int .i64 0), .v (.int .i64 0), .v (.bool false), .v (.int .i64 0), .v (.int .i64 0), .v (.string ByteArray.empty), .v (.int .i64 0), .v (.int .i64 0), .v (.slice none 0 0), .v (.slice none 0 0)]), (2, .str 56 [.v (.int .i64 k), .v (.int .i64 o), .v (.bool n), .v (.int .i64 v.kind), .v (.int .i64 v.num), .v (.string v.text), .v (.int .i64 u), .v (.int .i64 a), .v (.slice (some ⟨bk, ok, none⟩) ks.length px), .v (.slice ay ss.length py)])] ∧ Sd m F1 m1 bk ok (((ks.take i).map (sp b)).flatMap PExpr.row) ((ks.drop i).flatMap PExpr.row))
      (fun f _ _ => (ks.length - ixS (f 5)).toNat) ⟨_, Sub.at 4 rfl (Sub.at 2 rfl (Sub.nil _)), 0, ?_⟩ ?_
    · simp only [vcs, tbl, crs, List.map, reduceIte, Nat.reduceLT, Nat.reduceLeDiff, Nat.reduceEqDiff, Nat.reduceAdd, Nat.reduceMul, Nat.reduceSub, List.all_cons, List.all_nil, Bool.and_true, Bool.and_self, ne_eq, reduceCtorEq, not_false_eq_true, and_self]
      exact ⟨rfl, Nat.zero_le _, by simpa using hS0⟩
    · rintro g L1 m1 ⟨i, h5, hi, rfl, hS⟩
      simp only [vcs, tbl, crs, List.map, reduceIte, Nat.reduceLT, Nat.reduceLeDiff, Nat.reduceEqDiff, Nat.reduceAdd, Nat.reduceMul, Nat.reduceSub, List.all_cons, List.all_nil, Bool.and_true, Bool.and_self, ne_eq, reduceCtorEq, not_false_eq_true, and_self] at h5
      simp only [vcs, tbl, crs, List.map, reduceIte, Nat.reduceLT, Nat.reduceLeDiff, Nat.reduceEqDiff, Nat.reduceAdd, Nat.reduceMul, Nat.reduceSub, List.all_cons, List.all_nil, Bool.and_true, Bool.and_self, ne_eq, reduceCtorEq, not_false_eq_true, and_self, h5]
      refine ⟨fun hlt => ?_, fun hge => ?_⟩
      · have hlt : i < ks.length := by omega
        have hkk := hk _ (List.getElem_mem hlt)
        have hmt : ((ks.take (i + 1)).map (sp b)).flatMap PExpr.row = ((ks.take i).map (sp b)).flatMap PExpr.row ++ (sp b ks[i]).row := by rw [List.take_add_one, List.getElem?_eq_getElem hlt, List.map_append, List.flatMap_append]; simp only [Option.toList_some, List.map_cons, List.map_nil, List.flatMap_cons, List.flatMap_nil, List.append_nil]
        have hd : ks.drop i = ks[i] :: ks.drop (i + 1) := List.drop_eq_getElem_cons hlt
        rw [hd, List.flatMap_cons] at hS
        have hdl : (((ks.take i).map (sp b)).flatMap PExpr.row).length = i * 10 := by rw [flatMap_len PExpr.row_len, List.length_map, List.length_take]; congr 1; omega
        obtain ⟨ve, Fe, hcell, hve, nd, ow, hFe, nx⟩ := hS.step (p := ok + i * 10) (by rw [hdl])
        have hvl : ve.length = 10 := by rw [hve.length, PExpr.row_len]
        refine vcDrawn.introX [22, 14, 17, 20] (.take 0 (.take 2 (.take 3 (.take 5 (.take 8 (.brX 1 (.brX 4 (.take 6 (.brX 7 (.brX 9 (.take 10 (.br 11 .done .nobr)) .nobr) .nobr)) .nobr) (.brX 4 (.take 6 (.brX 1 (.brX 7 (.brX 9 (.take 10 (.br 11 .done .nobr)) .nobr) .nobr) (.brX 7 (.brX 1 (.brX 9 (.take 10 (.br 11 .done .nobr)) .nobr) (.brX 9 (.brX 1 (.take 10 (.br 11 .done .nobr)) .nobr) .nobr)) .nobr))) .nobr))))))) (by kernel_rfl) ?_
        simp only [vcs, tbl, crs, List.map, reduceIte, Nat.reduceLT, Nat.reduceLeDiff, Nat.reduceEqDiff, Nat.reduceAdd, Nat.reduceMul, Nat.reduceSub, List.all_cons, List.all_nil, Bool.and_true, Bool.and_self, ne_eq, reduceCtorEq, not_false_eq_true, and_self, h5]
        refine ⟨?_, by omega, by omega, _, rfl, ?_, ?_⟩
        · skip
          refine ⟨by omega, by omega, _, rfl, ve, hvl, fun j v hj => by simpa [add_lit0] using hcell j v hj, ?_⟩
          simp only [vcs, tbl, crs, List.map, reduceIte, Nat.reduceLT, Nat.reduceLeDiff, Nat.reduceEqDiff, Nat.reduceAdd, Nat.reduceMul, Nat.reduceSub, List.all_cons, List.all_nil, Bool.and_true, Bool.and_self, ne_eq, reduceCtorEq, not_false_eq_true, and_self, h5]
          refine (hkk _ _ _ hve nd ow).mono ?_
          rintro r m2 ⟨us, F', rfl, hvr, cg, nd', ow', hsub⟩
          generalize sp b ks[i] = e' at hvr hmt
          have hvr' := hvr
          obtain ⟨kd', op', nt', vl', up', ap', ks', ss'⟩ := e'
          obtain ⟨x', y', H1', H2', rfl, _, q1', q2', hF⟩ := PExpr.vals hvr'
          obtain ⟨ax', px', rfl, _⟩ := q1'.slice
          obtain ⟨ay', py', rfl, _⟩ := q2'.slice
          obtain ⟨hst, hS2⟩ := nx m2 _ _ F' cg hvr nd' ow' hsub (by rw [PExpr.row_len]; rfl)
          rw [PExpr.row_len] at hst
          simp only [vcs, tbl, crs, List.map, reduceIte, Nat.reduceLT, Nat.reduceLeDiff, Nat.reduceEqDiff, Nat.reduceAdd, Nat.reduceMul, Nat.reduceSub, List.all_cons, List.all_nil, Bool.and_true, Bool.and_self, ne_eq, reduceCtorEq, not_false_eq_true, and_self, h5]
          refine ⟨by omega, by omega, _, rfl, ?_⟩
          simp only [vcs, tbl, crs, List.map, reduceIte, Nat.reduceLT, Nat.reduceLeDiff, Nat.reduceEqDiff, Nat.reduceAdd, Nat.reduceMul, Nat.reduceSub, List.all_cons, List.all_nil, Bool.and_true, Bool.and_self, ne_eq, reduceCtorEq, not_false_eq_true, and_self, h5, add_lit0]
          refine ⟨hvr.oneCell, fun j hj => by simpa [add_lit0] using hst j hj, ?_⟩
          rw [wrap_id (by omega) (by omega)]
          refine ⟨_, Sub.at 4 rfl (Sub.at 2 rfl (Sub.nil _)), ⟨i + 1, by simp, by omega, rfl, ?_⟩, by omega⟩
          rw [hmt]; exact hS2
        · skip
          refine ⟨ve, hvl, fun j v hj => by simpa [add_lit0] using hcell j v hj, ?_⟩
          simp only [vcs, tbl, crs, List.map, reduceIte, Nat.reduceLT, Nat.reduceLeDiff, Nat.reduceEqDiff, Nat.reduceAdd, Nat.reduceMul, Nat.reduceSub, List.all_cons, List.all_nil, Bool.and_true, Bool.and_self, ne_eq, reduceCtorEq, not_false_eq_true, and_self, h5]
          refine (hkk _ _ _ hve nd ow).mono ?_
          rintro r m2 ⟨us, F', rfl, hvr, cg, nd', ow', hsub⟩
          generalize sp b ks[i] = e' at hvr hmt
          have hvr' := hvr
          obtain ⟨kd', op', nt', vl', up', ap', ks', ss'⟩ := e'
          obtain ⟨x', y', H1', H2', rfl, _, q1', q2', hF⟩ := PExpr.vals hvr'
          obtain ⟨ax', px', rfl, _⟩ := q1'.slice
          obtain ⟨ay', py', rfl, _⟩ := q2'.slice
          obtain ⟨hst, hS2⟩ := nx m2 _ _ F' cg hvr nd' ow' hsub (by rw [PExpr.row_len]; rfl)
          rw [PExpr.row_len] at hst
          simp only [vcs, tbl, crs, List.map, reduceIte, Nat.reduceLT, Nat.reduceLeDiff, Nat.reduceEqDiff, Nat.reduceAdd, Nat.reduceMul, Nat.reduceSub, List.all_cons, List.all_nil, Bool.and_true, Bool.and_self, ne_eq, reduceCtorEq, not_false_eq_true, and_self, h5]
          refine ⟨by omega, by omega, _, rfl, ?_⟩
          simp only [vcs, tbl, crs, List.map, reduceIte, Nat.reduceLT, Nat.reduceLeDiff, Nat.reduceEqDiff, Nat.reduceAdd, Nat.reduceMul, Nat.reduceSub, List.all_cons, List.all_nil, Bool.and_true, Bool.and_self, ne_eq, reduceCtorEq, not_false_eq_true, and_self, h5, add_lit0]
          refine ⟨hvr.oneCell, fun j hj => by simpa [add_lit0] using hst j hj, ?_⟩
          rw [wrap_id (by omega) (by omega)]
          refine ⟨_, Sub.at 4 rfl (Sub.at 2 rfl (Sub.nil _)), ⟨i + 1, by simp, by omega, rfl, ?_⟩, by omega⟩
          rw [hmt]; exact hS2
        · skip
          refine ⟨ve, hvl, fun j v hj => by simpa [add_lit0] using hcell j v hj, ?_⟩
          simp only [vcs, tbl, crs, List.map, reduceIte, Nat.reduceLT, Nat.reduceLeDiff, Nat.reduceEqDiff, Nat.reduceAdd, Nat.reduceMul, Nat.reduceSub, List.all_cons, List.all_nil, Bool.and_true, Bool.and_self, ne_eq, reduceCtorEq, not_false_eq_true, and_self, h5]
          refine ⟨?_, ?_⟩
          · skip
            refine (hkk _ _ _ hve nd ow).mono ?_
            rintro r m2 ⟨us, F', rfl, hvr, cg, nd', ow', hsub⟩
            generalize sp b ks[i] = e' at hvr hmt
            have hvr' := hvr
            obtain ⟨kd', op', nt', vl', up', ap', ks', ss'⟩ := e'
            obtain ⟨x', y', H1', H2', rfl, _, q1', q2', hF⟩ := PExpr.vals hvr'
            obtain ⟨ax', px', rfl, _⟩ := q1'.slice
            obtain ⟨ay', py', rfl, _⟩ := q2'.slice
            obtain ⟨hst, hS2⟩ := nx m2 _ _ F' cg hvr nd' ow' hsub (by rw [PExpr.row_len]; rfl)
            rw [PExpr.row_len] at hst
            simp only [vcs, tbl, crs, List.map, reduceIte, Nat.reduceLT, Nat.reduceLeDiff, Nat.reduceEqDiff, Nat.reduceAdd, Nat.reduceMul, Nat.reduceSub, List.all_cons, List.all_nil, Bool.and_true, Bool.and_self, ne_eq, reduceCtorEq, not_false_eq_true, and_self, h5]
            refine ⟨by omega, by omega, _, rfl, ?_⟩
            simp only [vcs, tbl, crs, List.map, reduceIte, Nat.reduceLT, Nat.reduceLeDiff, Nat.reduceEqDiff, Nat.reduceAdd, Nat.reduceMul, Nat.reduceSub, List.all_cons, List.all_nil, Bool.and_true, Bool.and_self, ne_eq, reduceCtorEq, not_false_eq_true, and_self, h5, add_lit0]
            refine ⟨hvr.oneCell, fun j hj => by simpa [add_lit0] using hst j hj, ?_⟩
            rw [wrap_id (by omega) (by omega)]
            refine ⟨_, Sub.at 4 rfl (Sub.at 2 rfl (Sub.nil _)), ⟨i + 1, by simp, by omega, rfl, ?_⟩, by omega⟩
            rw [hmt]; exact hS2
          · skip
            refine (hkk _ _ _ hve nd ow).mono ?_
            rintro r m2 ⟨us, F', rfl, hvr, cg, nd', ow', hsub⟩
            generalize sp b ks[i] = e' at hvr hmt
            have hvr' := hvr
            obtain ⟨kd', op', nt', vl', up', ap', ks', ss'⟩ := e'
            obtain ⟨x', y', H1', H2', rfl, _, q1', q2', hF⟩ := PExpr.vals hvr'
            obtain ⟨ax', px', rfl, _⟩ := q1'.slice
            obtain ⟨ay', py', rfl, _⟩ := q2'.slice
            obtain ⟨hst, hS2⟩ := nx m2 _ _ F' cg hvr nd' ow' hsub (by rw [PExpr.row_len]; rfl)
            rw [PExpr.row_len] at hst
            simp only [vcs, tbl, crs, List.map, reduceIte, Nat.reduceLT, Nat.reduceLeDiff, Nat.reduceEqDiff, Nat.reduceAdd, Nat.reduceMul, Nat.reduceSub, List.all_cons, List.all_nil, Bool.and_true, Bool.and_self, ne_eq, reduceCtorEq, not_false_eq_true, and_self, h5]
            refine ⟨by omega, by omega, _, rfl, ?_⟩
            simp only [vcs, tbl, crs, List.map, reduceIte, Nat.reduceLT, Nat.reduceLeDiff, Nat.reduceEqDiff, Nat.reduceAdd, Nat.reduceMul, Nat.reduceSub, List.all_cons, List.all_nil, Bool.and_true, Bool.and_self, ne_eq, reduceCtorEq, not_false_eq_true, and_self, h5, add_lit0]
            refine ⟨hvr.oneCell, fun j hj => by simpa [add_lit0] using hst j hj, ?_⟩
            rw [wrap_id (by omega) (by omega)]
            refine ⟨_, Sub.at 4 rfl (Sub.at 2 rfl (Sub.nil _)), ⟨i + 1, by simp, by omega, rfl, ?_⟩, by omega⟩
            rw [hmt]; exact hS2
      · have : i = ks.length := by omega
        subst this
        rw [List.take_length, List.drop_length] at hS
        obtain ⟨F', hc', nd', ow', cg, hsub⟩ := hS.done (n := ks.length) (cap := px) (fun e => hne (by have := congrArg List.length e; rw [flatMap_len PExpr.row_len, List.length_map] at this; have h0 : ([] : List D).length = 0 := rfl; rw [List.eq_nil_of_length_eq_zero (by omega : ks.length = 0)]; rfl)) hax1 hax2
        have d2 : ∀ x ∈ F2, x ∉ F1 := fun x hx e => n12 x e x hx rfl
        have c2' := c2.chg cg d2
        have v2 := CellF.vis _ c2
        refine ⟨_, F' ++ F2, rfl, PExpr.mk_valsK (List.length_map _) rfl hv hc' c2', cg.mono (by simp; intro x hx; exact .inl hx), ?_, ?_, ?_⟩
        · rw [List.nodup_append]
          refine ⟨nd', n2, fun x hx y hy e => ?_⟩
          subst e
          rcases hsub x hx with h | h
          · exact d2 x hy h
          · exact h (v2 x hy)
        · refine ow'.app fun x hx => ?_
          obtain ⟨cs, t, e⟩ := o2 x hx
          exact ⟨cs, t, (cg.blocks x (vis_of_own ⟨cs, t, e⟩) (d2 x hx)).trans e⟩
        · intro x hx
          rcases List.mem_append.1 hx with hx | hx
          · exact (hsub x hx).imp (fun h => by simp [h]) id
          · exact .inl (by simp [hx])

set_option maxHeartbeats 1000000 in
theorem l31Said_step (k o n v u a ks ss) (hk : ∀ e ∈ ks, ∀ b, SaC b e) (b : Bool) : SaC b (.mk k o n v u a ks ss) := by
  intro m vs F h hn ho
  have hml : maxLen = 9223372036854775807 := rfl
  have h0 := h
  obtain ⟨x, y, F1, F2, rfl, hv, c1, c2, rfl⟩ := PExpr.vals h0
  obtain ⟨ax, px, rfl, hax1, hax2, _⟩ := c1.slice
  obtain ⟨ay, py, rfl, _⟩ := c2.slice
  have hn0 := hn
  rw [List.nodup_append] at hn0
  obtain ⟨n1, n2, n12⟩ := hn0
  have o1 : Own m F1 := ho.sub (by simp; intro x hx; simp [hx])
  generalize hFF : F1 ++ F2 = F at h hn ho
  refine fcalls_of_vc (args := [_, _]) follows_mixed Try.func81 rfl (by kernel_rfl) (by simp [Try.f81]) ?_
  simp only [Try.f81, vcs, tbl, crs, List.map, reduceIte, Nat.reduceLT, Nat.reduceLeDiff, Nat.reduceEqDiff, Nat.reduceAdd, Nat.reduceMul, Nat.reduceSub, List.all_cons, List.all_nil, Bool.and_true, Bool.and_self, ne_eq, reduceCtorEq, not_false_eq_true, and_self]
  refine (l31Not_c _ _ _ _ _ _ _ _ _ _ _ h).mono ?_
  rintro r m1 ⟨rfl, rfl⟩
  simp only [vcs, tbl, crs, List.map, reduceIte, Nat.reduceLT, Nat.reduceLeDiff, Nat.reduceEqDiff, Nat.reduceAdd, Nat.reduceMul, Nat.reduceSub, List.all_cons, List.all_nil, Bool.and_true, Bool.and_self, ne_eq, reduceCtorEq, not_false_eq_true, and_self]
  refine ⟨fun h1 => ?_, fun h1 => ?_⟩
  · have h1 : (k = 3 ∧ o = 15) ∧ ks.length = 1 := by simpa using h1
    have hl0 : 0 < ks.length := by omega
    have hd : ks = ks[0] :: ks.drop 1 := by have := List.drop_eq_getElem_cons hl0; simpa using this
    have hne : ks.flatMap PExpr.row ≠ [] := fun e => by have := congrArg List.length e; rw [flatMap_len PExpr.row_len] at this; have h0 : ([] : List D).length = 0 := rfl; omega
    obtain ⟨bk, ok, hax, hS0⟩ := Sd.start c1 hne n1 o1
    subst hax
    have hfm : ks.flatMap PExpr.row = ks[0].row ++ (ks.drop 1).flatMap PExpr.row := by rw [← List.flatMap_cons, ← hd]
    rw [hfm] at hS0
    obtain ⟨ve, Fe, hcell, hve, nd, ow, hFe, nx⟩ := hS0.step (p := ok) (by simp)
    have hvl : ve.length = 10 := by rw [hve.length, PExpr.row_len]
    have hsp : sp b (.mk k o n v u a ks ss) = sp (!b) ks[0] := by
      cases b
      · show posE _ = negE _; rw [posE, if_pos h1, negEs_eq, hdE_map]
      · show negE _ = posE _; rw [negE, if_pos h1, posEs_eq, hdE_map]
    rw [hsp]
    refine ⟨by omega, by omega, _, rfl, ve, hvl, fun j v hj => by simpa [add_lit0] using hcell j v hj, ?_⟩
    simp only [vcs, tbl, crs, List.map, reduceIte, Nat.reduceLT, Nat.reduceLeDiff, Nat.reduceEqDiff, Nat.reduceAdd, Nat.reduceMul, Nat.reduceSub, List.all_cons, List.all_nil, Bool.and_true, Bool.and_self, ne_eq, reduceCtorEq, not_false_eq_true, and_self]
    refine (hk _ (List.getElem_mem hl0) (!b) _ _ _ hve nd ow).mono ?_
    rintro r m2 ⟨us, F', rfl, hvr, cg, nd', ow', hsub⟩
    generalize sp (!b) ks[0] = e' at hvr
    have hvr' := hvr
    obtain ⟨kd', op', nt', vl', up', ap', ks', ss'⟩ := e'
    obtain ⟨x', y', H1', H2', rfl, _, q1', q2', hF⟩ := PExpr.vals hvr'
    obtain ⟨ax', px', rfl, _⟩ := q1'.slice
    obtain ⟨ay', py', rfl, _⟩ := q2'.slice
    simp only [vcs, tbl, crs, List.map, reduceIte, Nat.reduceLT, Nat.reduceLeDiff, Nat.reduceEqDiff, Nat.reduceAdd, Nat.reduceMul, Nat.reduceSub, List.all_cons, List.all_nil, Bool.and_true, Bool.and_self, ne_eq, reduceCtorEq, not_false_eq_true, and_self]
    exact ⟨_, F', rfl, hvr, cg.mono (fun x hx => by rw [← hFF]; simp [hFe x hx]), nd', ow', fun x hx => (hsub x hx).imp (fun hx => by rw [← hFF]; simp [hFe x hx]) id⟩
  · have h1 : ¬ ((k = 3 ∧ o = 15) ∧ ks.length = 1) := by simpa using h1
    cases b with
    | false =>
      simp only [vcs, tbl, crs, List.map, reduceIte, Nat.reduceLT, Nat.reduceLeDiff, Nat.reduceEqDiff, Nat.reduceAdd, Nat.reduceMul, Nat.reduceSub, List.all_cons, List.all_nil, Bool.and_true, Bool.and_self, ne_eq, reduceCtorEq, not_false_eq_true, and_self, Bool.not_false]
      refine ⟨fun _ => ?_, fun h => by simp at h⟩
      have hsp : sp false (.mk k o n v u a ks ss) = .mk k o n v u a (ks.map posE) ss := by show posE _ = _; rw [posE, if_neg h1, posEs_eq]
      rw [hsp]
      refine (l31Kids_c _ _ _ _ _ _ _ _ false (fun e he => hk e he false) _ _ _ h hn ho).mono ?_
      rintro r m5 ⟨us, F', rfl, hvr, cg, nd', ow', hsub⟩
      have hvr' := hvr
      obtain ⟨x', y', H1', H2', rfl, _, q1', q2', hF⟩ := PExpr.vals hvr'
      obtain ⟨ax', px', rfl, _⟩ := q1'.slice
      obtain ⟨ay', py', rfl, _⟩ := q2'.slice
      simp only [vcs, tbl, crs, List.map, reduceIte, Nat.reduceLT, Nat.reduceLeDiff, Nat.reduceEqDiff, Nat.reduceAdd, Nat.reduceMul, Nat.reduceSub, List.all_cons, List.all_nil, Bool.and_true, Bool.and_self, ne_eq, reduceCtorEq, not_false_eq_true, and_self, range1, rep1, Nat.zero_mul, Nat.zero_add, Nat.le_refl]
      exact ⟨_, F', rfl, hvr, cg, nd', ow', hsub⟩
    | true =>
      simp only [vcs, tbl, crs, List.map, reduceIte, Nat.reduceLT, Nat.reduceLeDiff, Nat.reduceEqDiff, Nat.reduceAdd, Nat.reduceMul, Nat.reduceSub, List.all_cons, List.all_nil, Bool.and_true, Bool.and_self, ne_eq, reduceCtorEq, not_false_eq_true, and_self, Bool.not_true]
      refine ⟨fun h => by simp at h, fun _ => ?_⟩
      refine ⟨fun hk4 => ?_, fun hk4 => ?_⟩
      · refine ⟨fun ho1 => ?_, fun ho1 => ?_⟩
        · have ho1 : o = 1 := by simpa using ho1
          simp only [vcs, tbl, crs, List.map, reduceIte, Nat.reduceLT, Nat.reduceLeDiff, Nat.reduceEqDiff, Nat.reduceAdd, Nat.reduceMul, Nat.reduceSub, List.all_cons, List.all_nil, Bool.and_true, Bool.and_self, ne_eq, reduceCtorEq, not_false_eq_true, and_self]
          refine ⟨fun _ => ?_, fun h => by simp at h⟩
          have ha : against o ≠ 0 := by rcases (by omega : o = 1 ∨ o = 2 ∨ o = 3 ∨ o = 4 ∨ o = 5 ∨ o = 6 ∨ o = 7 ∨ o = 8) with rfl | rfl | rfl | rfl | rfl | rfl | rfl | rfl <;> simp [against]
          refine (specAgainst_c o _).mono ?_
          rintro r m2 ⟨hg, rfl⟩
          simp only [vcs, tbl, crs, List.map, reduceIte, Nat.reduceLT, Nat.reduceLeDiff, Nat.reduceEqDiff, Nat.reduceAdd, Nat.reduceMul, Nat.reduceSub, List.all_cons, List.all_nil, Bool.and_true, Bool.and_self, ne_eq, reduceCtorEq, not_false_eq_true, and_self]
          have hne : sp true (.mk k o n v u a ks ss) = .mk k (against o) n v u a (ks.map negE) ss := by show negE _ = _; rw [negE, if_neg h1, if_pos ⟨hk4, ha⟩, if_pos (.inl ho1), negEs_eq]
          rw [hne]
          have h2 : ValsF m2 (PExpr.mk k (against o) n v u a ks ss).row _ F := hFF ▸ (PExpr.mk_vals hv c1 c2).grow hg
          refine (l31Kids_c _ _ _ _ _ _ _ _ true (fun e he => hk e he true) _ _ _ h2 hn (ho.grow hg)).mono ?_
          rintro r m5 ⟨us, F', rfl, hvr, cg, nd', ow', hsub⟩
          have hvr' := hvr
          obtain ⟨x', y', H1', H2', rfl, _, q1', q2', hF⟩ := PExpr.vals hvr'
          obtain ⟨ax', px', rfl, _⟩ := q1'.slice
          obtain ⟨ay', py', rfl, _⟩ := q2'.slice
          simp only [vcs, tbl, crs, List.map, reduceIte, Nat.reduceLT, Nat.reduceLeDiff, Nat.reduceEqDiff, Nat.reduceAdd, Nat.reduceMul, Nat.reduceSub, List.all_cons, List.all_nil, Bool.and_true, Bool.and_self, ne_eq, reduceCtorEq, not_false_eq_true, and_self, range1, rep1, Nat.zero_mul, Nat.zero_add, Nat.le_refl]
          exact ⟨_, F', rfl, hvr, ((hg.chg F).trans cg), nd', ow', (fun x hx => (hsub x hx).imp id (fun h hv => h (hg.vis hv)))⟩
        · have ho1 : ¬ o = 1 := by simpa using ho1
          simp only [vcs, tbl, crs, List.map, reduceIte, Nat.reduceLT, Nat.reduceLeDiff, Nat.reduceEqDiff, Nat.reduceAdd, Nat.reduceMul, Nat.reduceSub, List.all_cons, List.all_nil, Bool.and_true, Bool.and_self, ne_eq, reduceCtorEq, not_false_eq_true, and_self]
          refine ⟨fun ho2 => ?_, fun ho2 => ?_⟩
          · skip
            have ha : against o ≠ 0 := by rcases (by omega : o = 1 ∨ o = 2 ∨ o = 3 ∨ o = 4 ∨ o = 5 ∨ o = 6 ∨ o = 7 ∨ o = 8) with rfl | rfl | rfl | rfl | rfl | rfl | rfl | rfl <;> simp [against]
            refine (specAgainst_c o _).mono ?_
            rintro r m2 ⟨hg, rfl⟩
            simp only [vcs, tbl, crs, List.map, reduceIte, Nat.reduceLT, Nat.reduceLeDiff, Nat.reduceEqDiff, Nat.reduceAdd, Nat.reduceMul, Nat.reduceSub, List.all_cons, List.all_nil, Bool.and_true, Bool.and_self, ne_eq, reduceCtorEq, not_false_eq_true, and_self]
            have hne : sp true (.mk k o n v u a ks ss) = .mk k (against o) n v u a (ks.map negE) ss := by show negE _ = _; rw [negE, if_neg h1, if_pos ⟨hk4, ha⟩, if_pos (.inr ho2), negEs_eq]
            rw [hne]
            have h2 : ValsF m2 (PExpr.mk k (against o) n v u a ks ss).row _ F := hFF ▸ (PExpr.mk_vals hv c1 c2).grow hg
            refine (l31Kids_c _ _ _ _ _ _ _ _ true (fun e he => hk e he true) _ _ _ h2 hn (ho.grow hg)).mono ?_
            rintro r m5 ⟨us, F', rfl, hvr, cg, nd', ow', hsub⟩
            have hvr' := hvr
            obtain ⟨x', y', H1', H2', rfl, _, q1', q2', hF⟩ := PExpr.vals hvr'
            obtain ⟨ax', px', rfl, _⟩ := q1'.slice
            obtain ⟨ay', py', rfl, _⟩ := q2'.slice
            simp only [vcs, tbl, crs, List.map, reduceIte, Nat.reduceLT, Nat.reduceLeDiff, Nat.reduceEqDiff, Nat.reduceAdd, Nat.reduceMul, Nat.reduceSub, List.all_cons, List.all_nil, Bool.and_true, Bool.and_self, ne_eq, reduceCtorEq, not_false_eq_true, and_self, range1, rep1, Nat.zero_mul, Nat.zero_add, Nat.le_refl]
            exact ⟨_, F', rfl, hvr, ((hg.chg F).trans cg), nd', ow', (fun x hx => (hsub x hx).imp id (fun h hv => h (hg.vis hv)))⟩
          · refine (l1In_c o 3 8 _).mono ?_
            rintro r m3 ⟨rfl, rfl⟩
            simp only [vcs, tbl, crs, List.map, reduceIte, Nat.reduceLT, Nat.reduceLeDiff, Nat.reduceEqDiff, Nat.reduceAdd, Nat.reduceMul, Nat.reduceSub, List.all_cons, List.all_nil, Bool.and_true, Bool.and_self, ne_eq, reduceCtorEq, not_false_eq_true, and_self]
            refine ⟨fun hin => ?_, fun hin => ?_⟩
            · have hin : 3 ≤ o ∧ o ≤ 8 := by simpa using hin
              have ha : against o ≠ 0 := by rcases (by omega : o = 1 ∨ o = 2 ∨ o = 3 ∨ o = 4 ∨ o = 5 ∨ o = 6 ∨ o = 7 ∨ o = 8) with rfl | rfl | rfl | rfl | rfl | rfl | rfl | rfl <;> simp [against]
              refine (specAgainst_c o _).mono ?_
              rintro r m2 ⟨hg, rfl⟩
              simp only [vcs, tbl, crs, List.map, reduceIte, Nat.reduceLT, Nat.reduceLeDiff, Nat.reduceEqDiff, Nat.reduceAdd, Nat.reduceMul, Nat.reduceSub, List.all_cons, List.all_nil, Bool.and_true, Bool.and_self, ne_eq, reduceCtorEq, not_false_eq_true, and_self]
              have hne : sp true (.mk k o n v u a ks ss) = .mk k (against o) n v u a (ks.map posE) ss := by show negE _ = _; rw [negE, if_neg h1, if_pos ⟨hk4, ha⟩, if_neg (fun hh => hh.elim ho1 ho2), posEs_eq]
              rw [hne]
              have h2 : ValsF m2 (PExpr.mk k (against o) n v u a ks ss).row _ F := hFF ▸ (PExpr.mk_vals hv c1 c2).grow hg
              refine (l31Kids_c _ _ _ _ _ _ _ _ false (fun e he => hk e he false) _ _ _ h2 hn (ho.grow hg)).mono ?_
              rintro r m5 ⟨us, F', rfl, hvr, cg, nd', ow', hsub⟩
              have hvr' := hvr
              obtain ⟨x', y', H1', H2', rfl, _, q1', q2', hF⟩ := PExpr.vals hvr'
              obtain ⟨ax', px', rfl, _⟩ := q1'.slice
              obtain ⟨ay', py', rfl, _⟩ := q2'.slice
              simp only [vcs, tbl, crs, List.map, reduceIte, Nat.reduceLT, Nat.reduceLeDiff, Nat.reduceEqDiff, Nat.reduceAdd, Nat.reduceMul, Nat.reduceSub, List.all_cons, List.all_nil, Bool.and_true, Bool.and_self, ne_eq, reduceCtorEq, not_false_eq_true, and_self, range1, rep1, Nat.zero_mul, Nat.zero_add, Nat.le_refl]
              exact ⟨_, F', rfl, hvr, ((hg.chg F).trans cg), nd', ow', (fun x hx => (hsub x hx).imp id (fun h hv => h (hg.vis hv)))⟩
            · have hin : ¬ (3 ≤ o ∧ o ≤ 8) := by simpa using hin
              have ha : against o = 0 := by rw [against, if_neg (by omega), if_neg (by omega), if_neg (by omega), if_neg (by omega), if_neg (by omega), if_neg (by omega), if_neg (by omega), if_neg (by omega)]
              have hne : sp true (.mk k o n v u a ks ss) = .mk 3 15 false ⟨0, 0, ByteArray.empty⟩ 0 0 [.mk k o n v u a (ks.map posE) ss] [] := by show negE _ = _; rw [negE, if_neg h1, if_neg (fun hh => hh.2 ha), if_neg (fun hh => by omega), posEs_eq]
              rw [hne]
              refine (l31Kids_c _ _ _ _ _ _ _ _ false (fun e he => hk e he false) _ _ _ h hn ho).mono ?_
              rintro r m5 ⟨us, F', rfl, hvr, cg, nd', ow', hsub⟩
              have hvr' := hvr
              obtain ⟨x', y', H1', H2', rfl, _, q1', q2', hF⟩ := PExpr.vals hvr'
              obtain ⟨ax', px', rfl, _⟩ := q1'.slice
              obtain ⟨ay', py', rfl, _⟩ := q2'.slice
              simp only [vcs, tbl, crs, List.map, reduceIte, Nat.reduceLT, Nat.reduceLeDiff, Nat.reduceEqDiff, Nat.reduceAdd, Nat.reduceMul, Nat.reduceSub, List.all_cons, List.all_nil, Bool.and_true, Bool.and_self, ne_eq, reduceCtorEq, not_false_eq_true, and_self, range1, rep1, Nat.zero_mul, Nat.zero_add, Nat.le_refl]
              intro bN m6 hp
              have cgm : Chg F _ m5 := cg
              have hsm : ∀ x ∈ F', x ∈ F ∨ ¬ Go.Vc.vis _ x := hsub
              have hrow : [PExpr.mk k o n v u a (ks.map posE) ss].flatMap PExpr.row = (PExpr.mk k o n v u a (ks.map posE) ss).row := by simp
              have hvl : ValsF m5 (PExpr.mk k o n v u a (ks.map posE) ss).row _ F' := hvr
              rw [← hrow] at hvl
              have hck := CellF.of_pubN (n := 1) (cap := 1) hp hvl (fun e => by have := congrArg List.length e; rw [flatMap_len PExpr.row_len] at this; simp at this) (Nat.le_refl _) (by decide)
              refine ⟨_, (bN :: F') ++ [], rfl, PExpr.mk_valsK rfl rfl (by decide) hck (CellF.nilS _), cgm.trans (hp.grow.chg F), ?_, ?_, ?_⟩
              · simp only [List.append_nil, List.nodup_cons]
                exact ⟨fun hb => hp.new (hvr.vis bN hb), nd'⟩
              · simp only [List.append_nil]
                exact Own.pub hp ow'
              · simp only [List.append_nil]
                intro x hx
                rcases List.mem_cons.1 hx with rfl | hx
                · exact .inr fun hv => hp.new (cgm.seen _ hv)
                · exact hsm x hx
      · skip
        refine ⟨fun hk5 => ⟨fun _ => ?_, fun h => absurd hk5 h⟩, fun hk5 => ?_⟩
        · skip
          have hne : sp true (.mk k o n v u a ks ss) = .mk k o (!n) v u a (ks.map posE) ss := by show negE _ = _; rw [negE, if_neg h1, if_neg (fun hh => hk4 hh.1), if_pos (by omega), posEs_eq]
          rw [hne]
          have h2 : ValsF _ (PExpr.mk k o (!n) v u a ks ss).row _ F := hFF ▸ PExpr.mk_vals hv c1 c2
          refine (l31Kids_c _ _ _ _ _ _ _ _ false (fun e he => hk e he false) _ _ _ h2 hn ho).mono ?_
          rintro r m5 ⟨us, F', rfl, hvr, cg, nd', ow', hsub⟩
          have hvr' := hvr
          obtain ⟨x', y', H1', H2', rfl, _, q1', q2', hF⟩ := PExpr.vals hvr'
          obtain ⟨ax', px', rfl, _⟩ := q1'.slice
          obtain ⟨ay', py', rfl, _⟩ := q2'.slice
          simp only [vcs, tbl, crs, List.map, reduceIte, Nat.reduceLT, Nat.reduceLeDiff, Nat.reduceEqDiff, Nat.reduceAdd, Nat.reduceMul, Nat.reduceSub, List.all_cons, List.all_nil, Bool.and_true, Bool.and_self, ne_eq, reduceCtorEq, not_false_eq_true, and_self, range1, rep1, Nat.zero_mul, Nat.zero_add, Nat.le_refl]
          exact ⟨_, F', rfl, hvr, cg, nd', ow', hsub⟩
        refine ⟨fun hk6 => ⟨fun _ => ?_, fun h => absurd hk6 h⟩, fun hk6 => ?_⟩
        · skip
          have hne : sp true (.mk k o n v u a ks ss) = .mk k o (!n) v u a (ks.map posE) ss := by show negE _ = _; rw [negE, if_neg h1, if_neg (fun hh => hk4 hh.1), if_pos (by omega), posEs_eq]
          rw [hne]
          have h2 : ValsF _ (PExpr.mk k o (!n) v u a ks ss).row _ F := hFF ▸ PExpr.mk_vals hv c1 c2
          refine (l31Kids_c _ _ _ _ _ _ _ _ false (fun e he => hk e he false) _ _ _ h2 hn ho).mono ?_
          rintro r m5 ⟨us, F', rfl, hvr, cg, nd', ow', hsub⟩
          have hvr' := hvr
          obtain ⟨x', y', H1', H2', rfl, _, q1', q2', hF⟩ := PExpr.vals hvr'
          obtain ⟨ax', px', rfl, _⟩ := q1'.slice
          obtain ⟨ay', py', rfl, _⟩ := q2'.slice
          simp only [vcs, tbl, crs, List.map, reduceIte, Nat.reduceLT, Nat.reduceLeDiff, Nat.reduceEqDiff, Nat.reduceAdd, Nat.reduceMul, Nat.reduceSub, List.all_cons, List.all_nil, Bool.and_true, Bool.and_self, ne_eq, reduceCtorEq, not_false_eq_true, and_self, range1, rep1, Nat.zero_mul, Nat.zero_add, Nat.le_refl]
          exact ⟨_, F', rfl, hvr, cg, nd', ow', hsub⟩
        refine ⟨fun hk7 => ⟨fun _ => ?_, fun h => absurd hk7 h⟩, fun hk7 => ?_⟩
        · skip
          have hne : sp true (.mk k o n v u a ks ss) = .mk k o (!n) v u a (ks.map posE) ss := by show negE _ = _; rw [negE, if_neg h1, if_neg (fun hh => hk4 hh.1), if_pos (by omega), posEs_eq]
          rw [hne]
          have h2 : ValsF _ (PExpr.mk k o (!n) v u a ks ss).row _ F := hFF ▸ PExpr.mk_vals hv c1 c2
          refine (l31Kids_c _ _ _ _ _ _ _ _ false (fun e he => hk e he false) _ _ _ h2 hn ho).mono ?_
          rintro r m5 ⟨us, F', rfl, hvr, cg, nd', ow', hsub⟩
          have hvr' := hvr
          obtain ⟨x', y', H1', H2', rfl, _, q1', q2', hF⟩ := PExpr.vals hvr'
          obtain ⟨ax', px', rfl, _⟩ := q1'.slice
          obtain ⟨ay', py', rfl, _⟩ := q2'.slice
          simp only [vcs, tbl, crs, List.map, reduceIte, Nat.reduceLT, Nat.reduceLeDiff, Nat.reduceEqDiff, Nat.reduceAdd, Nat.reduceMul, Nat.reduceSub, List.all_cons, List.all_nil, Bool.and_true, Bool.and_self, ne_eq, reduceCtorEq, not_false_eq_true, and_self, range1, rep1, Nat.zero_mul, Nat.zero_add, Nat.le_refl]
          exact ⟨_, F', rfl, hvr, cg, nd', ow', hsub⟩
        refine ⟨fun hk8 => ?_, fun hk8 => ?_⟩
        · skip
          have hne : sp true (.mk k o n v u a ks ss) = .mk k o (!n) v u a (ks.map posE) ss := by show negE _ = _; rw [negE, if_neg h1, if_neg (fun hh => hk4 hh.1), if_pos (by omega), posEs_eq]
          rw [hne]
          have h2 : ValsF _ (PExpr.mk k o (!n) v u a ks ss).row _ F := hFF ▸ PExpr.mk_vals hv c1 c2
          refine (l31Kids_c _ _ _ _ _ _ _ _ false (fun e he => hk e he false) _ _ _ h2 hn ho).mono ?_
          rintro r m5 ⟨us, F', rfl, hvr, cg, nd', ow', hsub⟩
          have hvr' := hvr
          obtain ⟨x', y', H1', H2', rfl, _, q1', q2', hF⟩ := PExpr.vals hvr'
          obtain ⟨ax', px', rfl, _⟩ := q1'.slice
          obtain ⟨ay', py', rfl, _⟩ := q2'.slice
          simp only [vcs, tbl, crs, List.map, reduceIte, Nat.reduceLT, Nat.reduceLeDiff, Nat.reduceEqDiff, Nat.reduceAdd, Nat.reduceMul, Nat.reduceSub, List.all_cons, List.all_nil, Bool.and_true, Bool.and_self, ne_eq, reduceCtorEq, not_false_eq_true, and_self, range1, rep1, Nat.zero_mul, Nat.zero_add, Nat.le_refl]
          exact ⟨_, F', rfl, hvr, cg, nd', ow', hsub⟩
        have hne : sp true (.mk k o n v u a ks ss) = .mk 3 15 false ⟨0, 0, ByteArray.empty⟩ 0 0 [.mk k o n v u a (ks.map posE) ss] [] := by show negE _ = _; rw [negE, if_neg h1, if_neg (fun hh => hk4 hh.1), if_neg (fun hh => by omega), posEs_eq]
        rw [hne]
        refine (l31Kids_c _ _ _ _ _ _ _ _ false (fun e he => hk e he false) _ _ _ h hn ho).mono ?_
        rintro r m5 ⟨us, F', rfl, hvr, cg, nd', ow', hsub⟩
        have hvr' := hvr
        obtain ⟨x', y', H1', H2', rfl, _, q1', q2', hF⟩ := PExpr.vals hvr'
        obtain ⟨ax', px', rfl, _⟩ := q1'.slice
        obtain ⟨ay', py', rfl, _⟩ := q2'.slice
        simp only [vcs, tbl, crs, List.map, reduceIte, Nat.reduceLT, Nat.reduceLeDiff, Nat.reduceEqDiff, Nat.reduceAdd, Nat.reduceMul, Nat.reduceSub, List.all_cons, List.all_nil, Bool.and_true, Bool.and_self, ne_eq, reduceCtorEq, not_false_eq_true, and_self, range1, rep1, Nat.zero_mul, Nat.zero_add, Nat.le_refl]
        intro bN m6 hp
        have cgm : Chg F _ m5 := cg
        have hsm : ∀ x ∈ F', x ∈ F ∨ ¬ Go.Vc.vis _ x := hsub
        have hrow : [PExpr.mk k o n v u a (ks.map posE) ss].flatMap PExpr.row = (PExpr.mk k o n v u a (ks.map posE) ss).row := by simp
        have hvl : ValsF m5 (PExpr.mk k o n v u a (ks.map posE) ss).row _ F' := hvr
        rw [← hrow] at hvl
        have hck := CellF.of_pubN (n := 1) (cap := 1) hp hvl (fun e => by have := congrArg List.length e; rw [flatMap_len PExpr.row_len] at this; simp at this) (Nat.le_refl _) (by decide)
        refine ⟨_, (bN :: F') ++ [], rfl, PExpr.mk_valsK rfl rfl (by decide) hck (CellF.nilS _), cgm.trans (hp.grow.chg F), ?_, ?_, ?_⟩
        · simp only [List.append_nil, List.nodup_cons]
          exact ⟨fun hb => hp.new (hvr.vis bN hb), nd'⟩
        · simp only [List.append_nil]
          exact Own.pub hp ow'
        · simp only [List.append_nil]
          intro x hx
          rcases List.mem_cons.1 hx with rfl | hx
          · exact .inr fun hv => hp.new (cgm.seen _ hv)
          · exact hsm x hx

theorem said_all (e : PExpr) : ∀ b, SaC b e :=
  (tree_ind (A := fun e => ∀ b, SaC b e) (B := fun _ => True) (C := fun _ => True) (fun k o n v u a ks ss hk _ => l31Said_step k o n v u a ks ss hk) (fun _ _ _ _ _ _ _ _ _ _ _ _ => trivial) (fun _ _ _ => trivial)).1 e

end Go.Proofs.Ytklligemdfnimaa
set_option linter.unusedVariables false
set_option linter.unusedSimpArgs false
set_option maxRecDepth 4000
namespace Go.Proofs.Ytklligemdfnimaa
open Go Go.Vc
theorem cnL_one {α : Type} : ∀ es : List α, cnL (fun _ => 1) es = es.length
  | [] => rfl
  | e :: es => by simp [cnL, cnL_one es]; omega
def SwE (e : PExpr) : Prop := ∀ (m : World) (vs : List Value) (F : List Nat) (left : Int), ValsF m e.row vs F → 0 ≤ left → left ≤ 1048576 →
  FCalls Try.prog 21 #[.agg vs.toArray, .int .i64 left] m fun r m' => Grow m m' ∧ ∃ k : Int, r = .int .i64 k ∧ k ≤ left ∧ (0 ≤ k → ESmall e ∧ 9 * k + (cnE e : Int) ≤ 9 * left + 8)
def SwP (e : Plan) : Prop := ∀ (m : World) (vs : List Value) (F : List Nat) (left : Int), ValsF m e.row vs F → 0 ≤ left → left ≤ 1048576 →
  FCalls Try.prog 34 #[.agg vs.toArray, .int .i64 left] m fun r m' => Grow m m' ∧ ∃ k : Int, r = .int .i64 k ∧ k ≤ left ∧ (0 ≤ k → PSmall e ∧ 9 * k + (cnP e : Int) ≤ 9 * left + 9)
def SwO (e : PSort) : Prop := ∀ (m : World) (vs : List Value) (F : List Nat) (left : Int), ValsF m e.row vs F → 0 ≤ left → left ≤ 1048576 →
  FCalls Try.prog 148 #[.agg vs.toArray, .int .i64 left] m fun r m' => Grow m m' ∧ ∃ k : Int, r = .int .i64 k ∧ k ≤ left ∧ (0 ≤ k → SSmall e ∧ 9 * k + (cnS e : Int) ≤ 9 * left + 9)
def esmallW (l : List PExpr) : Prop := l.length ≤ 1048576 ∧ ∀ e ∈ l, ESmall e
def tsmallW (s : ByteArray) : Prop := True
theorem swIntS (es : List Int) (m : World) (left : Int) (v : Value) (F : List Nat) (h : CellF m (.sl es.length (es.flatMap irow)) v F) (h0 : 0 ≤ left) (h1 : left ≤ 1048576) :
   FCalls Try.prog 90 #[v, .int .i64 left] m fun r m' => Grow m m' ∧ ∃ k : Int, r = .int .i64 k ∧ k ≤ left ∧ (0 ≤ k → es.length ≤ 1048576 ∧ 9 * k + (cnL (fun _ => 1) es : Int) ≤ 9 * left) := by
  obtain ⟨a, cap, rfl, hcap, hmax, _⟩ := h.slice
  have hmax' : cap ≤ 9223372036854775807 := hmax
  refine fcalls_of_vc (args := [_, _]) follows_mixed Try.func90 rfl (by kernel_rfl) (by simp [Try.f90]) ?_
  simp only [Try.f90, vcs, tbl, crs, List.map, reduceIte, Nat.reduceLT, Nat.reduceLeDiff, Nat.reduceEqDiff, Nat.reduceAdd, Nat.reduceMul, Nat.reduceSub]
  rw [wrap_id (by omega) (by omega), cnL_one]
  exact ⟨fun h => ⟨Grow.refl _, -1, rfl, by omega, by omega⟩, fun h => ⟨Grow.refl _, _, rfl, by omega, fun h => by omega⟩⟩

theorem swPExprS (es : List PExpr) (hx : ∀ e ∈ es, SwE e) (m : World) (left : Int) (v : Value) (F : List Nat) (h : CellF m (.sl es.length (es.flatMap PExpr.row)) v F) (h0 : 0 ≤ left) (h1 : left ≤ 1048576) :
   FCalls Try.prog 67 #[v, .int .i64 left] m fun r m' => Grow m m' ∧ ∃ k : Int, r = .int .i64 k ∧ k ≤ left ∧ (0 ≤ k → (es.length ≤ 1048576 ∧ ∀ e ∈ es, ESmall e) ∧ 9 * k + (cnL cnE es : Int) ≤ 9 * left) := by
  obtain ⟨a, cap, rfl, hcap, hmax, _⟩ := h.slice
  have hmax' : cap ≤ 9223372036854775807 := hmax
  refine fcalls_of_vc (args := [_, _]) follows_mixed Try.func67 rfl (by kernel_rfl) (by simp [Try.f67]) ?_
  simp only [Try.f67, vcs, tbl, crs, List.map, reduceIte, Nat.reduceLT, Nat.reduceLeDiff, Nat.reduceEqDiff, Nat.reduceAdd, Nat.reduceMul, Nat.reduceSub]
  rw [wrap_id (by omega) (by omega)]
  refine ⟨fun h => ⟨Grow.refl _, -1, rfl, by omega, by omega⟩, fun h' => ?_⟩
  refine vcLoop.intro (fun f L m1 => ∃ (k : Nat) (l : Int), f 5 = .c (.v (.int .i64 k)) ∧ f 1 = .c (.v (.int .i64 l)) ∧ L = [] ∧ k ≤ es.length ∧ 0 ≤ l ∧ l ≤ left ∧ Grow m m1 ∧ (∀ e ∈ es.take k, ESmall e) ∧ 9 * l + (cnL cnE (es.take k) : Int) ≤ 9 * (left - es.length) + 9 * k)
    (fun f _ _ => (es.length - ixS (f 5)).toNat) ⟨[], Sub.nil _, 0, left - es.length, ?_⟩ ?_
  · simp only [vcs, tbl, crs, List.map, reduceIte, Nat.reduceLT, Nat.reduceLeDiff, Nat.reduceEqDiff, Nat.reduceAdd, Nat.reduceMul, Nat.reduceSub]
    exact ⟨rfl, by omega, by omega, by omega, Grow.refl _, by simp, by simp [cnL]⟩
  · rintro g L1 m1 ⟨k, l, h5, h1', rfl, hk, hl0, hl1', hg, hsm, hw⟩
    have hl1 : l ≤ 1048576 := by omega
    simp only [vcs, tbl, crs, List.map, reduceIte, Nat.reduceLT, Nat.reduceLeDiff, Nat.reduceEqDiff, Nat.reduceAdd, Nat.reduceMul, Nat.reduceSub] at h5 h1'
    simp only [vcs, tbl, crs, List.map, reduceIte, Nat.reduceLT, Nat.reduceLeDiff, Nat.reduceEqDiff, Nat.reduceAdd, Nat.reduceMul, Nat.reduceSub, h5, h1']
    refine ⟨fun hlt => ?_, fun hge => ?_⟩
    · have hlt : k < es.length := by omega
      have hcs := cnL_take_succ cnE es k hlt
      obtain ⟨ad, vs, Fk, ha, hlen, hcell, hv, _⟩ := h.elem PExpr.row_len (by decide) (List.getElem?_eq_getElem hlt)
      refine ⟨by omega, by omega, ad, ha, vs, hlen, fun j v hj => hg.cell (by simpa using hcell j v hj), ?_⟩
      simp only [vcs, tbl, crs, List.map, reduceIte, Nat.reduceLT, Nat.reduceLeDiff, Nat.reduceEqDiff, Nat.reduceAdd, Nat.reduceMul, Nat.reduceSub, h5, h1']
      refine (hx _ (List.getElem_mem hlt) _ _ _ _ (hv.grow hg) hl0 hl1).mono ?_
      rintro r m2 ⟨hg2, q, rfl, hq, hqs⟩
      simp only [vcs, tbl, crs, List.map, reduceIte, Nat.reduceLT, Nat.reduceLeDiff, Nat.reduceEqDiff, Nat.reduceAdd, Nat.reduceMul, Nat.reduceSub, h5, h1']
      refine ⟨fun hn => ⟨hg.trans hg2, -1, rfl, by omega, by omega⟩, fun hn => ?_⟩
      rw [wrap_id (by omega) (by omega)]
      refine ⟨[], Sub.nil _, ⟨k + 1, _, by simp, rfl, rfl, by omega, by omega, by omega, hg.trans hg2, ?_, by have := (hqs (by omega)).2; omega⟩, by omega⟩
      intro e he
      rw [List.take_add_one, List.getElem?_eq_getElem hlt] at he
      rcases List.mem_append.1 he with he | he
      · exact hsm e he
      · simp at he; subst he; exact (hqs (by omega)).1
    · have : k = es.length := by omega
      subst this
      exact ⟨hg, l, rfl, by omega, fun _ => ⟨⟨by omega, fun e he => hsm e (by simpa using he)⟩, by rw [List.take_length] at hw; omega⟩⟩

theorem swPlanS (es : List Plan) (hx : ∀ e ∈ es, SwP e) (m : World) (left : Int) (v : Value) (F : List Nat) (h : CellF m (.sl es.length (es.flatMap Plan.row)) v F) (h0 : 0 ≤ left) (h1 : left ≤ 1048576) :
   FCalls Try.prog 68 #[v, .int .i64 left] m fun r m' => Grow m m' ∧ ∃ k : Int, r = .int .i64 k ∧ k ≤ left ∧ (0 ≤ k → (es.length ≤ 1048576 ∧ ∀ e ∈ es, PSmall e) ∧ 9 * k + (cnL cnP es : Int) ≤ 9 * left) := by
  obtain ⟨a, cap, rfl, hcap, hmax, _⟩ := h.slice
  have hmax' : cap ≤ 9223372036854775807 := hmax
  refine fcalls_of_vc (args := [_, _]) follows_mixed Try.func68 rfl (by kernel_rfl) (by simp [Try.f68]) ?_
  simp only [Try.f68, vcs, tbl, crs, List.map, reduceIte, Nat.reduceLT, Nat.reduceLeDiff, Nat.reduceEqDiff, Nat.reduceAdd, Nat.reduceMul, Nat.reduceSub]
  rw [wrap_id (by omega) (by omega)]
  refine ⟨fun h => ⟨Grow.refl _, -1, rfl, by omega, by omega⟩, fun h' => ?_⟩
  refine vcLoop.intro (fun f L m1 => ∃ (k : Nat) (l : Int), f 5 = .c (.v (.int .i64 k)) ∧ f 1 = .c (.v (.int .i64 l)) ∧ L = [] ∧ k ≤ es.length ∧ 0 ≤ l ∧ l ≤ left ∧ Grow m m1 ∧ (∀ e ∈ es.take k, PSmall e) ∧ 9 * l + (cnL cnP (es.take k) : Int) ≤ 9 * (left - es.length) + 9 * k)
    (fun f _ _ => (es.length - ixS (f 5)).toNat) ⟨[], Sub.nil _, 0, left - es.length, ?_⟩ ?_
  · simp only [vcs, tbl, crs, List.map, reduceIte, Nat.reduceLT, Nat.reduceLeDiff, Nat.reduceEqDiff, Nat.reduceAdd, Nat.reduceMul, Nat.reduceSub]
    exact ⟨rfl, by omega, by omega, by omega, Grow.refl _, by simp, by simp [cnL]⟩
  · rintro g L1 m1 ⟨k, l, h5, h1', rfl, hk, hl0, hl1', hg, hsm, hw⟩
    have hl1 : l ≤ 1048576 := by omega
    simp only [vcs, tbl, crs, List.map, reduceIte, Nat.reduceLT, Nat.reduceLeDiff, Nat.reduceEqDiff, Nat.reduceAdd, Nat.reduceMul, Nat.reduceSub] at h5 h1'
    simp only [vcs, tbl, crs, List.map, reduceIte, Nat.reduceLT, Nat.reduceLeDiff, Nat.reduceEqDiff, Nat.reduceAdd, Nat.reduceMul, Nat.reduceSub, h5, h1']
    refine ⟨fun hlt => ?_, fun hge => ?_⟩
    · have hlt : k < es.length := by omega
      have hcs := cnL_take_succ cnP es k hlt
      obtain ⟨ad, vs, Fk, ha, hlen, hcell, hv, _⟩ := h.elem Plan.row_len (by decide) (List.getElem?_eq_getElem hlt)
      refine ⟨by omega, by omega, ad, ha, vs, hlen, fun j v hj => hg.cell (by simpa using hcell j v hj), ?_⟩
      simp only [vcs, tbl, crs, List.map, reduceIte, Nat.reduceLT, Nat.reduceLeDiff, Nat.reduceEqDiff, Nat.reduceAdd, Nat.reduceMul, Nat.reduceSub, h5, h1']
      refine (hx _ (List.getElem_mem hlt) _ _ _ _ (hv.grow hg) hl0 hl1).mono ?_
      rintro r m2 ⟨hg2, q, rfl, hq, hqs⟩
      simp only [vcs, tbl, crs, List.map, reduceIte, Nat.reduceLT, Nat.reduceLeDiff, Nat.reduceEqDiff, Nat.reduceAdd, Nat.reduceMul, Nat.reduceSub, h5, h1']
      refine ⟨fun hn => ⟨hg.trans hg2, -1, rfl, by omega, by omega⟩, fun hn => ?_⟩
      rw [wrap_id (by omega) (by omega)]
      refine ⟨[], Sub.nil _, ⟨k + 1, _, by simp, rfl, rfl, by omega, by omega, by omega, hg.trans hg2, ?_, by have := (hqs (by omega)).2; omega⟩, by omega⟩
      intro e he
      rw [List.take_add_one, List.getElem?_eq_getElem hlt] at he
      rcases List.mem_append.1 he with he | he
      · exact hsm e he
      · simp at he; subst he; exact (hqs (by omega)).1
    · have : k = es.length := by omega
      subst this
      exact ⟨hg, l, rfl, by omega, fun _ => ⟨⟨by omega, fun e he => hsm e (by simpa using he)⟩, by rw [List.take_length] at hw; omega⟩⟩

theorem swPSortS (es : List PSort) (hx : ∀ e ∈ es, SwO e) (m : World) (left : Int) (v : Value) (F : List Nat) (h : CellF m (.sl es.length (es.flatMap PSort.row)) v F) (h0 : 0 ≤ left) (h1 : left ≤ 1048576) :
   FCalls Try.prog 92 #[v, .int .i64 left] m fun r m' => Grow m m' ∧ ∃ k : Int, r = .int .i64 k ∧ k ≤ left ∧ (0 ≤ k → (es.length ≤ 1048576 ∧ ∀ e ∈ es, SSmall e) ∧ 9 * k + (cnL cnS es : Int) ≤ 9 * left) := by
  obtain ⟨a, cap, rfl, hcap, hmax, _⟩ := h.slice
  have hmax' : cap ≤ 9223372036854775807 := hmax
  refine fcalls_of_vc (args := [_, _]) follows_mixed Try.func92 rfl (by kernel_rfl) (by simp [Try.f92]) ?_
  simp only [Try.f92, vcs, tbl, crs, List.map, reduceIte, Nat.reduceLT, Nat.reduceLeDiff, Nat.reduceEqDiff, Nat.reduceAdd, Nat.reduceMul, Nat.reduceSub]
  rw [wrap_id (by omega) (by omega)]
  refine ⟨fun h => ⟨Grow.refl _, -1, rfl, by omega, by omega⟩, fun h' => ?_⟩
  refine vcLoop.intro (fun f L m1 => ∃ (k : Nat) (l : Int), f 5 = .c (.v (.int .i64 k)) ∧ f 1 = .c (.v (.int .i64 l)) ∧ L = [] ∧ k ≤ es.length ∧ 0 ≤ l ∧ l ≤ left ∧ Grow m m1 ∧ (∀ e ∈ es.take k, SSmall e) ∧ 9 * l + (cnL cnS (es.take k) : Int) ≤ 9 * (left - es.length) + 9 * k)
    (fun f _ _ => (es.length - ixS (f 5)).toNat) ⟨[], Sub.nil _, 0, left - es.length, ?_⟩ ?_
  · simp only [vcs, tbl, crs, List.map, reduceIte, Nat.reduceLT, Nat.reduceLeDiff, Nat.reduceEqDiff, Nat.reduceAdd, Nat.reduceMul, Nat.reduceSub]
    exact ⟨rfl, by omega, by omega, by omega, Grow.refl _, by simp, by simp [cnL]⟩
  · rintro g L1 m1 ⟨k, l, h5, h1', rfl, hk, hl0, hl1', hg, hsm, hw⟩
    have hl1 : l ≤ 1048576 := by omega
    simp only [vcs, tbl, crs, List.map, reduceIte, Nat.reduceLT, Nat.reduceLeDiff, Nat.reduceEqDiff, Nat.reduceAdd, Nat.reduceMul, Nat.reduceSub] at h5 h1'
    simp only [vcs, tbl, crs, List.map, reduceIte, Nat.reduceLT, Nat.reduceLeDiff, Nat.reduceEqDiff, Nat.reduceAdd, Nat.reduceMul, Nat.reduceSub, h5, h1']
    refine ⟨fun hlt => ?_, fun hge => ?_⟩
    · have hlt : k < es.length := by omega
      have hcs := cnL_take_succ cnS es k hlt
      obtain ⟨ad, vs, Fk, ha, hlen, hcell, hv, _⟩ := h.elem PSort.row_len (by decide) (List.getElem?_eq_getElem hlt)
      refine ⟨by omega, by omega, ad, ha, vs, hlen, fun j v hj => hg.cell (by simpa using hcell j v hj), ?_⟩
      simp only [vcs, tbl, crs, List.map, reduceIte, Nat.reduceLT, Nat.reduceLeDiff, Nat.reduceEqDiff, Nat.reduceAdd, Nat.reduceMul, Nat.reduceSub, h5, h1']
      refine (hx _ (List.getElem_mem hlt) _ _ _ _ (hv.grow hg) hl0 hl1).mono ?_
      rintro r m2 ⟨hg2, q, rfl, hq, hqs⟩
      simp only [vcs, tbl, crs, List.map, reduceIte, Nat.reduceLT, Nat.reduceLeDiff, Nat.reduceEqDiff, Nat.reduceAdd, Nat.reduceMul, Nat.reduceSub, h5, h1']
      refine ⟨fun hn => ⟨hg.trans hg2, -1, rfl, by omega, by omega⟩, fun hn => ?_⟩
      rw [wrap_id (by omega) (by omega)]
      refine ⟨[], Sub.nil _, ⟨k + 1, _, by simp, rfl, rfl, by omega, by omega, by omega, hg.trans hg2, ?_, by have := (hqs (by omega)).2; omega⟩, by omega⟩
      intro e he
      rw [List.take_add_one, List.getElem?_eq_getElem hlt] at he
      rcases List.mem_append.1 he with he | he
      · exact hsm e he
      · simp at he; subst he; exact (hqs (by omega)).1
    · have : k = es.length := by omega
      subst this
      exact ⟨hg, l, rfl, by omega, fun _ => ⟨⟨by omega, fun e he => hsm e (by simpa using he)⟩, by rw [List.take_length] at hw; omega⟩⟩

theorem swPExprSS (es : List (List PExpr)) (hx : ∀ l ∈ es, ∀ e ∈ l, SwE e) (m : World) (left : Int) (v : Value) (F : List Nat) (h : CellF m (.sl es.length (es.flatMap erow)) v F) (h0 : 0 ≤ left) (h1 : left ≤ 1048576) :
   FCalls Try.prog 91 #[v, .int .i64 left] m fun r m' => Grow m m' ∧ ∃ k : Int, r = .int .i64 k ∧ k ≤ left ∧ (0 ≤ k → (es.length ≤ 1048576 ∧ ∀ e ∈ es, esmallW e) ∧ 9 * k + (cnL (cnL cnE) es : Int) ≤ 9 * left) := by
  obtain ⟨a, cap, rfl, hcap, hmax, _⟩ := h.slice
  have hmax' : cap ≤ 9223372036854775807 := hmax
  refine fcalls_of_vc (args := [_, _]) follows_mixed Try.func91 rfl (by kernel_rfl) (by simp [Try.f91]) ?_
  simp only [Try.f91, vcs, tbl, crs, List.map, reduceIte, Nat.reduceLT, Nat.reduceLeDiff, Nat.reduceEqDiff, Nat.reduceAdd, Nat.reduceMul, Nat.reduceSub]
  rw [wrap_id (by omega) (by omega)]
  refine ⟨fun h => ⟨Grow.refl _, -1, rfl, by omega, by omega⟩, fun h' => ?_⟩
  refine vcLoop.intro (fun f L m1 => ∃ (k : Nat) (l : Int), f 5 = .c (.v (.int .i64 k)) ∧ f 1 = .c (.v (.int .i64 l)) ∧ L = [] ∧ k ≤ es.length ∧ 0 ≤ l ∧ l ≤ left ∧ Grow m m1 ∧ (∀ e ∈ es.take k, esmallW e) ∧ 9 * l + (cnL (cnL cnE) (es.take k) : Int) ≤ 9 * (left - es.length) + 9 * k)
    (fun f _ _ => (es.length - ixS (f 5)).toNat) ⟨[], Sub.nil _, 0, left - es.length, ?_⟩ ?_
  · simp only [vcs, tbl, crs, List.map, reduceIte, Nat.reduceLT, Nat.reduceLeDiff, Nat.reduceEqDiff, Nat.reduceAdd, Nat.reduceMul, Nat.reduceSub]
    exact ⟨rfl, by omega, by omega, by omega, Grow.refl _, by simp, by simp [cnL]⟩
  · rintro g L1 m1 ⟨k, l, h5, h1', rfl, hk, hl0, hl1', hg, hsm, hw⟩
    have hl1 : l ≤ 1048576 := by omega
    simp only [vcs, tbl, crs, List.map, reduceIte, Nat.reduceLT, Nat.reduceLeDiff, Nat.reduceEqDiff, Nat.reduceAdd, Nat.reduceMul, Nat.reduceSub] at h5 h1'
    simp only [vcs, tbl, crs, List.map, reduceIte, Nat.reduceLT, Nat.reduceLeDiff, Nat.reduceEqDiff, Nat.reduceAdd, Nat.reduceMul, Nat.reduceSub, h5, h1']
    refine ⟨fun hlt => ?_, fun hge => ?_⟩
    · have hlt : k < es.length := by omega
      have hcs := cnL_take_succ (cnL cnE) es k hlt
      obtain ⟨ad, vs, Fk, ha, hlen, hcell, hv, _⟩ := h.elem erow_len (by decide) (List.getElem?_eq_getElem hlt)
      obtain ⟨u, hu⟩ : ∃ u, vs[0]? = some u := ⟨vs[0]'(by omega), List.getElem?_eq_getElem _⟩
      have hcu := hg.cell (hcell 0 u hu)
      rw [add0] at hcu
      have hvu := (ValsF.one hv hu).grow hg
      refine ⟨by omega, by omega, ad, ha, u, hcu, ?_⟩
      simp only [vcs, tbl, crs, List.map, reduceIte, Nat.reduceLT, Nat.reduceLeDiff, Nat.reduceEqDiff, Nat.reduceAdd, Nat.reduceMul, Nat.reduceSub, h5, h1']
      refine (swPExprS _ (hx _ (List.getElem_mem hlt)) _ _ _ _ hvu hl0 hl1).mono ?_
      rintro r m2 ⟨hg2, q, rfl, hq, hqs⟩
      simp only [vcs, tbl, crs, List.map, reduceIte, Nat.reduceLT, Nat.reduceLeDiff, Nat.reduceEqDiff, Nat.reduceAdd, Nat.reduceMul, Nat.reduceSub, h5, h1']
      refine ⟨fun hn => ⟨hg.trans hg2, -1, rfl, by omega, by omega⟩, fun hn => ?_⟩
      rw [wrap_id (by omega) (by omega)]
      refine ⟨[], Sub.nil _, ⟨k + 1, _, by simp, rfl, rfl, by omega, by omega, by omega, hg.trans hg2, ?_, by have := (hqs (by omega)).2; omega⟩, by omega⟩
      intro e he
      rw [List.take_add_one, List.getElem?_eq_getElem hlt] at he
      rcases List.mem_append.1 he with he | he
      · exact hsm e he
      · simp at he; subst he; exact (hqs (by omega)).1
    · have : k = es.length := by omega
      subst this
      exact ⟨hg, l, rfl, by omega, fun _ => ⟨⟨by omega, fun e he => hsm e (by simpa using he)⟩, by rw [List.take_length] at hw; omega⟩⟩

theorem swStringS (es : List ByteArray)  (m : World) (left : Int) (v : Value) (F : List Nat) (h : CellF m (.sl es.length (es.flatMap srow)) v F) (h0 : 0 ≤ left) (h1 : left ≤ 1048576) :
   FCalls Try.prog 93 #[v, .int .i64 left] m fun r m' => Grow m m' ∧ ∃ k : Int, r = .int .i64 k ∧ k ≤ left ∧ (0 ≤ k → (es.length ≤ 1048576 ∧ ∀ e ∈ es, tsmallW e) ∧ 9 * k + (cnL (fun _ => 1) es : Int) ≤ 9 * left) := by
  obtain ⟨a, cap, rfl, hcap, hmax, _⟩ := h.slice
  have hmax' : cap ≤ 9223372036854775807 := hmax
  refine fcalls_of_vc (args := [_, _]) follows_mixed Try.func93 rfl (by kernel_rfl) (by simp [Try.f93]) ?_
  simp only [Try.f93, vcs, tbl, crs, List.map, reduceIte, Nat.reduceLT, Nat.reduceLeDiff, Nat.reduceEqDiff, Nat.reduceAdd, Nat.reduceMul, Nat.reduceSub]
  rw [wrap_id (by omega) (by omega)]
  refine ⟨fun h => ⟨Grow.refl _, -1, rfl, by omega, by omega⟩, fun h' => ?_⟩
  refine vcLoop.intro (fun f L m1 => ∃ (k : Nat) (l : Int), f 5 = .c (.v (.int .i64 k)) ∧ f 1 = .c (.v (.int .i64 l)) ∧ L = [] ∧ k ≤ es.length ∧ 0 ≤ l ∧ l ≤ left ∧ Grow m m1 ∧ (∀ e ∈ es.take k, tsmallW e) ∧ 9 * l + (cnL (fun _ => 1) (es.take k) : Int) ≤ 9 * (left - es.length) + 9 * k)
    (fun f _ _ => (es.length - ixS (f 5)).toNat) ⟨[], Sub.nil _, 0, left - es.length, ?_⟩ ?_
  · simp only [vcs, tbl, crs, List.map, reduceIte, Nat.reduceLT, Nat.reduceLeDiff, Nat.reduceEqDiff, Nat.reduceAdd, Nat.reduceMul, Nat.reduceSub]
    exact ⟨rfl, by omega, by omega, by omega, Grow.refl _, by simp, by simp [cnL]⟩
  · rintro g L1 m1 ⟨k, l, h5, h1', rfl, hk, hl0, hl1', hg, hsm, hw⟩
    have hl1 : l ≤ 1048576 := by omega
    simp only [vcs, tbl, crs, List.map, reduceIte, Nat.reduceLT, Nat.reduceLeDiff, Nat.reduceEqDiff, Nat.reduceAdd, Nat.reduceMul, Nat.reduceSub] at h5 h1'
    simp only [vcs, tbl, crs, List.map, reduceIte, Nat.reduceLT, Nat.reduceLeDiff, Nat.reduceEqDiff, Nat.reduceAdd, Nat.reduceMul, Nat.reduceSub, h5, h1']
    refine ⟨fun hlt => ?_, fun hge => ?_⟩
    · have hlt : k < es.length := by omega
      have hcs := cnL_take_succ (fun _ => 1) es k hlt
      obtain ⟨ad, vs, Fk, ha, hlen, hcell, hv, _⟩ := h.elem srow_len (by decide) (List.getElem?_eq_getElem hlt)
      obtain ⟨r1, rfl, hv1, ho⟩ := valsF_lit hv
      have ho' : es[k].size ≤ 9223372036854775807 := ho
      have hcu := hg.cell (hcell 0 _ rfl)
      rw [add0] at hcu
      refine ⟨by omega, by omega, ad, ha, _, hcu, ?_⟩
      simp only [vcs, tbl, crs, List.map, reduceIte, Nat.reduceLT, Nat.reduceLeDiff, Nat.reduceEqDiff, Nat.reduceAdd, Nat.reduceMul, Nat.reduceSub, h5, h1']
      rw [wrap_id (by omega) (by omega)]
      refine ⟨fun hn => ⟨hg, -1, rfl, by omega, by omega⟩, fun hn => ?_⟩
      rw [wrap_id (by omega) (by omega)]
      refine ⟨[], Sub.nil _, ⟨k + 1, _, by simp, rfl, rfl, by omega, by omega, by omega, hg, ?_, by omega⟩, by omega⟩
      intro e he
      trivial
    · have : k = es.length := by omega
      subst this
      exact ⟨hg, l, rfl, by omega, fun _ => ⟨⟨by omega, fun e he => hsm e (by simpa using he)⟩, by rw [List.take_length] at hw; omega⟩⟩

theorem swPExpr_step (k o n v u a ks ss) (hk : ∀ e ∈ ks, SwE e) (hp : ∀ p ∈ ss, SwP p) : SwE (.mk k o n v u a ks ss) := by
  intro m vs F left h h0 h1
  obtain ⟨x, y, F1, F2, rfl, hv, c1, c2, rfl⟩ := PExpr.vals h
  refine fcalls_of_vc (args := [_, _]) follows_mixed Try.func21 rfl (by kernel_rfl) (by simp [Try.f21]) ?_
  simp only [Try.f21, vcs, tbl, crs, List.map, reduceIte, Nat.reduceLT, Nat.reduceLeDiff, Nat.reduceEqDiff, Nat.reduceAdd, Nat.reduceMul, Nat.reduceSub]
  refine (szValue v _ _ _ _ (Val.mk_vals _ _ hv) h0 h1).mono ?_
  rintro r m1 ⟨hg1, k1, rfl, hk1, hs1⟩
  have g1 := hg1
  simp only [vcs, tbl, crs, List.map, reduceIte, Nat.reduceLT, Nat.reduceLeDiff, Nat.reduceEqDiff, Nat.reduceAdd, Nat.reduceMul, Nat.reduceSub]
  refine ⟨fun h => ⟨g1, -1, rfl, by omega, by omega⟩, fun hn1 => ?_⟩
  refine (swPExprS _ hk _ _ _ _ (c1.grow g1) (by omega) (by omega)).mono ?_
  rintro r m2 ⟨hg2, k2, rfl, hk2, hs2⟩
  have g2 := g1.trans hg2
  simp only [vcs, tbl, crs, List.map, reduceIte, Nat.reduceLT, Nat.reduceLeDiff, Nat.reduceEqDiff, Nat.reduceAdd, Nat.reduceMul, Nat.reduceSub]
  refine ⟨fun h => ⟨g2, -1, rfl, by omega, by omega⟩, fun hn2 => ?_⟩
  refine (swPlanS _ hp _ _ _ _ (c2.grow g2) (by omega) (by omega)).mono ?_
  rintro r m3 ⟨hg3, k3, rfl, hk3, hs3⟩
  have g3 := g2.trans hg3
  simp only [vcs, tbl, crs, List.map, reduceIte, Nat.reduceLT, Nat.reduceLeDiff, Nat.reduceEqDiff, Nat.reduceAdd, Nat.reduceMul, Nat.reduceSub]
  refine ⟨fun h => ⟨g3, -1, rfl, by omega, by omega⟩, fun hn => ⟨g3, _, rfl, by omega, fun h => ?_⟩⟩
  obtain ⟨q2, w2⟩ := hs2 (by omega)
  obtain ⟨q3, w3⟩ := hs3 (by omega)
  refine ⟨.mk (hs1 (by omega)) q2.1 q2.2 q3.1 q3.2, ?_⟩
  rw [cnE, cnEs_eq, cnPs_eq]; omega
theorem swPSort_step (e d) (he : SwE e) : SwO (.mk e d) := by
  intro m vs F left h h0 h1
  obtain ⟨us, rfl, hl, hv⟩ := PSort.vals h
  have hcs : cnS (.mk e d) = cnE e + 1 := by rw [cnS]
  rw [hcs]
  have he0 := he
  obtain ⟨k, o, n, v, u, a, ks, ss⟩ := e
  obtain ⟨x, y, F1, F2, rfl, _, c1, c2, rfl⟩ := PExpr.vals hv
  refine fcalls_of_vc (args := [_, _]) follows_mixed Try.func148 rfl (by kernel_rfl) (by simp [Try.f148]) ?_
  simp only [Try.f148, vcs, tbl, crs, List.map, reduceIte, Nat.reduceLT, Nat.reduceLeDiff, Nat.reduceEqDiff, Nat.reduceAdd, Nat.reduceMul, Nat.reduceSub]
  refine (he0 _ _ _ _ hv h0 h1).mono ?_
  rintro r m1 ⟨hg1, k1, rfl, hk1, hs1⟩
  have g1 := hg1
  simp only [vcs, tbl, crs, List.map, reduceIte, Nat.reduceLT, Nat.reduceLeDiff, Nat.reduceEqDiff, Nat.reduceAdd, Nat.reduceMul, Nat.reduceSub]
  refine ⟨fun h => ⟨g1, -1, rfl, by omega, by omega⟩, fun hn => ⟨g1, _, rfl, by omega, fun h => ?_⟩⟩
  obtain ⟨q1, w1⟩ := hs1 (by omega)
  exact ⟨.mk q1, by omega⟩
theorem swPlan_step (t on wh or it nm ds li) (h1 : ∀ l ∈ on, ∀ e ∈ l, SwE e) (h2 : ∀ e ∈ wh, SwE e) (h3 : ∀ s ∈ or, SwO s) (h4 : ∀ e ∈ it, SwE e) : SwP (.mk t on wh or it nm ds li) := by
  intro m vs F left h z0 z1
  obtain ⟨a, b, c, d, e, f, F1, F2, F3, F4, F5, F6, rfl, c1, c2, c3, c4, c5, c6, rfl⟩ := Plan.vals h
  refine fcalls_of_vc (args := [_, _]) follows_mixed Try.func34 rfl (by kernel_rfl) (by simp [Try.f34]) ?_
  simp only [Try.f34, vcs, tbl, crs, List.map, reduceIte, Nat.reduceLT, Nat.reduceLeDiff, Nat.reduceEqDiff, Nat.reduceAdd, Nat.reduceMul, Nat.reduceSub]
  refine (swIntS _ _ _ _ _ c1 z0 z1).mono ?_
  rintro r m1 ⟨hg1, k1, rfl, hk1, hs1⟩
  have g1 := hg1
  simp only [vcs, tbl, crs, List.map, reduceIte, Nat.reduceLT, Nat.reduceLeDiff, Nat.reduceEqDiff, Nat.reduceAdd, Nat.reduceMul, Nat.reduceSub]
  refine ⟨fun h => ⟨g1, -1, rfl, by omega, by omega⟩, fun hn1 => ?_⟩
  refine (swPExprSS _ h1 _ _ _ _ (c2.grow g1) (by omega) (by omega)).mono ?_
  rintro r m2 ⟨hg2, k2, rfl, hk2, hs2⟩
  have g2 := g1.trans hg2
  simp only [vcs, tbl, crs, List.map, reduceIte, Nat.reduceLT, Nat.reduceLeDiff, Nat.reduceEqDiff, Nat.reduceAdd, Nat.reduceMul, Nat.reduceSub]
  refine ⟨fun h => ⟨g2, -1, rfl, by omega, by omega⟩, fun hn2 => ?_⟩
  refine (swPExprS _ h2 _ _ _ _ (c3.grow g2) (by omega) (by omega)).mono ?_
  rintro r m3 ⟨hg3, k3, rfl, hk3, hs3⟩
  have g3 := g2.trans hg3
  simp only [vcs, tbl, crs, List.map, reduceIte, Nat.reduceLT, Nat.reduceLeDiff, Nat.reduceEqDiff, Nat.reduceAdd, Nat.reduceMul, Nat.reduceSub]
  refine ⟨fun h => ⟨g3, -1, rfl, by omega, by omega⟩, fun hn3 => ?_⟩
  refine (swPSortS _ h3 _ _ _ _ (c4.grow g3) (by omega) (by omega)).mono ?_
  rintro r m4 ⟨hg4, k4, rfl, hk4, hs4⟩
  have g4 := g3.trans hg4
  simp only [vcs, tbl, crs, List.map, reduceIte, Nat.reduceLT, Nat.reduceLeDiff, Nat.reduceEqDiff, Nat.reduceAdd, Nat.reduceMul, Nat.reduceSub]
  refine ⟨fun h => ⟨g4, -1, rfl, by omega, by omega⟩, fun hn4 => ?_⟩
  refine (swPExprS _ h4 _ _ _ _ (c5.grow g4) (by omega) (by omega)).mono ?_
  rintro r m5 ⟨hg5, k5, rfl, hk5, hs5⟩
  have g5 := g4.trans hg5
  simp only [vcs, tbl, crs, List.map, reduceIte, Nat.reduceLT, Nat.reduceLeDiff, Nat.reduceEqDiff, Nat.reduceAdd, Nat.reduceMul, Nat.reduceSub]
  refine ⟨fun h => ⟨g5, -1, rfl, by omega, by omega⟩, fun hn5 => ?_⟩
  refine (swStringS _ _ _ _ _ (c6.grow g5) (by omega) (by omega)).mono ?_
  rintro r m6 ⟨hg6, k6, rfl, hk6, hs6⟩
  have g6 := g5.trans hg6
  simp only [vcs, tbl, crs, List.map, reduceIte, Nat.reduceLT, Nat.reduceLeDiff, Nat.reduceEqDiff, Nat.reduceAdd, Nat.reduceMul, Nat.reduceSub]
  refine ⟨fun h => ⟨g6, -1, rfl, by omega, by omega⟩, fun hn => ⟨g6, _, rfl, by omega, fun h => ?_⟩⟩
  obtain ⟨q1, w1⟩ := hs1 (by omega)
  obtain ⟨q2, w2⟩ := hs2 (by omega)
  obtain ⟨q3, w3⟩ := hs3 (by omega)
  obtain ⟨q4, w4⟩ := hs4 (by omega)
  obtain ⟨q5, w5⟩ := hs5 (by omega)
  obtain ⟨q6, w6⟩ := hs6 (by omega)
  refine ⟨.mk q1 q2.1 (fun l hl => (q2.2 l hl).1) (fun l hl => (q2.2 l hl).2) q3.1 q3.2 q4.1 q4.2 q5.1 q5.2 q6.1, ?_⟩
  rw [cnP, cnEEs_eq, cnEs_eq, cnSs_eq, cnEs_eq]; omega
theorem sw_all : (∀ e, SwE e) ∧ (∀ p, SwP p) ∧ (∀ s, SwO s) := tree_ind swPExpr_step swPlan_step swPSort_step

end Go.Proofs.Ytklligemdfnimaa
set_option linter.unusedVariables false
set_option linter.unusedSimpArgs false
set_option maxRecDepth 4000
namespace Go.Proofs.Ytklligemdfnimaa
open Go Go.Vc
theorem specPositive_c (e : PExpr) (hs : ESmall e) : ChC 29 posE e := by
  intro m vs F h
  have h0 := h
  generalize hee : e = e0 at h0
  obtain ⟨k, o, n, v, u, a, ks, ss⟩ := e0
  obtain ⟨x, y, F1, F2, rfl, hv, c1, c2, rfl⟩ := PExpr.vals h0
  obtain ⟨ax, px, rfl, _⟩ := c1.slice
  obtain ⟨ay, py, rfl, _⟩ := c2.slice
  refine fcalls_of_vc (args := [_]) follows_mixed Try.func29 rfl (by kernel_rfl) (by simp [Try.f29]) ?_
  simp only [Try.f29, vcs, tbl, crs, List.map, reduceIte, Nat.reduceLT, Nat.reduceLeDiff, Nat.reduceEqDiff, Nat.reduceAdd, Nat.reduceMul, Nat.reduceSub, List.all_cons, List.all_nil, Bool.and_true, Bool.and_self, ne_eq, reduceCtorEq, not_false_eq_true, and_self]
  refine (cp_all.1 e hs _ _ _ h).mono ?_
  rintro r m1 ⟨hg1, us, F', rfl, hvr, hf1, ho1⟩
  have hvr : ValsF m1 e.row us F' := hvr
  simp only [vcs, tbl, crs, List.map, reduceIte, Nat.reduceLT, Nat.reduceLeDiff, Nat.reduceEqDiff, Nat.reduceAdd, Nat.reduceMul, Nat.reduceSub, List.all_cons, List.all_nil, Bool.and_true, Bool.and_self, ne_eq, reduceCtorEq, not_false_eq_true, and_self]
  refine (said_all e false _ _ _ hvr hf1.1 ho1).mono ?_
  rintro r m2 ⟨us2, F2, rfl, hv2, cg, nd2, ow2, hsub⟩
  have hv2 : ValsF m2 (posE e).row us2 F2 := hv2
  have hv2' := hv2
  generalize posE e = e' at hv2'
  obtain ⟨k', o', n', v', u', a', ks', ss'⟩ := e'
  obtain ⟨x', y', H1, H2, rfl, _, q1, q2, hF⟩ := PExpr.vals hv2'
  obtain ⟨ax', px', rfl, _⟩ := q1.slice
  obtain ⟨ay', py', rfl, _⟩ := q2.slice
  simp only [vcs, tbl, crs, List.map, reduceIte, Nat.reduceLT, Nat.reduceLeDiff, Nat.reduceEqDiff, Nat.reduceAdd, Nat.reduceMul, Nat.reduceSub, List.all_cons, List.all_nil, Bool.and_true, Bool.and_self, ne_eq, reduceCtorEq, not_false_eq_true, and_self]
  rw [← hee]
  exact ⟨hg1.chg_trans cg hf1.2, _, F2, rfl, hv2, ⟨nd2, fun x hx => (hsub x hx).elim (hf1.2 x) (fun h hv => h (hg1.vis hv))⟩, ow2⟩
theorem markPExpr_c (k o n v u a ks ss) (q : Int) (m : World) (vs : List Value) (F : List Nat) (h : ValsF m (PExpr.mk k o n v u a ks ss).row vs F) (hn : F.Nodup) (ho : Own m F) (h0 : 0 ≤ q) (h1 : q + (cnL cnE ks + cnL cnP ss) ≤ 4611686018427387904) :
   FCalls Try.prog 32 #[.agg vs.toArray, .int .i64 q] m fun r m' => r = .int .i64 (q + (cnL cnE ks + cnL cnP ss)) ∧ Chg F m m' ∧ ValsF m' (PExpr.mk k o n v u a (mkL mkE cnE q ks) (mkL mkP cnP (q + cnL cnE ks) ss)).row vs F ∧ Own m' F := by
  obtain ⟨x, y, F1, F2, rfl, hv, c1, c2, rfl⟩ := PExpr.vals h
  obtain ⟨ax, px, rfl, _⟩ := c1.slice
  obtain ⟨ay, py, rfl, _⟩ := c2.slice
  rw [List.nodup_append] at hn
  obtain ⟨n1, n2, n12⟩ := hn
  have o1 : Own m F1 := ho.sub (by simp; intro x hx; simp [hx])
  have o2 : Own m F2 := ho.sub (by simp; intro x hx; simp [hx])
  refine fcalls_of_vc (args := [_, _]) follows_mixed Try.func32 rfl (by kernel_rfl) (by simp [Try.f32]) ?_
  simp only [Try.f32, vcs, tbl, crs, List.map, reduceIte, Nat.reduceLT, Nat.reduceLeDiff, Nat.reduceEqDiff, Nat.reduceAdd, Nat.reduceMul, Nat.reduceSub, List.all_cons, List.all_nil, Bool.and_true, Bool.and_self, ne_eq, reduceCtorEq, not_false_eq_true, and_self]
  refine (markPExprS _ (fun e _ => mk_all.1 e) _ _ _ _ c1 n1 o1 h0 (by omega)).mono ?_
  rintro r m1 ⟨rfl, c1', o1', g1⟩
  simp only [vcs, tbl, crs, List.map, reduceIte, Nat.reduceLT, Nat.reduceLeDiff, Nat.reduceEqDiff, Nat.reduceAdd, Nat.reduceMul, Nat.reduceSub, List.all_cons, List.all_nil, Bool.and_true, Bool.and_self, ne_eq, reduceCtorEq, not_false_eq_true, and_self]
  have d2 : ∀ x ∈ F2, x ∉ F1 := fun x hx e => n12 x e x hx rfl
  have c2' := c2.chg g1 d2
  have o2' : Own m1 F2 := fun x hx => by
    obtain ⟨cs, t, e⟩ := o2 x hx
    exact ⟨cs, t, (g1.blocks x (vis_of_own ⟨cs, t, e⟩) (d2 x hx)).trans e⟩
  refine (markPlanS _ (fun e _ => mk_all.2.1 e) _ _ _ _ c2' n2 o2' (by omega) (by omega)).mono ?_
  rintro r m2 ⟨rfl, c2'', o2'', g2⟩
  simp only [vcs, tbl, crs, List.map, reduceIte, Nat.reduceLT, Nat.reduceLeDiff, Nat.reduceEqDiff, Nat.reduceAdd, Nat.reduceMul, Nat.reduceSub, List.all_cons, List.all_nil, Bool.and_true, Bool.and_self, ne_eq, reduceCtorEq, not_false_eq_true, and_self]
  have d1 : ∀ x ∈ F1, x ∉ F2 := fun x hx e => n12 x hx x e rfl
  have o1'' : Own m2 F1 := fun x hx => by
    obtain ⟨cs, t, e⟩ := o1' x hx
    exact ⟨cs, t, (g2.blocks x (vis_of_own ⟨cs, t, e⟩) (d1 x hx)).trans e⟩
  exact ⟨by rw [Int.add_assoc], (g1.mono (by simp; intro x hx; exact .inl hx)).trans (g2.mono (by simp; intro x hx; exact .inr hx)),
    PExpr.mk_valsK (mkL_len _ _ _ _) (mkL_len _ _ _ _) hv (c1'.chg g2 d1) c2'', o1''.app o2''⟩
theorem heldPExpr_c (k o n v u a ks ss) (q : Int) (m : World) (vs : List Value) (F : List Nat) (h : ValsF m (PExpr.mk k o n v u a (mkL mkE cnE q ks) (mkL mkP cnP (q + cnL cnE ks) ss)).row vs F) (h0 : 0 ≤ q) (h1 : q + (cnL cnE ks + cnL cnP ss) ≤ 4611686018427387904) :
   FCalls Try.prog 33 #[.agg vs.toArray, .int .i64 q] m fun r m' => Grow m m' ∧ r = .int .i64 (q + (cnL cnE ks + cnL cnP ss)) := by
  obtain ⟨x, y, F1, F2, rfl, c1, c2⟩ := PExpr.valsK (mkL_len _ _ _ _) (mkL_len _ _ _ _) h
  obtain ⟨ax, px, rfl, _⟩ := c1.slice
  obtain ⟨ay, py, rfl, _⟩ := c2.slice
  refine fcalls_of_vc (args := [_, _]) follows_mixed Try.func33 rfl (by kernel_rfl) (by simp [Try.f33]) ?_
  simp only [Try.f33, vcs, tbl, crs, List.map, reduceIte, Nat.reduceLT, Nat.reduceLeDiff, Nat.reduceEqDiff, Nat.reduceAdd, Nat.reduceMul, Nat.reduceSub, List.all_cons, List.all_nil, Bool.and_true, Bool.and_self, ne_eq, reduceCtorEq, not_false_eq_true, and_self]
  refine (heldPExprS _ (fun e _ => hd_all.1 e) _ _ _ _ c1 h0 (by omega)).mono ?_
  rintro r m1 ⟨g1, rfl⟩
  simp only [vcs, tbl, crs, List.map, reduceIte, Nat.reduceLT, Nat.reduceLeDiff, Nat.reduceEqDiff, Nat.reduceAdd, Nat.reduceMul, Nat.reduceSub, List.all_cons, List.all_nil, Bool.and_true, Bool.and_self, ne_eq, reduceCtorEq, not_false_eq_true, and_self]
  refine ⟨fun h => absurd h (by omega), fun _ => ?_⟩
  refine (heldPlanS _ (fun e _ => hd_all.2.1 e) _ _ _ _ (c2.grow g1) (by omega) (by omega)).mono ?_
  rintro r m2 ⟨g2, rfl⟩
  simp only [vcs, tbl, crs, List.map, reduceIte, Nat.reduceLT, Nat.reduceLeDiff, Nat.reduceEqDiff, Nat.reduceAdd, Nat.reduceMul, Nat.reduceSub, List.all_cons, List.all_nil, Bool.and_true, Bool.and_self, ne_eq, reduceCtorEq, not_false_eq_true, and_self]
  exact ⟨fun h => absurd h (by omega), fun _ => ⟨g1.trans g2, by rw [Int.add_assoc]⟩⟩
theorem cnL_map_le {f : PExpr → PExpr} : ∀ {ks : List PExpr}, (∀ e ∈ ks, cnE (f e) ≤ 2 * cnE e) → cnL cnE (ks.map f) ≤ 2 * cnL cnE ks
  | [], _ => by simp [cnL]
  | e :: es, h => by
    have h1 := h e (by simp)
    have h2 := cnL_map_le (ks := es) (fun e he => h e (by simp [he]))
    simp only [List.map_cons, cnL]; omega
theorem cn_hd {f : PExpr → PExpr} {ks : List PExpr} (hl : 0 < ks.length) (h : ∀ e ∈ ks, cnE (f e) ≤ 2 * cnE e) : cnE (hdE (ks.map f)) ≤ 2 * cnL cnE ks := by
  cases ks with
  | nil => simp at hl
  | cons e es => have := h e (by simp); simp only [List.map_cons, hdE, cnL]; omega
theorem cn_pos (e : PExpr) : cnE (posE e) ≤ 2 * cnE e ∧ cnE (negE e) ≤ 2 * cnE e :=
  (tree_ind (A := fun e => cnE (posE e) ≤ 2 * cnE e ∧ cnE (negE e) ≤ 2 * cnE e) (B := fun _ => True) (C := fun _ => True) (fun k o n v u a ks ss hk _ => by
    have hp := cnL_map_le (f := posE) (fun e he => (hk e he).1)
    have hn := cnL_map_le (f := negE) (fun e he => (hk e he).2)
    have hw : ∀ k o n v u a ks, cnE (.mk k o n v u a ks ss) = 8 + (cnL cnE ks + cnL cnP ss) := fun k o n v u a ks => by rw [cnE, cnEs_eq, cnPs_eq]
    rw [hw]
    constructor
    · rw [posE, posEs_eq, negEs_eq]
      split
      · rename_i h; have := cn_hd (f := negE) (by omega : 0 < ks.length) (fun e he => (hk e he).2); omega
      · rw [hw]; omega
    · rw [negE, posEs_eq, negEs_eq]
      split
      · rename_i h; have := cn_hd (f := posE) (by omega : 0 < ks.length) (fun e he => (hk e he).1); omega
      · split
        · rw [hw]; split <;> omega
        · split
          · rw [hw]; omega
          · rw [cnE, cnEs_eq, cnPs_eq]; simp only [cnL, hw]; omega) (fun _ _ _ _ _ _ _ _ _ _ _ _ => trivial) (fun _ _ _ => trivial)).1 e

set_option maxHeartbeats 2000000 in
theorem exactPositive (e : PExpr) (m : World) (vs : List Value) (F : List Nat) (h : ValsF m e.row vs F) :
   FCalls Try.prog 8 #[.agg vs.toArray] m fun r m' => Grow m m' ∧ r = .bool true := by
  have h0 := h
  obtain ⟨e, he⟩ : ∃ e', e = e' := ⟨_, rfl⟩
  subst he
  obtain ⟨k, o, n, v, u, a, ks, ss⟩ := e
  obtain ⟨x, y, F1, F2, rfl, hv, c1, c2, rfl⟩ := PExpr.vals h0
  obtain ⟨ax, px, rfl, _⟩ := c1.slice
  obtain ⟨ay, py, rfl, _⟩ := c2.slice
  generalize hee : PExpr.mk k o n v u a ks ss = e at h
  refine fcalls_of_vc (args := [_]) follows_mixed Try.func8 rfl (by kernel_rfl) (by simp [Try.f8]) ?_
  simp only [Try.f8, vcs, tbl, crs, List.map, reduceIte, Nat.reduceLT, Nat.reduceLeDiff, Nat.reduceEqDiff, Nat.reduceAdd, Nat.reduceMul, Nat.reduceSub, List.all_cons, List.all_nil, Bool.and_true, Bool.and_self, ne_eq, reduceCtorEq, not_false_eq_true, and_self]
  refine (sw_all.1 e _ _ _ _ h (by omega) (by omega)).mono ?_
  rintro r m1 ⟨g1, k1, rfl, hk1, hs⟩
  simp only [vcs, tbl, crs, List.map, reduceIte, Nat.reduceLT, Nat.reduceLeDiff, Nat.reduceEqDiff, Nat.reduceAdd, Nat.reduceMul, Nat.reduceSub, List.all_cons, List.all_nil, Bool.and_true, Bool.and_self, ne_eq, reduceCtorEq, not_false_eq_true, and_self]
  refine ⟨fun _ => g1, fun hn1 => ?_⟩
  obtain ⟨hs, hwt⟩ := hs (by omega)
  have hcp := (cn_pos e).1
  obtain ⟨e', hpe⟩ : ∃ e', posE e = e' := ⟨_, rfl⟩
  rw [hpe] at hcp
  subst hee
  obtain ⟨k', o', n', v', u', a', ks', ss'⟩ := e'
  have hce : cnE (.mk k o n v u a ks ss) = 8 + (cnL cnE ks + cnL cnP ss) := by rw [cnE, cnEs_eq, cnPs_eq]
  have hce' : cnE (.mk k' o' n' v' u' a' ks' ss') = 8 + (cnL cnE ks' + cnL cnP ss') := by rw [cnE, cnEs_eq, cnPs_eq]
  rw [hce] at hwt hcp
  rw [hce'] at hcp
  refine (to_all.1 _ _ _ _ (h.grow g1) hs).mono ?_
  rintro r m2 ⟨hg2, us2, F2, rfl, hv2, hf2, ho2⟩
  have hw2 := hv2
  obtain ⟨x2, y2, G2, H2, rfl, _, d2, f2, hF2⟩ := PExpr.vals hv2
  obtain ⟨a2, p2, rfl, _⟩ := d2.slice
  obtain ⟨b2, q2, rfl, _⟩ := f2.slice
  have g2 := g1.trans hg2
  simp only [vcs, tbl, crs, List.map, reduceIte, Nat.reduceLT, Nat.reduceLeDiff, Nat.reduceEqDiff, Nat.reduceAdd, Nat.reduceMul, Nat.reduceSub, List.all_cons, List.all_nil, Bool.and_true, Bool.and_self, ne_eq, reduceCtorEq, not_false_eq_true, and_self]
  refine (specPositive_c _ hs _ _ _ hw2).mono ?_
  rintro r m3 ⟨hg3, us3, F3, rfl, hv3, hf3, ho3⟩
  rw [hpe] at hv3
  have hw3 := hv3
  obtain ⟨x3, y3, G3, H3, rfl, _, d3, f3, hF3⟩ := PExpr.vals hv3
  obtain ⟨a3, p3, rfl, _⟩ := d3.slice
  obtain ⟨b3, q3, rfl, _⟩ := f3.slice
  have g3 := g2.trans hg3
  simp only [vcs, tbl, crs, List.map, reduceIte, Nat.reduceLT, Nat.reduceLeDiff, Nat.reduceEqDiff, Nat.reduceAdd, Nat.reduceMul, Nat.reduceSub, List.all_cons, List.all_nil, Bool.and_true, Bool.and_self, ne_eq, reduceCtorEq, not_false_eq_true, and_self]
  refine (to_all.1 _ _ _ _ (h.grow g3) hs).mono ?_
  rintro r m4 ⟨hg4, us4, F4, rfl, hv4, hf4, ho4⟩
  have hw4 := hv4
  obtain ⟨x4, y4, G4, H4, rfl, _, d4, f4, hF4⟩ := PExpr.vals hv4
  obtain ⟨a4, p4, rfl, _⟩ := d4.slice
  obtain ⟨b4, q4, rfl, _⟩ := f4.slice
  have g4 := g3.trans hg4
  simp only [vcs, tbl, crs, List.map, reduceIte, Nat.reduceLT, Nat.reduceLeDiff, Nat.reduceEqDiff, Nat.reduceAdd, Nat.reduceMul, Nat.reduceSub, List.all_cons, List.all_nil, Bool.and_true, Bool.and_self, ne_eq, reduceCtorEq, not_false_eq_true, and_self]
  refine ((pos_all _ hs).1 _ _ _ hw4).mono ?_
  rintro r m5 ⟨hg5, us5, F5, rfl, hv5, hf5, ho5⟩
  rw [hpe] at hv5
  have hw5 := hv5
  obtain ⟨x5, y5, G5, H5, rfl, _, d5, f5, hF5⟩ := PExpr.vals hv5
  obtain ⟨a5, p5, rfl, _⟩ := d5.slice
  obtain ⟨b5, q5, rfl, _⟩ := f5.slice
  have g5 := g4.trans hg5
  simp only [vcs, tbl, crs, List.map, reduceIte, Nat.reduceLT, Nat.reduceLeDiff, Nat.reduceEqDiff, Nat.reduceAdd, Nat.reduceMul, Nat.reduceSub, List.all_cons, List.all_nil, Bool.and_true, Bool.and_self, ne_eq, reduceCtorEq, not_false_eq_true, and_self]
  have hw3 := (hw3.grow hg4).grow hg5
  refine (eq_all.1 _ _ _ _ _ _ _ hw5 hw3).mono ?_
  rintro r m6 ⟨hg6, bb6, rfl, hb6⟩
  obtain rfl : bb6 = true := hb6.2 rfl
  have g6 := g5.trans hg6
  simp only [vcs, tbl, crs, List.map, reduceIte, Nat.reduceLT, Nat.reduceLeDiff, Nat.reduceEqDiff, Nat.reduceAdd, Nat.reduceMul, Nat.reduceSub, List.all_cons, List.all_nil, Bool.and_true, Bool.and_self, ne_eq, reduceCtorEq, not_false_eq_true, and_self, Bool.not_true]
  refine ⟨fun h => by simp at h, fun _ => ?_⟩
  refine vcDrawn.introL (.take 0 (.take 1 (.br 2 (.br 3 (.take 4 .done) .nobr) .nobr))) (by kernel_rfl) ?_
  simp only [vcs, tbl, crs, List.map, reduceIte, Nat.reduceLT, Nat.reduceLeDiff, Nat.reduceEqDiff, Nat.reduceAdd, Nat.reduceMul, Nat.reduceSub, List.all_cons, List.all_nil, Bool.and_true, Bool.and_self, ne_eq, reduceCtorEq, not_false_eq_true, and_self]
  refine (to_all.1 _ _ _ _ (h.grow g6) hs).mono ?_
  rintro r m7 ⟨hg7, us7, F7, rfl, hv7, hf7, ho7⟩
  have hw7 := hv7
  obtain ⟨x7, y7, G7, H7, rfl, _, d7, f7, hF7⟩ := PExpr.vals hv7
  obtain ⟨a7, p7, rfl, _⟩ := d7.slice
  obtain ⟨b7, q7, rfl, _⟩ := f7.slice
  have g7 := g6.trans hg7
  refine ⟨hg7, ?_⟩
  simp only [vcs, tbl, crs, List.map, reduceIte, Nat.reduceLT, Nat.reduceLeDiff, Nat.reduceEqDiff, Nat.reduceAdd, Nat.reduceMul, Nat.reduceSub, List.all_cons, List.all_nil, Bool.and_true, Bool.and_self, ne_eq, reduceCtorEq, not_false_eq_true, and_self]
  have hw4 := ((hw4.grow hg5).grow hg6).grow hg7
  refine (eq_all.1 _ _ _ _ _ _ _ hw4 hw7).mono ?_
  rintro r m8 ⟨hg8, bb8, rfl, hb8⟩
  obtain rfl : bb8 = true := hb8.2 rfl
  have g8 := g7.trans hg8
  refine ⟨hg8, ?_⟩
  simp only [vcs, tbl, crs, List.map, reduceIte, Nat.reduceLT, Nat.reduceLeDiff, Nat.reduceEqDiff, Nat.reduceAdd, Nat.reduceMul, Nat.reduceSub, List.all_cons, List.all_nil, Bool.and_true, Bool.and_self, ne_eq, reduceCtorEq, not_false_eq_true, and_self, Bool.not_true]
  refine ⟨fun h => by simp at h, fun _ => ?_⟩
  have v3 := hw3.vis
  have n34 : ∀ x ∈ F3, x ∉ F4 := fun x hx e => hf4.2 x e (hv3.vis x hx)
  have n35 : ∀ x ∈ F3, x ∉ F5 := fun x hx e => hf5.2 x e (hg4.vis (hv3.vis x hx))
  have n54 : ∀ x ∈ F5, x ∉ F4 := fun x hx e => hf5.2 x hx (hv4.vis x e)
  have hg58 := (hg6.trans hg7).trans hg8
  refine (markPExpr_c _ _ _ _ _ _ _ _ 1 _ _ _ (hw4.grow hg8) hf4.1 ((((ho4.grow hg5).grow hg6).grow hg7).grow hg8) (by omega) (by omega)).mono ?_
  rintro r m9 ⟨rfl, cg9, hv9, ho9⟩
  have g9 := g8.chg_trans cg9 (fun x hx hv => hf4.2 x hx (g3.vis hv))
  have hw3 := (hw3.grow hg58).chg cg9 n34
  have hw5 := (hw5.grow hg58).chg cg9 n54
  have ho5 : Own m9 F5 := fun x hx => by
    obtain ⟨cs, t, e⟩ := (ho5.grow hg58) x hx
    exact ⟨cs, t, (cg9.blocks x (vis_of_own ⟨cs, t, e⟩) (n54 x hx)).trans e⟩
  simp only [vcs, tbl, crs, List.map, reduceIte, Nat.reduceLT, Nat.reduceLeDiff, Nat.reduceEqDiff, Nat.reduceAdd, Nat.reduceMul, Nat.reduceSub, List.all_cons, List.all_nil, Bool.and_true, Bool.and_self, ne_eq, reduceCtorEq, not_false_eq_true, and_self]
  have hlt9 : decide ((1 : Int) + (cnL cnE ks + cnL cnP ss) < 0) = false := by simp; omega
  rw [hlt9]
  simp only [vcs, tbl, crs, List.map, reduceIte, Nat.reduceLT, Nat.reduceLeDiff, Nat.reduceEqDiff, Nat.reduceAdd, Nat.reduceMul, Nat.reduceSub, List.all_cons, List.all_nil, Bool.and_true, Bool.and_self, ne_eq, reduceCtorEq, not_false_eq_true, and_self]
  refine (eq_all.1 _ _ _ _ _ _ _ hw5 hw3).mono ?_
  rintro r m10 ⟨hg10, bb10, rfl, hb10⟩
  obtain rfl : bb10 = true := hb10.2 rfl
  have g10 := g9.trans hg10
  simp only [vcs, tbl, crs, List.map, reduceIte, Nat.reduceLT, Nat.reduceLeDiff, Nat.reduceEqDiff, Nat.reduceAdd, Nat.reduceMul, Nat.reduceSub, List.all_cons, List.all_nil, Bool.and_true, Bool.and_self, ne_eq, reduceCtorEq, not_false_eq_true, and_self, Bool.not_true]
  refine ⟨fun h => by simp at h, fun _ => ?_⟩
  refine (markPExpr_c _ _ _ _ _ _ _ _ 1 _ _ _ (hw5.grow hg10) hf5.1 (ho5.grow hg10) (by omega) (by omega)).mono ?_
  rintro r m11 ⟨rfl, cg11, hv11, ho11⟩
  have g11 := g10.chg_trans cg11 (fun x hx hv => hf5.2 x hx (g4.vis hv))
  have hw3 := (hw3.grow hg10).chg cg11 n35
  simp only [vcs, tbl, crs, List.map, reduceIte, Nat.reduceLT, Nat.reduceLeDiff, Nat.reduceEqDiff, Nat.reduceAdd, Nat.reduceMul, Nat.reduceSub, List.all_cons, List.all_nil, Bool.and_true, Bool.and_self, ne_eq, reduceCtorEq, not_false_eq_true, and_self]
  refine (heldPExpr_c _ _ _ _ _ _ _ _ 1 _ _ _ hv11 (by omega) (by omega)).mono ?_
  rintro r m12 ⟨hg12, rfl⟩
  have g12 := g11.trans hg12
  simp only [vcs, tbl, crs, List.map, reduceIte, Nat.reduceLT, Nat.reduceLeDiff, Nat.reduceEqDiff, Nat.reduceAdd, Nat.reduceMul, Nat.reduceSub, List.all_cons, List.all_nil, Bool.and_true, Bool.and_self, ne_eq, reduceCtorEq, not_false_eq_true, and_self]
  refine ⟨fun h => absurd h (by omega), fun _ => ?_⟩
  simp only [vcs, tbl, crs, List.map, reduceIte, Nat.reduceLT, Nat.reduceLeDiff, Nat.reduceEqDiff, Nat.reduceAdd, Nat.reduceMul, Nat.reduceSub, List.all_cons, List.all_nil, Bool.and_true, Bool.and_self, ne_eq, reduceCtorEq, not_false_eq_true, and_self, decide_true, Bool.not_true]
  refine ⟨fun h => by simp at h, fun _ => ?_⟩
  refine (to_all.1 _ _ _ _ (h.grow g12) hs).mono ?_
  rintro r m13 ⟨hg13, us13, F13, rfl, hv13, hf13, ho13⟩
  have hw13 := hv13
  obtain ⟨x13, y13, G13, H13, rfl, _, d13, f13, hF13⟩ := PExpr.vals hv13
  obtain ⟨a13, p13, rfl, _⟩ := d13.slice
  obtain ⟨b13, q13, rfl, _⟩ := f13.slice
  have g13 := g12.trans hg13
  simp only [vcs, tbl, crs, List.map, reduceIte, Nat.reduceLT, Nat.reduceLeDiff, Nat.reduceEqDiff, Nat.reduceAdd, Nat.reduceMul, Nat.reduceSub, List.all_cons, List.all_nil, Bool.and_true, Bool.and_self, ne_eq, reduceCtorEq, not_false_eq_true, and_self]
  refine ((pos_all _ hs).1 _ _ _ hw13).mono ?_
  rintro r m14 ⟨hg14, us14, F14, rfl, hv14, hf14, ho14⟩
  rw [hpe] at hv14
  have hw14 := hv14
  obtain ⟨x14, y14, G14, H14, rfl, _, d14, f14, hF14⟩ := PExpr.vals hv14
  obtain ⟨a14, p14, rfl, _⟩ := d14.slice
  obtain ⟨b14, q14, rfl, _⟩ := f14.slice
  have g14 := g13.trans hg14
  simp only [vcs, tbl, crs, List.map, reduceIte, Nat.reduceLT, Nat.reduceLeDiff, Nat.reduceEqDiff, Nat.reduceAdd, Nat.reduceMul, Nat.reduceSub, List.all_cons, List.all_nil, Bool.and_true, Bool.and_self, ne_eq, reduceCtorEq, not_false_eq_true, and_self]
  have hw3 := ((hw3.grow hg12).grow hg13).grow hg14
  refine (eq_all.1 _ _ _ _ _ _ _ hw14 hw3).mono ?_
  rintro r m15 ⟨hg15, bb15, rfl, hb15⟩
  obtain rfl : bb15 = true := hb15.2 rfl
  have g15 := g14.trans hg15
  simp only [vcs, tbl, crs, List.map, reduceIte, Nat.reduceLT, Nat.reduceLeDiff, Nat.reduceEqDiff, Nat.reduceAdd, Nat.reduceMul, Nat.reduceSub, List.all_cons, List.all_nil, Bool.and_true, Bool.and_self, ne_eq, reduceCtorEq, not_false_eq_true, and_self, Bool.not_true]
  refine ⟨fun h => by simp at h, fun _ => ?_⟩
  refine (heldPExpr_c _ _ _ _ _ _ _ _ 1 _ _ _ ((((hv11.grow hg12).grow hg13).grow hg14).grow hg15) (by omega) (by omega)).mono ?_
  rintro r m16 ⟨hg16, rfl⟩
  have g16 := g15.trans hg16
  simp only [vcs, tbl, crs, List.map, reduceIte, Nat.reduceLT, Nat.reduceLeDiff, Nat.reduceEqDiff, Nat.reduceAdd, Nat.reduceMul, Nat.reduceSub, List.all_cons, List.all_nil, Bool.and_true, Bool.and_self, ne_eq, reduceCtorEq, not_false_eq_true, and_self]
  refine ⟨fun h => absurd h (by omega), fun _ => ?_⟩
  simp only [vcs, tbl, crs, List.map, reduceIte, Nat.reduceLT, Nat.reduceLeDiff, Nat.reduceEqDiff, Nat.reduceAdd, Nat.reduceMul, Nat.reduceSub, List.all_cons, List.all_nil, Bool.and_true, Bool.and_self, ne_eq, reduceCtorEq, not_false_eq_true, and_self, decide_true, Bool.not_true]
  exact ⟨fun h => by simp at h, fun _ => g16⟩

end Go.Proofs.Ytklligemdfnimaa
set_option linter.unusedVariables false
set_option linter.unusedSimpArgs false
set_option maxRecDepth 4000
namespace Go.Proofs.Ytklligemdfnimaa
open Go Go.Vc
theorem l31List_c (es : List PExpr) (hx : ∀ e ∈ es, ESmall e) (hlen : es.length ≤ 1048576) (m : World) (v : Value) (F : List Nat) (h : CellF m (.sl es.length (es.flatMap PExpr.row)) v F) :
   FCalls Try.prog 95 #[v] m fun r m' => Grow m m' ∧ ∃ F', CellF m' (.sl es.length ((es.map posE).flatMap PExpr.row)) r F' ∧ Fresh m F' ∧ Own m' F' := by
  obtain ⟨a, cap, rfl, hcap, hmax, hz⟩ := h.slice
  have hmax' : cap ≤ 9223372036854775807 := hmax
  have hml : maxLen = 9223372036854775807 := rfl
  refine fcalls_of_vc (args := [_]) follows_mixed Try.func95 rfl (by kernel_rfl) (by simp [Try.f95]) ?_
  simp only [Try.f95, vcs, tbl, crs, List.map, reduceIte, Nat.reduceLT, Nat.reduceLeDiff, Nat.reduceEqDiff, Nat.reduceAdd, Nat.reduceMul, Nat.reduceSub, List.all_cons, List.all_nil, Bool.and_true, Bool.and_self, ne_eq, reduceCtorEq, not_false_eq_true, and_self]
  simp only [vcs, tbl, crs, List.map, reduceIte, Nat.reduceLT, Nat.reduceLeDiff, Nat.reduceEqDiff, Nat.reduceAdd, Nat.reduceMul, Nat.reduceSub, List.all_cons, List.all_nil, Bool.and_true, Bool.and_self, ne_eq, reduceCtorEq, not_false_eq_true, and_self, range0, rep0, Nat.zero_mul, Nat.zero_le]
  refine vcLoop.ren 5 19 (by decide) (by decide) (fun f L m1 => ∃ (k : Nat) (dn : List Value) (F1 : List Nat) (cap' : Nat), f 4 = .c (.v (.int .i64 k)) ∧ f 3 = .c (.bs 19 k) ∧ L = [(19, .arr 56 dn cap')] ∧ k ≤ cap' ∧ cap' ≤ maxLen ∧ k ≤ es.length ∧ ValsF m1 (((es.take k).map posE).flatMap PExpr.row) dn F1 ∧ NewOwn m m1 F1)
    (fun f _ _ => (es.length - ixS (f 4)).toNat) ⟨[(19, .arr 56 [] 0)], ?_, 0, [], [], 0, ?_⟩ ?_
  · simp only [vcs, tbl, crs, List.map, reduceIte, Nat.reduceLT, Nat.reduceLeDiff, Nat.reduceEqDiff, Nat.reduceAdd, Nat.reduceMul, Nat.reduceSub, List.all_cons, List.all_nil, Bool.and_true, Bool.and_self, ne_eq, reduceCtorEq, not_false_eq_true, and_self]
    exact Sub.one _ _
  · simp only [vcs, tbl, crs, List.map, reduceIte, Nat.reduceLT, Nat.reduceLeDiff, Nat.reduceEqDiff, Nat.reduceAdd, Nat.reduceMul, Nat.reduceSub, List.all_cons, List.all_nil, Bool.and_true, Bool.and_self, ne_eq, reduceCtorEq, not_false_eq_true, and_self]
    exact ⟨rfl, Nat.zero_le _, Nat.zero_le _, rfl, NewOwn.nil⟩
  · rintro g' L1 m1 ⟨k, dn, F1, cap', h4, h5, rfl, hkc, hcm, hk, hdn, no⟩
    have hg := no.grow
    have hdl : dn.length = k * 10 := by rw [hdn.length, flatMap_len PExpr.row_len, List.length_map, List.length_take]; congr 1; omega
    simp only [vcs, tbl, crs, List.map, reduceIte, Nat.reduceLT, Nat.reduceLeDiff, Nat.reduceEqDiff, Nat.reduceAdd, Nat.reduceMul, Nat.reduceSub, List.all_cons, List.all_nil, Bool.and_true, Bool.and_self, ne_eq, reduceCtorEq, not_false_eq_true, and_self] at h4 h5
    simp only [vcs, tbl, crs, List.map, reduceIte, Nat.reduceLT, Nat.reduceLeDiff, Nat.reduceEqDiff, Nat.reduceAdd, Nat.reduceMul, Nat.reduceSub, List.all_cons, List.all_nil, Bool.and_true, Bool.and_self, ne_eq, reduceCtorEq, not_false_eq_true, and_self, h4, h5]
    refine ⟨fun hlt => ?_, fun hge => ?_⟩
    · have hlt : k < es.length := by omega
      obtain ⟨ad, vs, Fk, ha, hvl, hcell, hv, _⟩ := h.elem PExpr.row_len (by decide) (List.getElem?_eq_getElem hlt)
      refine ⟨by omega, by omega, ad, ha, vs, hvl, fun j v hj => hg.cell (by simpa using hcell j v hj), ?_⟩
      have hx1 := specPositive_c _ (hx _ (List.getElem_mem hlt))
      have hmt : ((es.take (k + 1)).map posE).flatMap PExpr.row = ((es.take k).map posE).flatMap PExpr.row ++ (posE es[k]).row := by rw [List.take_add_one, List.getElem?_eq_getElem hlt, List.map_append, List.flatMap_append]; simp only [Option.toList_some, List.map_cons, List.map_nil, List.flatMap_cons, List.flatMap_nil, List.append_nil]
      simp only [vcs, tbl, crs, List.map, reduceIte, Nat.reduceLT, Nat.reduceLeDiff, Nat.reduceEqDiff, Nat.reduceAdd, Nat.reduceMul, Nat.reduceSub, List.all_cons, List.all_nil, Bool.and_true, Bool.and_self, ne_eq, reduceCtorEq, not_false_eq_true, and_self, h4, h5]
      refine (hx1 _ _ _ (hv.grow hg)).mono ?_
      rintro r m2 ⟨hg2, us, F2, rfl, hvr, hf2, ho2⟩
      generalize posE es[k] = e' at hvr hmt
      have hvr' := hvr
      obtain ⟨kd', op', nt', vl', up', ap', ks', ss'⟩ := e'
      obtain ⟨x', y', G1', G2', rfl, _, c1', c2', hF⟩ := PExpr.vals hvr'
      obtain ⟨ax', px', rfl, _⟩ := c1'.slice
      obtain ⟨ay', py', rfl, _⟩ := c2'.slice
      simp only [vcs, tbl, crs, List.map, reduceIte, Nat.reduceLT, Nat.reduceLeDiff, Nat.reduceEqDiff, Nat.reduceAdd, Nat.reduceMul, Nat.reduceSub, List.all_cons, List.all_nil, Bool.and_true, Bool.and_self, ne_eq, reduceCtorEq, not_false_eq_true, and_self, h4, h5, range1, rep1, Nat.zero_mul, Nat.zero_add, Nat.le_refl, hdl]
      refine ⟨hvr.oneCell, by omega, by omega, fun cap2 hc1 hc2 => ?_⟩
      rw [wrap_id (by omega) (by omega)]
      refine ⟨[_], Sub.head _ _ _, ⟨k + 1, _, F1 ++ F2, cap2, by simp, rfl, rfl, by omega, by omega, by omega, ?_, no.step hg2 hf2 ho2⟩, by omega⟩
      rw [hmt, List.take_of_length_le (l := dn) (by omega)]
      exact (hdn.grow hg2).join hvr
    · have : k = es.length := by omega
      subst this
      intro b m' hp
      rw [List.take_length] at hdn
      exact ⟨hg.trans hp.grow, CellF.of_pubO hp hdn hg no.fresh no.own hkc hcm⟩
def MPR (f : PExpr → PExpr) (p : Plan) (m : World) (r : Value) (m' : World) : Prop := Grow m m' ∧ ∃ us F', r = .agg us.toArray ∧ ValsF m' (mapP f p).row us F' ∧ Fresh m F' ∧ Own m' F'
theorem implPositivePlan_c (p : Plan) (hs : PSmall p) (m : World) (vs : List Value) (F : List Nat) (h : ValsF m p.row vs F) : FCalls Try.prog 37 #[.agg vs.toArray] m (MPR posE p m) := by
  obtain ⟨t, on, wh, or, it, nm, ds, li⟩ := p
  have hs0 := hs
  obtain ⟨s1, s2, s3, s4, s5, s6, s7, s8, s9, s10, s11⟩ := hs0
  have h0 := h
  obtain ⟨v1, v2, v3, v4, v5, v6, F1, F2, F3, F4, F5, F6, rfl, c1, c2, c3, c4, c5, c6, rfl⟩ := Plan.vals h0
  obtain ⟨at_, pt, rfl, _⟩ := c1.slice
  obtain ⟨ao, po, rfl, _⟩ := c2.slice
  obtain ⟨aw, pw, rfl, _⟩ := c3.slice
  obtain ⟨ar, pr, rfl, _⟩ := c4.slice
  obtain ⟨ai, pi, rfl, _⟩ := c5.slice
  obtain ⟨an, pn, rfl, _⟩ := c6.slice
  refine fcalls_of_vc (args := [_]) follows_mixed Try.func37 rfl (by kernel_rfl) (by simp [Try.f37]) ?_
  simp only [Try.f37, vcs, tbl, crs, List.map, reduceIte, Nat.reduceLT, Nat.reduceLeDiff, Nat.reduceEqDiff, Nat.reduceAdd, Nat.reduceMul, Nat.reduceSub, List.all_cons, List.all_nil, Bool.and_true, Bool.and_self, ne_eq, reduceCtorEq, not_false_eq_true, and_self]
  refine (mapPlan_c _ _ _ _ _ _ _ _ 27 posE (fun l hl e he => (pos_all e (s4 l hl e he)).1) (fun e he => (pos_all e (s6 e he)).1) (fun s hs' e d hed => (pos_all e (by have := s8 s hs'; rw [hed] at this; cases this; assumption)).1) (fun e he => (pos_all e (s10 e he)).1) hs _ _ _ h).mono ?_
  rintro r m1 ⟨hg1, us, F', rfl, hvr, hf1, ho1⟩
  have hvr' := hvr
  rw [mapP] at hvr'
  obtain ⟨z1, z2, z3, z4, z5, z6, D1, D2, D3, D4, D5, D6, rfl, r1, r2, r3, r4, r5, r6, hF4⟩ := Plan.vals hvr'
  obtain ⟨d1, k1, rfl, _⟩ := r1.slice
  obtain ⟨d2, k2, rfl, _⟩ := r2.slice
  obtain ⟨d3, k3, rfl, _⟩ := r3.slice
  obtain ⟨d4, k4, rfl, _⟩ := r4.slice
  obtain ⟨d5, k5, rfl, _⟩ := r5.slice
  obtain ⟨d6, k6, rfl, _⟩ := r6.slice
  simp only [vcs, tbl, crs, List.map, reduceIte, Nat.reduceLT, Nat.reduceLeDiff, Nat.reduceEqDiff, Nat.reduceAdd, Nat.reduceMul, Nat.reduceSub, List.all_cons, List.all_nil, Bool.and_true, Bool.and_self, ne_eq, reduceCtorEq, not_false_eq_true, and_self]
  exact ⟨hg1, _, _, rfl, hvr, hf1, ho1⟩

end Go.Proofs.Ytklligemdfnimaa
set_option linter.unusedVariables false
set_option linter.unusedSimpArgs false
set_option maxRecDepth 4000
namespace Go.Proofs.Ytklligemdfnimaa
open Go Go.Vc
set_option maxHeartbeats 1000000 in
theorem specPositivePlan_c (p : Plan) (hs : PSmall p) (m : World) (vs : List Value) (F : List Nat) (h : ValsF m p.row vs F) : FCalls Try.prog 35 #[.agg vs.toArray] m fun r m' => Grow m m' ∧ ∃ us F', r = .agg us.toArray ∧ ValsF m' (mapP posE p).row us F' := by
  obtain ⟨t, on, wh, or, it, nm, ds, li⟩ := p
  have hs0 := hs
  obtain ⟨s1, s2, s3, s4, s5, s6, s7, s8, s9, s10, s11⟩ := hs0
  have hml : maxLen = 9223372036854775807 := rfl
  have h0 := h
  obtain ⟨v1, v2, v3, v4, v5, v6, F1, F2, F3, F4, F5, F6, rfl, c1, c2, c3, c4, c5, c6, rfl⟩ := Plan.vals h0
  obtain ⟨at_, pt, rfl, _⟩ := c1.slice
  obtain ⟨ao, po, rfl, hao, hmo, _⟩ := c2.slice
  obtain ⟨aw, pw, rfl, _⟩ := c3.slice
  obtain ⟨ar, pr, rfl, har, hmr, _⟩ := c4.slice
  obtain ⟨ai, pi, rfl, _⟩ := c5.slice
  obtain ⟨an, pn, rfl, _⟩ := c6.slice
  refine fcalls_of_vc (args := [_]) follows_mixed Try.func35 rfl (by kernel_rfl) (by simp [Try.f35]) ?_
  simp only [Try.f35, vcs, tbl, crs, List.map, reduceIte, Nat.reduceLT, Nat.reduceLeDiff, Nat.reduceEqDiff, Nat.reduceAdd, Nat.reduceMul, Nat.reduceSub, List.all_cons, List.all_nil, Bool.and_true, Bool.and_self, ne_eq, reduceCtorEq, not_false_eq_true, and_self]
  refine (cp_all.2.1 _ hs _ _ _ h).mono ?_
  rintro r m1 ⟨hg1, us, F', rfl, hvr, hf1, ho1⟩
  obtain ⟨z1, z2, z3, z4, z5, z6, D1, D2, D3, D4, D5, D6, rfl, r1, r2, r3, r4, r5, r6, rfl⟩ := Plan.vals hvr
  obtain ⟨d1, k1, rfl, _⟩ := r1.slice
  obtain ⟨d2, k2, rfl, hk2, hk2m, _⟩ := r2.slice
  obtain ⟨d3, k3, rfl, _⟩ := r3.slice
  obtain ⟨d4, k4, rfl, hk4, hk4m, _⟩ := r4.slice
  obtain ⟨d5, k5, rfl, _⟩ := r5.slice
  obtain ⟨d6, k6, rfl, _⟩ := r6.slice
  have hnd := hf1.1
  simp only [List.nodup_append, List.mem_append] at hnd
  obtain ⟨nd1, ⟨nd2, ⟨nd3, ⟨nd4, ⟨nd5, nd6, x56⟩, x4⟩, x3⟩, x2⟩, x1⟩ := hnd
  have o2 : Own m1 D2 := ho1.sub (by intro x hx; simp [hx])
  have o4 : Own m1 D4 := ho1.sub (by intro x hx; simp [hx])
  have fr2 : ∀ x ∈ D2, ¬ Go.Vc.vis m x := fun x hx => hf1.2 x (by simp [hx])
  have fr4 : ∀ x ∈ D4, ¬ Go.Vc.vis m x := fun x hx => hf1.2 x (by simp [hx])
  simp only [vcs, tbl, crs, List.map, reduceIte, Nat.reduceLT, Nat.reduceLeDiff, Nat.reduceEqDiff, Nat.reduceAdd, Nat.reduceMul, Nat.reduceSub, List.all_cons, List.all_nil, Bool.and_true, Bool.and_self, ne_eq, reduceCtorEq, not_false_eq_true, and_self]
  refine vcLoop.cut 0 (fun f L m3 => f 1 = .c (.bp 1 0) ∧ f 2 = .c (.bp 2 0) ∧ f 3 = .c (.bp 3 0) ∧ L = [(3, .str 74 [.v (.slice d1 t.length k1), .v (.slice d2 on.length k2), .v (.slice d3 wh.length k3), .v (.slice d4 or.length k4), .v (.slice d5 it.length k5), .v (.slice d6 nm.length k6), .v (.bool ds), .v (.int .i64 li)]), (2, .str 74 [.v (.slice none 0 0), .v (.slice none 0 0), .v (.slice none 0 0), .v (.slice none 0 0), .v (.slice none 0 0), .v (.slice none 0 0), .v (.bool false), .v (.int .i64 0)]), (1, .str 74 [.v (.slice at_ t.length pt), .v (.slice ao on.length po), .v (.slice aw wh.length pw), .v (.slice ar or.length pr), .v (.slice ai it.length pi), .v (.slice an nm.length pn), .v (.bool ds), .v (.int .i64 li)])] ∧ ∃ G2, CellF m3 (.sl on.length ((on.map fun l => l.map posE).flatMap erow)) (.slice d2 on.length k2) G2 ∧ Chg D2 m1 m3 ∧ (∀ x ∈ G2, x ∈ D2 ∨ ¬ Go.Vc.vis m1 x)) ?_ ?_
  · intro K hK
    by_cases hon : on = []
    · have hl0 : on.length = 0 := by rw [hon]; rfl
      refine vcLoop.intro (fun f L m3 => f 4 = .c (.v (.int .i64 0)) ∧ m3 = m1 ∧ L = [(3, .str 74 [.v (.slice d1 t.length k1), .v (.slice d2 on.length k2), .v (.slice d3 wh.length k3), .v (.slice d4 or.length k4), .v (.slice d5 it.length k5), .v (.slice d6 nm.length k6), .v (.bool ds), .v (.int .i64 li)]), (2, .str 74 [.v (.slice none 0 0), .v (.slice none 0 0), .v (.slice none 0 0), .v (.slice none 0 0), .v (.slice none 0 0), .v (.slice none 0 0), .v (.bool false), .v (.int .i64 0)]), (1, .str 74 [.v (.slice at_ t.length pt), .v (.slice ao on.length po), .v (.slice aw wh.length pw), .v (.slice ar or.length pr), .v (.slice ai it.length pi), .v (.slice an nm.length pn), .v (.bool ds), .v (.int .i64 li)])]) (fun _ _ _ => 0) ⟨_, Sub.at 3 rfl (Sub.at 2 rfl (Sub.at 1 rfl (Sub.nil _))), ?_⟩ ?_
      · simp only [vcs, tbl, crs, List.map, reduceIte, Nat.reduceLT, Nat.reduceLeDiff, Nat.reduceEqDiff, Nat.reduceAdd, Nat.reduceMul, Nat.reduceSub, List.all_cons, List.all_nil, Bool.and_true, Bool.and_self, ne_eq, reduceCtorEq, not_false_eq_true, and_self]
      · rintro g L3 m3 ⟨h5, rfl, rfl⟩
        simp only [vcs, tbl, crs, List.map, reduceIte, Nat.reduceLT, Nat.reduceLeDiff, Nat.reduceEqDiff, Nat.reduceAdd, Nat.reduceMul, Nat.reduceSub, List.all_cons, List.all_nil, Bool.and_true, Bool.and_self, ne_eq, reduceCtorEq, not_false_eq_true, and_self] at h5
        simp only [vcs, tbl, crs, List.map, reduceIte, Nat.reduceLT, Nat.reduceLeDiff, Nat.reduceEqDiff, Nat.reduceAdd, Nat.reduceMul, Nat.reduceSub, List.all_cons, List.all_nil, Bool.and_true, Bool.and_self, ne_eq, reduceCtorEq, not_false_eq_true, and_self, h5]
        refine ⟨fun hlt => by omega, fun _ => ?_⟩
        have hmm : (on.map fun l => l.map posE).flatMap erow = on.flatMap erow := by rw [hon]; rfl
        refine hK _ _ _ ⟨?_, ?_, ?_, rfl, D2, by rw [hmm]; exact r2, Chg.refl _ _, fun x hx => .inl hx⟩ <;> simp only [vcs, tbl, crs, List.map, reduceIte, Nat.reduceLT, Nat.reduceLeDiff, Nat.reduceEqDiff, Nat.reduceAdd, Nat.reduceMul, Nat.reduceSub, List.all_cons, List.all_nil, Bool.and_true, Bool.and_self, ne_eq, reduceCtorEq, not_false_eq_true, and_self]
    · have hne : on.flatMap erow ≠ [] := fun e => by have := congrArg List.length e; rw [flatMap_len erow_len] at this; have h0 : ([] : List D).length = 0 := rfl; have : on.length ≠ 0 := fun e => hon (List.eq_nil_of_length_eq_zero e); omega
      obtain ⟨bk, ok, hax, hS0⟩ := Sd.start r2 hne nd2 o2
      subst hax
      refine vcLoop.intro (fun f L m3 => ∃ i : Nat, f 4 = .c (.v (.int .i64 i)) ∧ i ≤ on.length ∧ L = [(3, .str 74 [.v (.slice d1 t.length k1), .v (.slice (some ⟨bk, ok, none⟩) on.length k2), .v (.slice d3 wh.length k3), .v (.slice d4 or.length k4), .v (.slice d5 it.length k5), .v (.slice d6 nm.length k6), .v (.bool ds), .v (.int .i64 li)]), (2, .str 74 [.v (.slice none 0 0), .v (.slice none 0 0), .v (.slice none 0 0), .v (.slice none 0 0), .v (.slice none 0 0), .v (.slice none 0 0), .v (.bool false), .v (.int .i64 0)]), (1, .str 74 [.v (.slice at_ t.length pt), .v (.slice ao on.length po), .v (.slice aw wh.length pw), .v (.slice ar or.length pr), .v (.slice ai it.length pi), .v (.slice an nm.length pn), .v (.bool ds), .v (.int .i64 li)])] ∧ Sd m1 D2 m3 bk ok (((on.take i).map fun l => l.map posE).flatMap erow) ((on.drop i).flatMap erow))
        (fun f _ _ => (on.length - ixS (f 4)).toNat) ⟨_, Sub.at 3 rfl (Sub.at 2 rfl (Sub.at 1 rfl (Sub.nil _))), 0, ?_⟩ ?_
      · simp only [vcs, tbl, crs, List.map, reduceIte, Nat.reduceLT, Nat.reduceLeDiff, Nat.reduceEqDiff, Nat.reduceAdd, Nat.reduceMul, Nat.reduceSub, List.all_cons, List.all_nil, Bool.and_true, Bool.and_self, ne_eq, reduceCtorEq, not_false_eq_true, and_self]
        exact ⟨rfl, Nat.zero_le _, by simpa using hS0⟩
      · rintro g L3 m3 ⟨i, h5, hi, rfl, hS⟩
        have hg3 : Grow m m3 := by obtain ⟨_, _, _, _, _, _, hc, _⟩ := hS; exact hg1.chg_trans hc fr2
        simp only [vcs, tbl, crs, List.map, reduceIte, Nat.reduceLT, Nat.reduceLeDiff, Nat.reduceEqDiff, Nat.reduceAdd, Nat.reduceMul, Nat.reduceSub, List.all_cons, List.all_nil, Bool.and_true, Bool.and_self, ne_eq, reduceCtorEq, not_false_eq_true, and_self] at h5
        simp only [vcs, tbl, crs, List.map, reduceIte, Nat.reduceLT, Nat.reduceLeDiff, Nat.reduceEqDiff, Nat.reduceAdd, Nat.reduceMul, Nat.reduceSub, List.all_cons, List.all_nil, Bool.and_true, Bool.and_self, ne_eq, reduceCtorEq, not_false_eq_true, and_self, h5]
        refine ⟨fun hlt => ?_, fun hge => ?_⟩
        · have hlt : i < on.length := by omega
          obtain ⟨ad, vs, Fk, ha, hvl, hcell, hv, _⟩ := c2.elem erow_len (by decide) (List.getElem?_eq_getElem hlt)
          obtain ⟨u, hu⟩ : ∃ u, vs[0]? = some u := ⟨vs[0]'(by omega), List.getElem?_eq_getElem _⟩
          have hcu := hg3.cell (hcell 0 u hu)
          rw [add0] at hcu
          have hvu := (ValsF.one hv hu).grow hg3
          obtain ⟨au, pu, rfl, _⟩ := hvu.slice
          have hmt : ((on.take (i + 1)).map fun l => l.map posE).flatMap erow = ((on.take i).map fun l => l.map posE).flatMap erow ++ erow (on[i].map posE) := by rw [List.take_add_one, List.getElem?_eq_getElem hlt, List.map_append, List.flatMap_append]; simp only [Option.toList_some, List.map_cons, List.map_nil, List.flatMap_cons, List.flatMap_nil, List.append_nil]
          have hd : on.drop i = on[i] :: on.drop (i + 1) := List.drop_eq_getElem_cons hlt
          rw [hd, List.flatMap_cons] at hS
          have hdl : (((on.take i).map fun l => l.map posE).flatMap erow).length = i * 1 := by rw [flatMap_len erow_len, List.length_map, List.length_take]; congr 1; omega
          obtain ⟨ve, Fe, _, hve, nd, ow, hFe, nx⟩ := hS.step (p := ok + i * 1) (by rw [hdl])
          refine vcDrawn.introL (.take 0 (.take 1 (.take 2 (.take 3 (.take 4 (.take 5 (.take 6 (.take 7 (.br 8 (.take 9 (.br 10 .done .nobr)) .nobr))))))))) (by kernel_rfl) ?_
          simp only [vcs, tbl, crs, List.map, reduceIte, Nat.reduceLT, Nat.reduceLeDiff, Nat.reduceEqDiff, Nat.reduceAdd, Nat.reduceMul, Nat.reduceSub, List.all_cons, List.all_nil, Bool.and_true, Bool.and_self, ne_eq, reduceCtorEq, not_false_eq_true, and_self, h5]
          refine ⟨by omega, by omega, ad, ha, _, hcu, ?_⟩
          simp only [vcs, tbl, crs, List.map, reduceIte, Nat.reduceLT, Nat.reduceLeDiff, Nat.reduceEqDiff, Nat.reduceAdd, Nat.reduceMul, Nat.reduceSub, List.all_cons, List.all_nil, Bool.and_true, Bool.and_self, ne_eq, reduceCtorEq, not_false_eq_true, and_self, h5]
          refine (l31List_c _ (s4 _ (List.getElem_mem hlt)) (s3 _ (List.getElem_mem hlt)) _ _ _ hvu).mono ?_
          rintro r m4 ⟨hg4, Fr, cr, hfr, hor⟩
          obtain ⟨ar1, pr1, rfl, _⟩ := cr.slice
          refine ⟨hg4, ?_⟩
          have hcr : ValsF m4 (erow (on[i].map posE)) [.slice ar1 on[i].length pr1] Fr := by rw [erow, List.length_map]; exact ValsF.single cr
          obtain ⟨hst, hS2⟩ := nx m4 _ _ Fr (hg4.chg Fe) hcr hfr.1 hor (fun x hx => .inr (hfr.2 x hx)) rfl
          simp only [vcs, tbl, crs, List.map, reduceIte, Nat.reduceLT, Nat.reduceLeDiff, Nat.reduceEqDiff, Nat.reduceAdd, Nat.reduceMul, Nat.reduceSub, List.all_cons, List.all_nil, Bool.and_true, Bool.and_self, ne_eq, reduceCtorEq, not_false_eq_true, and_self, h5]
          refine ⟨by omega, by omega, _, rfl, ?_⟩
          simp only [vcs, tbl, crs, List.map, reduceIte, Nat.reduceLT, Nat.reduceLeDiff, Nat.reduceEqDiff, Nat.reduceAdd, Nat.reduceMul, Nat.reduceSub, List.all_cons, List.all_nil, Bool.and_true, Bool.and_self, ne_eq, reduceCtorEq, not_false_eq_true, and_self, h5, add_lit0]
          refine ⟨by simp [oneCell], fun j hj => by simpa [add_lit0] using hst j hj, ?_⟩
          rw [wrap_id (by omega) (by omega)]
          refine ⟨_, Sub.at 3 rfl (Sub.at 2 rfl (Sub.at 1 rfl (Sub.nil _))), ⟨i + 1, by simp, by omega, rfl, ?_⟩, by omega⟩
          rw [hmt]; exact hS2
        · have : i = on.length := by omega
          subst this
          rw [List.take_length, List.drop_length] at hS
          obtain ⟨G2, hc', _, _, cg, hsub⟩ := hS.done (n := on.length) (cap := k2) (fun e => hne (by have := congrArg List.length e; rw [flatMap_len erow_len, List.length_map] at this; have h0 : ([] : List D).length = 0 := rfl; rw [List.eq_nil_of_length_eq_zero (by omega : on.length = 0)]; rfl)) hk2 hk2m
          refine hK _ _ _ ⟨?_, ?_, ?_, rfl, G2, hc', cg, hsub⟩ <;> simp only [vcs, tbl, crs, List.map, reduceIte, Nat.reduceLT, Nat.reduceLeDiff, Nat.reduceEqDiff, Nat.reduceAdd, Nat.reduceMul, Nat.reduceSub, List.all_cons, List.all_nil, Bool.and_true, Bool.and_self, ne_eq, reduceCtorEq, not_false_eq_true, and_self]
  · rintro f L m3 ⟨e1, e2, e3, rfl, G2, con, cg3, sub3⟩
    have g3 : Grow m m3 := hg1.chg_trans cg3 fr2
    simp only [vcs, tbl, crs, List.map, reduceIte, Nat.reduceLT, Nat.reduceLeDiff, Nat.reduceEqDiff, Nat.reduceAdd, Nat.reduceMul, Nat.reduceSub, List.all_cons, List.all_nil, Bool.and_true, Bool.and_self, ne_eq, reduceCtorEq, not_false_eq_true, and_self, e1, e2, e3]
    refine (l31List_c _ s6 s5 _ _ _ (c3.grow g3)).mono ?_
    rintro r m4 ⟨hg4, W3, cw, hfw, how⟩
    obtain ⟨w3, q3, rfl, _⟩ := cw.slice
    simp only [vcs, tbl, crs, List.map, reduceIte, Nat.reduceLT, Nat.reduceLeDiff, Nat.reduceEqDiff, Nat.reduceAdd, Nat.reduceMul, Nat.reduceSub, List.all_cons, List.all_nil, Bool.and_true, Bool.and_self, ne_eq, reduceCtorEq, not_false_eq_true, and_self, e1, e2, e3]
    have g4 := g3.trans hg4
    have d42 : ∀ x ∈ D4, x ∉ D2 := fun x hx e => x2 x e x (by simp [hx]) rfl
    have r4' := (r4.chg cg3 d42).grow hg4
    have o4' := (o4.chgD cg3 d42).grow hg4
    refine vcLoop.cut 2 (fun f L m5 => f 1 = .c (.bp 1 0) ∧ f 2 = .c (.bp 2 0) ∧ f 3 = .c (.bp 3 0) ∧ L = [(3, .str 74 [.v (.slice d1 t.length k1), .v (.slice d2 on.length k2), .v (.slice w3 wh.length q3), .v (.slice d4 or.length k4), .v (.slice d5 it.length k5), .v (.slice d6 nm.length k6), .v (.bool ds), .v (.int .i64 li)]), (2, .str 74 [.v (.slice none 0 0), .v (.slice none 0 0), .v (.slice none 0 0), .v (.slice none 0 0), .v (.slice none 0 0), .v (.slice none 0 0), .v (.bool false), .v (.int .i64 0)]), (1, .str 74 [.v (.slice at_ t.length pt), .v (.slice ao on.length po), .v (.slice aw wh.length pw), .v (.slice ar or.length pr), .v (.slice ai it.length pi), .v (.slice an nm.length pn), .v (.bool ds), .v (.int .i64 li)])] ∧ ∃ G4, CellF m5 (.sl or.length ((or.map (mapS posE)).flatMap PSort.row)) (.slice d4 or.length k4) G4 ∧ Chg D4 m4 m5) ?_ ?_
    · intro K hK
      by_cases hor : or = []
      · have hl0 : or.length = 0 := by rw [hor]; rfl
        refine vcLoop.intro (fun f L m5 => f 5 = .c (.v (.int .i64 0)) ∧ m5 = m4 ∧ L = [(3, .str 74 [.v (.slice d1 t.length k1), .v (.slice d2 on.length k2), .v (.slice w3 wh.length q3), .v (.slice d4 or.length k4), .v (.slice d5 it.length k5), .v (.slice d6 nm.length k6), .v (.bool ds), .v (.int .i64 li)]), (2, .str 74 [.v (.slice none 0 0), .v (.slice none 0 0), .v (.slice none 0 0), .v (.slice none 0 0), .v (.slice none 0 0), .v (.slice none 0 0), .v (.bool false), .v (.int .i64 0)]), (1, .str 74 [.v (.slice at_ t.length pt), .v (.slice ao on.length po), .v (.slice aw wh.length pw), .v (.slice ar or.length pr), .v (.slice ai it.length pi), .v (.slice an nm.length pn), .v (.bool ds), .v (.int .i64 li)])]) (fun _ _ _ => 0) ⟨_, Sub.at 3 rfl (Sub.at 2 rfl (Sub.at 1 rfl (Sub.nil _))), ?_⟩ ?_
        · simp only [vcs, tbl, crs, List.map, reduceIte, Nat.reduceLT, Nat.reduceLeDiff, Nat.reduceEqDiff, Nat.reduceAdd, Nat.reduceMul, Nat.reduceSub, List.all_cons, List.all_nil, Bool.and_true, Bool.and_self, ne_eq, reduceCtorEq, not_false_eq_true, and_self]
        · rintro g L3 m5 ⟨h5, rfl, rfl⟩
          simp only [vcs, tbl, crs, List.map, reduceIte, Nat.reduceLT, Nat.reduceLeDiff, Nat.reduceEqDiff, Nat.reduceAdd, Nat.reduceMul, Nat.reduceSub, List.all_cons, List.all_nil, Bool.and_true, Bool.and_self, ne_eq, reduceCtorEq, not_false_eq_true, and_self] at h5
          simp only [vcs, tbl, crs, List.map, reduceIte, Nat.reduceLT, Nat.reduceLeDiff, Nat.reduceEqDiff, Nat.reduceAdd, Nat.reduceMul, Nat.reduceSub, List.all_cons, List.all_nil, Bool.and_true, Bool.and_self, ne_eq, reduceCtorEq, not_false_eq_true, and_self, h5, e1, e2, e3]
          refine ⟨fun hlt => by omega, fun _ => ?_⟩
          have hmm : (or.map (mapS posE)).flatMap PSort.row = or.flatMap PSort.row := by rw [hor]; rfl
          refine hK _ _ _ ⟨?_, ?_, ?_, rfl, D4, by rw [hmm]; exact r4', Chg.refl _ _⟩ <;> simp only [vcs, tbl, crs, List.map, reduceIte, Nat.reduceLT, Nat.reduceLeDiff, Nat.reduceEqDiff, Nat.reduceAdd, Nat.reduceMul, Nat.reduceSub, List.all_cons, List.all_nil, Bool.and_true, Bool.and_self, ne_eq, reduceCtorEq, not_false_eq_true, and_self, e1, e2, e3]
      · have hne : or.flatMap PSort.row ≠ [] := fun e => by have := congrArg List.length e; rw [flatMap_len PSort.row_len] at this; have h0 : ([] : List D).length = 0 := rfl; have : or.length ≠ 0 := fun e => hor (List.eq_nil_of_length_eq_zero e); omega
        obtain ⟨bk, ok, hax, hS0⟩ := Sd.start r4' hne nd4 o4'
        subst hax
        refine vcLoop.intro (fun f L m5 => ∃ i : Nat, f 5 = .c (.v (.int .i64 i)) ∧ i ≤ or.length ∧ L = [(3, .str 74 [.v (.slice d1 t.length k1), .v (.slice d2 on.length k2), .v (.slice w3 wh.length q3), .v (.slice (some ⟨bk, ok, none⟩) or.length k4), .v (.slice d5 it.length k5), .v (.slice d6 nm.length k6), .v (.bool ds), .v (.int .i64 li)]), (2, .str 74 [.v (.slice none 0 0), .v (.slice none 0 0), .v (.slice none 0 0), .v (.slice none 0 0), .v (.slice none 0 0), .v (.slice none 0 0), .v (.bool false), .v (.int .i64 0)]), (1, .str 74 [.v (.slice at_ t.length pt), .v (.slice ao on.length po), .v (.slice aw wh.length pw), .v (.slice ar or.length pr), .v (.slice ai it.length pi), .v (.slice an nm.length pn), .v (.bool ds), .v (.int .i64 li)])] ∧ Sd m4 D4 m5 bk ok (((or.take i).map (mapS posE)).flatMap PSort.row) ((or.drop i).flatMap PSort.row))
          (fun f _ _ => (or.length - ixS (f 5)).toNat) ⟨_, Sub.at 3 rfl (Sub.at 2 rfl (Sub.at 1 rfl (Sub.nil _))), 0, ?_⟩ ?_
        · simp only [vcs, tbl, crs, List.map, reduceIte, Nat.reduceLT, Nat.reduceLeDiff, Nat.reduceEqDiff, Nat.reduceAdd, Nat.reduceMul, Nat.reduceSub, List.all_cons, List.all_nil, Bool.and_true, Bool.and_self, ne_eq, reduceCtorEq, not_false_eq_true, and_self]
          exact ⟨rfl, Nat.zero_le _, by simpa using hS0⟩
        · rintro g L3 m5 ⟨i, h5, hi, rfl, hS⟩
          have hg5 : Grow m m5 := by obtain ⟨_, _, _, _, _, _, hc, _⟩ := hS; exact g4.chg_trans hc fr4
          simp only [vcs, tbl, crs, List.map, reduceIte, Nat.reduceLT, Nat.reduceLeDiff, Nat.reduceEqDiff, Nat.reduceAdd, Nat.reduceMul, Nat.reduceSub, List.all_cons, List.all_nil, Bool.and_true, Bool.and_self, ne_eq, reduceCtorEq, not_false_eq_true, and_self] at h5
          simp only [vcs, tbl, crs, List.map, reduceIte, Nat.reduceLT, Nat.reduceLeDiff, Nat.reduceEqDiff, Nat.reduceAdd, Nat.reduceMul, Nat.reduceSub, List.all_cons, List.all_nil, Bool.and_true, Bool.and_self, ne_eq, reduceCtorEq, not_false_eq_true, and_self, h5, e1, e2, e3]
          refine ⟨fun hlt => ?_, fun hge => ?_⟩
          · have hlt : i < or.length := by omega
            obtain ⟨bo, oo, vs, Fk, hbo, hvl, hcell, hv, _⟩ := c4.elemL PSort.row_len (by decide) (List.getElem?_eq_getElem hlt)
            have hmt : ((or.take (i + 1)).map (mapS posE)).flatMap PSort.row = ((or.take i).map (mapS posE)).flatMap PSort.row ++ (mapS posE or[i]).row := by rw [List.take_add_one, List.getElem?_eq_getElem hlt, List.map_append, List.flatMap_append]; simp only [Option.toList_some, List.map_cons, List.map_nil, List.flatMap_cons, List.flatMap_nil, List.append_nil]
            have hd : or.drop i = or[i] :: or.drop (i + 1) := List.drop_eq_getElem_cons hlt
            rw [hd, List.flatMap_cons] at hS
            have hsm := s8 _ (List.getElem_mem hlt)
            obtain ⟨e, he⟩ : ∃ e, or[i] = e := ⟨_, rfl⟩
            rw [he] at hv hmt hS hsm
            obtain ⟨e0, dsc⟩ := e
            cases hsm with
            | mk hsm =>
            obtain ⟨us0, rfl, hul, hv⟩ := PSort.vals hv
            rw [mapS] at hmt
            rw [PSort.row, List.append_assoc] at hS
            have hdl : (((or.take i).map (mapS posE)).flatMap PSort.row).length = i * 11 := by rw [flatMap_len PSort.row_len, List.length_map, List.length_take]; congr 1; omega
            obtain ⟨ve, Fe, _, hve, nd, ow, hFe, nx⟩ := hS.step (p := ok + i * 11) (by rw [hdl])
            refine vcDrawn.introL (.take 0 (.take 1 (.take 2 (.take 3 (.take 4 (.take 5 (.take 6 (.take 7 (.take 8 (.br 9 (.take 10 (.take 11 (.br 12 .done .nobr))) .nobr)))))))))) (by kernel_rfl) ?_
            simp only [vcs, tbl, crs, List.map, reduceIte, Nat.reduceLT, Nat.reduceLeDiff, Nat.reduceEqDiff, Nat.reduceAdd, Nat.reduceMul, Nat.reduceSub, List.all_cons, List.all_nil, Bool.and_true, Bool.and_self, ne_eq, reduceCtorEq, not_false_eq_true, and_self, h5, e1, e2, e3]
            refine ⟨by omega, by omega, _, hbo, ?_⟩
            simp only [vcs, tbl, crs, List.map, reduceIte, Nat.reduceLT, Nat.reduceLeDiff, Nat.reduceEqDiff, Nat.reduceAdd, Nat.reduceMul, Nat.reduceSub, List.all_cons, List.all_nil, Bool.and_true, Bool.and_self, ne_eq, reduceCtorEq, not_false_eq_true, and_self, h5, e1, e2, e3, add_lit0, pure_fieldAt, Nat.add_zero]
            refine ⟨us0, hul, fun j v hj => hg5.cell ?_, ?_⟩
            · have := hcell j v (by rw [List.getElem?_append_left (List.getElem?_eq_some_iff.1 hj).1]; exact hj)
              simpa [add_lit0] using this
            simp only [vcs, tbl, crs, List.map, reduceIte, Nat.reduceLT, Nat.reduceLeDiff, Nat.reduceEqDiff, Nat.reduceAdd, Nat.reduceMul, Nat.reduceSub, List.all_cons, List.all_nil, Bool.and_true, Bool.and_self, ne_eq, reduceCtorEq, not_false_eq_true, and_self, h5, e1, e2, e3]
            refine (specPositive_c e0 hsm _ _ _ (hv.grow hg5)).mono ?_
            rintro r m6 ⟨hg6, us, F9, rfl, hvr, hf9, ho9⟩
            obtain ⟨hst, hS2⟩ := nx m6 _ us F9 (hg6.chg Fe) hvr hf9.1 ho9 (fun x hx => .inr (hf9.2 x hx)) (by rw [hvr.length, PExpr.row_len, PExpr.row_len])
            have hS3 := Sd.skip (row := [bool dsc]) hS2
            generalize posE e0 = e' at hvr hmt hS3
            have hvr' := hvr
            obtain ⟨kd', op', nt', vl', up', ap', ks', ss'⟩ := e'
            obtain ⟨x', y', H1', H2', rfl, _, y1', y2', hF9⟩ := PExpr.vals hvr'
            obtain ⟨ax', px', rfl, _⟩ := y1'.slice
            obtain ⟨ay', py', rfl, _⟩ := y2'.slice
            rw [PExpr.row_len] at hst
            refine ⟨hg6, ?_⟩
            simp only [vcs, tbl, crs, List.map, reduceIte, Nat.reduceLT, Nat.reduceLeDiff, Nat.reduceEqDiff, Nat.reduceAdd, Nat.reduceMul, Nat.reduceSub, List.all_cons, List.all_nil, Bool.and_true, Bool.and_self, ne_eq, reduceCtorEq, not_false_eq_true, and_self, h5, e1, e2, e3]
            refine ⟨by omega, by omega, _, rfl, ?_⟩
            simp only [vcs, tbl, crs, List.map, reduceIte, Nat.reduceLT, Nat.reduceLeDiff, Nat.reduceEqDiff, Nat.reduceAdd, Nat.reduceMul, Nat.reduceSub, List.all_cons, List.all_nil, Bool.and_true, Bool.and_self, ne_eq, reduceCtorEq, not_false_eq_true, and_self, h5, e1, e2, e3, add_lit0, pure_fieldAt, Nat.add_zero]
            refine ⟨hvr.oneCell, fun j hj => by simpa [add_lit0] using hst j hj, ?_⟩
            rw [wrap_id (by omega) (by omega)]
            refine ⟨_, Sub.at 3 rfl (Sub.at 2 rfl (Sub.at 1 rfl (Sub.nil _))), ⟨i + 1, by simp, by omega, rfl, ?_⟩, by omega⟩
            rw [hmt, PSort.row, ← List.append_assoc]; exact hS3
          · have : i = or.length := by omega
            subst this
            rw [List.take_length, List.drop_length] at hS
            obtain ⟨G4, hc', _, _, cg, hsub⟩ := hS.done (n := or.length) (cap := k4) (fun e => hne (by have := congrArg List.length e; rw [flatMap_len PSort.row_len, List.length_map] at this; have h0 : ([] : List D).length = 0 := rfl; rw [List.eq_nil_of_length_eq_zero (by omega : or.length = 0)]; rfl)) hk4 hk4m
            refine hK _ _ _ ⟨?_, ?_, ?_, rfl, G4, hc', cg⟩ <;> simp only [vcs, tbl, crs, List.map, reduceIte, Nat.reduceLT, Nat.reduceLeDiff, Nat.reduceEqDiff, Nat.reduceAdd, Nat.reduceMul, Nat.reduceSub, List.all_cons, List.all_nil, Bool.and_true, Bool.and_self, ne_eq, reduceCtorEq, not_false_eq_true, and_self, e1, e2, e3]
    · rintro f L m5 ⟨e1, e2, e3, rfl, G4, cor, cg5⟩
      have g5 : Grow m m5 := g4.chg_trans cg5 fr4
      simp only [vcs, tbl, crs, List.map, reduceIte, Nat.reduceLT, Nat.reduceLeDiff, Nat.reduceEqDiff, Nat.reduceAdd, Nat.reduceMul, Nat.reduceSub, List.all_cons, List.all_nil, Bool.and_true, Bool.and_self, ne_eq, reduceCtorEq, not_false_eq_true, and_self, e1, e2, e3]
      refine (l31List_c _ s10 s9 _ _ _ (c5.grow g5)).mono ?_
      rintro r m6 ⟨hg6, W5, ci, hfi, hoi⟩
      obtain ⟨w5, q5, rfl, _⟩ := ci.slice
      simp only [vcs, tbl, crs, List.map, reduceIte, Nat.reduceLT, Nat.reduceLeDiff, Nat.reduceEqDiff, Nat.reduceAdd, Nat.reduceMul, Nat.reduceSub, List.all_cons, List.all_nil, Bool.and_true, Bool.and_self, ne_eq, reduceCtorEq, not_false_eq_true, and_self, e1, e2, e3]
      have vis34 : ∀ x, Go.Vc.vis m1 x → Go.Vc.vis m4 x := fun x hx => hg4.vis (cg3.seen x hx)
      have d12 : ∀ x ∈ D1, x ∉ D2 := fun x hx e => x1 x hx x (by simp [e]) rfl
      have d14 : ∀ x ∈ D1, x ∉ D4 := fun x hx e => x1 x hx x (by simp [e]) rfl
      have d62 : ∀ x ∈ D6, x ∉ D2 := fun x hx e => x2 x e x (by simp [hx]) rfl
      have d64 : ∀ x ∈ D6, x ∉ D4 := fun x hx e => x4 x e x (by simp [hx]) rfl
      have v4 := CellF.vis _ r4
      have dG : ∀ x ∈ G2, x ∉ D4 := fun x hx e => (sub3 x hx).elim (fun h => d42 x e h) (fun h => h (v4 x e))
      have dW : ∀ x ∈ W3, x ∉ D4 := fun x hx e => hfw.2 x hx (cg3.seen x (v4 x e))
      have t1 := (((r1.chg cg3 d12).grow hg4).chg cg5 d14).grow hg6
      have t6 := (((r6.chg cg3 d62).grow hg4).chg cg5 d64).grow hg6
      have t2 := ((con.grow hg4).chg cg5 dG).grow hg6
      have t3 := (cw.chg cg5 dW).grow hg6
      have t4 := cor.grow hg6
      exact ⟨g5.trans hg6, _, _, rfl, Plan.mk_valsK (List.length_map _) (List.length_map _) (List.length_map _) (List.length_map _) t1 t2 t3 t4 ci t6⟩

end Go.Proofs.Ytklligemdfnimaa