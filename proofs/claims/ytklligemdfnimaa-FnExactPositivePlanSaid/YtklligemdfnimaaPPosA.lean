/-
  The program carries negations inwards; the reference copies.
  Conditions: none.
-/
import Derived.Test.YtklligemdfnimaaPTreeC
set_option linter.unusedVariables false
set_option linter.unusedSimpArgs false
set_option linter.unusedVariables false
set_option linter.unusedSimpArgs false
set_option maxRecDepth 4000
namespace Go.Proofs.Ytklligemdfnimaa
open Go Go.Vc
theorem mapS_id (s : PSort) : mapS id s = s := by cases s; rfl
theorem mapP_id (p : Plan) : mapP id p = p := by
  cases p with
  | mk t on wh or it nm ds li =>
    have h : mapS id = id := funext mapS_id
    simp [mapP, h]
theorem mapPs_id (ps : List Plan) : ps.map (mapP id) = ps := by
  have h : mapP id = id := funext mapP_id
  rw [h, List.map_id]
theorem copyPExpr_step (k o n v u a ks ss) (hk : ∀ e ∈ ks, ESmall e → ChC 135 id e) (hp : ∀ p ∈ ss, PSmall p → PlC 135 id p) : ESmall (.mk k o n v u a ks ss) → ChC 135 id (.mk k o n v u a ks ss) := by
  rintro ⟨s1, s2, s3, s4, s5⟩ m vs F h
  have h0 := h
  obtain ⟨x, y, F1, F2, rfl, hv, c1, c2, rfl⟩ := PExpr.vals h0
  obtain ⟨ax, px, rfl, _⟩ := c1.slice
  obtain ⟨ay, py, rfl, _⟩ := c2.slice
  refine fcalls_of_vc (args := [_]) follows_mixed Try.func135 rfl (by kernel_rfl) (by simp [Try.f135]) ?_
  simp only [Try.f135, vcs, tbl, crs, List.map, reduceIte, Nat.reduceLT, Nat.reduceLeDiff, Nat.reduceEqDiff, Nat.reduceAdd, Nat.reduceMul, Nat.reduceSub, List.all_cons, List.all_nil, Bool.and_true, Bool.and_self, ne_eq, reduceCtorEq, not_false_eq_true, and_self]
  refine (mapInside_c _ _ _ _ _ _ _ _ 135 135 id id (fun e he => hk e he (s3 e he)) (fun p hp' => hp p hp' (s5 p hp')) s2 s4 _ _ _ h).mono ?_
  rintro r m1 ⟨hg1, us, F', rfl, hvr, hf1, ho1⟩
  rw [mapI, List.map_id, mapPs_id] at hvr
  have hvr' := hvr
  obtain ⟨x1, y1, G1, G2, rfl, _, q1, q2, hF⟩ := PExpr.vals hvr'
  obtain ⟨ax1, px1, rfl, _⟩ := q1.slice
  obtain ⟨ay1, py1, rfl, _⟩ := q2.slice
  simp only [vcs, tbl, crs, List.map, reduceIte, Nat.reduceLT, Nat.reduceLeDiff, Nat.reduceEqDiff, Nat.reduceAdd, Nat.reduceMul, Nat.reduceSub, List.all_cons, List.all_nil, Bool.and_true, Bool.and_self, ne_eq, reduceCtorEq, not_false_eq_true, and_self]
  exact ⟨hg1, _, _, rfl, hvr, hf1, ho1⟩
theorem copyPlan_step (t on wh or it nm ds li) (h1 : ∀ l ∈ on, ∀ e ∈ l, ESmall e → ChC 135 id e) (h2 : ∀ e ∈ wh, ESmall e → ChC 135 id e) (h3 : ∀ s ∈ or, ∀ e d, s = .mk e d → ESmall e → ChC 135 id e) (h4 : ∀ e ∈ it, ESmall e → ChC 135 id e) :
    PSmall (.mk t on wh or it nm ds li) → PlC 135 id (.mk t on wh or it nm ds li) := by
  intro hs m vs F h
  have hs0 := hs
  obtain ⟨s1, s2, s3, s4, s5, s6, s7, s8, s9, s10, s11⟩ := hs0
  exact mapPlan_c _ _ _ _ _ _ _ _ 135 id (fun l hl e he => h1 l hl e he (s4 l hl e he)) (fun e he => h2 e he (s6 e he)) (fun s hs' e d hed => h3 s hs' e d hed (by have := s8 s hs'; rw [hed] at this; cases this; assumption)) (fun e he => h4 e he (s10 e he)) hs m vs F h
theorem copy_all : (∀ e, ESmall e → ChC 135 id e) ∧ (∀ p, PSmall p → PlC 135 id p) ∧ (∀ s : PSort, ∀ e d, s = .mk e d → ESmall e → ChC 135 id e) :=
  tree_ind copyPExpr_step copyPlan_step (fun e d h e' d' he => by injection he with h1 h2; subst h1; exact h)
theorem withKids_c (k o n v u a ks ss) (g : FuncId) (ch : PExpr → PExpr) (hk : ∀ e ∈ ks, ChC g ch e) (hs : ESmall (.mk k o n v u a ks ss)) (m : World) (vs : List Value) (F : List Nat) (h : ValsF m (PExpr.mk k o n v u a ks ss).row vs F) :
   FCalls Try.prog 78 #[.agg vs.toArray, .func (.func g) #[] #[]] m fun r m' => Grow m m' ∧ ∃ us F', r = .agg us.toArray ∧ ValsF m' (PExpr.mk k o n v u a (ks.map ch) ss).row us F' ∧ Fresh m F' ∧ Own m' F' := by
  obtain ⟨s1, s2, s3, s4, s5⟩ := hs
  have h0 := h
  obtain ⟨x, y, F1, F2, rfl, hv, c1, c2, rfl⟩ := PExpr.vals h0
  obtain ⟨ax, px, rfl, _⟩ := c1.slice
  obtain ⟨ay, py, rfl, _⟩ := c2.slice
  refine fcalls_of_vc (args := [_, _]) follows_mixed Try.func78 rfl (by kernel_rfl) (by simp [Try.f78]) ?_
  simp only [Try.f78, vcs, tbl, crs, List.map, reduceIte, Nat.reduceLT, Nat.reduceLeDiff, Nat.reduceEqDiff, Nat.reduceAdd, Nat.reduceMul, Nat.reduceSub, List.all_cons, List.all_nil, Bool.and_true, Bool.and_self, ne_eq, reduceCtorEq, not_false_eq_true, and_self]
  refine (mapInside_c _ _ _ _ _ _ _ _ g 135 ch id hk (fun p hp' => copy_all.2.1 p (s5 p hp')) s2 s4 _ _ _ h).mono ?_
  rintro r m1 ⟨hg1, us, F', rfl, hvr, hf1, ho1⟩
  rw [mapI, mapPs_id] at hvr
  have hvr' := hvr
  obtain ⟨x1, y1, G1, G2, rfl, _, q1, q2, hF⟩ := PExpr.vals hvr'
  obtain ⟨ax1, px1, rfl, _⟩ := q1.slice
  obtain ⟨ay1, py1, rfl, _⟩ := q2.slice
  simp only [vcs, tbl, crs, List.map, reduceIte, Nat.reduceLT, Nat.reduceLeDiff, Nat.reduceEqDiff, Nat.reduceAdd, Nat.reduceMul, Nat.reduceSub, List.all_cons, List.all_nil, Bool.and_true, Bool.and_self, ne_eq, reduceCtorEq, not_false_eq_true, and_self]
  exact ⟨hg1, _, _, rfl, hvr, hf1, ho1⟩
def against (o : Int) : Int := if o = 3 then 4 else if o = 4 then 3 else if o = 5 then 8 else if o = 8 then 5 else if o = 6 then 7 else if o = 7 then 6 else if o = 1 then 2 else if o = 2 then 1 else 0
theorem implAgainst_c (o : Int) (m : World) : FCalls Try.prog 11 #[.int .i64 o] m fun r m' => Grow m m' ∧ r = .int .i64 (against o) := by
  refine fcalls_of_vc (args := [_]) follows_mixed Try.func11 rfl (by kernel_rfl) (by simp [Try.f11]) ?_
  simp only [Try.f11, vcs, tbl, crs, List.map, reduceIte, Nat.reduceLT, Nat.reduceLeDiff, Nat.reduceEqDiff, Nat.reduceAdd, Nat.reduceMul, Nat.reduceSub, List.all_cons, List.all_nil, Bool.and_true, Bool.and_self, ne_eq, reduceCtorEq, not_false_eq_true, and_self]
  refine ⟨fun h1 => ⟨Grow.refl _, by simp [against, h1]⟩, fun h1 => ?_⟩
  refine ⟨fun h2 => ⟨Grow.refl _, by simp [against, h1, h2]⟩, fun h2 => ?_⟩
  refine ⟨fun h3 => ⟨Grow.refl _, by simp [against, h1, h2, h3]⟩, fun h3 => ?_⟩
  refine ⟨fun h4 => ⟨Grow.refl _, by simp [against, h1, h2, h3, h4]⟩, fun h4 => ?_⟩
  refine ⟨fun h5 => ⟨Grow.refl _, by simp [against, h1, h2, h3, h4, h5]⟩, fun h5 => ?_⟩
  refine ⟨fun h6 => ⟨Grow.refl _, by simp [against, h1, h2, h3, h4, h5, h6]⟩, fun h6 => ?_⟩
  refine ⟨fun h7 => ⟨Grow.refl _, by simp [against, h1, h2, h3, h4, h5, h6, h7]⟩, fun h7 => ?_⟩
  refine ⟨fun h8 => ⟨Grow.refl _, by simp [against, h1, h2, h3, h4, h5, h6, h7, h8]⟩, fun h8 => ?_⟩
  exact ⟨Grow.refl _, by simp [against, h1, h2, h3, h4, h5, h6, h7, h8]⟩
def hdE : List PExpr → PExpr
  | e :: _ => e
  | [] => .mk 0 0 false ⟨0, 0, ByteArray.empty⟩ 0 0 [] []
mutual
def posE : PExpr → PExpr
  | .mk k o n v u a ks ss => if (k = 3 ∧ o = 15) ∧ ks.length = 1 then hdE (negEs ks) else .mk k o n v u a (posEs ks) ss
def negE : PExpr → PExpr
  | .mk k o n v u a ks ss => if (k = 3 ∧ o = 15) ∧ ks.length = 1 then hdE (posEs ks)
    else if k = 4 ∧ against o ≠ 0 then .mk k (against o) n v u a (if o = 1 ∨ o = 2 then negEs ks else posEs ks) ss
    else if k = 5 ∨ k = 6 ∨ k = 7 ∨ k = 8 then .mk k o (!n) v u a (posEs ks) ss
    else .mk 3 15 false ⟨0, 0, ByteArray.empty⟩ 0 0 [.mk k o n v u a (posEs ks) ss] []
def posEs : List PExpr → List PExpr
  | [] => []
  | e :: es => posE e :: posEs es
def negEs : List PExpr → List PExpr
  | [] => []
  | e :: es => negE e :: negEs es
end
theorem posEs_eq : ∀ es, posEs es = es.map posE
  | [] => by simp [posEs]
  | e :: es => by simp [posEs, posEs_eq es]
theorem negEs_eq : ∀ es, negEs es = es.map negE
  | [] => by simp [negEs]
  | e :: es => by simp [negEs, negEs_eq es]

theorem hdE_map {f : PExpr → PExpr} : ∀ {ks : List PExpr} (h : 0 < ks.length), hdE (ks.map f) = f (ks[0]'h)
  | e :: es, _ => rfl

theorem posE_step (k o n v u a ks ss) (hk : ∀ e ∈ ks, ESmall e → ChC 27 posE e ∧ ChC 77 negE e) (hs : ESmall (.mk k o n v u a ks ss)) : ChC 27 posE (.mk k o n v u a ks ss) := by
  intro m vs F h
  have hs0 := hs
  obtain ⟨s1, s2, s3, s4, s5⟩ := hs0
  have h0 := h
  obtain ⟨x, y, F1, F2, rfl, hv, c1, c2, rfl⟩ := PExpr.vals h0
  obtain ⟨ax, px, rfl, _⟩ := c1.slice
  obtain ⟨ay, py, rfl, _⟩ := c2.slice
  refine fcalls_of_vc (args := [_]) follows_mixed Try.func27 rfl (by kernel_rfl) (by simp [Try.f27]) ?_
  simp only [Try.f27, vcs, tbl, crs, List.map, reduceIte, Nat.reduceLT, Nat.reduceLeDiff, Nat.reduceEqDiff, Nat.reduceAdd, Nat.reduceMul, Nat.reduceSub, List.all_cons, List.all_nil, Bool.and_true, Bool.and_self, ne_eq, reduceCtorEq, not_false_eq_true, and_self]
  refine (isNot_c _ _ _ _ _ _ _ _ _ _ _ h).mono ?_
  rintro r m1 ⟨hg1, rfl⟩
  simp only [vcs, tbl, crs, List.map, reduceIte, Nat.reduceLT, Nat.reduceLeDiff, Nat.reduceEqDiff, Nat.reduceAdd, Nat.reduceMul, Nat.reduceSub, List.all_cons, List.all_nil, Bool.and_true, Bool.and_self, ne_eq, reduceCtorEq, not_false_eq_true, and_self]
  have hkp : ∀ e ∈ ks, ChC 27 posE e := fun e he => (hk e he (s3 e he)).1
  refine ⟨fun h1 => ?_, fun h1 => ?_⟩
  · have h1 : k = 3 ∧ o = 15 := by simpa using h1
    simp only [vcs, tbl, crs, List.map, reduceIte, Nat.reduceLT, Nat.reduceLeDiff, Nat.reduceEqDiff, Nat.reduceAdd, Nat.reduceMul, Nat.reduceSub, List.all_cons, List.all_nil, Bool.and_true, Bool.and_self, ne_eq, reduceCtorEq, not_false_eq_true, and_self]
    refine ⟨fun h2 => ?_, fun h2 => ?_⟩
    · have h2 : ks.length = 1 := by omega
      have hpe : posE (.mk k o n v u a ks ss) = negE (ks[0]'(by omega)) := by rw [posE, if_pos ⟨h1, h2⟩, negEs_eq, hdE_map]
      rw [hpe]
      have hl0 : 0 < ks.length := by omega
      obtain ⟨ad, vs, Fk, ha, hlen, hcell, hvk, _⟩ := c1.elem PExpr.row_len (by decide) (List.getElem?_eq_getElem hl0)
      refine ⟨by omega, by omega, ad, ha, vs, hlen, fun j v hj => hg1.cell (by simpa using hcell j v hj), ?_⟩
      have hkk := (hk _ (List.getElem_mem hl0) (s3 _ (List.getElem_mem hl0))).2
      simp only [vcs, tbl, crs, List.map, reduceIte, Nat.reduceLT, Nat.reduceLeDiff, Nat.reduceEqDiff, Nat.reduceAdd, Nat.reduceMul, Nat.reduceSub, List.all_cons, List.all_nil, Bool.and_true, Bool.and_self, ne_eq, reduceCtorEq, not_false_eq_true, and_self]
      refine (hkk _ _ _ (hvk.grow hg1)).mono ?_
      rintro r m5 ⟨hg5, us, F5, rfl, hvr, hf5, ho5⟩
      generalize negE ks[0] = e' at hvr
      have hvr' := hvr
      obtain ⟨kd', op', nt', vl', up', ap', ks', ss'⟩ := e'
      obtain ⟨x', y', H1', H2', rfl, _, q1', q2', hF⟩ := PExpr.vals hvr'
      obtain ⟨ax', px', rfl, _⟩ := q1'.slice
      obtain ⟨ay', py', rfl, _⟩ := q2'.slice
      simp only [vcs, tbl, crs, List.map, reduceIte, Nat.reduceLT, Nat.reduceLeDiff, Nat.reduceEqDiff, Nat.reduceAdd, Nat.reduceMul, Nat.reduceSub, List.all_cons, List.all_nil, Bool.and_true, Bool.and_self, ne_eq, reduceCtorEq, not_false_eq_true, and_self]
      exact ⟨hg1.trans hg5, _, _, rfl, hvr, hf5.grow' hg1, ho5⟩
    · have hpe : posE (.mk k o n v u a ks ss) = .mk k o n v u a (ks.map posE) ss := by rw [posE, if_neg (fun hh => h2 (by omega)), posEs_eq]
      rw [hpe]
      refine (withKids_c _ _ _ _ _ _ _ _ 27 posE hkp hs _ _ _ (h.grow hg1)).mono ?_
      rintro r m5 ⟨hg5, us, F5, rfl, hvr, hf5, ho5⟩
      have hvr' := hvr
      obtain ⟨x', y', H1', H2', rfl, _, q1', q2', hF⟩ := PExpr.vals hvr'
      obtain ⟨ax', px', rfl, _⟩ := q1'.slice
      obtain ⟨ay', py', rfl, _⟩ := q2'.slice
      simp only [vcs, tbl, crs, List.map, reduceIte, Nat.reduceLT, Nat.reduceLeDiff, Nat.reduceEqDiff, Nat.reduceAdd, Nat.reduceMul, Nat.reduceSub, List.all_cons, List.all_nil, Bool.and_true, Bool.and_self, ne_eq, reduceCtorEq, not_false_eq_true, and_self]
      exact ⟨hg1.trans hg5, _, _, rfl, hvr, hf5.grow' hg1, ho5⟩
  · have h1 : ¬ (k = 3 ∧ o = 15) := by simpa using h1
    have hpe : posE (.mk k o n v u a ks ss) = .mk k o n v u a (ks.map posE) ss := by rw [posE, if_neg (fun hh => h1 hh.1), posEs_eq]
    rw [hpe]
    simp only [vcs, tbl, crs, List.map, reduceIte, Nat.reduceLT, Nat.reduceLeDiff, Nat.reduceEqDiff, Nat.reduceAdd, Nat.reduceMul, Nat.reduceSub, List.all_cons, List.all_nil, Bool.and_true, Bool.and_self, ne_eq, reduceCtorEq, not_false_eq_true, and_self]
    refine ⟨fun h => h.elim, fun _ => ?_⟩
    refine (withKids_c _ _ _ _ _ _ _ _ 27 posE hkp hs _ _ _ (h.grow hg1)).mono ?_
    rintro r m5 ⟨hg5, us, F5, rfl, hvr, hf5, ho5⟩
    have hvr' := hvr
    obtain ⟨x', y', H1', H2', rfl, _, q1', q2', hF⟩ := PExpr.vals hvr'
    obtain ⟨ax', px', rfl, _⟩ := q1'.slice
    obtain ⟨ay', py', rfl, _⟩ := q2'.slice
    simp only [vcs, tbl, crs, List.map, reduceIte, Nat.reduceLT, Nat.reduceLeDiff, Nat.reduceEqDiff, Nat.reduceAdd, Nat.reduceMul, Nat.reduceSub, List.all_cons, List.all_nil, Bool.and_true, Bool.and_self, ne_eq, reduceCtorEq, not_false_eq_true, and_self]
    exact ⟨hg1.trans hg5, _, _, rfl, hvr, hf5.grow' hg1, ho5⟩

set_option maxHeartbeats 1000000 in
theorem negE_step (k o n v u a ks ss) (hk : ∀ e ∈ ks, ESmall e → ChC 27 posE e ∧ ChC 77 negE e) (hs : ESmall (.mk k o n v u a ks ss)) : ChC 77 negE (.mk k o n v u a ks ss) := by
  intro m vs F h
  have hpos := posE_step k o n v u a ks ss hk hs
  have hs0 := hs
  obtain ⟨s1, s2, s3, s4, s5⟩ := hs0
  have h0 := h
  obtain ⟨x, y, F1, F2, rfl, hv, c1, c2, rfl⟩ := PExpr.vals h0
  obtain ⟨ax, px, rfl, _⟩ := c1.slice
  obtain ⟨ay, py, rfl, _⟩ := c2.slice
  refine fcalls_of_vc (args := [_]) follows_mixed Try.func77 rfl (by kernel_rfl) (by simp [Try.f77]) ?_
  simp only [Try.f77, vcs, tbl, crs, List.map, reduceIte, Nat.reduceLT, Nat.reduceLeDiff, Nat.reduceEqDiff, Nat.reduceAdd, Nat.reduceMul, Nat.reduceSub, List.all_cons, List.all_nil, Bool.and_true, Bool.and_self, ne_eq, reduceCtorEq, not_false_eq_true, and_self]
  have hkp : ∀ e ∈ ks, ChC 27 posE e := fun e he => (hk e he (s3 e he)).1
  have hkn : ∀ e ∈ ks, ChC 77 negE e := fun e he => (hk e he (s3 e he)).2
  refine ⟨fun hk3 => ?_, fun hk3 => ?_⟩
  · refine (isNot_c _ _ _ _ _ _ _ _ _ _ _ h).mono ?_
    rintro r m1 ⟨hg1, rfl⟩
    simp only [vcs, tbl, crs, List.map, reduceIte, Nat.reduceLT, Nat.reduceLeDiff, Nat.reduceEqDiff, Nat.reduceAdd, Nat.reduceMul, Nat.reduceSub, List.all_cons, List.all_nil, Bool.and_true, Bool.and_self, ne_eq, reduceCtorEq, not_false_eq_true, and_self]
    refine ⟨fun h1 => ?_, fun h1 => ?_⟩
    · have h1 : k = 3 ∧ o = 15 := by simpa using h1
      simp only [vcs, tbl, crs, List.map, reduceIte, Nat.reduceLT, Nat.reduceLeDiff, Nat.reduceEqDiff, Nat.reduceAdd, Nat.reduceMul, Nat.reduceSub, List.all_cons, List.all_nil, Bool.and_true, Bool.and_self, ne_eq, reduceCtorEq, not_false_eq_true, and_self]
      refine ⟨fun h2 => ?_, fun h2 => ?_⟩
      · have h2 : ks.length = 1 := by omega
        have hne : negE (.mk k o n v u a ks ss) = posE (ks[0]'(by omega)) := by rw [negE, if_pos ⟨h1, h2⟩, posEs_eq, hdE_map]
        rw [hne]
        have hl0 : 0 < ks.length := by omega
        obtain ⟨ad, vs, Fk, ha, hlen, hcell, hvk, _⟩ := c1.elem PExpr.row_len (by decide) (List.getElem?_eq_getElem hl0)
        refine ⟨by omega, by omega, ad, ha, vs, hlen, fun j v hj => hg1.cell (by simpa using hcell j v hj), ?_⟩
        have hkk := (hk _ (List.getElem_mem hl0) (s3 _ (List.getElem_mem hl0))).1
        simp only [vcs, tbl, crs, List.map, reduceIte, Nat.reduceLT, Nat.reduceLeDiff, Nat.reduceEqDiff, Nat.reduceAdd, Nat.reduceMul, Nat.reduceSub, List.all_cons, List.all_nil, Bool.and_true, Bool.and_self, ne_eq, reduceCtorEq, not_false_eq_true, and_self]
        refine (hkk _ _ _ (hvk.grow hg1)).mono ?_
        rintro r m5 ⟨hg5, us, F5, rfl, hvr, hf5, ho5⟩
        generalize posE ks[0] = e' at hvr
        have hvr' := hvr
        obtain ⟨kd', op', nt', vl', up', ap', ks', ss'⟩ := e'
        obtain ⟨x', y', H1', H2', rfl, _, q1', q2', hF⟩ := PExpr.vals hvr'
        obtain ⟨ax', px', rfl, _⟩ := q1'.slice
        obtain ⟨ay', py', rfl, _⟩ := q2'.slice
        simp only [vcs, tbl, crs, List.map, reduceIte, Nat.reduceLT, Nat.reduceLeDiff, Nat.reduceEqDiff, Nat.reduceAdd, Nat.reduceMul, Nat.reduceSub, List.all_cons, List.all_nil, Bool.and_true, Bool.and_self, ne_eq, reduceCtorEq, not_false_eq_true, and_self]
        exact ⟨hg1.trans hg5, _, _, rfl, hvr, hf5.grow' hg1, ho5⟩
      · have hno : ¬ ((k = 3 ∧ o = 15) ∧ ks.length = 1) := fun hh => h2 (by omega)
        have hne : negE (.mk k o n v u a ks ss) = .mk 3 15 false ⟨0, 0, ByteArray.empty⟩ 0 0 [.mk k o n v u a (ks.map posE) ss] [] := by
          rw [negE, if_neg hno, if_neg (fun hh => by omega), if_neg (fun hh => by omega), posEs_eq]
        have hpe : posE (.mk k o n v u a ks ss) = .mk k o n v u a (ks.map posE) ss := by rw [posE, if_neg hno, posEs_eq]
        rw [hne]
        refine (hpos _ _ _ (h.grow hg1)).mono ?_
        rintro r m5 ⟨hg5, us, F5, rfl, hvr, hf5, ho5⟩
        rw [hpe] at hvr
        have hvr' := hvr
        obtain ⟨x', y', H1', H2', rfl, _, q1', q2', hF⟩ := PExpr.vals hvr'
        obtain ⟨ax', px', rfl, _⟩ := q1'.slice
        obtain ⟨ay', py', rfl, _⟩ := q2'.slice
        simp only [vcs, tbl, crs, List.map, reduceIte, Nat.reduceLT, Nat.reduceLeDiff, Nat.reduceEqDiff, Nat.reduceAdd, Nat.reduceMul, Nat.reduceSub, List.all_cons, List.all_nil, Bool.and_true, Bool.and_self, ne_eq, reduceCtorEq, not_false_eq_true, and_self, range1, rep1, Nat.zero_mul, Nat.zero_add, Nat.le_refl]
        intro b m6 hp
        have no := (⟨hg1.trans hg5, hf5.grow' hg1, ho5⟩ : NewOwn m m5 F5).pub hp
        have hrow : [PExpr.mk k o n v u a (ks.map posE) ss].flatMap PExpr.row = (PExpr.mk k o n v u a (ks.map posE) ss).row := by simp
        have hvl := hvr
        rw [← hrow] at hvl
        have hck := CellF.of_pubN (n := 1) (cap := 1) hp hvl (fun e => by have := congrArg List.length e; rw [flatMap_len PExpr.row_len] at this; simp at this) (Nat.le_refl _) (by decide)
        exact ⟨no.grow, _, _, rfl, PExpr.mk_valsK rfl rfl (by decide) hck (CellF.nilS _), by simpa using no.fresh, by simpa using no.own⟩
    · have h1 : ¬ (k = 3 ∧ o = 15) := by simpa using h1
      have hno : ¬ ((k = 3 ∧ o = 15) ∧ ks.length = 1) := fun hh => h1 hh.1
      have hne : negE (.mk k o n v u a ks ss) = .mk 3 15 false ⟨0, 0, ByteArray.empty⟩ 0 0 [.mk k o n v u a (ks.map posE) ss] [] := by
        rw [negE, if_neg hno, if_neg (fun hh => by omega), if_neg (fun hh => by omega), posEs_eq]
      have hpe : posE (.mk k o n v u a ks ss) = .mk k o n v u a (ks.map posE) ss := by rw [posE, if_neg hno, posEs_eq]
      rw [hne]
      simp only [vcs, tbl, crs, List.map, reduceIte, Nat.reduceLT, Nat.reduceLeDiff, Nat.reduceEqDiff, Nat.reduceAdd, Nat.reduceMul, Nat.reduceSub, List.all_cons, List.all_nil, Bool.and_true, Bool.and_self, ne_eq, reduceCtorEq, not_false_eq_true, and_self]
      refine ⟨fun h => h.elim, fun _ => ?_⟩
      refine (hpos _ _ _ (h.grow hg1)).mono ?_
      rintro r m5 ⟨hg5, us, F5, rfl, hvr, hf5, ho5⟩
      rw [hpe] at hvr
      have hvr' := hvr
      obtain ⟨x', y', H1', H2', rfl, _, q1', q2', hF⟩ := PExpr.vals hvr'
      obtain ⟨ax', px', rfl, _⟩ := q1'.slice
      obtain ⟨ay', py', rfl, _⟩ := q2'.slice
      simp only [vcs, tbl, crs, List.map, reduceIte, Nat.reduceLT, Nat.reduceLeDiff, Nat.reduceEqDiff, Nat.reduceAdd, Nat.reduceMul, Nat.reduceSub, List.all_cons, List.all_nil, Bool.and_true, Bool.and_self, ne_eq, reduceCtorEq, not_false_eq_true, and_self, range1, rep1, Nat.zero_mul, Nat.zero_add, Nat.le_refl]
      intro b m6 hp
      have no := (⟨hg1.trans hg5, hf5.grow' hg1, ho5⟩ : NewOwn m m5 F5).pub hp
      have hrow : [PExpr.mk k o n v u a (ks.map posE) ss].flatMap PExpr.row = (PExpr.mk k o n v u a (ks.map posE) ss).row := by simp
      have hvl := hvr
      rw [← hrow] at hvl
      have hck := CellF.of_pubN (n := 1) (cap := 1) hp hvl (fun e => by have := congrArg List.length e; rw [flatMap_len PExpr.row_len] at this; simp at this) (Nat.le_refl _) (by decide)
      exact ⟨no.grow, _, _, rfl, PExpr.mk_valsK rfl rfl (by decide) hck (CellF.nilS _), by simpa using no.fresh, by simpa using no.own⟩
  · have hno : ¬ ((k = 3 ∧ o = 15) ∧ ks.length = 1) := fun hh => hk3 hh.1.1
    have hpe : posE (.mk k o n v u a ks ss) = .mk k o n v u a (ks.map posE) ss := by rw [posE, if_neg hno, posEs_eq]
    refine ⟨fun hk4 => ?_, fun hk4 => ?_⟩
    · refine ⟨fun ho => ?_, fun ho => ?_⟩
      · have ho : o = 1 := by simpa using ho
        simp only [vcs, tbl, crs, List.map, reduceIte, Nat.reduceLT, Nat.reduceLeDiff, Nat.reduceEqDiff, Nat.reduceAdd, Nat.reduceMul, Nat.reduceSub, List.all_cons, List.all_nil, Bool.and_true, Bool.and_self, ne_eq, reduceCtorEq, not_false_eq_true, and_self]
        refine ⟨fun _ => ?_, fun h => by simp at h⟩
        refine (implAgainst_c o m).mono ?_
        rintro r m1 ⟨hg1, rfl⟩
        simp only [vcs, tbl, crs, List.map, reduceIte, Nat.reduceLT, Nat.reduceLeDiff, Nat.reduceEqDiff, Nat.reduceAdd, Nat.reduceMul, Nat.reduceSub, List.all_cons, List.all_nil, Bool.and_true, Bool.and_self, ne_eq, reduceCtorEq, not_false_eq_true, and_self]
        refine ⟨fun ha => ?_, fun ha => ?_⟩
        · have ha : against o ≠ 0 := by simpa using ha
          have hne : negE (.mk k o n v u a ks ss) = .mk k (against o) n v u a (ks.map negE) ss := by rw [negE, if_neg hno, if_pos ⟨hk4, ha⟩, if_pos (.inl ho), negEs_eq]
          rw [hne]
          have h2 : ValsF m (PExpr.mk k (against o) n v u a ks ss).row _ _ := PExpr.mk_vals hv c1 c2
          have hs2 : ESmall (.mk k (against o) n v u a ks ss) := .mk s1 s2 s3 s4 s5
          refine (withKids_c _ _ _ _ _ _ _ _ 77 negE hkn hs2 _ _ _ (h2.grow hg1)).mono ?_
          rintro r m5 ⟨hg5, us, F5, rfl, hvr, hf5, ho5⟩
          have hvr' := hvr
          obtain ⟨x', y', H1', H2', rfl, _, q1', q2', hF⟩ := PExpr.vals hvr'
          obtain ⟨ax', px', rfl, _⟩ := q1'.slice
          obtain ⟨ay', py', rfl, _⟩ := q2'.slice
          simp only [vcs, tbl, crs, List.map, reduceIte, Nat.reduceLT, Nat.reduceLeDiff, Nat.reduceEqDiff, Nat.reduceAdd, Nat.reduceMul, Nat.reduceSub, List.all_cons, List.all_nil, Bool.and_true, Bool.and_self, ne_eq, reduceCtorEq, not_false_eq_true, and_self]
          exact ⟨hg1.trans hg5, _, _, rfl, hvr, hf5.grow' hg1, ho5⟩
        · have ha : against o = 0 := by simpa using ha
          have hne : negE (.mk k o n v u a ks ss) = .mk 3 15 false ⟨0, 0, ByteArray.empty⟩ 0 0 [.mk k o n v u a (ks.map posE) ss] [] := by
            rw [negE, if_neg hno, if_neg (fun hh => hh.2 ha), if_neg (fun hh => by omega), posEs_eq]
          rw [hne]
          refine (hpos _ _ _ (h.grow hg1)).mono ?_
          rintro r m5 ⟨hg5, us, F5, rfl, hvr, hf5, ho5⟩
          rw [hpe] at hvr
          have hvr' := hvr
          obtain ⟨x', y', H1', H2', rfl, _, q1', q2', hF⟩ := PExpr.vals hvr'
          obtain ⟨ax', px', rfl, _⟩ := q1'.slice
          obtain ⟨ay', py', rfl, _⟩ := q2'.slice
          simp only [vcs, tbl, crs, List.map, reduceIte, Nat.reduceLT, Nat.reduceLeDiff, Nat.reduceEqDiff, Nat.reduceAdd, Nat.reduceMul, Nat.reduceSub, List.all_cons, List.all_nil, Bool.and_true, Bool.and_self, ne_eq, reduceCtorEq, not_false_eq_true, and_self, range1, rep1, Nat.zero_mul, Nat.zero_add, Nat.le_refl]
          intro b m6 hp
          have no := (⟨hg1.trans hg5, hf5.grow' hg1, ho5⟩ : NewOwn m m5 F5).pub hp
          have hrow : [PExpr.mk k o n v u a (ks.map posE) ss].flatMap PExpr.row = (PExpr.mk k o n v u a (ks.map posE) ss).row := by simp
          have hvl := hvr
          rw [← hrow] at hvl
          have hck := CellF.of_pubN (n := 1) (cap := 1) hp hvl (fun e => by have := congrArg List.length e; rw [flatMap_len PExpr.row_len] at this; simp at this) (Nat.le_refl _) (by decide)
          exact ⟨no.grow, _, _, rfl, PExpr.mk_valsK rfl rfl (by decide) hck (CellF.nilS _), by simpa using no.fresh, by simpa using no.own⟩
      · have ho : ¬ o = 1 := by simpa using ho
        simp only [vcs, tbl, crs, List.map, reduceIte, Nat.reduceLT, Nat.reduceLeDiff, Nat.reduceEqDiff, Nat.reduceAdd, Nat.reduceMul, Nat.reduceSub, List.all_cons, List.all_nil, Bool.and_true, Bool.and_self, ne_eq, reduceCtorEq, not_false_eq_true, and_self]
        refine ⟨fun ho2 => ?_, fun ho2 => ?_⟩
        · skip
          refine (implAgainst_c o m).mono ?_
          rintro r m1 ⟨hg1, rfl⟩
          simp only [vcs, tbl, crs, List.map, reduceIte, Nat.reduceLT, Nat.reduceLeDiff, Nat.reduceEqDiff, Nat.reduceAdd, Nat.reduceMul, Nat.reduceSub, List.all_cons, List.all_nil, Bool.and_true, Bool.and_self, ne_eq, reduceCtorEq, not_false_eq_true, and_self]
          refine ⟨fun ha => ?_, fun ha => ?_⟩
          · have ha : against o ≠ 0 := by simpa using ha
            have hne : negE (.mk k o n v u a ks ss) = .mk k (against o) n v u a (ks.map negE) ss := by rw [negE, if_neg hno, if_pos ⟨hk4, ha⟩, if_pos (.inr ho2), negEs_eq]
            rw [hne]
            have h2 : ValsF m (PExpr.mk k (against o) n v u a ks ss).row _ _ := PExpr.mk_vals hv c1 c2
            have hs2 : ESmall (.mk k (against o) n v u a ks ss) := .mk s1 s2 s3 s4 s5
            refine (withKids_c _ _ _ _ _ _ _ _ 77 negE hkn hs2 _ _ _ (h2.grow hg1)).mono ?_
            rintro r m5 ⟨hg5, us, F5, rfl, hvr, hf5, ho5⟩
            have hvr' := hvr
            obtain ⟨x', y', H1', H2', rfl, _, q1', q2', hF⟩ := PExpr.vals hvr'
            obtain ⟨ax', px', rfl, _⟩ := q1'.slice
            obtain ⟨ay', py', rfl, _⟩ := q2'.slice
            simp only [vcs, tbl, crs, List.map, reduceIte, Nat.reduceLT, Nat.reduceLeDiff, Nat.reduceEqDiff, Nat.reduceAdd, Nat.reduceMul, Nat.reduceSub, List.all_cons, List.all_nil, Bool.and_true, Bool.and_self, ne_eq, reduceCtorEq, not_false_eq_true, and_self]
            exact ⟨hg1.trans hg5, _, _, rfl, hvr, hf5.grow' hg1, ho5⟩
          · have ha : against o = 0 := by simpa using ha
            have hne : negE (.mk k o n v u a ks ss) = .mk 3 15 false ⟨0, 0, ByteArray.empty⟩ 0 0 [.mk k o n v u a (ks.map posE) ss] [] := by
              rw [negE, if_neg hno, if_neg (fun hh => hh.2 ha), if_neg (fun hh => by omega), posEs_eq]
            rw [hne]
            refine (hpos _ _ _ (h.grow hg1)).mono ?_
            rintro r m5 ⟨hg5, us, F5, rfl, hvr, hf5, ho5⟩
            rw [hpe] at hvr
            have hvr' := hvr
            obtain ⟨x', y', H1', H2', rfl, _, q1', q2', hF⟩ := PExpr.vals hvr'
            obtain ⟨ax', px', rfl, _⟩ := q1'.slice
            obtain ⟨ay', py', rfl, _⟩ := q2'.slice
            simp only [vcs, tbl, crs, List.map, reduceIte, Nat.reduceLT, Nat.reduceLeDiff, Nat.reduceEqDiff, Nat.reduceAdd, Nat.reduceMul, Nat.reduceSub, List.all_cons, List.all_nil, Bool.and_true, Bool.and_self, ne_eq, reduceCtorEq, not_false_eq_true, and_self, range1, rep1, Nat.zero_mul, Nat.zero_add, Nat.le_refl]
            intro b m6 hp
            have no := (⟨hg1.trans hg5, hf5.grow' hg1, ho5⟩ : NewOwn m m5 F5).pub hp
            have hrow : [PExpr.mk k o n v u a (ks.map posE) ss].flatMap PExpr.row = (PExpr.mk k o n v u a (ks.map posE) ss).row := by simp
            have hvl := hvr
            rw [← hrow] at hvl
            have hck := CellF.of_pubN (n := 1) (cap := 1) hp hvl (fun e => by have := congrArg List.length e; rw [flatMap_len PExpr.row_len] at this; simp at this) (Nat.le_refl _) (by decide)
            exact ⟨no.grow, _, _, rfl, PExpr.mk_valsK rfl rfl (by decide) hck (CellF.nilS _), by simpa using no.fresh, by simpa using no.own⟩
        · skip
          refine (implAgainst_c o m).mono ?_
          rintro r m1 ⟨hg1, rfl⟩
          simp only [vcs, tbl, crs, List.map, reduceIte, Nat.reduceLT, Nat.reduceLeDiff, Nat.reduceEqDiff, Nat.reduceAdd, Nat.reduceMul, Nat.reduceSub, List.all_cons, List.all_nil, Bool.and_true, Bool.and_self, ne_eq, reduceCtorEq, not_false_eq_true, and_self]
          refine ⟨fun ha => ?_, fun ha => ?_⟩
          · have ha : against o ≠ 0 := by simpa using ha
            have hne : negE (.mk k o n v u a ks ss) = .mk k (against o) n v u a (ks.map posE) ss := by rw [negE, if_neg hno, if_pos ⟨hk4, ha⟩, if_neg (fun hh => hh.elim ho ho2), posEs_eq]
            rw [hne]
            have h2 : ValsF m (PExpr.mk k (against o) n v u a ks ss).row _ _ := PExpr.mk_vals hv c1 c2
            have hs2 : ESmall (.mk k (against o) n v u a ks ss) := .mk s1 s2 s3 s4 s5
            refine (withKids_c _ _ _ _ _ _ _ _ 27 posE hkp hs2 _ _ _ (h2.grow hg1)).mono ?_
            rintro r m5 ⟨hg5, us, F5, rfl, hvr, hf5, ho5⟩
            have hvr' := hvr
            obtain ⟨x', y', H1', H2', rfl, _, q1', q2', hF⟩ := PExpr.vals hvr'
            obtain ⟨ax', px', rfl, _⟩ := q1'.slice
            obtain ⟨ay', py', rfl, _⟩ := q2'.slice
            simp only [vcs, tbl, crs, List.map, reduceIte, Nat.reduceLT, Nat.reduceLeDiff, Nat.reduceEqDiff, Nat.reduceAdd, Nat.reduceMul, Nat.reduceSub, List.all_cons, List.all_nil, Bool.and_true, Bool.and_self, ne_eq, reduceCtorEq, not_false_eq_true, and_self]
            exact ⟨hg1.trans hg5, _, _, rfl, hvr, hf5.grow' hg1, ho5⟩
          · have ha : against o = 0 := by simpa using ha
            have hne : negE (.mk k o n v u a ks ss) = .mk 3 15 false ⟨0, 0, ByteArray.empty⟩ 0 0 [.mk k o n v u a (ks.map posE) ss] [] := by
              rw [negE, if_neg hno, if_neg (fun hh => hh.2 ha), if_neg (fun hh => by omega), posEs_eq]
            rw [hne]
            refine (hpos _ _ _ (h.grow hg1)).mono ?_
            rintro r m5 ⟨hg5, us, F5, rfl, hvr, hf5, ho5⟩
            rw [hpe] at hvr
            have hvr' := hvr
            obtain ⟨x', y', H1', H2', rfl, _, q1', q2', hF⟩ := PExpr.vals hvr'
            obtain ⟨ax', px', rfl, _⟩ := q1'.slice
            obtain ⟨ay', py', rfl, _⟩ := q2'.slice
            simp only [vcs, tbl, crs, List.map, reduceIte, Nat.reduceLT, Nat.reduceLeDiff, Nat.reduceEqDiff, Nat.reduceAdd, Nat.reduceMul, Nat.reduceSub, List.all_cons, List.all_nil, Bool.and_true, Bool.and_self, ne_eq, reduceCtorEq, not_false_eq_true, and_self, range1, rep1, Nat.zero_mul, Nat.zero_add, Nat.le_refl]
            intro b m6 hp
            have no := (⟨hg1.trans hg5, hf5.grow' hg1, ho5⟩ : NewOwn m m5 F5).pub hp
            have hrow : [PExpr.mk k o n v u a (ks.map posE) ss].flatMap PExpr.row = (PExpr.mk k o n v u a (ks.map posE) ss).row := by simp
            have hvl := hvr
            rw [← hrow] at hvl
            have hck := CellF.of_pubN (n := 1) (cap := 1) hp hvl (fun e => by have := congrArg List.length e; rw [flatMap_len PExpr.row_len] at this; simp at this) (Nat.le_refl _) (by decide)
            exact ⟨no.grow, _, _, rfl, PExpr.mk_valsK rfl rfl (by decide) hck (CellF.nilS _), by simpa using no.fresh, by simpa using no.own⟩
    · have h2 : ValsF m (PExpr.mk k o (!n) v u a ks ss).row _ _ := PExpr.mk_vals hv c1 c2
      have hs2 : ESmall (.mk k o (!n) v u a ks ss) := .mk s1 s2 s3 s4 s5
      refine ⟨fun hk5 => ⟨fun _ => ?_, fun h => absurd hk5 h⟩, fun hk5 => ?_⟩
      · skip
        have hne : negE (.mk k o n v u a ks ss) = .mk k o (!n) v u a (ks.map posE) ss := by rw [negE, if_neg hno, if_neg (fun hh => hk4 hh.1), if_pos (by omega), posEs_eq]
        rw [hne]
        refine (withKids_c _ _ _ _ _ _ _ _ 27 posE hkp hs2 _ _ _ (h2.grow (Grow.refl m))).mono ?_
        rintro r m5 ⟨hg5, us, F5, rfl, hvr, hf5, ho5⟩
        have hvr' := hvr
        obtain ⟨x', y', H1', H2', rfl, _, q1', q2', hF⟩ := PExpr.vals hvr'
        obtain ⟨ax', px', rfl, _⟩ := q1'.slice
        obtain ⟨ay', py', rfl, _⟩ := q2'.slice
        simp only [vcs, tbl, crs, List.map, reduceIte, Nat.reduceLT, Nat.reduceLeDiff, Nat.reduceEqDiff, Nat.reduceAdd, Nat.reduceMul, Nat.reduceSub, List.all_cons, List.all_nil, Bool.and_true, Bool.and_self, ne_eq, reduceCtorEq, not_false_eq_true, and_self]
        exact ⟨(Grow.refl m).trans hg5, _, _, rfl, hvr, hf5.grow' (Grow.refl m), ho5⟩
      refine ⟨fun hk6 => ⟨fun _ => ?_, fun h => absurd hk6 h⟩, fun hk6 => ?_⟩
      · skip
        have hne : negE (.mk k o n v u a ks ss) = .mk k o (!n) v u a (ks.map posE) ss := by rw [negE, if_neg hno, if_neg (fun hh => hk4 hh.1), if_pos (by omega), posEs_eq]
        rw [hne]
        refine (withKids_c _ _ _ _ _ _ _ _ 27 posE hkp hs2 _ _ _ (h2.grow (Grow.refl m))).mono ?_
        rintro r m5 ⟨hg5, us, F5, rfl, hvr, hf5, ho5⟩
        have hvr' := hvr
        obtain ⟨x', y', H1', H2', rfl, _, q1', q2', hF⟩ := PExpr.vals hvr'
        obtain ⟨ax', px', rfl, _⟩ := q1'.slice
        obtain ⟨ay', py', rfl, _⟩ := q2'.slice
        simp only [vcs, tbl, crs, List.map, reduceIte, Nat.reduceLT, Nat.reduceLeDiff, Nat.reduceEqDiff, Nat.reduceAdd, Nat.reduceMul, Nat.reduceSub, List.all_cons, List.all_nil, Bool.and_true, Bool.and_self, ne_eq, reduceCtorEq, not_false_eq_true, and_self]
        exact ⟨(Grow.refl m).trans hg5, _, _, rfl, hvr, hf5.grow' (Grow.refl m), ho5⟩
      refine ⟨fun hk7 => ⟨fun _ => ?_, fun h => absurd hk7 h⟩, fun hk7 => ?_⟩
      · skip
        have hne : negE (.mk k o n v u a ks ss) = .mk k o (!n) v u a (ks.map posE) ss := by rw [negE, if_neg hno, if_neg (fun hh => hk4 hh.1), if_pos (by omega), posEs_eq]
        rw [hne]
        refine (withKids_c _ _ _ _ _ _ _ _ 27 posE hkp hs2 _ _ _ (h2.grow (Grow.refl m))).mono ?_
        rintro r m5 ⟨hg5, us, F5, rfl, hvr, hf5, ho5⟩
        have hvr' := hvr
        obtain ⟨x', y', H1', H2', rfl, _, q1', q2', hF⟩ := PExpr.vals hvr'
        obtain ⟨ax', px', rfl, _⟩ := q1'.slice
        obtain ⟨ay', py', rfl, _⟩ := q2'.slice
        simp only [vcs, tbl, crs, List.map, reduceIte, Nat.reduceLT, Nat.reduceLeDiff, Nat.reduceEqDiff, Nat.reduceAdd, Nat.reduceMul, Nat.reduceSub, List.all_cons, List.all_nil, Bool.and_true, Bool.and_self, ne_eq, reduceCtorEq, not_false_eq_true, and_self]
        exact ⟨(Grow.refl m).trans hg5, _, _, rfl, hvr, hf5.grow' (Grow.refl m), ho5⟩
      refine ⟨fun hk8 => ?_, fun hk8 => ?_⟩
      · skip
        have hne : negE (.mk k o n v u a ks ss) = .mk k o (!n) v u a (ks.map posE) ss := by rw [negE, if_neg hno, if_neg (fun hh => hk4 hh.1), if_pos (by omega), posEs_eq]
        rw [hne]
        refine (withKids_c _ _ _ _ _ _ _ _ 27 posE hkp hs2 _ _ _ (h2.grow (Grow.refl m))).mono ?_
        rintro r m5 ⟨hg5, us, F5, rfl, hvr, hf5, ho5⟩
        have hvr' := hvr
        obtain ⟨x', y', H1', H2', rfl, _, q1', q2', hF⟩ := PExpr.vals hvr'
        obtain ⟨ax', px', rfl, _⟩ := q1'.slice
        obtain ⟨ay', py', rfl, _⟩ := q2'.slice
        simp only [vcs, tbl, crs, List.map, reduceIte, Nat.reduceLT, Nat.reduceLeDiff, Nat.reduceEqDiff, Nat.reduceAdd, Nat.reduceMul, Nat.reduceSub, List.all_cons, List.all_nil, Bool.and_true, Bool.and_self, ne_eq, reduceCtorEq, not_false_eq_true, and_self]
        exact ⟨(Grow.refl m).trans hg5, _, _, rfl, hvr, hf5.grow' (Grow.refl m), ho5⟩
      have hne : negE (.mk k o n v u a ks ss) = .mk 3 15 false ⟨0, 0, ByteArray.empty⟩ 0 0 [.mk k o n v u a (ks.map posE) ss] [] := by
        rw [negE, if_neg hno, if_neg (fun hh => hk4 hh.1), if_neg (fun hh => by omega), posEs_eq]
      rw [hne]
      refine (hpos _ _ _ (h.grow (Grow.refl m))).mono ?_
      rintro r m5 ⟨hg5, us, F5, rfl, hvr, hf5, ho5⟩
      rw [hpe] at hvr
      have hvr' := hvr
      obtain ⟨x', y', H1', H2', rfl, _, q1', q2', hF⟩ := PExpr.vals hvr'
      obtain ⟨ax', px', rfl, _⟩ := q1'.slice
      obtain ⟨ay', py', rfl, _⟩ := q2'.slice
      simp only [vcs, tbl, crs, List.map, reduceIte, Nat.reduceLT, Nat.reduceLeDiff, Nat.reduceEqDiff, Nat.reduceAdd, Nat.reduceMul, Nat.reduceSub, List.all_cons, List.all_nil, Bool.and_true, Bool.and_self, ne_eq, reduceCtorEq, not_false_eq_true, and_self, range1, rep1, Nat.zero_mul, Nat.zero_add, Nat.le_refl]
      intro b m6 hp
      have no := (⟨(Grow.refl m).trans hg5, hf5.grow' (Grow.refl m), ho5⟩ : NewOwn m m5 F5).pub hp
      have hrow : [PExpr.mk k o n v u a (ks.map posE) ss].flatMap PExpr.row = (PExpr.mk k o n v u a (ks.map posE) ss).row := by simp
      have hvl := hvr
      rw [← hrow] at hvl
      have hck := CellF.of_pubN (n := 1) (cap := 1) hp hvl (fun e => by have := congrArg List.length e; rw [flatMap_len PExpr.row_len] at this; simp at this) (Nat.le_refl _) (by decide)
      exact ⟨no.grow, _, _, rfl, PExpr.mk_valsK rfl rfl (by decide) hck (CellF.nilS _), by simpa using no.fresh, by simpa using no.own⟩


theorem pos_all (e : PExpr) : ESmall e → ChC 27 posE e ∧ ChC 77 negE e :=
  (tree_ind (A := fun e => ESmall e → ChC 27 posE e ∧ ChC 77 negE e) (B := fun _ => True) (C := fun _ => True) (fun k o n v u a ks ss hk _ hs => ⟨posE_step k o n v u a ks ss hk hs, negE_step k o n v u a ks ss hk hs⟩) (fun _ _ _ _ _ _ _ _ _ _ _ _ => trivial) (fun _ _ _ => trivial)).1 e

end Go.Proofs.Ytklligemdfnimaa
set_option linter.unusedVariables false
set_option linter.unusedSimpArgs false
set_option maxRecDepth 4000
namespace Go.Proofs.Ytklligemdfnimaa
open Go Go.Vc
theorem l19Copies_c (es : List PExpr) (hx : ∀ e ∈ es, ChC 82 id e) (hlen : es.length ≤ 1048576) (m : World) (v : Value) (F : List Nat) (h : CellF m (.sl es.length (es.flatMap PExpr.row)) v F) :
   FCalls Try.prog 140 #[v] m fun r m' => Grow m m' ∧ ∃ F', CellF m' (.sl es.length (es.flatMap PExpr.row)) r F' ∧ Fresh m F' ∧ Own m' F' := by
  obtain ⟨a, cap, rfl, hcap, hmax, hz⟩ := h.slice
  have hmax' : cap ≤ 9223372036854775807 := hmax
  have hml : maxLen = 9223372036854775807 := rfl
  refine fcalls_of_vc (args := [_]) follows_mixed Try.func140 rfl (by kernel_rfl) (by simp [Try.f140]) ?_
  simp only [Try.f140, vcs, tbl, crs, List.map, reduceIte, Nat.reduceLT, Nat.reduceLeDiff, Nat.reduceEqDiff, Nat.reduceAdd, Nat.reduceMul, Nat.reduceSub, List.all_cons, List.all_nil, Bool.and_true, Bool.and_self, ne_eq, reduceCtorEq, not_false_eq_true, and_self]
  simp only [vcs, tbl, crs, List.map, reduceIte, Nat.reduceLT, Nat.reduceLeDiff, Nat.reduceEqDiff, Nat.reduceAdd, Nat.reduceMul, Nat.reduceSub, List.all_cons, List.all_nil, Bool.and_true, Bool.and_self, ne_eq, reduceCtorEq, not_false_eq_true, and_self, range0, rep0, Nat.zero_mul, Nat.zero_le]
  refine vcLoop.ren 5 19 (by decide) (by decide) (fun f L m1 => ∃ (k : Nat) (dn : List Value) (F1 : List Nat) (cap' : Nat), f 4 = .c (.v (.int .i64 k)) ∧ f 3 = .c (.bs 19 k) ∧ L = [(19, .arr 56 dn cap')] ∧ k ≤ cap' ∧ cap' ≤ maxLen ∧ k ≤ es.length ∧ ValsF m1 ((es.take k).flatMap PExpr.row) dn F1 ∧ NewOwn m m1 F1)
    (fun f _ _ => (es.length - ixS (f 4)).toNat) ⟨[(19, .arr 56 [] 0)], ?_, 0, [], [], 0, ?_⟩ ?_
  · simp only [vcs, tbl, crs, List.map, reduceIte, Nat.reduceLT, Nat.reduceLeDiff, Nat.reduceEqDiff, Nat.reduceAdd, Nat.reduceMul, Nat.reduceSub, List.all_cons, List.all_nil, Bool.and_true, Bool.and_self, ne_eq, reduceCtorEq, not_false_eq_true, and_self]
    exact Sub.one _ _
  · simp only [vcs, tbl, crs, List.map, reduceIte, Nat.reduceLT, Nat.reduceLeDiff, Nat.reduceEqDiff, Nat.reduceAdd, Nat.reduceMul, Nat.reduceSub, List.all_cons, List.all_nil, Bool.and_true, Bool.and_self, ne_eq, reduceCtorEq, not_false_eq_true, and_self]
    exact ⟨rfl, Nat.zero_le _, Nat.zero_le _, rfl, NewOwn.nil⟩
  · rintro g' L1 m1 ⟨k, dn, F1, cap', h4, h5, rfl, hkc, hcm, hk, hdn, no⟩
    have hg := no.grow
    have hdl : dn.length = k * 10 := by rw [hdn.length, flatMap_len PExpr.row_len, List.length_take]; congr 1; omega
    simp only [vcs, tbl, crs, List.map, reduceIte, Nat.reduceLT, Nat.reduceLeDiff, Nat.reduceEqDiff, Nat.reduceAdd, Nat.reduceMul, Nat.reduceSub, List.all_cons, List.all_nil, Bool.and_true, Bool.and_self, ne_eq, reduceCtorEq, not_false_eq_true, and_self] at h4 h5
    simp only [vcs, tbl, crs, List.map, reduceIte, Nat.reduceLT, Nat.reduceLeDiff, Nat.reduceEqDiff, Nat.reduceAdd, Nat.reduceMul, Nat.reduceSub, List.all_cons, List.all_nil, Bool.and_true, Bool.and_self, ne_eq, reduceCtorEq, not_false_eq_true, and_self, h4, h5]
    refine ⟨fun hlt => ?_, fun hge => ?_⟩
    · have hlt : k < es.length := by omega
      obtain ⟨ad, vs, Fk, ha, hvl, hcell, hv, _⟩ := h.elem PExpr.row_len (by decide) (List.getElem?_eq_getElem hlt)
      refine ⟨by omega, by omega, ad, ha, vs, hvl, fun j v hj => hg.cell (by simpa using hcell j v hj), ?_⟩
      have hx1 := hx _ (List.getElem_mem hlt)
      have hmt : (es.take (k + 1)).flatMap PExpr.row = (es.take k).flatMap PExpr.row ++ es[k].row := by rw [List.take_add_one, List.getElem?_eq_getElem hlt, List.flatMap_append]; simp only [Option.toList_some, List.flatMap_cons, List.flatMap_nil, List.append_nil]
      obtain ⟨e, he⟩ : ∃ e, es[k] = e := ⟨_, rfl⟩
      rw [he] at hx1 hv hmt
      simp only [vcs, tbl, crs, List.map, reduceIte, Nat.reduceLT, Nat.reduceLeDiff, Nat.reduceEqDiff, Nat.reduceAdd, Nat.reduceMul, Nat.reduceSub, List.all_cons, List.all_nil, Bool.and_true, Bool.and_self, ne_eq, reduceCtorEq, not_false_eq_true, and_self, h4, h5]
      refine (hx1 _ _ _ (hv.grow hg)).mono ?_
      rintro r m2 ⟨hg2, us, F2, rfl, hvr, hf2, ho2⟩
      have hvr : ValsF m2 e.row us F2 := hvr
      have hvr' := hvr
      obtain ⟨kd', op', nt', vl', up', ap', ks', ss'⟩ := e
      obtain ⟨x', y', G1', G2', rfl, _, c1', c2', hF⟩ := PExpr.vals hvr'
      obtain ⟨ax', px', rfl, _⟩ := c1'.slice
      obtain ⟨ay', py', rfl, _⟩ := c2'.slice
      simp only [vcs, tbl, crs, List.map, reduceIte, Nat.reduceLT, Nat.reduceLeDiff, Nat.reduceEqDiff, Nat.reduceAdd, Nat.reduceMul, Nat.reduceSub, List.all_cons, List.all_nil, Bool.and_true, Bool.and_self, ne_eq, reduceCtorEq, not_false_eq_true, and_self, h4, h5, range1, rep1, Nat.zero_mul, Nat.zero_add, Nat.le_refl, hdl]
      refine ⟨hvr.oneCell, by omega, by omega, fun cap2 hc1 hc2 => ?_⟩
      rw [wrap_id (by omega) (by omega)]
      refine ⟨[_], Sub.head _ _ _, ⟨k + 1, _, F1 ++ F2, cap2, by simp, rfl, rfl, by omega, by omega, by omega, ?_, no.step hg2 hf2 ho2⟩, by omega⟩
      rw [hmt, List.take_of_length_le (l := dn) (by omega)]
      exact (hdn.grow hg2).join hvr
    · have : k = es.length := by omega
      subst this
      intro b m' hp
      rw [List.take_length] at hdn
      exact ⟨hg.trans hp.grow, CellF.of_pubO hp hdn hg no.fresh no.own hkc hcm⟩

theorem l19Copy_step (k o n v u a ks ss) (hk : ∀ e ∈ ks, ChC 82 id e)
   (hp : ∀ p ∈ ss, ∀ (m : World) (vs : List Value) (F : List Nat), ValsF m p.row vs F → FCalls Try.prog 94 #[.agg vs.toArray] m fun r m' => Grow m m' ∧ ∃ us F', r = .agg us.toArray ∧ ValsF m' p.row us F' ∧ Fresh m F' ∧ Own m' F') (s1 : ks.length ≤ 1048576) (s2 : ss.length ≤ 1048576) : ChC 82 id (.mk k o n v u a ks ss) := by
  intro m vs F h
  have hml : maxLen = 9223372036854775807 := rfl
  obtain ⟨x, y, F1, F2, rfl, hv, c1, c2, rfl⟩ := PExpr.vals h
  obtain ⟨ax, px, rfl, _⟩ := c1.slice
  obtain ⟨ay, py, rfl, hay, hmy, _⟩ := c2.slice
  clear h
  show FCalls Try.prog 82 _ m fun r m' => Grow m m' ∧ ∃ us F', r = .agg us.toArray ∧ ValsF m' (PExpr.mk k o n v u a ks ss).row us F' ∧ Fresh m F' ∧ Own m' F'
  refine fcalls_of_vc (args := [_]) follows_mixed Try.func82 rfl (by kernel_rfl) (by simp [Try.f82]) ?_
  simp only [Try.f82, vcs, tbl, crs, List.map, reduceIte, Nat.reduceLT, Nat.reduceLeDiff, Nat.reduceEqDiff, Nat.reduceAdd, Nat.reduceMul, Nat.reduceSub, List.all_cons, List.all_nil, Bool.and_true, Bool.and_self, ne_eq, reduceCtorEq, not_false_eq_true, and_self]
  refine (l19Copies_c _ hk s1 _ _ _ c1).mono ?_
  rintro r m1 ⟨hg1, Fk, cK, hfk, hok⟩
  obtain ⟨ak, pk, rfl, _⟩ := cK.slice
  simp only [vcs, tbl, crs, List.map, reduceIte, Nat.reduceLT, Nat.reduceLeDiff, Nat.reduceEqDiff, Nat.reduceAdd, Nat.reduceMul, Nat.reduceSub, List.all_cons, List.all_nil, Bool.and_true, Bool.and_self, ne_eq, reduceCtorEq, not_false_eq_true, and_self]
  refine vcLoop.intro (fun f L m1 => ∃ (i : Nat) (dn : List Value) (G : List Nat), f 4 = .c (.v (.int .i64 i)) ∧ i ≤ ss.length ∧ CellF m1 (.sl ks.length (ks.flatMap PExpr.row)) (.slice ak ks.length pk) Fk ∧ ValsF m1 ((ss.take i).flatMap Plan.row) dn G ∧ NewOwn m m1 (Fk ++ G) ∧
      ((i = 0 ∧ L = [(3, .str 56 [.v (.int .i64 k), .v (.int .i64 o), .v (.bool n), .v (.int .i64 v.kind), .v (.int .i64 v.num), .v (.string v.text), .v (.int .i64 u), .v (.int .i64 a), .v (.slice ak ks.length pk), .v (.slice none 0 0)]), (2, .str 56 [.v (.int .i64 0), .v (.int .i64 0), .v (.bool false), .v (.int .i64 0), .v (.int .i64 0), .v (.string ByteArray.empty), .v (.int .i64 0), .v (.int .i64 0), .v (.slice none 0 0), .v (.slice none 0 0)]), (1, .str 56 [.v (.int .i64 k), .v (.int .i64 o), .v (.bool n), .v (.int .i64 v.kind), .v (.int .i64 v.num), .v (.string v.text), .v (.int .i64 u), .v (.int .i64 a), .v (.slice ax ks.length px), .v (.slice ay ss.length py)])]) ∨ (0 < i ∧ ∃ cap1, i ≤ cap1 ∧ cap1 ≤ maxLen ∧ L = [(3, .str 56 [.v (.int .i64 k), .v (.int .i64 o), .v (.bool n), .v (.int .i64 v.kind), .v (.int .i64 v.num), .v (.string v.text), .v (.int .i64 u), .v (.int .i64 a), .v (.slice ak ks.length pk), .bs 27 i]), (27, .arr 74 dn cap1), (2, .str 56 [.v (.int .i64 0), .v (.int .i64 0), .v (.bool false), .v (.int .i64 0), .v (.int .i64 0), .v (.string ByteArray.empty), .v (.int .i64 0), .v (.int .i64 0), .v (.slice none 0 0), .v (.slice none 0 0)]), (1, .str 56 [.v (.int .i64 k), .v (.int .i64 o), .v (.bool n), .v (.int .i64 v.kind), .v (.int .i64 v.num), .v (.string v.text), .v (.int .i64 u), .v (.int .i64 a), .v (.slice ax ks.length px), .v (.slice ay ss.length py)])])))
    (fun f _ _ => (ss.length - ixS (f 4)).toNat) ⟨[(3, .str 56 [.v (.int .i64 k), .v (.int .i64 o), .v (.bool n), .v (.int .i64 v.kind), .v (.int .i64 v.num), .v (.string v.text), .v (.int .i64 u), .v (.int .i64 a), .v (.slice ak ks.length pk), .v (.slice none 0 0)]), (2, .str 56 [.v (.int .i64 0), .v (.int .i64 0), .v (.bool false), .v (.int .i64 0), .v (.int .i64 0), .v (.string ByteArray.empty), .v (.int .i64 0), .v (.int .i64 0), .v (.slice none 0 0), .v (.slice none 0 0)]), (1, .str 56 [.v (.int .i64 k), .v (.int .i64 o), .v (.bool n), .v (.int .i64 v.kind), .v (.int .i64 v.num), .v (.string v.text), .v (.int .i64 u), .v (.int .i64 a), .v (.slice ax ks.length px), .v (.slice ay ss.length py)])], Sub.at 3 rfl (Sub.at 2 rfl (Sub.at 1 rfl (Sub.nil _))), 0, [], [], ?_⟩ ?_
  · simp only [vcs, tbl, crs, List.map, reduceIte, Nat.reduceLT, Nat.reduceLeDiff, Nat.reduceEqDiff, Nat.reduceAdd, Nat.reduceMul, Nat.reduceSub, List.all_cons, List.all_nil, Bool.and_true, Bool.and_self, ne_eq, reduceCtorEq, not_false_eq_true, and_self]
    exact ⟨rfl, Nat.zero_le _, cK, rfl, by simpa using (⟨hg1, hfk, hok⟩ : NewOwn m m1 Fk), by first | trivial | exact .inl trivial | exact .inl ⟨rfl, rfl⟩⟩
  · rintro g' L1 m3 ⟨i, dn, G, h4, hi, cK, hdn, no3, hL⟩
    have hg03 := no3.grow
    have hdl : dn.length = i * 8 := by rw [hdn.length, flatMap_len Plan.row_len, List.length_take]; congr 1; omega
    rcases hL with ⟨rfl, rfl⟩ | ⟨hi0, cap1, hc1, hc2, rfl⟩
    · have hdn0 : dn = [] := List.eq_nil_of_length_eq_zero (by omega)
      simp only [vcs, tbl, crs, List.map, reduceIte, Nat.reduceLT, Nat.reduceLeDiff, Nat.reduceEqDiff, Nat.reduceAdd, Nat.reduceMul, Nat.reduceSub, List.all_cons, List.all_nil, Bool.and_true, Bool.and_self, ne_eq, reduceCtorEq, not_false_eq_true, and_self] at h4
      simp only [vcs, tbl, crs, List.map, reduceIte, Nat.reduceLT, Nat.reduceLeDiff, Nat.reduceEqDiff, Nat.reduceAdd, Nat.reduceMul, Nat.reduceSub, List.all_cons, List.all_nil, Bool.and_true, Bool.and_self, ne_eq, reduceCtorEq, not_false_eq_true, and_self, h4]
      refine ⟨fun hlt => ?_, fun hge => ?_⟩
      · skip
        have hlt : 0 < ss.length := by omega
        obtain ⟨ad, vs, Fp, ha, hvl, hcell, hvp, _⟩ := c2.elem Plan.row_len (by decide) (List.getElem?_eq_getElem hlt)
        refine vcDrawn.introL (.take 0 (.take 1 (.take 2 (.take 3 (.take 4 (.take 5 (.take 6 (.br 7 (.br 8 (.br 9 (.take 10 (.br 11 .done .nobr)) .nobr) .nobr) .nobr)))))))) (by kernel_rfl) ?_
        simp only [vcs, tbl, crs, List.map, reduceIte, Nat.reduceLT, Nat.reduceLeDiff, Nat.reduceEqDiff, Nat.reduceAdd, Nat.reduceMul, Nat.reduceSub, List.all_cons, List.all_nil, Bool.and_true, Bool.and_self, ne_eq, reduceCtorEq, not_false_eq_true, and_self, h4]
        refine ⟨by omega, by omega, ad, ha, vs, hvl, fun j v hj => hg03.cell (by simpa using hcell j v hj), ?_⟩
        have hx1 := hp _ (List.getElem_mem hlt)
        have hmt : (ss.take (0 + 1)).flatMap Plan.row = (ss.take 0).flatMap Plan.row ++ ss[0].row := by rw [List.take_add_one, List.getElem?_eq_getElem hlt, List.flatMap_append]; simp only [Option.toList_some, List.flatMap_cons, List.flatMap_nil, List.append_nil]
        obtain ⟨e, he⟩ : ∃ e, ss[0] = e := ⟨_, rfl⟩
        rw [he] at hx1 hvp hmt
        simp only [vcs, tbl, crs, List.map, reduceIte, Nat.reduceLT, Nat.reduceLeDiff, Nat.reduceEqDiff, Nat.reduceAdd, Nat.reduceMul, Nat.reduceSub, List.all_cons, List.all_nil, Bool.and_true, Bool.and_self, ne_eq, reduceCtorEq, not_false_eq_true, and_self, h4]
        refine (hx1 _ _ _ (hvp.grow hg03)).mono ?_
        rintro r m4 ⟨hg4, us, F4, rfl, hvr, hf4, ho4⟩
        have hvr' := hvr
        obtain ⟨t, on, wh, or, it, nm, dst, li⟩ := e
        obtain ⟨z1, z2, z3, z4, z5, z6, D1, D2, D3, D4, D5, D6, rfl, r1, r2, r3, r4, r5, r6, hF4⟩ := Plan.vals hvr'
        obtain ⟨d1, k1, rfl, _⟩ := r1.slice
        obtain ⟨d2, k2, rfl, _⟩ := r2.slice
        obtain ⟨d3, k3, rfl, _⟩ := r3.slice
        obtain ⟨d4, k4, rfl, _⟩ := r4.slice
        obtain ⟨d5, k5, rfl, _⟩ := r5.slice
        obtain ⟨d6, k6, rfl, _⟩ := r6.slice
        refine ⟨hg4, ?_⟩
        simp only [vcs, tbl, crs, List.map, reduceIte, Nat.reduceLT, Nat.reduceLeDiff, Nat.reduceEqDiff, Nat.reduceAdd, Nat.reduceMul, Nat.reduceSub, List.all_cons, List.all_nil, Bool.and_true, Bool.and_self, ne_eq, reduceCtorEq, not_false_eq_true, and_self, h4, range1, rep1, Nat.zero_mul, Nat.zero_add, Nat.le_refl, hdl]
        refine ⟨hvr.oneCell, by omega, fun h => h.elim, fun _ cap2 hc3 hc4 => ?_⟩
        rw [wrap_id (by omega) (by omega)]
        refine ⟨_, Sub.at 3 rfl (Sub.at 27 rfl (Sub.at 2 rfl (Sub.at 1 rfl (Sub.nil _)))), ⟨0 + 1, dn ++ _, G ++ F4, by simp, by omega, cK.grow hg4, ?_, ?_, .inr ⟨by omega, cap2, by omega, hc4, by simp only [hdn0, List.nil_append]; rfl⟩⟩, by omega⟩
        · rw [hmt]; exact (hdn.grow hg4).join hvr
        · rw [← List.append_assoc]; exact no3.step hg4 hf4 ho4
      · have : ss = [] := List.eq_nil_of_length_eq_zero (by omega)
        subst this
        obtain ⟨rfl, rfl⟩ := valsF_nil (show ValsF m3 [] dn G from hdn)
        exact ⟨no3.grow, _, _, rfl, PExpr.mk_vals hv cK (CellF.nilS _), no3.fresh, no3.own⟩
    · simp only [vcs, tbl, crs, List.map, reduceIte, Nat.reduceLT, Nat.reduceLeDiff, Nat.reduceEqDiff, Nat.reduceAdd, Nat.reduceMul, Nat.reduceSub, List.all_cons, List.all_nil, Bool.and_true, Bool.and_self, ne_eq, reduceCtorEq, not_false_eq_true, and_self] at h4
      simp only [vcs, tbl, crs, List.map, reduceIte, Nat.reduceLT, Nat.reduceLeDiff, Nat.reduceEqDiff, Nat.reduceAdd, Nat.reduceMul, Nat.reduceSub, List.all_cons, List.all_nil, Bool.and_true, Bool.and_self, ne_eq, reduceCtorEq, not_false_eq_true, and_self, h4]
      refine ⟨fun hlt => ?_, fun hge => ?_⟩
      · skip
        have hlt : i < ss.length := by omega
        obtain ⟨ad, vs, Fp, ha, hvl, hcell, hvp, _⟩ := c2.elem Plan.row_len (by decide) (List.getElem?_eq_getElem hlt)
        refine vcDrawn.introL (.take 0 (.take 1 (.take 2 (.take 3 (.take 4 (.take 5 (.take 6 (.br 7 (.br 8 (.br 9 (.take 10 (.br 11 .done .nobr)) .nobr) .nobr) .nobr)))))))) (by kernel_rfl) ?_
        simp only [vcs, tbl, crs, List.map, reduceIte, Nat.reduceLT, Nat.reduceLeDiff, Nat.reduceEqDiff, Nat.reduceAdd, Nat.reduceMul, Nat.reduceSub, List.all_cons, List.all_nil, Bool.and_true, Bool.and_self, ne_eq, reduceCtorEq, not_false_eq_true, and_self, h4]
        refine ⟨by omega, by omega, ad, ha, vs, hvl, fun j v hj => hg03.cell (by simpa using hcell j v hj), ?_⟩
        have hx1 := hp _ (List.getElem_mem hlt)
        have hmt : (ss.take (i + 1)).flatMap Plan.row = (ss.take i).flatMap Plan.row ++ ss[i].row := by rw [List.take_add_one, List.getElem?_eq_getElem hlt, List.flatMap_append]; simp only [Option.toList_some, List.flatMap_cons, List.flatMap_nil, List.append_nil]
        obtain ⟨e, he⟩ : ∃ e, ss[i] = e := ⟨_, rfl⟩
        rw [he] at hx1 hvp hmt
        simp only [vcs, tbl, crs, List.map, reduceIte, Nat.reduceLT, Nat.reduceLeDiff, Nat.reduceEqDiff, Nat.reduceAdd, Nat.reduceMul, Nat.reduceSub, List.all_cons, List.all_nil, Bool.and_true, Bool.and_self, ne_eq, reduceCtorEq, not_false_eq_true, and_self, h4]
        refine (hx1 _ _ _ (hvp.grow hg03)).mono ?_
        rintro r m4 ⟨hg4, us, F4, rfl, hvr, hf4, ho4⟩
        have hvr' := hvr
        obtain ⟨t, on, wh, or, it, nm, dst, li⟩ := e
        obtain ⟨z1, z2, z3, z4, z5, z6, D1, D2, D3, D4, D5, D6, rfl, r1, r2, r3, r4, r5, r6, hF4⟩ := Plan.vals hvr'
        obtain ⟨d1, k1, rfl, _⟩ := r1.slice
        obtain ⟨d2, k2, rfl, _⟩ := r2.slice
        obtain ⟨d3, k3, rfl, _⟩ := r3.slice
        obtain ⟨d4, k4, rfl, _⟩ := r4.slice
        obtain ⟨d5, k5, rfl, _⟩ := r5.slice
        obtain ⟨d6, k6, rfl, _⟩ := r6.slice
        refine ⟨hg4, ?_⟩
        simp only [vcs, tbl, crs, List.map, reduceIte, Nat.reduceLT, Nat.reduceLeDiff, Nat.reduceEqDiff, Nat.reduceAdd, Nat.reduceMul, Nat.reduceSub, List.all_cons, List.all_nil, Bool.and_true, Bool.and_self, ne_eq, reduceCtorEq, not_false_eq_true, and_self, h4, range1, rep1, Nat.zero_mul, Nat.zero_add, Nat.le_refl, hdl]
        refine ⟨hvr.oneCell, by omega, by omega, fun cap2 hc3 hc4 => ?_⟩
        rw [wrap_id (by omega) (by omega)]
        refine ⟨_, Sub.at 3 rfl (Sub.at 27 rfl (Sub.at 2 rfl (Sub.at 1 rfl (Sub.nil _)))), ⟨i + 1, dn ++ _, G ++ F4, by simp, by omega, cK.grow hg4, ?_, ?_, .inr ⟨by omega, cap2, by omega, hc4, by rw [List.take_of_length_le (l := dn) (by omega)]⟩⟩, by omega⟩
        · rw [hmt]; exact (hdn.grow hg4).join hvr
        · rw [← List.append_assoc]; exact no3.step hg4 hf4 ho4
      · have : i = ss.length := by omega
        subst this
        rw [List.take_length] at hdn
        intro b m' hpb
        have cS := CellF.of_pubN hpb hdn (fun e => by have := congrArg List.length e; rw [flatMap_len Plan.row_len] at this; have h0 : ([] : List D).length = 0 := rfl; omega) hc1 hc2
        have no : NewOwn m m' (Fk ++ (b :: G)) := (no3.pub hpb).perm (List.perm_iff_count.2 fun x => by simp only [List.count_cons, List.count_append]; omega)
        exact ⟨no.grow, _, _, rfl, PExpr.mk_vals hv (cK.grow hpb.grow) cS, no.fresh, no.own⟩

end Go.Proofs.Ytklligemdfnimaa
set_option linter.unusedVariables false
set_option linter.unusedSimpArgs false
set_option maxRecDepth 4000
namespace Go.Proofs.Ytklligemdfnimaa
open Go Go.Vc
set_option maxHeartbeats 2000000 in
theorem l19CopyPlan_step (t on wh or it nm ds li) (h1 : ∀ l ∈ on, ∀ e ∈ l, ChC 82 id e) (h2 : ∀ e ∈ wh, ChC 82 id e) (h3 : ∀ s ∈ or, ∀ e d, s = .mk e d → ChC 82 id e) (h4 : ∀ e ∈ it, ChC 82 id e)
   (hs : PSmall (.mk t on wh or it nm ds li)) (m : World) (vs : List Value) (F : List Nat) (h : ValsF m (Plan.mk t on wh or it nm ds li).row vs F) :
   FCalls Try.prog 94 #[.agg vs.toArray] m fun r m' => Grow m m' ∧ ∃ us F', r = .agg us.toArray ∧ ValsF m' (Plan.mk t on wh or it nm ds li).row us F' ∧ Fresh m F' ∧ Own m' F' := by
  have hml : maxLen = 9223372036854775807 := rfl
  obtain ⟨v1, v2, v3, v4, v5, v6, F1, F2, F3, F4, F5, F6, rfl, c1, c2, c3, c4, c5, c6, rfl⟩ := Plan.vals h
  obtain ⟨at_, pt, rfl, _⟩ := c1.slice
  obtain ⟨ao, po, rfl, hao, hmo, _⟩ := c2.slice
  obtain ⟨aw, pw, rfl, _⟩ := c3.slice
  obtain ⟨ar, pr, rfl, har, hmr, _⟩ := c4.slice
  obtain ⟨ai, pi, rfl, _⟩ := c5.slice
  obtain ⟨an, pn, rfl, _⟩ := c6.slice
  obtain ⟨s1, s2, s3, s4, s5, s6, s7, s8, s9, s10, s11⟩ := hs
  clear h
  refine fcalls_of_vc (args := [_]) follows_mixed Try.func94 rfl (by kernel_rfl) (by simp [Try.f94]) ?_
  simp only [Try.f94, vcs, tbl, crs, List.map, reduceIte, Nat.reduceLT, Nat.reduceLeDiff, Nat.reduceEqDiff, Nat.reduceAdd, Nat.reduceMul, Nat.reduceSub, List.all_cons, List.all_nil, Bool.and_true, Bool.and_self, ne_eq, reduceCtorEq, not_false_eq_true, and_self]
  refine vcDrawn.cut (fun f L m1 => ∃ vt ct vn cn aw1 pw1 ai1 pi1 Fw Fi, f 1 = .c (.bp 1 0) ∧ f 2 = .c (.bp 2 0) ∧ f 3 = .c (.bp 3 0) ∧ L = [(3, .str 74 [.bs 9 t.length, .v (.slice none 0 0), .v (.slice aw1 wh.length pw1), .v (.slice none 0 0), .v (.slice ai1 it.length pi1), .bs 19 nm.length, .v (.bool ds), .v (.int .i64 li)]), (19, .arr 9 vn cn), (9, .arr 3 vt ct), (2, .str 74 [.v (.slice none 0 0), .v (.slice none 0 0), .v (.slice none 0 0), .v (.slice none 0 0), .v (.slice none 0 0), .v (.slice none 0 0), .v (.bool false), .v (.int .i64 0)]), (1, .str 74 [.v (.slice at_ t.length pt), .v (.slice ao on.length po), .v (.slice aw wh.length pw), .v (.slice ar or.length pr), .v (.slice ai it.length pi), .v (.slice an nm.length pn), .v (.bool ds), .v (.int .i64 li)])] ∧ t.length ≤ ct ∧ ct ≤ maxLen ∧ nm.length ≤ cn ∧ cn ≤ maxLen ∧ ValsF m1 (t.flatMap irow) vt [] ∧ ValsF m1 (nm.flatMap srow) vn [] ∧ CellF m1 (.sl wh.length (wh.flatMap PExpr.row)) (.slice aw1 wh.length pw1) Fw ∧ CellF m1 (.sl it.length (it.flatMap PExpr.row)) (.slice ai1 it.length pi1) Fi ∧ NewOwn m m1 (Fw ++ Fi)) ?_ ?_
  · intro K hK
    refine vcDrawn.introL (.take 1 (.take 2 (.take 4 (.take 5 (.take 7 (.take 8 (.take 11 (.take 12 (.take 14 (.take 15 (.take 16 (.take 17 (.late 0 (.late 10 (.late 19 (.mk 0 (.brF 3 (.br 6 (.br 9 (.mk 10 (.brF 13 (.take 18 (.mk 19 (.br 20 .done .nobr))) .nobr)) .nobr) .nobr) .nobr))))))))))))))))) (by kernel_rfl) ?_
    rcases c1.nil_or with ⟨rfl, htl, rfl⟩ | ⟨adT, rfl⟩ <;> rcases c6.nil_or with ⟨rfl, hnl, rfl⟩ | ⟨adN, rfl⟩
    · rw [htl, hnl]
      simp only [vcs, tbl, crs, List.map, reduceIte, Nat.reduceLT, Nat.reduceLeDiff, Nat.reduceEqDiff, Nat.reduceAdd, Nat.reduceMul, Nat.reduceSub, List.all_cons, List.all_nil, Bool.and_true, Bool.and_self, ne_eq, reduceCtorEq, not_false_eq_true, and_self, range0, rep0, Nat.zero_mul, Nat.zero_le, Nat.zero_add, Nat.mul_one]
      refine ⟨fun _ h => (by cases h), fun Tc hT1 hT2 => ?_⟩
      have hT : ∃ vs0 : List Value, vs0 = [] ∧ ValsF m (t.flatMap irow) vs0 [] := ⟨[], rfl, by rw [List.eq_nil_of_length_eq_zero (by omega : t.length = 0)]; rfl⟩
      refine (l19Copies_c _ h2 s5 _ _ _ c3).mono ?_
      rintro r m1 ⟨hg1, Fw, cw, hfw, how⟩
      obtain ⟨aw1, pw1, rfl, _⟩ := cw.slice
      refine ⟨hg1, ?_⟩
      simp only [vcs, tbl, crs, List.map, reduceIte, Nat.reduceLT, Nat.reduceLeDiff, Nat.reduceEqDiff, Nat.reduceAdd, Nat.reduceMul, Nat.reduceSub, List.all_cons, List.all_nil, Bool.and_true, Bool.and_self, ne_eq, reduceCtorEq, not_false_eq_true, and_self, range0, rep0, Nat.zero_mul, Nat.zero_le, Nat.zero_add, Nat.mul_one]
      refine (l19Copies_c _ h4 s9 _ _ _ (c5.grow hg1)).mono ?_
      rintro r m2 ⟨hg2, Fi, ci, hfi, hoi⟩
      obtain ⟨ai1, pi1, rfl, _⟩ := ci.slice
      refine ⟨hg2, ?_⟩
      have no0 : NewOwn m m2 (Fw ++ Fi) := NewOwn.step ⟨hg1, hfw, how⟩ hg2 hfi hoi
      have g02 := no0.grow
      simp only [vcs, tbl, crs, List.map, reduceIte, Nat.reduceLT, Nat.reduceLeDiff, Nat.reduceEqDiff, Nat.reduceAdd, Nat.reduceMul, Nat.reduceSub, List.all_cons, List.all_nil, Bool.and_true, Bool.and_self, ne_eq, reduceCtorEq, not_false_eq_true, and_self, range0, rep0, Nat.zero_mul, Nat.zero_le, Nat.zero_add, Nat.mul_one]
      refine ⟨fun _ h => (by cases h), fun Nc hN1 hN2 => ?_⟩
      have hN : ∃ vs0 : List Value, vs0 = [] ∧ ValsF m (nm.flatMap srow) vs0 [] := ⟨[], rfl, by rw [List.eq_nil_of_length_eq_zero (by omega : nm.length = 0)]; rfl⟩
      obtain ⟨vt, hvt, hT⟩ := hT
      obtain ⟨vn, hvn, hN⟩ := hN
      try subst hvt
      try subst hvn
      refine hK _ _ _ ⟨_, Tc, _, Nc, aw1, pw1, ai1, pi1, Fw, Fi, rfl, rfl, rfl, ?_, by omega, hT2, by omega, hN2, hT.grow g02, hN.grow g02, cw.grow hg2, ci, no0⟩
      simp [*]
    · rw [htl]
      simp only [vcs, tbl, crs, List.map, reduceIte, Nat.reduceLT, Nat.reduceLeDiff, Nat.reduceEqDiff, Nat.reduceAdd, Nat.reduceMul, Nat.reduceSub, List.all_cons, List.all_nil, Bool.and_true, Bool.and_self, ne_eq, reduceCtorEq, not_false_eq_true, and_self, range0, rep0, Nat.zero_mul, Nat.zero_le, Nat.zero_add, Nat.mul_one]
      refine ⟨fun _ h => (by cases h), fun Tc hT1 hT2 => ?_⟩
      have hT : ∃ vs0 : List Value, vs0 = [] ∧ ValsF m (t.flatMap irow) vs0 [] := ⟨[], rfl, by rw [List.eq_nil_of_length_eq_zero (by omega : t.length = 0)]; rfl⟩
      refine (l19Copies_c _ h2 s5 _ _ _ c3).mono ?_
      rintro r m1 ⟨hg1, Fw, cw, hfw, how⟩
      obtain ⟨aw1, pw1, rfl, _⟩ := cw.slice
      refine ⟨hg1, ?_⟩
      simp only [vcs, tbl, crs, List.map, reduceIte, Nat.reduceLT, Nat.reduceLeDiff, Nat.reduceEqDiff, Nat.reduceAdd, Nat.reduceMul, Nat.reduceSub, List.all_cons, List.all_nil, Bool.and_true, Bool.and_self, ne_eq, reduceCtorEq, not_false_eq_true, and_self, range0, rep0, Nat.zero_mul, Nat.zero_le, Nat.zero_add, Nat.mul_one]
      refine (l19Copies_c _ h4 s9 _ _ _ (c5.grow hg1)).mono ?_
      rintro r m2 ⟨hg2, Fi, ci, hfi, hoi⟩
      obtain ⟨ai1, pi1, rfl, _⟩ := ci.slice
      refine ⟨hg2, ?_⟩
      have no0 : NewOwn m m2 (Fw ++ Fi) := NewOwn.step ⟨hg1, hfw, how⟩ hg2 hfi hoi
      have g02 := no0.grow
      simp only [vcs, tbl, crs, List.map, reduceIte, Nat.reduceLT, Nat.reduceLeDiff, Nat.reduceEqDiff, Nat.reduceAdd, Nat.reduceMul, Nat.reduceSub, List.all_cons, List.all_nil, Bool.and_true, Bool.and_self, ne_eq, reduceCtorEq, not_false_eq_true, and_self, range0, rep0, Nat.zero_mul, Nat.zero_le, Nat.zero_add, Nat.mul_one]
      obtain ⟨vsN, GN, hvlN, hcellN, hvN⟩ := c6.news
      have hvmN := hvlN
      rw [flatMap_len srow_len, Nat.mul_one] at hvmN
      refine ⟨vsN, hvmN, fun i v hi => g02.cell (hcellN i v hi), hvN.oneCell, by omega, by omega, fun Nc hN1 hN2 => ?_⟩
      obtain rfl := strs_vals hvN
      have hN : ∃ vs0 : List Value, vs0 = vsN ∧ ValsF m (nm.flatMap srow) vs0 [] := ⟨_, rfl, hvN⟩
      obtain ⟨vt, hvt, hT⟩ := hT
      obtain ⟨vn, hvn, hN⟩ := hN
      try subst hvt
      try subst hvn
      refine hK _ _ _ ⟨_, Tc, _, Nc, aw1, pw1, ai1, pi1, Fw, Fi, rfl, rfl, rfl, ?_, by omega, hT2, by omega, hN2, hT.grow g02, hN.grow g02, cw.grow hg2, ci, no0⟩
      simp [*]
    · rw [hnl]
      simp only [vcs, tbl, crs, List.map, reduceIte, Nat.reduceLT, Nat.reduceLeDiff, Nat.reduceEqDiff, Nat.reduceAdd, Nat.reduceMul, Nat.reduceSub, List.all_cons, List.all_nil, Bool.and_true, Bool.and_self, ne_eq, reduceCtorEq, not_false_eq_true, and_self, range0, rep0, Nat.zero_mul, Nat.zero_le, Nat.zero_add, Nat.mul_one]
      obtain ⟨vsT, GT, hvlT, hcellT, hvT⟩ := c1.news
      have hvmT := hvlT
      rw [flatMap_len irow_len, Nat.mul_one] at hvmT
      refine ⟨vsT, hvmT, hcellT, hvT.oneCell, by omega, by omega, fun Tc hT1 hT2 => ?_⟩
      obtain rfl := ints_vals hvT
      have hT : ∃ vs0 : List Value, vs0 = vsT ∧ ValsF m (t.flatMap irow) vs0 [] := ⟨_, rfl, hvT⟩
      refine (l19Copies_c _ h2 s5 _ _ _ c3).mono ?_
      rintro r m1 ⟨hg1, Fw, cw, hfw, how⟩
      obtain ⟨aw1, pw1, rfl, _⟩ := cw.slice
      refine ⟨hg1, ?_⟩
      simp only [vcs, tbl, crs, List.map, reduceIte, Nat.reduceLT, Nat.reduceLeDiff, Nat.reduceEqDiff, Nat.reduceAdd, Nat.reduceMul, Nat.reduceSub, List.all_cons, List.all_nil, Bool.and_true, Bool.and_self, ne_eq, reduceCtorEq, not_false_eq_true, and_self, range0, rep0, Nat.zero_mul, Nat.zero_le, Nat.zero_add, Nat.mul_one]
      refine (l19Copies_c _ h4 s9 _ _ _ (c5.grow hg1)).mono ?_
      rintro r m2 ⟨hg2, Fi, ci, hfi, hoi⟩
      obtain ⟨ai1, pi1, rfl, _⟩ := ci.slice
      refine ⟨hg2, ?_⟩
      have no0 : NewOwn m m2 (Fw ++ Fi) := NewOwn.step ⟨hg1, hfw, how⟩ hg2 hfi hoi
      have g02 := no0.grow
      simp only [vcs, tbl, crs, List.map, reduceIte, Nat.reduceLT, Nat.reduceLeDiff, Nat.reduceEqDiff, Nat.reduceAdd, Nat.reduceMul, Nat.reduceSub, List.all_cons, List.all_nil, Bool.and_true, Bool.and_self, ne_eq, reduceCtorEq, not_false_eq_true, and_self, range0, rep0, Nat.zero_mul, Nat.zero_le, Nat.zero_add, Nat.mul_one]
      refine ⟨fun _ h => (by cases h), fun Nc hN1 hN2 => ?_⟩
      have hN : ∃ vs0 : List Value, vs0 = [] ∧ ValsF m (nm.flatMap srow) vs0 [] := ⟨[], rfl, by rw [List.eq_nil_of_length_eq_zero (by omega : nm.length = 0)]; rfl⟩
      obtain ⟨vt, hvt, hT⟩ := hT
      obtain ⟨vn, hvn, hN⟩ := hN
      try subst hvt
      try subst hvn
      refine hK _ _ _ ⟨_, Tc, _, Nc, aw1, pw1, ai1, pi1, Fw, Fi, rfl, rfl, rfl, ?_, by omega, hT2, by omega, hN2, hT.grow g02, hN.grow g02, cw.grow hg2, ci, no0⟩
      simp [*]
    · simp only [vcs, tbl, crs, List.map, reduceIte, Nat.reduceLT, Nat.reduceLeDiff, Nat.reduceEqDiff, Nat.reduceAdd, Nat.reduceMul, Nat.reduceSub, List.all_cons, List.all_nil, Bool.and_true, Bool.and_self, ne_eq, reduceCtorEq, not_false_eq_true, and_self, range0, rep0, Nat.zero_mul, Nat.zero_le, Nat.zero_add, Nat.mul_one]
      obtain ⟨vsT, GT, hvlT, hcellT, hvT⟩ := c1.news
      have hvmT := hvlT
      rw [flatMap_len irow_len, Nat.mul_one] at hvmT
      refine ⟨vsT, hvmT, hcellT, hvT.oneCell, by omega, by omega, fun Tc hT1 hT2 => ?_⟩
      obtain rfl := ints_vals hvT
      have hT : ∃ vs0 : List Value, vs0 = vsT ∧ ValsF m (t.flatMap irow) vs0 [] := ⟨_, rfl, hvT⟩
      refine (l19Copies_c _ h2 s5 _ _ _ c3).mono ?_
      rintro r m1 ⟨hg1, Fw, cw, hfw, how⟩
      obtain ⟨aw1, pw1, rfl, _⟩ := cw.slice
      refine ⟨hg1, ?_⟩
      simp only [vcs, tbl, crs, List.map, reduceIte, Nat.reduceLT, Nat.reduceLeDiff, Nat.reduceEqDiff, Nat.reduceAdd, Nat.reduceMul, Nat.reduceSub, List.all_cons, List.all_nil, Bool.and_true, Bool.and_self, ne_eq, reduceCtorEq, not_false_eq_true, and_self, range0, rep0, Nat.zero_mul, Nat.zero_le, Nat.zero_add, Nat.mul_one]
      refine (l19Copies_c _ h4 s9 _ _ _ (c5.grow hg1)).mono ?_
      rintro r m2 ⟨hg2, Fi, ci, hfi, hoi⟩
      obtain ⟨ai1, pi1, rfl, _⟩ := ci.slice
      refine ⟨hg2, ?_⟩
      have no0 : NewOwn m m2 (Fw ++ Fi) := NewOwn.step ⟨hg1, hfw, how⟩ hg2 hfi hoi
      have g02 := no0.grow
      simp only [vcs, tbl, crs, List.map, reduceIte, Nat.reduceLT, Nat.reduceLeDiff, Nat.reduceEqDiff, Nat.reduceAdd, Nat.reduceMul, Nat.reduceSub, List.all_cons, List.all_nil, Bool.and_true, Bool.and_self, ne_eq, reduceCtorEq, not_false_eq_true, and_self, range0, rep0, Nat.zero_mul, Nat.zero_le, Nat.zero_add, Nat.mul_one]
      obtain ⟨vsN, GN, hvlN, hcellN, hvN⟩ := c6.news
      have hvmN := hvlN
      rw [flatMap_len srow_len, Nat.mul_one] at hvmN
      refine ⟨vsN, hvmN, fun i v hi => g02.cell (hcellN i v hi), hvN.oneCell, by omega, by omega, fun Nc hN1 hN2 => ?_⟩
      obtain rfl := strs_vals hvN
      have hN : ∃ vs0 : List Value, vs0 = vsN ∧ ValsF m (nm.flatMap srow) vs0 [] := ⟨_, rfl, hvN⟩
      obtain ⟨vt, hvt, hT⟩ := hT
      obtain ⟨vn, hvn, hN⟩ := hN
      try subst hvt
      try subst hvn
      refine hK _ _ _ ⟨_, Tc, _, Nc, aw1, pw1, ai1, pi1, Fw, Fi, rfl, rfl, rfl, ?_, by omega, hT2, by omega, hN2, hT.grow g02, hN.grow g02, cw.grow hg2, ci, no0⟩
      simp [*]
  · rintro f L m2 ⟨vt, ct, vn, cn, aw1, pw1, ai1, pi1, Fw, Fi, e1, e2, e3, rfl, ht1, ht2, hn1, hn2, hT, hN, cw, ci, no0⟩
    simp only [vcs, tbl, crs, List.map, reduceIte, Nat.reduceLT, Nat.reduceLeDiff, Nat.reduceEqDiff, Nat.reduceAdd, Nat.reduceMul, Nat.reduceSub, List.all_cons, List.all_nil, Bool.and_true, Bool.and_self, ne_eq, reduceCtorEq, not_false_eq_true, and_self, e1, e2, e3]
    refine vcLoop.intro (fun f L m1 => ∃ (k : Nat) (dn : List Value) (G : List Nat), f 4 = .c (.v (.int .i64 k)) ∧ k ≤ on.length ∧ ValsF m1 (t.flatMap irow) vt [] ∧ ValsF m1 (nm.flatMap srow) vn [] ∧ CellF m1 (.sl wh.length (wh.flatMap PExpr.row)) (.slice aw1 wh.length pw1) Fw ∧ CellF m1 (.sl it.length (it.flatMap PExpr.row)) (.slice ai1 it.length pi1) Fi ∧
       ValsF m1 ((on.take k).flatMap erow) dn G ∧ NewOwn m m1 ((Fw ++ Fi) ++ G) ∧ ((k = 0 ∧ L = [(3, .str 74 [.bs 9 t.length, .v (.slice none 0 0), .v (.slice aw1 wh.length pw1), .v (.slice none 0 0), .v (.slice ai1 it.length pi1), .bs 19 nm.length, .v (.bool ds), .v (.int .i64 li)]), (19, .arr 9 vn cn), (9, .arr 3 vt ct), (2, .str 74 [.v (.slice none 0 0), .v (.slice none 0 0), .v (.slice none 0 0), .v (.slice none 0 0), .v (.slice none 0 0), .v (.slice none 0 0), .v (.bool false), .v (.int .i64 0)]), (1, .str 74 [.v (.slice at_ t.length pt), .v (.slice ao on.length po), .v (.slice aw wh.length pw), .v (.slice ar or.length pr), .v (.slice ai it.length pi), .v (.slice an nm.length pn), .v (.bool ds), .v (.int .i64 li)])]) ∨ (0 < k ∧ ∃ cap1, k ≤ cap1 ∧ cap1 ≤ maxLen ∧ L = [(3, .str 74 [.bs 9 t.length, .bs 41 k, .v (.slice aw1 wh.length pw1), .v (.slice none 0 0), .v (.slice ai1 it.length pi1), .bs 19 nm.length, .v (.bool ds), .v (.int .i64 li)]), (41, .arr 53 dn cap1), (19, .arr 9 vn cn), (9, .arr 3 vt ct), (2, .str 74 [.v (.slice none 0 0), .v (.slice none 0 0), .v (.slice none 0 0), .v (.slice none 0 0), .v (.slice none 0 0), .v (.slice none 0 0), .v (.bool false), .v (.int .i64 0)]), (1, .str 74 [.v (.slice at_ t.length pt), .v (.slice ao on.length po), .v (.slice aw wh.length pw), .v (.slice ar or.length pr), .v (.slice ai it.length pi), .v (.slice an nm.length pn), .v (.bool ds), .v (.int .i64 li)])])))
      (fun f _ _ => (on.length - ixS (f 4)).toNat) ⟨[(3, .str 74 [.bs 9 t.length, .v (.slice none 0 0), .v (.slice aw1 wh.length pw1), .v (.slice none 0 0), .v (.slice ai1 it.length pi1), .bs 19 nm.length, .v (.bool ds), .v (.int .i64 li)]), (19, .arr 9 vn cn), (9, .arr 3 vt ct), (2, .str 74 [.v (.slice none 0 0), .v (.slice none 0 0), .v (.slice none 0 0), .v (.slice none 0 0), .v (.slice none 0 0), .v (.slice none 0 0), .v (.bool false), .v (.int .i64 0)]), (1, .str 74 [.v (.slice at_ t.length pt), .v (.slice ao on.length po), .v (.slice aw wh.length pw), .v (.slice ar or.length pr), .v (.slice ai it.length pi), .v (.slice an nm.length pn), .v (.bool ds), .v (.int .i64 li)])], Sub.at 3 rfl (Sub.at 19 rfl (Sub.at 9 rfl (Sub.at 2 rfl (Sub.at 1 rfl (Sub.nil _))))), 0, [], [], ?_⟩ ?_
    · simp only [vcs, tbl, crs, List.map, reduceIte, Nat.reduceLT, Nat.reduceLeDiff, Nat.reduceEqDiff, Nat.reduceAdd, Nat.reduceMul, Nat.reduceSub, List.all_cons, List.all_nil, Bool.and_true, Bool.and_self, ne_eq, reduceCtorEq, not_false_eq_true, and_self, e1, e2, e3]
      exact ⟨rfl, Nat.zero_le _, hT, hN, cw, ci, rfl, by simpa using no0, by first | trivial | exact .inl trivial | exact .inl ⟨rfl, rfl⟩⟩
    · rintro g' L1 m3 ⟨k, dn, G, h24, hk, hT3, hN3, cw3, ci3, hdn, no3, hL⟩
      have hg03 := no3.grow
      have hdl : dn.length = k := by rw [hdn.length, flatMap_len erow_len, List.length_take]; omega
      rcases hL with ⟨rfl, rfl⟩ | ⟨hk0, cap1, hc1, hc2, rfl⟩
      · have hdn0 : dn = [] := List.eq_nil_of_length_eq_zero hdl
        simp only [vcs, tbl, crs, List.map, reduceIte, Nat.reduceLT, Nat.reduceLeDiff, Nat.reduceEqDiff, Nat.reduceAdd, Nat.reduceMul, Nat.reduceSub, List.all_cons, List.all_nil, Bool.and_true, Bool.and_self, ne_eq, reduceCtorEq, not_false_eq_true, and_self, e1, e2, e3] at h24
        simp only [vcs, tbl, crs, List.map, reduceIte, Nat.reduceLT, Nat.reduceLeDiff, Nat.reduceEqDiff, Nat.reduceAdd, Nat.reduceMul, Nat.reduceSub, List.all_cons, List.all_nil, Bool.and_true, Bool.and_self, ne_eq, reduceCtorEq, not_false_eq_true, and_self, h24, e1, e2, e3]
        refine ⟨fun hlt => ?_, fun hge => ?_⟩
        · skip
          have hlt : 0 < on.length := by omega
          obtain ⟨ad, vs, Fk, ha, hvl, hcell, hv, _⟩ := c2.elem erow_len (by decide) (List.getElem?_eq_getElem hlt)
          obtain ⟨u, hu⟩ : ∃ u, vs[0]? = some u := ⟨vs[0]'(by omega), List.getElem?_eq_getElem _⟩
          have hcu := hg03.cell (hcell 0 u hu)
          rw [add0] at hcu
          have hvu := (ValsF.one hv hu).grow hg03
          obtain ⟨au, pu, rfl, _⟩ := hvu.slice
          refine vcDrawn.introL (.take 0 (.take 1 (.take 2 (.take 3 (.take 4 (.take 5 (.take 6 (.br 7 (.br 8 (.br 9 (.take 10 (.br 11 .done .nobr)) .nobr) .nobr) .nobr)))))))) (by kernel_rfl) ?_
          simp only [vcs, tbl, crs, List.map, reduceIte, Nat.reduceLT, Nat.reduceLeDiff, Nat.reduceEqDiff, Nat.reduceAdd, Nat.reduceMul, Nat.reduceSub, List.all_cons, List.all_nil, Bool.and_true, Bool.and_self, ne_eq, reduceCtorEq, not_false_eq_true, and_self, h24, e1, e2, e3]
          refine ⟨by omega, by omega, ad, ha, _, hcu, ?_⟩
          simp only [vcs, tbl, crs, List.map, reduceIte, Nat.reduceLT, Nat.reduceLeDiff, Nat.reduceEqDiff, Nat.reduceAdd, Nat.reduceMul, Nat.reduceSub, List.all_cons, List.all_nil, Bool.and_true, Bool.and_self, ne_eq, reduceCtorEq, not_false_eq_true, and_self, h24, e1, e2, e3]
          refine (l19Copies_c _ (h1 _ (List.getElem_mem hlt)) (s3 _ (List.getElem_mem hlt)) _ _ _ hvu).mono ?_
          rintro r m4 ⟨hg4, Fr, cr, hfr, hor⟩
          obtain ⟨ar1, pr1, rfl, _⟩ := cr.slice
          refine ⟨hg4, ?_⟩
          simp only [vcs, tbl, crs, List.map, reduceIte, Nat.reduceLT, Nat.reduceLeDiff, Nat.reduceEqDiff, Nat.reduceAdd, Nat.reduceMul, Nat.reduceSub, List.all_cons, List.all_nil, Bool.and_true, Bool.and_self, ne_eq, reduceCtorEq, not_false_eq_true, and_self, h24, e1, e2, e3, range1, rep1, Nat.zero_mul, Nat.zero_add, Nat.le_refl, Nat.mul_one, hdl]
          refine ⟨cr.single'.oneCell, by omega, fun h => h.elim, fun _ cap2 hc3 hc4 => ?_⟩
          have hmt : (on.take (0 + 1)).flatMap erow = (on.take 0).flatMap erow ++ erow on[0] := by rw [List.take_add_one, List.getElem?_eq_getElem hlt, List.flatMap_append]; simp only [Option.toList_some, List.flatMap_cons, List.flatMap_nil, List.append_nil]
          rw [wrap_id (by omega) (by omega)]
          refine ⟨_, Sub.at 3 rfl (Sub.at 41 rfl (Sub.at 19 rfl (Sub.at 9 rfl (Sub.at 2 rfl (Sub.at 1 rfl (Sub.nil _)))))), ⟨0 + 1, dn ++ [.slice ar1 on[0].length pr1], G ++ Fr, by simp, by omega, hT3.grow hg4, hN3.grow hg4, cw3.grow hg4, ci3.grow hg4, ?_, ?_, .inr ⟨by omega, cap2, by omega, hc4, by simp [hdn0]⟩⟩, by omega⟩
          · rw [hmt]; exact (hdn.grow hg4).join cr.single'
          · rw [← List.append_assoc]; exact no3.step hg4 hfr hor
        · have hon0 : on = [] := List.eq_nil_of_length_eq_zero (by omega)
          have hdn : ValsF m3 (on.flatMap erow) dn G := by rw [hon0]; exact hdn
          refine vcLoop.intro (fun f L m1 => ∃ (k2 : Nat) (dn2 : List Value) (G2 : List Nat), f 5 = .c (.v (.int .i64 k2)) ∧ k2 ≤ or.length ∧ ValsF m1 (t.flatMap irow) vt [] ∧ ValsF m1 (nm.flatMap srow) vn [] ∧ CellF m1 (.sl wh.length (wh.flatMap PExpr.row)) (.slice aw1 wh.length pw1) Fw ∧ CellF m1 (.sl it.length (it.flatMap PExpr.row)) (.slice ai1 it.length pi1) Fi ∧
             ValsF m1 (on.flatMap erow) dn G ∧ ValsF m1 ((or.take k2).flatMap PSort.row) dn2 G2 ∧
             NewOwn m m1 (((Fw ++ Fi) ++ G) ++ G2) ∧ ((k2 = 0 ∧ L = [(3, .str 74 [.bs 9 t.length, .v (.slice none 0 0), .v (.slice aw1 wh.length pw1), .v (.slice none 0 0), .v (.slice ai1 it.length pi1), .bs 19 nm.length, .v (.bool ds), .v (.int .i64 li)]), (19, .arr 9 vn cn), (9, .arr 3 vt ct), (2, .str 74 [.v (.slice none 0 0), .v (.slice none 0 0), .v (.slice none 0 0), .v (.slice none 0 0), .v (.slice none 0 0), .v (.slice none 0 0), .v (.bool false), .v (.int .i64 0)]), (1, .str 74 [.v (.slice at_ t.length pt), .v (.slice ao on.length po), .v (.slice aw wh.length pw), .v (.slice ar or.length pr), .v (.slice ai it.length pi), .v (.slice an nm.length pn), .v (.bool ds), .v (.int .i64 li)])]) ∨ (0 < k2 ∧ ∃ cap2, k2 ≤ cap2 ∧ cap2 ≤ maxLen ∧ L = [(3, .str 74 [.bs 9 t.length, .v (.slice none 0 0), .v (.slice aw1 wh.length pw1), .bs 67 k2, .v (.slice ai1 it.length pi1), .bs 19 nm.length, .v (.bool ds), .v (.int .i64 li)]), (67, .arr 122 dn2 cap2), (19, .arr 9 vn cn), (9, .arr 3 vt ct), (2, .str 74 [.v (.slice none 0 0), .v (.slice none 0 0), .v (.slice none 0 0), .v (.slice none 0 0), .v (.slice none 0 0), .v (.slice none 0 0), .v (.bool false), .v (.int .i64 0)]), (1, .str 74 [.v (.slice at_ t.length pt), .v (.slice ao on.length po), .v (.slice aw wh.length pw), .v (.slice ar or.length pr), .v (.slice ai it.length pi), .v (.slice an nm.length pn), .v (.bool ds), .v (.int .i64 li)])])))
            (fun f _ _ => (or.length - ixS (f 5)).toNat) ⟨[(3, .str 74 [.bs 9 t.length, .v (.slice none 0 0), .v (.slice aw1 wh.length pw1), .v (.slice none 0 0), .v (.slice ai1 it.length pi1), .bs 19 nm.length, .v (.bool ds), .v (.int .i64 li)]), (19, .arr 9 vn cn), (9, .arr 3 vt ct), (2, .str 74 [.v (.slice none 0 0), .v (.slice none 0 0), .v (.slice none 0 0), .v (.slice none 0 0), .v (.slice none 0 0), .v (.slice none 0 0), .v (.bool false), .v (.int .i64 0)]), (1, .str 74 [.v (.slice at_ t.length pt), .v (.slice ao on.length po), .v (.slice aw wh.length pw), .v (.slice ar or.length pr), .v (.slice ai it.length pi), .v (.slice an nm.length pn), .v (.bool ds), .v (.int .i64 li)])], Sub.at 3 rfl (Sub.at 19 rfl (Sub.at 9 rfl (Sub.at 2 rfl (Sub.at 1 rfl (Sub.nil _))))), 0, [], [], ?_⟩ ?_
          · simp only [vcs, tbl, crs, List.map, reduceIte, Nat.reduceLT, Nat.reduceLeDiff, Nat.reduceEqDiff, Nat.reduceAdd, Nat.reduceMul, Nat.reduceSub, List.all_cons, List.all_nil, Bool.and_true, Bool.and_self, ne_eq, reduceCtorEq, not_false_eq_true, and_self, h24, e1, e2, e3]
            exact ⟨rfl, Nat.zero_le _, hT3, hN3, cw3, ci3, hdn, rfl, by simpa using no3, by first | trivial | exact .inl trivial | exact .inl ⟨rfl, rfl⟩⟩
          · rintro g2 L2 m7 ⟨k2, dn2, G2, h45, hk2, hT7, hN7, cw7, ci7, hdn7, hdo7, no7, hL2⟩
            have hg07 := no7.grow
            have hdl2 : dn2.length = k2 * 11 := by rw [hdo7.length, flatMap_len PSort.row_len, List.length_take]; congr 1; omega
            rcases hL2 with ⟨rfl, rfl⟩ | ⟨hk20, cap2, hd1, hd2, rfl⟩
            · have hdo0 : dn2 = [] := List.eq_nil_of_length_eq_zero (by omega)
              simp only [vcs, tbl, crs, List.map, reduceIte, Nat.reduceLT, Nat.reduceLeDiff, Nat.reduceEqDiff, Nat.reduceAdd, Nat.reduceMul, Nat.reduceSub, List.all_cons, List.all_nil, Bool.and_true, Bool.and_self, ne_eq, reduceCtorEq, not_false_eq_true, and_self, e1, e2, e3] at h45
              simp only [vcs, tbl, crs, List.map, reduceIte, Nat.reduceLT, Nat.reduceLeDiff, Nat.reduceEqDiff, Nat.reduceAdd, Nat.reduceMul, Nat.reduceSub, List.all_cons, List.all_nil, Bool.and_true, Bool.and_self, ne_eq, reduceCtorEq, not_false_eq_true, and_self, h45, e1, e2, e3]
              refine ⟨fun hlt => ?_, fun hge => ?_⟩
              · skip
                have hlt : 0 < or.length := by omega
                obtain ⟨bo, oo, vs, Fk, hbo, hvl, hcell, hv, _⟩ := c4.elemL PSort.row_len (by decide) (List.getElem?_eq_getElem hlt)
                have hmt : (or.take (0 + 1)).flatMap PSort.row = (or.take 0).flatMap PSort.row ++ or[0].row := by rw [List.take_add_one, List.getElem?_eq_getElem hlt, List.flatMap_append]; simp only [Option.toList_some, List.flatMap_cons, List.flatMap_nil, List.append_nil]
                have hx1 := h3 _ (List.getElem_mem hlt)
                obtain ⟨e, he⟩ : ∃ e, or[0] = e := ⟨_, rfl⟩
                rw [he] at hx1 hv hmt
                obtain ⟨e0, dsc⟩ := e
                obtain ⟨us0, rfl, hul, hv⟩ := PSort.vals hv
                have hx1 := hx1 _ _ rfl
                have hcd : m.cell? ⟨bo, oo + 0 * 11 + 10, none⟩ = some (.bool dsc) := hcell 10 _ (by rw [List.getElem?_append_right (by omega), hul]; rfl)
                refine vcDrawn.introL (.take 0 (.take 1 (.take 2 (.take 3 (.take 4 (.take 5 (.take 6 (.take 7 (.take 9 (.take 10 (.take 11 (.take 12 (.take 13 (.take 14 (.br 8 (.take 15 (.br 16 (.br 17 (.take 18 (.br 19 .done .nobr)) .nobr) .nobr)) .nobr))))))))))))))) (by kernel_rfl) ?_
                simp only [vcs, tbl, crs, List.map, reduceIte, Nat.reduceLT, Nat.reduceLeDiff, Nat.reduceEqDiff, Nat.reduceAdd, Nat.reduceMul, Nat.reduceSub, List.all_cons, List.all_nil, Bool.and_true, Bool.and_self, ne_eq, reduceCtorEq, not_false_eq_true, and_self, h45, e1, e2, e3]
                refine ⟨by omega, by omega, _, hbo, ?_⟩
                simp only [vcs, tbl, crs, List.map, reduceIte, Nat.reduceLT, Nat.reduceLeDiff, Nat.reduceEqDiff, Nat.reduceAdd, Nat.reduceMul, Nat.reduceSub, List.all_cons, List.all_nil, Bool.and_true, Bool.and_self, ne_eq, reduceCtorEq, not_false_eq_true, and_self, h45, e1, e2, e3, add_lit0, pure_fieldAt, Nat.add_zero]
                refine ⟨us0, hul, fun j v hj => hg07.cell ?_, ?_⟩
                · have := hcell j v (by rw [List.getElem?_append_left (List.getElem?_eq_some_iff.1 hj).1]; exact hj)
                  simpa [add_lit0] using this
                simp only [vcs, tbl, crs, List.map, reduceIte, Nat.reduceLT, Nat.reduceLeDiff, Nat.reduceEqDiff, Nat.reduceAdd, Nat.reduceMul, Nat.reduceSub, List.all_cons, List.all_nil, Bool.and_true, Bool.and_self, ne_eq, reduceCtorEq, not_false_eq_true, and_self, h45, e1, e2, e3, add_lit0, pure_fieldAt, Nat.add_zero]
                refine ⟨by omega, by omega, _, hbo, ?_⟩
                simp only [vcs, tbl, crs, List.map, reduceIte, Nat.reduceLT, Nat.reduceLeDiff, Nat.reduceEqDiff, Nat.reduceAdd, Nat.reduceMul, Nat.reduceSub, List.all_cons, List.all_nil, Bool.and_true, Bool.and_self, ne_eq, reduceCtorEq, not_false_eq_true, and_self, h45, e1, e2, e3, add_lit0, pure_fieldAt, Nat.add_zero]
                refine ⟨_, by simpa using hg07.cell hcd, ?_⟩
                simp only [vcs, tbl, crs, List.map, reduceIte, Nat.reduceLT, Nat.reduceLeDiff, Nat.reduceEqDiff, Nat.reduceAdd, Nat.reduceMul, Nat.reduceSub, List.all_cons, List.all_nil, Bool.and_true, Bool.and_self, ne_eq, reduceCtorEq, not_false_eq_true, and_self, h45, e1, e2, e3]
                refine (hx1 _ _ _ (hv.grow hg07)).mono ?_
                rintro r m9 ⟨hg9, us, F9, rfl, hvr, hf9, ho9⟩
                have hvr : ValsF m9 e0.row us F9 := hvr
                have hvr' := hvr
                obtain ⟨kd', op', nt', vl', up', ap', ks', ss'⟩ := e0
                obtain ⟨x', y', H1', H2', rfl, _, q1', q2', hF9⟩ := PExpr.vals hvr'
                obtain ⟨ax', px', rfl, _⟩ := q1'.slice
                obtain ⟨ay', py', rfl, _⟩ := q2'.slice
                have hsr := PSort.mk_vals (d := dsc) hvr
                refine ⟨hg9, ?_⟩
                simp only [List.cons_append, List.nil_append] at hsr
                simp only [vcs, tbl, crs, List.map, reduceIte, Nat.reduceLT, Nat.reduceLeDiff, Nat.reduceEqDiff, Nat.reduceAdd, Nat.reduceMul, Nat.reduceSub, List.all_cons, List.all_nil, Bool.and_true, Bool.and_self, ne_eq, reduceCtorEq, not_false_eq_true, and_self, h45, e1, e2, e3, range1, rep1, Nat.zero_mul, Nat.zero_add, Nat.le_refl, Nat.mul_one, hdl2]
                refine ⟨hsr.oneCell, by omega, fun h => h.elim, fun _ cap3 hc3 hc4 => ?_⟩
                rw [wrap_id (by omega) (by omega)]
                refine ⟨_, Sub.at 3 rfl (Sub.at 67 rfl (Sub.at 19 rfl (Sub.at 9 rfl (Sub.at 2 rfl (Sub.at 1 rfl (Sub.nil _)))))), ⟨0 + 1, dn2 ++ _, G2 ++ F9, by simp, by omega, hT7.grow hg9, hN7.grow hg9, cw7.grow hg9, ci7.grow hg9, hdn7.grow hg9, ?_, ?_, .inr ⟨by omega, cap3, by omega, hc4, by simp only [hdo0, List.nil_append]; rfl⟩⟩, by omega⟩
                · rw [hmt]; exact (hdo7.grow hg9).join hsr
                · rw [← List.append_assoc]; exact no7.step hg9 hf9 ho9
              · have hor0 : or = [] := List.eq_nil_of_length_eq_zero (by omega)
                intro bT wT hpT
                obtain ⟨FT, cT, no⟩ := NewOwn.pubA (F := []) (show NewOwn m m7 ([] ++ (((Fw ++ Fi) ++ G) ++ G2)) from no7) hpT hT7 ht1 ht2
                have hN8 := hN7.grow hpT.grow
                have cw8 := cw7.grow hpT.grow
                have ci8 := ci7.grow hpT.grow
                have hdn8 := hdn7.grow hpT.grow
                have hdo8 := hdo7.grow hpT.grow
                subst hon0
                obtain ⟨rfl, rfl⟩ := valsF_nil (show ValsF _ [] dn G from hdn8)
                subst hor0
                obtain ⟨rfl, rfl⟩ := valsF_nil (show ValsF _ [] dn2 G2 from hdo8)
                intro bN wN hpN
                obtain ⟨FN, cN, no⟩ := NewOwn.pubA (F := []) (R := (([]) ++ (([]) ++ (FT ++ (Fw ++ Fi))))) (no.perm (List.perm_iff_count.2 fun x => by simp only [List.count_cons, List.count_append, List.count_nil]; omega)) hpN hN8 hn1 hn2
                have hN8 := hN8.grow hpN.grow
                have cw8 := cw8.grow hpN.grow
                have ci8 := ci8.grow hpN.grow
                have hdn8 := hdn8.grow hpN.grow
                have hdo8 := hdo8.grow hpN.grow
                have cT := cT.grow hpN.grow
                have no9 : NewOwn m _ (FT ++ (([]) ++ (Fw ++ (([]) ++ (Fi ++ FN))))) := no.perm (List.perm_iff_count.2 fun x => by simp only [List.count_cons, List.count_append, List.count_nil]; omega)
                refine ⟨no9.grow, _, _, rfl, ?_, no9.fresh, no9.own⟩
                exact Plan.mk_valsK rfl rfl rfl rfl cT (CellF.nilS _) cw8 (CellF.nilS _) ci8 cN
            · simp only [vcs, tbl, crs, List.map, reduceIte, Nat.reduceLT, Nat.reduceLeDiff, Nat.reduceEqDiff, Nat.reduceAdd, Nat.reduceMul, Nat.reduceSub, List.all_cons, List.all_nil, Bool.and_true, Bool.and_self, ne_eq, reduceCtorEq, not_false_eq_true, and_self, e1, e2, e3] at h45
              simp only [vcs, tbl, crs, List.map, reduceIte, Nat.reduceLT, Nat.reduceLeDiff, Nat.reduceEqDiff, Nat.reduceAdd, Nat.reduceMul, Nat.reduceSub, List.all_cons, List.all_nil, Bool.and_true, Bool.and_self, ne_eq, reduceCtorEq, not_false_eq_true, and_self, h45, e1, e2, e3]
              refine ⟨fun hlt => ?_, fun hge => ?_⟩
              · skip
                have hlt : k2 < or.length := by omega
                obtain ⟨bo, oo, vs, Fk, hbo, hvl, hcell, hv, _⟩ := c4.elemL PSort.row_len (by decide) (List.getElem?_eq_getElem hlt)
                have hmt : (or.take (k2 + 1)).flatMap PSort.row = (or.take k2).flatMap PSort.row ++ or[k2].row := by rw [List.take_add_one, List.getElem?_eq_getElem hlt, List.flatMap_append]; simp only [Option.toList_some, List.flatMap_cons, List.flatMap_nil, List.append_nil]
                have hx1 := h3 _ (List.getElem_mem hlt)
                obtain ⟨e, he⟩ : ∃ e, or[k2] = e := ⟨_, rfl⟩
                rw [he] at hx1 hv hmt
                obtain ⟨e0, dsc⟩ := e
                obtain ⟨us0, rfl, hul, hv⟩ := PSort.vals hv
                have hx1 := hx1 _ _ rfl
                have hcd : m.cell? ⟨bo, oo + k2 * 11 + 10, none⟩ = some (.bool dsc) := hcell 10 _ (by rw [List.getElem?_append_right (by omega), hul]; rfl)
                refine vcDrawn.introL (.take 0 (.take 1 (.take 2 (.take 3 (.take 4 (.take 5 (.take 6 (.take 7 (.take 9 (.take 10 (.take 11 (.take 12 (.take 13 (.take 14 (.br 8 (.take 15 (.br 16 (.br 17 (.take 18 (.br 19 .done .nobr)) .nobr) .nobr)) .nobr))))))))))))))) (by kernel_rfl) ?_
                simp only [vcs, tbl, crs, List.map, reduceIte, Nat.reduceLT, Nat.reduceLeDiff, Nat.reduceEqDiff, Nat.reduceAdd, Nat.reduceMul, Nat.reduceSub, List.all_cons, List.all_nil, Bool.and_true, Bool.and_self, ne_eq, reduceCtorEq, not_false_eq_true, and_self, h45, e1, e2, e3]
                refine ⟨by omega, by omega, _, hbo, ?_⟩
                simp only [vcs, tbl, crs, List.map, reduceIte, Nat.reduceLT, Nat.reduceLeDiff, Nat.reduceEqDiff, Nat.reduceAdd, Nat.reduceMul, Nat.reduceSub, List.all_cons, List.all_nil, Bool.and_true, Bool.and_self, ne_eq, reduceCtorEq, not_false_eq_true, and_self, h45, e1, e2, e3, add_lit0, pure_fieldAt, Nat.add_zero]
                refine ⟨us0, hul, fun j v hj => hg07.cell ?_, ?_⟩
                · have := hcell j v (by rw [List.getElem?_append_left (List.getElem?_eq_some_iff.1 hj).1]; exact hj)
                  simpa [add_lit0] using this
                simp only [vcs, tbl, crs, List.map, reduceIte, Nat.reduceLT, Nat.reduceLeDiff, Nat.reduceEqDiff, Nat.reduceAdd, Nat.reduceMul, Nat.reduceSub, List.all_cons, List.all_nil, Bool.and_true, Bool.and_self, ne_eq, reduceCtorEq, not_false_eq_true, and_self, h45, e1, e2, e3, add_lit0, pure_fieldAt, Nat.add_zero]
                refine ⟨by omega, by omega, _, hbo, ?_⟩
                simp only [vcs, tbl, crs, List.map, reduceIte, Nat.reduceLT, Nat.reduceLeDiff, Nat.reduceEqDiff, Nat.reduceAdd, Nat.reduceMul, Nat.reduceSub, List.all_cons, List.all_nil, Bool.and_true, Bool.and_self, ne_eq, reduceCtorEq, not_false_eq_true, and_self, h45, e1, e2, e3, add_lit0, pure_fieldAt, Nat.add_zero]
                refine ⟨_, by simpa using hg07.cell hcd, ?_⟩
                simp only [vcs, tbl, crs, List.map, reduceIte, Nat.reduceLT, Nat.reduceLeDiff, Nat.reduceEqDiff, Nat.reduceAdd, Nat.reduceMul, Nat.reduceSub, List.all_cons, List.all_nil, Bool.and_true, Bool.and_self, ne_eq, reduceCtorEq, not_false_eq_true, and_self, h45, e1, e2, e3]
                refine (hx1 _ _ _ (hv.grow hg07)).mono ?_
                rintro r m9 ⟨hg9, us, F9, rfl, hvr, hf9, ho9⟩
                have hvr : ValsF m9 e0.row us F9 := hvr
                have hvr' := hvr
                obtain ⟨kd', op', nt', vl', up', ap', ks', ss'⟩ := e0
                obtain ⟨x', y', H1', H2', rfl, _, q1', q2', hF9⟩ := PExpr.vals hvr'
                obtain ⟨ax', px', rfl, _⟩ := q1'.slice
                obtain ⟨ay', py', rfl, _⟩ := q2'.slice
                have hsr := PSort.mk_vals (d := dsc) hvr
                refine ⟨hg9, ?_⟩
                simp only [List.cons_append, List.nil_append] at hsr
                simp only [vcs, tbl, crs, List.map, reduceIte, Nat.reduceLT, Nat.reduceLeDiff, Nat.reduceEqDiff, Nat.reduceAdd, Nat.reduceMul, Nat.reduceSub, List.all_cons, List.all_nil, Bool.and_true, Bool.and_self, ne_eq, reduceCtorEq, not_false_eq_true, and_self, h45, e1, e2, e3, range1, rep1, Nat.zero_mul, Nat.zero_add, Nat.le_refl, Nat.mul_one, hdl2]
                refine ⟨hsr.oneCell, by omega, by omega, fun cap3 hc3 hc4 => ?_⟩
                rw [wrap_id (by omega) (by omega)]
                refine ⟨_, Sub.at 3 rfl (Sub.at 67 rfl (Sub.at 19 rfl (Sub.at 9 rfl (Sub.at 2 rfl (Sub.at 1 rfl (Sub.nil _)))))), ⟨k2 + 1, dn2 ++ _, G2 ++ F9, by simp, by omega, hT7.grow hg9, hN7.grow hg9, cw7.grow hg9, ci7.grow hg9, hdn7.grow hg9, ?_, ?_, .inr ⟨by omega, cap3, by omega, hc4, by rw [List.take_of_length_le (l := dn2) (by omega)]⟩⟩, by omega⟩
                · rw [hmt]; exact (hdo7.grow hg9).join hsr
                · rw [← List.append_assoc]; exact no7.step hg9 hf9 ho9
              · have : k2 = or.length := by omega
                subst this
                rw [List.take_length] at hdo7
                intro bT wT hpT
                obtain ⟨FT, cT, no⟩ := NewOwn.pubA (F := []) (show NewOwn m m7 ([] ++ (((Fw ++ Fi) ++ G) ++ G2)) from no7) hpT hT7 ht1 ht2
                have hN8 := hN7.grow hpT.grow
                have cw8 := cw7.grow hpT.grow
                have ci8 := ci7.grow hpT.grow
                have hdn8 := hdn7.grow hpT.grow
                have hdo8 := hdo7.grow hpT.grow
                intro bD wD hpD
                obtain ⟨FD, cD, no⟩ := NewOwn.pubA (F := G2) (R := (FT ++ ((Fw ++ Fi) ++ G))) (no.perm (List.perm_iff_count.2 fun x => by simp only [List.count_cons, List.count_append, List.count_nil]; omega)) hpD hdo8 hd1 hd2
                have hN8 := hN8.grow hpD.grow
                have cw8 := cw8.grow hpD.grow
                have ci8 := ci8.grow hpD.grow
                have hdn8 := hdn8.grow hpD.grow
                have hdo8 := hdo8.grow hpD.grow
                have cT := cT.grow hpD.grow
                subst hon0
                obtain ⟨rfl, rfl⟩ := valsF_nil (show ValsF _ [] dn G from hdn8)
                intro bN wN hpN
                obtain ⟨FN, cN, no⟩ := NewOwn.pubA (F := []) (R := (([]) ++ ((FD) ++ (FT ++ (Fw ++ Fi))))) (no.perm (List.perm_iff_count.2 fun x => by simp only [List.count_cons, List.count_append, List.count_nil]; omega)) hpN hN8 hn1 hn2
                have hN8 := hN8.grow hpN.grow
                have cw8 := cw8.grow hpN.grow
                have ci8 := ci8.grow hpN.grow
                have hdn8 := hdn8.grow hpN.grow
                have hdo8 := hdo8.grow hpN.grow
                have cT := cT.grow hpN.grow
                have cD := cD.grow hpN.grow
                have no9 : NewOwn m _ (FT ++ (([]) ++ (Fw ++ ((FD) ++ (Fi ++ FN))))) := no.perm (List.perm_iff_count.2 fun x => by simp only [List.count_cons, List.count_append, List.count_nil]; omega)
                refine ⟨no9.grow, _, _, rfl, ?_, no9.fresh, no9.own⟩
                exact Plan.mk_valsK rfl rfl rfl rfl cT (CellF.nilS _) cw8 cD ci8 cN
      · simp only [vcs, tbl, crs, List.map, reduceIte, Nat.reduceLT, Nat.reduceLeDiff, Nat.reduceEqDiff, Nat.reduceAdd, Nat.reduceMul, Nat.reduceSub, List.all_cons, List.all_nil, Bool.and_true, Bool.and_self, ne_eq, reduceCtorEq, not_false_eq_true, and_self, e1, e2, e3] at h24
        simp only [vcs, tbl, crs, List.map, reduceIte, Nat.reduceLT, Nat.reduceLeDiff, Nat.reduceEqDiff, Nat.reduceAdd, Nat.reduceMul, Nat.reduceSub, List.all_cons, List.all_nil, Bool.and_true, Bool.and_self, ne_eq, reduceCtorEq, not_false_eq_true, and_self, h24, e1, e2, e3]
        refine ⟨fun hlt => ?_, fun hge => ?_⟩
        · skip
          have hlt : k < on.length := by omega
          obtain ⟨ad, vs, Fk, ha, hvl, hcell, hv, _⟩ := c2.elem erow_len (by decide) (List.getElem?_eq_getElem hlt)
          obtain ⟨u, hu⟩ : ∃ u, vs[0]? = some u := ⟨vs[0]'(by omega), List.getElem?_eq_getElem _⟩
          have hcu := hg03.cell (hcell 0 u hu)
          rw [add0] at hcu
          have hvu := (ValsF.one hv hu).grow hg03
          obtain ⟨au, pu, rfl, _⟩ := hvu.slice
          refine vcDrawn.introL (.take 0 (.take 1 (.take 2 (.take 3 (.take 4 (.take 5 (.take 6 (.br 7 (.br 8 (.br 9 (.take 10 (.br 11 .done .nobr)) .nobr) .nobr) .nobr)))))))) (by kernel_rfl) ?_
          simp only [vcs, tbl, crs, List.map, reduceIte, Nat.reduceLT, Nat.reduceLeDiff, Nat.reduceEqDiff, Nat.reduceAdd, Nat.reduceMul, Nat.reduceSub, List.all_cons, List.all_nil, Bool.and_true, Bool.and_self, ne_eq, reduceCtorEq, not_false_eq_true, and_self, h24, e1, e2, e3]
          refine ⟨by omega, by omega, ad, ha, _, hcu, ?_⟩
          simp only [vcs, tbl, crs, List.map, reduceIte, Nat.reduceLT, Nat.reduceLeDiff, Nat.reduceEqDiff, Nat.reduceAdd, Nat.reduceMul, Nat.reduceSub, List.all_cons, List.all_nil, Bool.and_true, Bool.and_self, ne_eq, reduceCtorEq, not_false_eq_true, and_self, h24, e1, e2, e3]
          refine (l19Copies_c _ (h1 _ (List.getElem_mem hlt)) (s3 _ (List.getElem_mem hlt)) _ _ _ hvu).mono ?_
          rintro r m4 ⟨hg4, Fr, cr, hfr, hor⟩
          obtain ⟨ar1, pr1, rfl, _⟩ := cr.slice
          refine ⟨hg4, ?_⟩
          simp only [vcs, tbl, crs, List.map, reduceIte, Nat.reduceLT, Nat.reduceLeDiff, Nat.reduceEqDiff, Nat.reduceAdd, Nat.reduceMul, Nat.reduceSub, List.all_cons, List.all_nil, Bool.and_true, Bool.and_self, ne_eq, reduceCtorEq, not_false_eq_true, and_self, h24, e1, e2, e3, range1, rep1, Nat.zero_mul, Nat.zero_add, Nat.le_refl, Nat.mul_one, hdl]
          refine ⟨cr.single'.oneCell, by omega, by omega, fun cap2 hc3 hc4 => ?_⟩
          have hmt : (on.take (k + 1)).flatMap erow = (on.take k).flatMap erow ++ erow on[k] := by rw [List.take_add_one, List.getElem?_eq_getElem hlt, List.flatMap_append]; simp only [Option.toList_some, List.flatMap_cons, List.flatMap_nil, List.append_nil]
          rw [wrap_id (by omega) (by omega)]
          refine ⟨_, Sub.at 3 rfl (Sub.at 41 rfl (Sub.at 19 rfl (Sub.at 9 rfl (Sub.at 2 rfl (Sub.at 1 rfl (Sub.nil _)))))), ⟨k + 1, dn ++ [.slice ar1 on[k].length pr1], G ++ Fr, by simp, by omega, hT3.grow hg4, hN3.grow hg4, cw3.grow hg4, ci3.grow hg4, ?_, ?_, .inr ⟨by omega, cap2, by omega, hc4, by rw [List.take_of_length_le (l := dn) (by omega)]⟩⟩, by omega⟩
          · rw [hmt]; exact (hdn.grow hg4).join cr.single'
          · rw [← List.append_assoc]; exact no3.step hg4 hfr hor
        · have : k = on.length := by omega
          subst this
          rw [List.take_length] at hdn
          refine vcLoop.intro (fun f L m1 => ∃ (k2 : Nat) (dn2 : List Value) (G2 : List Nat), f 5 = .c (.v (.int .i64 k2)) ∧ k2 ≤ or.length ∧ ValsF m1 (t.flatMap irow) vt [] ∧ ValsF m1 (nm.flatMap srow) vn [] ∧ CellF m1 (.sl wh.length (wh.flatMap PExpr.row)) (.slice aw1 wh.length pw1) Fw ∧ CellF m1 (.sl it.length (it.flatMap PExpr.row)) (.slice ai1 it.length pi1) Fi ∧
             ValsF m1 (on.flatMap erow) dn G ∧ ValsF m1 ((or.take k2).flatMap PSort.row) dn2 G2 ∧
             NewOwn m m1 (((Fw ++ Fi) ++ G) ++ G2) ∧ ((k2 = 0 ∧ L = [(3, .str 74 [.bs 9 t.length, .bs 41 on.length, .v (.slice aw1 wh.length pw1), .v (.slice none 0 0), .v (.slice ai1 it.length pi1), .bs 19 nm.length, .v (.bool ds), .v (.int .i64 li)]), (41, .arr 53 dn cap1), (19, .arr 9 vn cn), (9, .arr 3 vt ct), (2, .str 74 [.v (.slice none 0 0), .v (.slice none 0 0), .v (.slice none 0 0), .v (.slice none 0 0), .v (.slice none 0 0), .v (.slice none 0 0), .v (.bool false), .v (.int .i64 0)]), (1, .str 74 [.v (.slice at_ t.length pt), .v (.slice ao on.length po), .v (.slice aw wh.length pw), .v (.slice ar or.length pr), .v (.slice ai it.length pi), .v (.slice an nm.length pn), .v (.bool ds), .v (.int .i64 li)])]) ∨ (0 < k2 ∧ ∃ cap2, k2 ≤ cap2 ∧ cap2 ≤ maxLen ∧ L = [(3, .str 74 [.bs 9 t.length, .bs 41 on.length, .v (.slice aw1 wh.length pw1), .bs 67 k2, .v (.slice ai1 it.length pi1), .bs 19 nm.length, .v (.bool ds), .v (.int .i64 li)]), (67, .arr 122 dn2 cap2), (41, .arr 53 dn cap1), (19, .arr 9 vn cn), (9, .arr 3 vt ct), (2, .str 74 [.v (.slice none 0 0), .v (.slice none 0 0), .v (.slice none 0 0), .v (.slice none 0 0), .v (.slice none 0 0), .v (.slice none 0 0), .v (.bool false), .v (.int .i64 0)]), (1, .str 74 [.v (.slice at_ t.length pt), .v (.slice ao on.length po), .v (.slice aw wh.length pw), .v (.slice ar or.length pr), .v (.slice ai it.length pi), .v (.slice an nm.length pn), .v (.bool ds), .v (.int .i64 li)])])))
            (fun f _ _ => (or.length - ixS (f 5)).toNat) ⟨[(3, .str 74 [.bs 9 t.length, .bs 41 on.length, .v (.slice aw1 wh.length pw1), .v (.slice none 0 0), .v (.slice ai1 it.length pi1), .bs 19 nm.length, .v (.bool ds), .v (.int .i64 li)]), (41, .arr 53 dn cap1), (19, .arr 9 vn cn), (9, .arr 3 vt ct), (2, .str 74 [.v (.slice none 0 0), .v (.slice none 0 0), .v (.slice none 0 0), .v (.slice none 0 0), .v (.slice none 0 0), .v (.slice none 0 0), .v (.bool false), .v (.int .i64 0)]), (1, .str 74 [.v (.slice at_ t.length pt), .v (.slice ao on.length po), .v (.slice aw wh.length pw), .v (.slice ar or.length pr), .v (.slice ai it.length pi), .v (.slice an nm.length pn), .v (.bool ds), .v (.int .i64 li)])], Sub.at 3 rfl (Sub.at 41 rfl (Sub.at 19 rfl (Sub.at 9 rfl (Sub.at 2 rfl (Sub.at 1 rfl (Sub.nil _)))))), 0, [], [], ?_⟩ ?_
          · simp only [vcs, tbl, crs, List.map, reduceIte, Nat.reduceLT, Nat.reduceLeDiff, Nat.reduceEqDiff, Nat.reduceAdd, Nat.reduceMul, Nat.reduceSub, List.all_cons, List.all_nil, Bool.and_true, Bool.and_self, ne_eq, reduceCtorEq, not_false_eq_true, and_self, h24, e1, e2, e3]
            exact ⟨rfl, Nat.zero_le _, hT3, hN3, cw3, ci3, hdn, rfl, by simpa using no3, by first | trivial | exact .inl trivial | exact .inl ⟨rfl, rfl⟩⟩
          · rintro g2 L2 m7 ⟨k2, dn2, G2, h45, hk2, hT7, hN7, cw7, ci7, hdn7, hdo7, no7, hL2⟩
            have hg07 := no7.grow
            have hdl2 : dn2.length = k2 * 11 := by rw [hdo7.length, flatMap_len PSort.row_len, List.length_take]; congr 1; omega
            rcases hL2 with ⟨rfl, rfl⟩ | ⟨hk20, cap2, hd1, hd2, rfl⟩
            · have hdo0 : dn2 = [] := List.eq_nil_of_length_eq_zero (by omega)
              simp only [vcs, tbl, crs, List.map, reduceIte, Nat.reduceLT, Nat.reduceLeDiff, Nat.reduceEqDiff, Nat.reduceAdd, Nat.reduceMul, Nat.reduceSub, List.all_cons, List.all_nil, Bool.and_true, Bool.and_self, ne_eq, reduceCtorEq, not_false_eq_true, and_self, e1, e2, e3] at h45
              simp only [vcs, tbl, crs, List.map, reduceIte, Nat.reduceLT, Nat.reduceLeDiff, Nat.reduceEqDiff, Nat.reduceAdd, Nat.reduceMul, Nat.reduceSub, List.all_cons, List.all_nil, Bool.and_true, Bool.and_self, ne_eq, reduceCtorEq, not_false_eq_true, and_self, h45, e1, e2, e3]
              refine ⟨fun hlt => ?_, fun hge => ?_⟩
              · skip
                have hlt : 0 < or.length := by omega
                obtain ⟨bo, oo, vs, Fk, hbo, hvl, hcell, hv, _⟩ := c4.elemL PSort.row_len (by decide) (List.getElem?_eq_getElem hlt)
                have hmt : (or.take (0 + 1)).flatMap PSort.row = (or.take 0).flatMap PSort.row ++ or[0].row := by rw [List.take_add_one, List.getElem?_eq_getElem hlt, List.flatMap_append]; simp only [Option.toList_some, List.flatMap_cons, List.flatMap_nil, List.append_nil]
                have hx1 := h3 _ (List.getElem_mem hlt)
                obtain ⟨e, he⟩ : ∃ e, or[0] = e := ⟨_, rfl⟩
                rw [he] at hx1 hv hmt
                obtain ⟨e0, dsc⟩ := e
                obtain ⟨us0, rfl, hul, hv⟩ := PSort.vals hv
                have hx1 := hx1 _ _ rfl
                have hcd : m.cell? ⟨bo, oo + 0 * 11 + 10, none⟩ = some (.bool dsc) := hcell 10 _ (by rw [List.getElem?_append_right (by omega), hul]; rfl)
                refine vcDrawn.introL (.take 0 (.take 1 (.take 2 (.take 3 (.take 4 (.take 5 (.take 6 (.take 7 (.take 9 (.take 10 (.take 11 (.take 12 (.take 13 (.take 14 (.br 8 (.take 15 (.br 16 (.br 17 (.take 18 (.br 19 .done .nobr)) .nobr) .nobr)) .nobr))))))))))))))) (by kernel_rfl) ?_
                simp only [vcs, tbl, crs, List.map, reduceIte, Nat.reduceLT, Nat.reduceLeDiff, Nat.reduceEqDiff, Nat.reduceAdd, Nat.reduceMul, Nat.reduceSub, List.all_cons, List.all_nil, Bool.and_true, Bool.and_self, ne_eq, reduceCtorEq, not_false_eq_true, and_self, h45, e1, e2, e3]
                refine ⟨by omega, by omega, _, hbo, ?_⟩
                simp only [vcs, tbl, crs, List.map, reduceIte, Nat.reduceLT, Nat.reduceLeDiff, Nat.reduceEqDiff, Nat.reduceAdd, Nat.reduceMul, Nat.reduceSub, List.all_cons, List.all_nil, Bool.and_true, Bool.and_self, ne_eq, reduceCtorEq, not_false_eq_true, and_self, h45, e1, e2, e3, add_lit0, pure_fieldAt, Nat.add_zero]
                refine ⟨us0, hul, fun j v hj => hg07.cell ?_, ?_⟩
                · have := hcell j v (by rw [List.getElem?_append_left (List.getElem?_eq_some_iff.1 hj).1]; exact hj)
                  simpa [add_lit0] using this
                simp only [vcs, tbl, crs, List.map, reduceIte, Nat.reduceLT, Nat.reduceLeDiff, Nat.reduceEqDiff, Nat.reduceAdd, Nat.reduceMul, Nat.reduceSub, List.all_cons, List.all_nil, Bool.and_true, Bool.and_self, ne_eq, reduceCtorEq, not_false_eq_true, and_self, h45, e1, e2, e3, add_lit0, pure_fieldAt, Nat.add_zero]
                refine ⟨by omega, by omega, _, hbo, ?_⟩
                simp only [vcs, tbl, crs, List.map, reduceIte, Nat.reduceLT, Nat.reduceLeDiff, Nat.reduceEqDiff, Nat.reduceAdd, Nat.reduceMul, Nat.reduceSub, List.all_cons, List.all_nil, Bool.and_true, Bool.and_self, ne_eq, reduceCtorEq, not_false_eq_true, and_self, h45, e1, e2, e3, add_lit0, pure_fieldAt, Nat.add_zero]
                refine ⟨_, by simpa using hg07.cell hcd, ?_⟩
                simp only [vcs, tbl, crs, List.map, reduceIte, Nat.reduceLT, Nat.reduceLeDiff, Nat.reduceEqDiff, Nat.reduceAdd, Nat.reduceMul, Nat.reduceSub, List.all_cons, List.all_nil, Bool.and_true, Bool.and_self, ne_eq, reduceCtorEq, not_false_eq_true, and_self, h45, e1, e2, e3]
                refine (hx1 _ _ _ (hv.grow hg07)).mono ?_
                rintro r m9 ⟨hg9, us, F9, rfl, hvr, hf9, ho9⟩
                have hvr : ValsF m9 e0.row us F9 := hvr
                have hvr' := hvr
                obtain ⟨kd', op', nt', vl', up', ap', ks', ss'⟩ := e0
                obtain ⟨x', y', H1', H2', rfl, _, q1', q2', hF9⟩ := PExpr.vals hvr'
                obtain ⟨ax', px', rfl, _⟩ := q1'.slice
                obtain ⟨ay', py', rfl, _⟩ := q2'.slice
                have hsr := PSort.mk_vals (d := dsc) hvr
                refine ⟨hg9, ?_⟩
                simp only [List.cons_append, List.nil_append] at hsr
                simp only [vcs, tbl, crs, List.map, reduceIte, Nat.reduceLT, Nat.reduceLeDiff, Nat.reduceEqDiff, Nat.reduceAdd, Nat.reduceMul, Nat.reduceSub, List.all_cons, List.all_nil, Bool.and_true, Bool.and_self, ne_eq, reduceCtorEq, not_false_eq_true, and_self, h45, e1, e2, e3, range1, rep1, Nat.zero_mul, Nat.zero_add, Nat.le_refl, Nat.mul_one, hdl2]
                refine ⟨hsr.oneCell, by omega, fun h => h.elim, fun _ cap3 hc3 hc4 => ?_⟩
                rw [wrap_id (by omega) (by omega)]
                refine ⟨_, Sub.at 3 rfl (Sub.at 67 rfl (Sub.at 41 rfl (Sub.at 19 rfl (Sub.at 9 rfl (Sub.at 2 rfl (Sub.at 1 rfl (Sub.nil _))))))), ⟨0 + 1, dn2 ++ _, G2 ++ F9, by simp, by omega, hT7.grow hg9, hN7.grow hg9, cw7.grow hg9, ci7.grow hg9, hdn7.grow hg9, ?_, ?_, .inr ⟨by omega, cap3, by omega, hc4, by simp only [hdo0, List.nil_append]; rfl⟩⟩, by omega⟩
                · rw [hmt]; exact (hdo7.grow hg9).join hsr
                · rw [← List.append_assoc]; exact no7.step hg9 hf9 ho9
              · have hor0 : or = [] := List.eq_nil_of_length_eq_zero (by omega)
                intro bT wT hpT
                obtain ⟨FT, cT, no⟩ := NewOwn.pubA (F := []) (show NewOwn m m7 ([] ++ (((Fw ++ Fi) ++ G) ++ G2)) from no7) hpT hT7 ht1 ht2
                have hN8 := hN7.grow hpT.grow
                have cw8 := cw7.grow hpT.grow
                have ci8 := ci7.grow hpT.grow
                have hdn8 := hdn7.grow hpT.grow
                have hdo8 := hdo7.grow hpT.grow
                intro bO wO hpO
                obtain ⟨FO, cO, no⟩ := NewOwn.pubA (F := G) (R := FT ++ ((Fw ++ Fi) ++ G2)) (no.perm (List.perm_iff_count.2 fun x => by simp only [List.count_cons, List.count_append, List.count_nil]; omega)) hpO hdn8 hc1 hc2
                have hN8 := hN8.grow hpO.grow
                have cw8 := cw8.grow hpO.grow
                have ci8 := ci8.grow hpO.grow
                have hdn8 := hdn8.grow hpO.grow
                have hdo8 := hdo8.grow hpO.grow
                have cT := cT.grow hpO.grow
                subst hor0
                obtain ⟨rfl, rfl⟩ := valsF_nil (show ValsF _ [] dn2 G2 from hdo8)
                intro bN wN hpN
                obtain ⟨FN, cN, no⟩ := NewOwn.pubA (F := []) (R := ((FO) ++ (([]) ++ (FT ++ (Fw ++ Fi))))) (no.perm (List.perm_iff_count.2 fun x => by simp only [List.count_cons, List.count_append, List.count_nil]; omega)) hpN hN8 hn1 hn2
                have hN8 := hN8.grow hpN.grow
                have cw8 := cw8.grow hpN.grow
                have ci8 := ci8.grow hpN.grow
                have hdn8 := hdn8.grow hpN.grow
                have hdo8 := hdo8.grow hpN.grow
                have cT := cT.grow hpN.grow
                have cO := cO.grow hpN.grow
                have no9 : NewOwn m _ (FT ++ ((FO) ++ (Fw ++ (([]) ++ (Fi ++ FN))))) := no.perm (List.perm_iff_count.2 fun x => by simp only [List.count_cons, List.count_append, List.count_nil]; omega)
                refine ⟨no9.grow, _, _, rfl, ?_, no9.fresh, no9.own⟩
                exact Plan.mk_valsK rfl rfl rfl rfl cT cO cw8 (CellF.nilS _) ci8 cN
            · simp only [vcs, tbl, crs, List.map, reduceIte, Nat.reduceLT, Nat.reduceLeDiff, Nat.reduceEqDiff, Nat.reduceAdd, Nat.reduceMul, Nat.reduceSub, List.all_cons, List.all_nil, Bool.and_true, Bool.and_self, ne_eq, reduceCtorEq, not_false_eq_true, and_self, e1, e2, e3] at h45
              simp only [vcs, tbl, crs, List.map, reduceIte, Nat.reduceLT, Nat.reduceLeDiff, Nat.reduceEqDiff, Nat.reduceAdd, Nat.reduceMul, Nat.reduceSub, List.all_cons, List.all_nil, Bool.and_true, Bool.and_self, ne_eq, reduceCtorEq, not_false_eq_true, and_self, h45, e1, e2, e3]
              refine ⟨fun hlt => ?_, fun hge => ?_⟩
              · skip
                have hlt : k2 < or.length := by omega
                obtain ⟨bo, oo, vs, Fk, hbo, hvl, hcell, hv, _⟩ := c4.elemL PSort.row_len (by decide) (List.getElem?_eq_getElem hlt)
                have hmt : (or.take (k2 + 1)).flatMap PSort.row = (or.take k2).flatMap PSort.row ++ or[k2].row := by rw [List.take_add_one, List.getElem?_eq_getElem hlt, List.flatMap_append]; simp only [Option.toList_some, List.flatMap_cons, List.flatMap_nil, List.append_nil]
                have hx1 := h3 _ (List.getElem_mem hlt)
                obtain ⟨e, he⟩ : ∃ e, or[k2] = e := ⟨_, rfl⟩
                rw [he] at hx1 hv hmt
                obtain ⟨e0, dsc⟩ := e
                obtain ⟨us0, rfl, hul, hv⟩ := PSort.vals hv
                have hx1 := hx1 _ _ rfl
                have hcd : m.cell? ⟨bo, oo + k2 * 11 + 10, none⟩ = some (.bool dsc) := hcell 10 _ (by rw [List.getElem?_append_right (by omega), hul]; rfl)
                refine vcDrawn.introL (.take 0 (.take 1 (.take 2 (.take 3 (.take 4 (.take 5 (.take 6 (.take 7 (.take 9 (.take 10 (.take 11 (.take 12 (.take 13 (.take 14 (.br 8 (.take 15 (.br 16 (.br 17 (.take 18 (.br 19 .done .nobr)) .nobr) .nobr)) .nobr))))))))))))))) (by kernel_rfl) ?_
                simp only [vcs, tbl, crs, List.map, reduceIte, Nat.reduceLT, Nat.reduceLeDiff, Nat.reduceEqDiff, Nat.reduceAdd, Nat.reduceMul, Nat.reduceSub, List.all_cons, List.all_nil, Bool.and_true, Bool.and_self, ne_eq, reduceCtorEq, not_false_eq_true, and_self, h45, e1, e2, e3]
                refine ⟨by omega, by omega, _, hbo, ?_⟩
                simp only [vcs, tbl, crs, List.map, reduceIte, Nat.reduceLT, Nat.reduceLeDiff, Nat.reduceEqDiff, Nat.reduceAdd, Nat.reduceMul, Nat.reduceSub, List.all_cons, List.all_nil, Bool.and_true, Bool.and_self, ne_eq, reduceCtorEq, not_false_eq_true, and_self, h45, e1, e2, e3, add_lit0, pure_fieldAt, Nat.add_zero]
                refine ⟨us0, hul, fun j v hj => hg07.cell ?_, ?_⟩
                · have := hcell j v (by rw [List.getElem?_append_left (List.getElem?_eq_some_iff.1 hj).1]; exact hj)
                  simpa [add_lit0] using this
                simp only [vcs, tbl, crs, List.map, reduceIte, Nat.reduceLT, Nat.reduceLeDiff, Nat.reduceEqDiff, Nat.reduceAdd, Nat.reduceMul, Nat.reduceSub, List.all_cons, List.all_nil, Bool.and_true, Bool.and_self, ne_eq, reduceCtorEq, not_false_eq_true, and_self, h45, e1, e2, e3, add_lit0, pure_fieldAt, Nat.add_zero]
                refine ⟨by omega, by omega, _, hbo, ?_⟩
                simp only [vcs, tbl, crs, List.map, reduceIte, Nat.reduceLT, Nat.reduceLeDiff, Nat.reduceEqDiff, Nat.reduceAdd, Nat.reduceMul, Nat.reduceSub, List.all_cons, List.all_nil, Bool.and_true, Bool.and_self, ne_eq, reduceCtorEq, not_false_eq_true, and_self, h45, e1, e2, e3, add_lit0, pure_fieldAt, Nat.add_zero]
                refine ⟨_, by simpa using hg07.cell hcd, ?_⟩
                simp only [vcs, tbl, crs, List.map, reduceIte, Nat.reduceLT, Nat.reduceLeDiff, Nat.reduceEqDiff, Nat.reduceAdd, Nat.reduceMul, Nat.reduceSub, List.all_cons, List.all_nil, Bool.and_true, Bool.and_self, ne_eq, reduceCtorEq, not_false_eq_true, and_self, h45, e1, e2, e3]
                refine (hx1 _ _ _ (hv.grow hg07)).mono ?_
                rintro r m9 ⟨hg9, us, F9, rfl, hvr, hf9, ho9⟩
                have hvr : ValsF m9 e0.row us F9 := hvr
                have hvr' := hvr
                obtain ⟨kd', op', nt', vl', up', ap', ks', ss'⟩ := e0
                obtain ⟨x', y', H1', H2', rfl, _, q1', q2', hF9⟩ := PExpr.vals hvr'
                obtain ⟨ax', px', rfl, _⟩ := q1'.slice
                obtain ⟨ay', py', rfl, _⟩ := q2'.slice
                have hsr := PSort.mk_vals (d := dsc) hvr
                refine ⟨hg9, ?_⟩
                simp only [List.cons_append, List.nil_append] at hsr
                simp only [vcs, tbl, crs, List.map, reduceIte, Nat.reduceLT, Nat.reduceLeDiff, Nat.reduceEqDiff, Nat.reduceAdd, Nat.reduceMul, Nat.reduceSub, List.all_cons, List.all_nil, Bool.and_true, Bool.and_self, ne_eq, reduceCtorEq, not_false_eq_true, and_self, h45, e1, e2, e3, range1, rep1, Nat.zero_mul, Nat.zero_add, Nat.le_refl, Nat.mul_one, hdl2]
                refine ⟨hsr.oneCell, by omega, by omega, fun cap3 hc3 hc4 => ?_⟩
                rw [wrap_id (by omega) (by omega)]
                refine ⟨_, Sub.at 3 rfl (Sub.at 67 rfl (Sub.at 41 rfl (Sub.at 19 rfl (Sub.at 9 rfl (Sub.at 2 rfl (Sub.at 1 rfl (Sub.nil _))))))), ⟨k2 + 1, dn2 ++ _, G2 ++ F9, by simp, by omega, hT7.grow hg9, hN7.grow hg9, cw7.grow hg9, ci7.grow hg9, hdn7.grow hg9, ?_, ?_, .inr ⟨by omega, cap3, by omega, hc4, by rw [List.take_of_length_le (l := dn2) (by omega)]⟩⟩, by omega⟩
                · rw [hmt]; exact (hdo7.grow hg9).join hsr
                · rw [← List.append_assoc]; exact no7.step hg9 hf9 ho9
              · have : k2 = or.length := by omega
                subst this
                rw [List.take_length] at hdo7
                intro bT wT hpT
                obtain ⟨FT, cT, no⟩ := NewOwn.pubA (F := []) (show NewOwn m m7 ([] ++ (((Fw ++ Fi) ++ G) ++ G2)) from no7) hpT hT7 ht1 ht2
                have hN8 := hN7.grow hpT.grow
                have cw8 := cw7.grow hpT.grow
                have ci8 := ci7.grow hpT.grow
                have hdn8 := hdn7.grow hpT.grow
                have hdo8 := hdo7.grow hpT.grow
                intro bO wO hpO
                obtain ⟨FO, cO, no⟩ := NewOwn.pubA (F := G) (R := FT ++ ((Fw ++ Fi) ++ G2)) (no.perm (List.perm_iff_count.2 fun x => by simp only [List.count_cons, List.count_append, List.count_nil]; omega)) hpO hdn8 hc1 hc2
                have hN8 := hN8.grow hpO.grow
                have cw8 := cw8.grow hpO.grow
                have ci8 := ci8.grow hpO.grow
                have hdn8 := hdn8.grow hpO.grow
                have hdo8 := hdo8.grow hpO.grow
                have cT := cT.grow hpO.grow
                intro bD wD hpD
                obtain ⟨FD, cD, no⟩ := NewOwn.pubA (F := G2) (R := (FO ++ (FT ++ (Fw ++ Fi)))) (no.perm (List.perm_iff_count.2 fun x => by simp only [List.count_cons, List.count_append, List.count_nil]; omega)) hpD hdo8 hd1 hd2
                have hN8 := hN8.grow hpD.grow
                have cw8 := cw8.grow hpD.grow
                have ci8 := ci8.grow hpD.grow
                have hdn8 := hdn8.grow hpD.grow
                have hdo8 := hdo8.grow hpD.grow
                have cT := cT.grow hpD.grow
                have cO := cO.grow hpD.grow
                intro bN wN hpN
                obtain ⟨FN, cN, no⟩ := NewOwn.pubA (F := []) (R := ((FO) ++ ((FD) ++ (FT ++ (Fw ++ Fi))))) (no.perm (List.perm_iff_count.2 fun x => by simp only [List.count_cons, List.count_append, List.count_nil]; omega)) hpN hN8 hn1 hn2
                have hN8 := hN8.grow hpN.grow
                have cw8 := cw8.grow hpN.grow
                have ci8 := ci8.grow hpN.grow
                have hdn8 := hdn8.grow hpN.grow
                have hdo8 := hdo8.grow hpN.grow
                have cT := cT.grow hpN.grow
                have cO := cO.grow hpN.grow
                have cD := cD.grow hpN.grow
                have no9 : NewOwn m _ (FT ++ ((FO) ++ (Fw ++ ((FD) ++ (Fi ++ FN))))) := no.perm (List.perm_iff_count.2 fun x => by simp only [List.count_cons, List.count_append, List.count_nil]; omega)
                refine ⟨no9.grow, _, _, rfl, ?_, no9.fresh, no9.own⟩
                exact Plan.mk_valsK rfl rfl rfl rfl cT cO cw8 cD ci8 cN

theorem cp_all : (∀ e, ESmall e → ChC 82 id e) ∧ (∀ p, PSmall p → ∀ (m : World) (vs : List Value) (F : List Nat), ValsF m p.row vs F → FCalls Try.prog 94 #[.agg vs.toArray] m fun r m' => Grow m m' ∧ ∃ us F', r = .agg us.toArray ∧ ValsF m' p.row us F' ∧ Fresh m F' ∧ Own m' F') ∧ (∀ s : PSort, ∀ e d, s = .mk e d → ESmall e → ChC 82 id e) :=
  tree_ind (fun k o n v u a ks ss hk hp hs => by
      obtain ⟨s1, s2, s3, s4, s5⟩ := hs
      exact l19Copy_step k o n v u a ks ss (fun e he => hk e he (s3 e he)) (fun p hp' => hp p hp' (s5 p hp')) s2 s4)
    (fun t on wh or it nm ds li h1 h2 h3 h4 hs => by
      have hs0 := hs
      obtain ⟨s1, s2, s3, s4, s5, s6, s7, s8, s9, s10, s11⟩ := hs0
      exact l19CopyPlan_step t on wh or it nm ds li (fun l hl e he => h1 l hl e he (s4 l hl e he)) (fun e he => h2 e he (s6 e he)) (fun s hs' e d hed => h3 s hs' e d hed (by have := s8 s hs'; rw [hed] at this; cases this; assumption)) (fun e he => h4 e he (s10 e he)) hs)
    (fun e d h e' d' he => by injection he with h1 h2; subst h1; exact h)

end Go.Proofs.Ytklligemdfnimaa