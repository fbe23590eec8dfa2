/-
  The program and the reference carry negations inwards alike in plans, for all arguments: FnExactPositivePlan holds.
  Conditions: none.
-/
import Derived.Test.YtklligemdfnimaaPPosB
import Derived.Test.YtklligemdfnimaaRows
import Derived.ProofKit
import Derived.OpenShut
set_option linter.unusedVariables false
set_option linter.unusedSimpArgs false
set_option linter.unusedVariables false
set_option linter.unusedSimpArgs false
set_option maxRecDepth 4000
namespace Go.Proofs.Ytklligemdfnimaa
open Go Go.Vc
theorem Plan.mk_valsK2 {m : World} {t on wh or it nm ds li} {nt no nw nr ni nn : Nat} (e0 : t.length = nt) (e1 : on.length = no) (e2 : wh.length = nw) (e3 : or.length = nr) (e4 : it.length = ni) (e5 : nm.length = nn) {a b c d e f : Value} {F1 F2 F3 F4 F5 F6 : List Nat} (h1 : CellF m (.sl nt (t.flatMap irow)) a F1) (h2 : CellF m (.sl no (on.flatMap erow)) b F2)
    (h3 : CellF m (.sl nw (wh.flatMap PExpr.row)) c F3) (h4 : CellF m (.sl nr (or.flatMap PSort.row)) d F4) (h5 : CellF m (.sl ni (it.flatMap PExpr.row)) e F5) (h6 : CellF m (.sl nn (nm.flatMap srow)) f F6) :
    ValsF m (Plan.mk t on wh or it nm ds li).row [a, b, c, d, e, f, .bool ds, .int .i64 li] (F1 ++ (F2 ++ (F3 ++ (F4 ++ (F5 ++ F6))))) := by
  subst e0 e1 e2 e3 e4 e5
  exact Plan.mk_vals h1 h2 h3 h4 h5 h6
theorem Plan.valsK {m : World} {t on wh or it nm ds li} {nt no nw nr ni nn : Nat} (e0 : t.length = nt) (e1 : on.length = no) (e2 : wh.length = nw) (e3 : or.length = nr) (e4 : it.length = ni) (e5 : nm.length = nn) {vs : List Value} {F : List Nat} (h : ValsF m (Plan.mk t on wh or it nm ds li).row vs F) :
    ∃ a b c d e f F1 F2 F3 F4 F5 F6, vs = [a, b, c, d, e, f, .bool ds, .int .i64 li] ∧ CellF m (.sl nt (t.flatMap irow)) a F1 ∧ CellF m (.sl no (on.flatMap erow)) b F2 ∧
      CellF m (.sl nw (wh.flatMap PExpr.row)) c F3 ∧ CellF m (.sl nr (or.flatMap PSort.row)) d F4 ∧ CellF m (.sl ni (it.flatMap PExpr.row)) e F5 ∧ CellF m (.sl nn (nm.flatMap srow)) f F6 := by
  subst e0 e1 e2 e3 e4 e5
  obtain ⟨a, b, c, d, e, f, F1, F2, F3, F4, F5, F6, h0, h1, h2, h3, h4, h5, h6, _⟩ := Plan.vals h
  exact ⟨a, b, c, d, e, f, F1, F2, F3, F4, F5, F6, h0, h1, h2, h3, h4, h5, h6⟩

set_option maxHeartbeats 1000000 in
theorem markPlan_c (t on wh or it nm ds li) (q : Int) (m : World) (vs : List Value) (F : List Nat) (h : ValsF m (Plan.mk t on wh or it nm ds li).row vs F) (hn : F.Nodup) (ho : Own m F) (h0 : 0 ≤ q) (h1 : q + (↑(cnL (fun _ => 1) t) + (↑(cnL (cnL cnE) on) + (↑(cnL cnE wh) + (↑(cnL cnS or) + (↑(cnL cnE it) + ↑(cnL (fun _ => 1) nm)))))) ≤ 4611686018427387904) :
   FCalls Try.prog 39 #[.agg vs.toArray, .int .i64 q] m fun r m' => r = .int .i64 (q + (↑(cnL (fun _ => 1) t) + (↑(cnL (cnL cnE) on) + (↑(cnL cnE wh) + (↑(cnL cnS or) + (↑(cnL cnE it) + ↑(cnL (fun _ => 1) nm))))))) ∧ Chg F m m' ∧ ValsF m' (Plan.mk (mkL (fun k _ => k) (fun _ => 1) (q) t) (mkL (mkL mkE cnE) (cnL cnE) (q + ↑(cnL (fun _ => 1) t)) on) (mkL mkE cnE (q + (↑(cnL (fun _ => 1) t) + ↑(cnL (cnL cnE) on))) wh) (mkL mkS cnS (q + (↑(cnL (fun _ => 1) t) + (↑(cnL (cnL cnE) on) + ↑(cnL cnE wh)))) or) (mkL mkE cnE (q + (↑(cnL (fun _ => 1) t) + (↑(cnL (cnL cnE) on) + (↑(cnL cnE wh) + ↑(cnL cnS or))))) it) (mkL (fun k _ => mtext k) (fun _ => 1) (q + (↑(cnL (fun _ => 1) t) + (↑(cnL (cnL cnE) on) + (↑(cnL cnE wh) + (↑(cnL cnS or) + ↑(cnL cnE it)))))) nm) ds li).row vs F ∧ Own m' F := by
  obtain ⟨v1, v2, v3, v4, v5, v6, F1, F2, F3, F4, F5, F6, rfl, c1, c2, c3, c4, c5, c6, rfl⟩ := Plan.vals h
  obtain ⟨a1, p1, rfl, _⟩ := c1.slice
  obtain ⟨a2, p2, rfl, _⟩ := c2.slice
  obtain ⟨a3, p3, rfl, _⟩ := c3.slice
  obtain ⟨a4, p4, rfl, _⟩ := c4.slice
  obtain ⟨a5, p5, rfl, _⟩ := c5.slice
  obtain ⟨a6, p6, rfl, _⟩ := c6.slice
  simp only [List.nodup_append, List.mem_append] at hn
  obtain ⟨nd1, ⟨nd2, ⟨nd3, ⟨nd4, ⟨nd5, nd6, x5⟩, x4⟩, x3⟩, x2⟩, x1⟩ := hn
  have o1 : Own m F1 := ho.sub (by intro x hx; simp [hx])
  have o2 : Own m F2 := ho.sub (by intro x hx; simp [hx])
  have o3 : Own m F3 := ho.sub (by intro x hx; simp [hx])
  have o4 : Own m F4 := ho.sub (by intro x hx; simp [hx])
  have o5 : Own m F5 := ho.sub (by intro x hx; simp [hx])
  have o6 : Own m F6 := ho.sub (by intro x hx; simp [hx])
  have d21 : ∀ x ∈ F2, x ∉ F1 := fun x hx e => x1 x e x (by simp [hx]) rfl
  have d31 : ∀ x ∈ F3, x ∉ F1 := fun x hx e => x1 x e x (by simp [hx]) rfl
  have d41 : ∀ x ∈ F4, x ∉ F1 := fun x hx e => x1 x e x (by simp [hx]) rfl
  have d51 : ∀ x ∈ F5, x ∉ F1 := fun x hx e => x1 x e x (by simp [hx]) rfl
  have d61 : ∀ x ∈ F6, x ∉ F1 := fun x hx e => x1 x e x (by simp [hx]) rfl
  have d12 : ∀ x ∈ F1, x ∉ F2 := fun x hx e => x1 x hx x (by simp [e]) rfl
  have d32 : ∀ x ∈ F3, x ∉ F2 := fun x hx e => x2 x e x (by simp [hx]) rfl
  have d42 : ∀ x ∈ F4, x ∉ F2 := fun x hx e => x2 x e x (by simp [hx]) rfl
  have d52 : ∀ x ∈ F5, x ∉ F2 := fun x hx e => x2 x e x (by simp [hx]) rfl
  have d62 : ∀ x ∈ F6, x ∉ F2 := fun x hx e => x2 x e x (by simp [hx]) rfl
  have d13 : ∀ x ∈ F1, x ∉ F3 := fun x hx e => x1 x hx x (by simp [e]) rfl
  have d23 : ∀ x ∈ F2, x ∉ F3 := fun x hx e => x2 x hx x (by simp [e]) rfl
  have d43 : ∀ x ∈ F4, x ∉ F3 := fun x hx e => x3 x e x (by simp [hx]) rfl
  have d53 : ∀ x ∈ F5, x ∉ F3 := fun x hx e => x3 x e x (by simp [hx]) rfl
  have d63 : ∀ x ∈ F6, x ∉ F3 := fun x hx e => x3 x e x (by simp [hx]) rfl
  have d14 : ∀ x ∈ F1, x ∉ F4 := fun x hx e => x1 x hx x (by simp [e]) rfl
  have d24 : ∀ x ∈ F2, x ∉ F4 := fun x hx e => x2 x hx x (by simp [e]) rfl
  have d34 : ∀ x ∈ F3, x ∉ F4 := fun x hx e => x3 x hx x (by simp [e]) rfl
  have d54 : ∀ x ∈ F5, x ∉ F4 := fun x hx e => x4 x e x (by simp [hx]) rfl
  have d64 : ∀ x ∈ F6, x ∉ F4 := fun x hx e => x4 x e x (by simp [hx]) rfl
  have d15 : ∀ x ∈ F1, x ∉ F5 := fun x hx e => x1 x hx x (by simp [e]) rfl
  have d25 : ∀ x ∈ F2, x ∉ F5 := fun x hx e => x2 x hx x (by simp [e]) rfl
  have d35 : ∀ x ∈ F3, x ∉ F5 := fun x hx e => x3 x hx x (by simp [e]) rfl
  have d45 : ∀ x ∈ F4, x ∉ F5 := fun x hx e => x4 x hx x (by simp [e]) rfl
  have d65 : ∀ x ∈ F6, x ∉ F5 := fun x hx e => x5 x e x (by simp [hx]) rfl
  have d16 : ∀ x ∈ F1, x ∉ F6 := fun x hx e => x1 x hx x (by simp [e]) rfl
  have d26 : ∀ x ∈ F2, x ∉ F6 := fun x hx e => x2 x hx x (by simp [e]) rfl
  have d36 : ∀ x ∈ F3, x ∉ F6 := fun x hx e => x3 x hx x (by simp [e]) rfl
  have d46 : ∀ x ∈ F4, x ∉ F6 := fun x hx e => x4 x hx x (by simp [e]) rfl
  have d56 : ∀ x ∈ F5, x ∉ F6 := fun x hx e => x5 x hx x (by simp [e]) rfl
  refine fcalls_of_vc (args := [_, _]) follows_mixed Try.func39 rfl (by kernel_rfl) (by simp [Try.f39]) ?_
  simp only [Try.f39, vcs, tbl, crs, List.map, reduceIte, Nat.reduceLT, Nat.reduceLeDiff, Nat.reduceEqDiff, Nat.reduceAdd, Nat.reduceMul, Nat.reduceSub, List.all_cons, List.all_nil, Bool.and_true, Bool.and_self, ne_eq, reduceCtorEq, not_false_eq_true, and_self]
  refine (markIntS _ _ _ _ _ c1 nd1 o1 (by omega) (by omega)).mono ?_
  rintro r m1 ⟨rfl, c1, o1, g1⟩
  replace c2 := c2.chg g1 d21
  replace o2 := o2.chgD g1 d21
  replace c3 := c3.chg g1 d31
  replace o3 := o3.chgD g1 d31
  replace c4 := c4.chg g1 d41
  replace o4 := o4.chgD g1 d41
  replace c5 := c5.chg g1 d51
  replace o5 := o5.chgD g1 d51
  replace c6 := c6.chg g1 d61
  replace o6 := o6.chgD g1 d61
  simp only [vcs, tbl, crs, List.map, reduceIte, Nat.reduceLT, Nat.reduceLeDiff, Nat.reduceEqDiff, Nat.reduceAdd, Nat.reduceMul, Nat.reduceSub, List.all_cons, List.all_nil, Bool.and_true, Bool.and_self, ne_eq, reduceCtorEq, not_false_eq_true, and_self, Int.add_assoc]
  refine (markPExprSS _ (fun l _ e _ => mk_all.1 e) _ _ _ _ c2 nd2 o2 (by omega) (by omega)).mono ?_
  rintro r m2 ⟨rfl, c2, o2, g2⟩
  replace c1 := c1.chg g2 d12
  replace o1 := o1.chgD g2 d12
  replace c3 := c3.chg g2 d32
  replace o3 := o3.chgD g2 d32
  replace c4 := c4.chg g2 d42
  replace o4 := o4.chgD g2 d42
  replace c5 := c5.chg g2 d52
  replace o5 := o5.chgD g2 d52
  replace c6 := c6.chg g2 d62
  replace o6 := o6.chgD g2 d62
  simp only [vcs, tbl, crs, List.map, reduceIte, Nat.reduceLT, Nat.reduceLeDiff, Nat.reduceEqDiff, Nat.reduceAdd, Nat.reduceMul, Nat.reduceSub, List.all_cons, List.all_nil, Bool.and_true, Bool.and_self, ne_eq, reduceCtorEq, not_false_eq_true, and_self, Int.add_assoc]
  refine (markPExprS _ (fun e _ => mk_all.1 e) _ _ _ _ c3 nd3 o3 (by omega) (by omega)).mono ?_
  rintro r m3 ⟨rfl, c3, o3, g3⟩
  replace c1 := c1.chg g3 d13
  replace o1 := o1.chgD g3 d13
  replace c2 := c2.chg g3 d23
  replace o2 := o2.chgD g3 d23
  replace c4 := c4.chg g3 d43
  replace o4 := o4.chgD g3 d43
  replace c5 := c5.chg g3 d53
  replace o5 := o5.chgD g3 d53
  replace c6 := c6.chg g3 d63
  replace o6 := o6.chgD g3 d63
  simp only [vcs, tbl, crs, List.map, reduceIte, Nat.reduceLT, Nat.reduceLeDiff, Nat.reduceEqDiff, Nat.reduceAdd, Nat.reduceMul, Nat.reduceSub, List.all_cons, List.all_nil, Bool.and_true, Bool.and_self, ne_eq, reduceCtorEq, not_false_eq_true, and_self, Int.add_assoc]
  refine (markPSortS _ (fun e _ => mk_all.2.2 e) _ _ _ _ c4 nd4 o4 (by omega) (by omega)).mono ?_
  rintro r m4 ⟨rfl, c4, o4, g4⟩
  replace c1 := c1.chg g4 d14
  replace o1 := o1.chgD g4 d14
  replace c2 := c2.chg g4 d24
  replace o2 := o2.chgD g4 d24
  replace c3 := c3.chg g4 d34
  replace o3 := o3.chgD g4 d34
  replace c5 := c5.chg g4 d54
  replace o5 := o5.chgD g4 d54
  replace c6 := c6.chg g4 d64
  replace o6 := o6.chgD g4 d64
  simp only [vcs, tbl, crs, List.map, reduceIte, Nat.reduceLT, Nat.reduceLeDiff, Nat.reduceEqDiff, Nat.reduceAdd, Nat.reduceMul, Nat.reduceSub, List.all_cons, List.all_nil, Bool.and_true, Bool.and_self, ne_eq, reduceCtorEq, not_false_eq_true, and_self, Int.add_assoc]
  refine (markPExprS _ (fun e _ => mk_all.1 e) _ _ _ _ c5 nd5 o5 (by omega) (by omega)).mono ?_
  rintro r m5 ⟨rfl, c5, o5, g5⟩
  replace c1 := c1.chg g5 d15
  replace o1 := o1.chgD g5 d15
  replace c2 := c2.chg g5 d25
  replace o2 := o2.chgD g5 d25
  replace c3 := c3.chg g5 d35
  replace o3 := o3.chgD g5 d35
  replace c4 := c4.chg g5 d45
  replace o4 := o4.chgD g5 d45
  replace c6 := c6.chg g5 d65
  replace o6 := o6.chgD g5 d65
  simp only [vcs, tbl, crs, List.map, reduceIte, Nat.reduceLT, Nat.reduceLeDiff, Nat.reduceEqDiff, Nat.reduceAdd, Nat.reduceMul, Nat.reduceSub, List.all_cons, List.all_nil, Bool.and_true, Bool.and_self, ne_eq, reduceCtorEq, not_false_eq_true, and_self, Int.add_assoc]
  refine (markStringS _ _ _ _ _ c6 nd6 o6 (by omega) (by omega)).mono ?_
  rintro r m6 ⟨rfl, c6, o6, g6⟩
  replace c1 := c1.chg g6 d16
  replace o1 := o1.chgD g6 d16
  replace c2 := c2.chg g6 d26
  replace o2 := o2.chgD g6 d26
  replace c3 := c3.chg g6 d36
  replace o3 := o3.chgD g6 d36
  replace c4 := c4.chg g6 d46
  replace o4 := o4.chgD g6 d46
  replace c5 := c5.chg g6 d56
  replace o5 := o5.chgD g6 d56
  simp only [vcs, tbl, crs, List.map, reduceIte, Nat.reduceLT, Nat.reduceLeDiff, Nat.reduceEqDiff, Nat.reduceAdd, Nat.reduceMul, Nat.reduceSub, List.all_cons, List.all_nil, Bool.and_true, Bool.and_self, ne_eq, reduceCtorEq, not_false_eq_true, and_self, Int.add_assoc]
  have G1 : Chg (F1 ++ (F2 ++ (F3 ++ (F4 ++ (F5 ++ F6))))) _ m1 := g1.mono (by intro x hx; simp [hx])
  have G2 : Chg (F1 ++ (F2 ++ (F3 ++ (F4 ++ (F5 ++ F6))))) m1 m2 := g2.mono (by intro x hx; simp [hx])
  have G3 : Chg (F1 ++ (F2 ++ (F3 ++ (F4 ++ (F5 ++ F6))))) m2 m3 := g3.mono (by intro x hx; simp [hx])
  have G4 : Chg (F1 ++ (F2 ++ (F3 ++ (F4 ++ (F5 ++ F6))))) m3 m4 := g4.mono (by intro x hx; simp [hx])
  have G5 : Chg (F1 ++ (F2 ++ (F3 ++ (F4 ++ (F5 ++ F6))))) m4 m5 := g5.mono (by intro x hx; simp [hx])
  have G6 : Chg (F1 ++ (F2 ++ (F3 ++ (F4 ++ (F5 ++ F6))))) m5 m6 := g6.mono (by intro x hx; simp [hx])
  refine ⟨((((G1.trans G2).trans G3).trans G4).trans G5).trans G6, ?_, o1.app (o2.app (o3.app (o4.app (o5.app o6))))⟩
  · exact Plan.mk_valsK2 (mkL_len _ _ _ _) (mkL_len _ _ _ _) (mkL_len _ _ _ _) (mkL_len _ _ _ _) (mkL_len _ _ _ _) (mkL_len _ _ _ _) c1 c2 c3 c4 c5 c6

set_option maxHeartbeats 1000000 in
theorem heldPlan_c (t on wh or it nm ds li) (q : Int) (m : World) (vs : List Value) (F : List Nat) (h : ValsF m (Plan.mk (mkL (fun k _ => k) (fun _ => 1) (q) t) (mkL (mkL mkE cnE) (cnL cnE) (q + ↑(cnL (fun _ => 1) t)) on) (mkL mkE cnE (q + (↑(cnL (fun _ => 1) t) + ↑(cnL (cnL cnE) on))) wh) (mkL mkS cnS (q + (↑(cnL (fun _ => 1) t) + (↑(cnL (cnL cnE) on) + ↑(cnL cnE wh)))) or) (mkL mkE cnE (q + (↑(cnL (fun _ => 1) t) + (↑(cnL (cnL cnE) on) + (↑(cnL cnE wh) + ↑(cnL cnS or))))) it) (mkL (fun k _ => mtext k) (fun _ => 1) (q + (↑(cnL (fun _ => 1) t) + (↑(cnL (cnL cnE) on) + (↑(cnL cnE wh) + (↑(cnL cnS or) + ↑(cnL cnE it)))))) nm) ds li).row vs F) (h0 : 0 ≤ q) (h1 : q + (↑(cnL (fun _ => 1) t) + (↑(cnL (cnL cnE) on) + (↑(cnL cnE wh) + (↑(cnL cnS or) + (↑(cnL cnE it) + ↑(cnL (fun _ => 1) nm)))))) ≤ 4611686018427387904) :
   FCalls Try.prog 40 #[.agg vs.toArray, .int .i64 q] m fun r m' => Grow m m' ∧ r = .int .i64 (q + (↑(cnL (fun _ => 1) t) + (↑(cnL (cnL cnE) on) + (↑(cnL cnE wh) + (↑(cnL cnS or) + (↑(cnL cnE it) + ↑(cnL (fun _ => 1) nm))))))) := by
  obtain ⟨v1, v2, v3, v4, v5, v6, F1, F2, F3, F4, F5, F6, rfl, c1, c2, c3, c4, c5, c6⟩ := Plan.valsK (mkL_len _ _ _ _) (mkL_len _ _ _ _) (mkL_len _ _ _ _) (mkL_len _ _ _ _) (mkL_len _ _ _ _) (mkL_len _ _ _ _) h
  obtain ⟨a1, p1, rfl, _⟩ := c1.slice
  obtain ⟨a2, p2, rfl, _⟩ := c2.slice
  obtain ⟨a3, p3, rfl, _⟩ := c3.slice
  obtain ⟨a4, p4, rfl, _⟩ := c4.slice
  obtain ⟨a5, p5, rfl, _⟩ := c5.slice
  obtain ⟨a6, p6, rfl, _⟩ := c6.slice
  refine fcalls_of_vc (args := [_, _]) follows_mixed Try.func40 rfl (by kernel_rfl) (by simp [Try.f40]) ?_
  simp only [Try.f40, vcs, tbl, crs, List.map, reduceIte, Nat.reduceLT, Nat.reduceLeDiff, Nat.reduceEqDiff, Nat.reduceAdd, Nat.reduceMul, Nat.reduceSub, List.all_cons, List.all_nil, Bool.and_true, Bool.and_self, ne_eq, reduceCtorEq, not_false_eq_true, and_self]
  have g0 := Grow.refl m
  refine (heldIntS _ _ _ _ _ (c1.grow g0) (by omega) (by omega)).mono ?_
  rintro r m1 ⟨hg1, rfl⟩
  have g1 := g0.trans hg1
  simp only [vcs, tbl, crs, List.map, reduceIte, Nat.reduceLT, Nat.reduceLeDiff, Nat.reduceEqDiff, Nat.reduceAdd, Nat.reduceMul, Nat.reduceSub, List.all_cons, List.all_nil, Bool.and_true, Bool.and_self, ne_eq, reduceCtorEq, not_false_eq_true, and_self, Int.add_assoc]
  refine ⟨fun h => absurd h (by omega), fun _ => ?_⟩
  refine (heldPExprSS _ (fun l _ e _ => hd_all.1 e) _ _ _ _ (c2.grow g1) (by omega) (by omega)).mono ?_
  rintro r m2 ⟨hg2, rfl⟩
  have g2 := g1.trans hg2
  simp only [vcs, tbl, crs, List.map, reduceIte, Nat.reduceLT, Nat.reduceLeDiff, Nat.reduceEqDiff, Nat.reduceAdd, Nat.reduceMul, Nat.reduceSub, List.all_cons, List.all_nil, Bool.and_true, Bool.and_self, ne_eq, reduceCtorEq, not_false_eq_true, and_self, Int.add_assoc]
  refine ⟨fun h => absurd h (by omega), fun _ => ?_⟩
  refine (heldPExprS _ (fun e _ => hd_all.1 e) _ _ _ _ (c3.grow g2) (by omega) (by omega)).mono ?_
  rintro r m3 ⟨hg3, rfl⟩
  have g3 := g2.trans hg3
  simp only [vcs, tbl, crs, List.map, reduceIte, Nat.reduceLT, Nat.reduceLeDiff, Nat.reduceEqDiff, Nat.reduceAdd, Nat.reduceMul, Nat.reduceSub, List.all_cons, List.all_nil, Bool.and_true, Bool.and_self, ne_eq, reduceCtorEq, not_false_eq_true, and_self, Int.add_assoc]
  refine ⟨fun h => absurd h (by omega), fun _ => ?_⟩
  refine (heldPSortS _ (fun e _ => hd_all.2.2 e) _ _ _ _ (c4.grow g3) (by omega) (by omega)).mono ?_
  rintro r m4 ⟨hg4, rfl⟩
  have g4 := g3.trans hg4
  simp only [vcs, tbl, crs, List.map, reduceIte, Nat.reduceLT, Nat.reduceLeDiff, Nat.reduceEqDiff, Nat.reduceAdd, Nat.reduceMul, Nat.reduceSub, List.all_cons, List.all_nil, Bool.and_true, Bool.and_self, ne_eq, reduceCtorEq, not_false_eq_true, and_self, Int.add_assoc]
  refine ⟨fun h => absurd h (by omega), fun _ => ?_⟩
  refine (heldPExprS _ (fun e _ => hd_all.1 e) _ _ _ _ (c5.grow g4) (by omega) (by omega)).mono ?_
  rintro r m5 ⟨hg5, rfl⟩
  have g5 := g4.trans hg5
  simp only [vcs, tbl, crs, List.map, reduceIte, Nat.reduceLT, Nat.reduceLeDiff, Nat.reduceEqDiff, Nat.reduceAdd, Nat.reduceMul, Nat.reduceSub, List.all_cons, List.all_nil, Bool.and_true, Bool.and_self, ne_eq, reduceCtorEq, not_false_eq_true, and_self, Int.add_assoc]
  refine ⟨fun h => absurd h (by omega), fun _ => ?_⟩
  refine (heldStringS _ _ _ _ _ (c6.grow g5) (by omega) (by omega)).mono ?_
  rintro r m6 ⟨hg6, rfl⟩
  have g6 := g5.trans hg6
  simp only [vcs, tbl, crs, List.map, reduceIte, Nat.reduceLT, Nat.reduceLeDiff, Nat.reduceEqDiff, Nat.reduceAdd, Nat.reduceMul, Nat.reduceSub, List.all_cons, List.all_nil, Bool.and_true, Bool.and_self, ne_eq, reduceCtorEq, not_false_eq_true, and_self, Int.add_assoc]
  exact ⟨fun h => absurd h (by omega), fun _ => g6⟩

end Go.Proofs.Ytklligemdfnimaa
set_option linter.unusedVariables false
set_option linter.unusedSimpArgs false
set_option maxRecDepth 4000
namespace Go.Proofs.Ytklligemdfnimaa
open Go Go.Vc
theorem cnLL_map_le : ∀ (on : List (List PExpr)), cnL (cnL cnE) (on.map fun l => l.map posE) ≤ 2 * cnL (cnL cnE) on
  | [] => by simp [cnL]
  | l :: ls => by
    have h1 := cnL_map_le (f := posE) (ks := l) (fun e _ => (cn_pos e).1)
    have h2 := cnLL_map_le ls
    simp only [List.map_cons, cnL]; omega
theorem cnS_map_le : ∀ (or : List PSort), cnL cnS (or.map (mapS posE)) ≤ 2 * cnL cnS or
  | [] => by simp [cnL]
  | .mk e d :: ls => by
    have h1 := (cn_pos e).1
    have h2 := cnS_map_le ls
    simp only [List.map_cons, cnL, mapS, cnS]; omega
theorem cnP_pos (p : Plan) : cnP (mapP posE p) ≤ 2 * cnP p := by
  obtain ⟨t, on, wh, or, it, nm, ds, li⟩ := p
  have h1 := cnLL_map_le on
  have h2 := cnS_map_le or
  have h3 := cnL_map_le (f := posE) (ks := wh) (fun e _ => (cn_pos e).1)
  have h4 := cnL_map_le (f := posE) (ks := it) (fun e _ => (cn_pos e).1)
  rw [mapP, cnP, cnP, cnEEs_eq, cnEs_eq, cnSs_eq, cnEs_eq, cnEEs_eq, cnEs_eq, cnSs_eq, cnEs_eq]; omega

set_option maxHeartbeats 2000000 in
theorem exactPositivePlan (e : Plan) (m : World) (vs : List Value) (F : List Nat) (h : ValsF m e.row vs F) :
   FCalls Try.prog 9 #[.agg vs.toArray] m fun r m' => Grow m m' ∧ r = .bool true := by
  have h0 := h
  obtain ⟨e, he⟩ : ∃ e', e = e' := ⟨_, rfl⟩
  subst he
  obtain ⟨t, on, wh, or, it, nm, ds, li⟩ := e
  obtain ⟨v1, v2, v3, v4, v5, v6, F1, F2, F3, F4, F5, F6, rfl, c1, c2, c3, c4, c5, c6, rfl⟩ := Plan.vals h0
  obtain ⟨a1, k1, rfl, _⟩ := c1.slice
  obtain ⟨a2, k2, rfl, _⟩ := c2.slice
  obtain ⟨a3, k3, rfl, _⟩ := c3.slice
  obtain ⟨a4, k4, rfl, _⟩ := c4.slice
  obtain ⟨a5, k5, rfl, _⟩ := c5.slice
  obtain ⟨a6, k6, rfl, _⟩ := c6.slice
  generalize hee : Plan.mk t on wh or it nm ds li = e at h
  refine fcalls_of_vc (args := [_]) follows_mixed Try.func9 rfl (by kernel_rfl) (by simp [Try.f9]) ?_
  simp only [Try.f9, vcs, tbl, crs, List.map, reduceIte, Nat.reduceLT, Nat.reduceLeDiff, Nat.reduceEqDiff, Nat.reduceAdd, Nat.reduceMul, Nat.reduceSub, List.all_cons, List.all_nil, Bool.and_true, Bool.and_self, ne_eq, reduceCtorEq, not_false_eq_true, and_self]
  refine (sw_all.2.1 e _ _ _ _ h (by omega) (by omega)).mono ?_
  rintro r m1 ⟨g1, kk, rfl, hk1, hs⟩
  simp only [vcs, tbl, crs, List.map, reduceIte, Nat.reduceLT, Nat.reduceLeDiff, Nat.reduceEqDiff, Nat.reduceAdd, Nat.reduceMul, Nat.reduceSub, List.all_cons, List.all_nil, Bool.and_true, Bool.and_self, ne_eq, reduceCtorEq, not_false_eq_true, and_self]
  refine ⟨fun _ => g1, fun hn1 => ?_⟩
  obtain ⟨hs, hwt⟩ := hs (by omega)
  have hcp := cnP_pos e
  obtain ⟨e', hpe⟩ : ∃ e', mapP posE e = e' := ⟨_, rfl⟩
  rw [hpe] at hcp
  subst hee
  obtain ⟨t', on', wh', or', it', nm', ds', li'⟩ := e'
  have hce : cnP (.mk t on wh or it nm ds li) = cnL (fun _ => 1) t + (cnL (cnL cnE) on + (cnL cnE wh + (cnL cnS or + (cnL cnE it + (cnL (fun _ => 1) nm + 2))))) := by rw [cnP, cnEEs_eq, cnEs_eq, cnSs_eq, cnEs_eq]
  have hce' : cnP (.mk t' on' wh' or' it' nm' ds' li') = cnL (fun _ => 1) t' + (cnL (cnL cnE) on' + (cnL cnE wh' + (cnL cnS or' + (cnL cnE it' + (cnL (fun _ => 1) nm' + 2))))) := by rw [cnP, cnEEs_eq, cnEs_eq, cnSs_eq, cnEs_eq]
  rw [hce] at hwt hcp
  rw [hce'] at hcp
  refine (to_all.2.1 _ _ _ _ (h.grow g1) hs).mono ?_
  rintro r m2 ⟨hg2, us2, F2, rfl, hv2, hf2, ho2⟩
  have hw2 := hv2
  obtain ⟨z1, z2, z3, z4, z5, z6, E1, E2, E3, E4, E5, E6, rfl, w1, w2, w3, w4, w5, w6, hF2⟩ := Plan.vals hv2
  obtain ⟨u21, p21, rfl, _⟩ := w1.slice
  obtain ⟨u22, p22, rfl, _⟩ := w2.slice
  obtain ⟨u23, p23, rfl, _⟩ := w3.slice
  obtain ⟨u24, p24, rfl, _⟩ := w4.slice
  obtain ⟨u25, p25, rfl, _⟩ := w5.slice
  obtain ⟨u26, p26, rfl, _⟩ := w6.slice
  have g2 := g1.trans hg2
  simp only [vcs, tbl, crs, List.map, reduceIte, Nat.reduceLT, Nat.reduceLeDiff, Nat.reduceEqDiff, Nat.reduceAdd, Nat.reduceMul, Nat.reduceSub, List.all_cons, List.all_nil, Bool.and_true, Bool.and_self, ne_eq, reduceCtorEq, not_false_eq_true, and_self]
  refine (specPositivePlan_c _ hs _ _ _ hw2).mono ?_
  rintro r m3 ⟨hg3, us3, F3, rfl, hv3⟩
  rw [hpe] at hv3
  have hw3 := hv3
  obtain ⟨z1, z2, z3, z4, z5, z6, E1, E2, E3, E4, E5, E6, rfl, w1, w2, w3, w4, w5, w6, hF3⟩ := Plan.vals hv3
  obtain ⟨u31, p31, rfl, _⟩ := w1.slice
  obtain ⟨u32, p32, rfl, _⟩ := w2.slice
  obtain ⟨u33, p33, rfl, _⟩ := w3.slice
  obtain ⟨u34, p34, rfl, _⟩ := w4.slice
  obtain ⟨u35, p35, rfl, _⟩ := w5.slice
  obtain ⟨u36, p36, rfl, _⟩ := w6.slice
  have g3 := g2.trans hg3
  simp only [vcs, tbl, crs, List.map, reduceIte, Nat.reduceLT, Nat.reduceLeDiff, Nat.reduceEqDiff, Nat.reduceAdd, Nat.reduceMul, Nat.reduceSub, List.all_cons, List.all_nil, Bool.and_true, Bool.and_self, ne_eq, reduceCtorEq, not_false_eq_true, and_self]
  refine (to_all.2.1 _ _ _ _ (h.grow g3) hs).mono ?_
  rintro r m4 ⟨hg4, us4, F4, rfl, hv4, hf4, ho4⟩
  have hw4 := hv4
  obtain ⟨z1, z2, z3, z4, z5, z6, E1, E2, E3, E4, E5, E6, rfl, w1, w2, w3, w4, w5, w6, hF4⟩ := Plan.vals hv4
  obtain ⟨u41, p41, rfl, _⟩ := w1.slice
  obtain ⟨u42, p42, rfl, _⟩ := w2.slice
  obtain ⟨u43, p43, rfl, _⟩ := w3.slice
  obtain ⟨u44, p44, rfl, _⟩ := w4.slice
  obtain ⟨u45, p45, rfl, _⟩ := w5.slice
  obtain ⟨u46, p46, rfl, _⟩ := w6.slice
  have g4 := g3.trans hg4
  simp only [vcs, tbl, crs, List.map, reduceIte, Nat.reduceLT, Nat.reduceLeDiff, Nat.reduceEqDiff, Nat.reduceAdd, Nat.reduceMul, Nat.reduceSub, List.all_cons, List.all_nil, Bool.and_true, Bool.and_self, ne_eq, reduceCtorEq, not_false_eq_true, and_self]
  refine (implPositivePlan_c _ hs _ _ _ hw4).mono ?_
  rintro r m5 ⟨hg5, us5, F5, rfl, hv5, hf5, ho5⟩
  rw [hpe] at hv5
  have hw5 := hv5
  obtain ⟨z1, z2, z3, z4, z5, z6, E1, E2, E3, E4, E5, E6, rfl, w1, w2, w3, w4, w5, w6, hF5⟩ := Plan.vals hv5
  obtain ⟨u51, p51, rfl, _⟩ := w1.slice
  obtain ⟨u52, p52, rfl, _⟩ := w2.slice
  obtain ⟨u53, p53, rfl, _⟩ := w3.slice
  obtain ⟨u54, p54, rfl, _⟩ := w4.slice
  obtain ⟨u55, p55, rfl, _⟩ := w5.slice
  obtain ⟨u56, p56, rfl, _⟩ := w6.slice
  have g5 := g4.trans hg5
  simp only [vcs, tbl, crs, List.map, reduceIte, Nat.reduceLT, Nat.reduceLeDiff, Nat.reduceEqDiff, Nat.reduceAdd, Nat.reduceMul, Nat.reduceSub, List.all_cons, List.all_nil, Bool.and_true, Bool.and_self, ne_eq, reduceCtorEq, not_false_eq_true, and_self]
  have hw3 := (hw3.grow hg4).grow hg5
  refine (eq_all.2.1 _ _ _ _ _ _ _ hw5 hw3).mono ?_
  rintro r m6 ⟨hg6, bb6, rfl, hb6⟩
  obtain rfl : bb6 = true := hb6.2 rfl
  have g6 := g5.trans hg6
  simp only [vcs, tbl, crs, List.map, reduceIte, Nat.reduceLT, Nat.reduceLeDiff, Nat.reduceEqDiff, Nat.reduceAdd, Nat.reduceMul, Nat.reduceSub, List.all_cons, List.all_nil, Bool.and_true, Bool.and_self, ne_eq, reduceCtorEq, not_false_eq_true, and_self, Bool.not_true]
  refine ⟨fun h => by simp at h, fun _ => ?_⟩
  refine vcDrawn.introL (.take 0 (.take 1 (.br 2 (.br 3 (.take 4 .done) .nobr) .nobr))) (by kernel_rfl) ?_
  simp only [vcs, tbl, crs, List.map, reduceIte, Nat.reduceLT, Nat.reduceLeDiff, Nat.reduceEqDiff, Nat.reduceAdd, Nat.reduceMul, Nat.reduceSub, List.all_cons, List.all_nil, Bool.and_true, Bool.and_self, ne_eq, reduceCtorEq, not_false_eq_true, and_self]
  refine (to_all.2.1 _ _ _ _ (h.grow g6) hs).mono ?_
  rintro r m7 ⟨hg7, us7, F7, rfl, hv7, hf7, ho7⟩
  have hw7 := hv7
  obtain ⟨z1, z2, z3, z4, z5, z6, E1, E2, E3, E4, E5, E6, rfl, w1, w2, w3, w4, w5, w6, hF7⟩ := Plan.vals hv7
  obtain ⟨u71, p71, rfl, _⟩ := w1.slice
  obtain ⟨u72, p72, rfl, _⟩ := w2.slice
  obtain ⟨u73, p73, rfl, _⟩ := w3.slice
  obtain ⟨u74, p74, rfl, _⟩ := w4.slice
  obtain ⟨u75, p75, rfl, _⟩ := w5.slice
  obtain ⟨u76, p76, rfl, _⟩ := w6.slice
  have g7 := g6.trans hg7
  refine ⟨hg7, ?_⟩
  simp only [vcs, tbl, crs, List.map, reduceIte, Nat.reduceLT, Nat.reduceLeDiff, Nat.reduceEqDiff, Nat.reduceAdd, Nat.reduceMul, Nat.reduceSub, List.all_cons, List.all_nil, Bool.and_true, Bool.and_self, ne_eq, reduceCtorEq, not_false_eq_true, and_self]
  have hw4 := ((hw4.grow hg5).grow hg6).grow hg7
  refine (eq_all.2.1 _ _ _ _ _ _ _ hw4 hw7).mono ?_
  rintro r m8 ⟨hg8, bb8, rfl, hb8⟩
  obtain rfl : bb8 = true := hb8.2 rfl
  have g8 := g7.trans hg8
  refine ⟨hg8, ?_⟩
  simp only [vcs, tbl, crs, List.map, reduceIte, Nat.reduceLT, Nat.reduceLeDiff, Nat.reduceEqDiff, Nat.reduceAdd, Nat.reduceMul, Nat.reduceSub, List.all_cons, List.all_nil, Bool.and_true, Bool.and_self, ne_eq, reduceCtorEq, not_false_eq_true, and_self, Bool.not_true]
  refine ⟨fun h => by simp at h, fun _ => ?_⟩
  have n34 : ∀ x ∈ F3, x ∉ F4 := fun x hx e => hf4.2 x e (hv3.vis x hx)
  have n35 : ∀ x ∈ F3, x ∉ F5 := fun x hx e => hf5.2 x e (hg4.vis (hv3.vis x hx))
  have n54 : ∀ x ∈ F5, x ∉ F4 := fun x hx e => hf5.2 x hx (hv4.vis x e)
  have hg58 := (hg6.trans hg7).trans hg8
  refine (markPlan_c _ _ _ _ _ _ _ _ 1 _ _ _ (hw4.grow hg8) hf4.1 ((((ho4.grow hg5).grow hg6).grow hg7).grow hg8) (by omega) (by omega)).mono ?_
  rintro r m9 ⟨rfl, cg9, hv9, ho9⟩
  have g9 := g8.chg_trans cg9 (fun x hx hv => hf4.2 x hx (g3.vis hv))
  have hw3 := (hw3.grow hg58).chg cg9 n34
  have hw5 := (hw5.grow hg58).chg cg9 n54
  have ho5 : Own m9 F5 := (ho5.grow hg58).chgD cg9 n54
  simp only [vcs, tbl, crs, List.map, reduceIte, Nat.reduceLT, Nat.reduceLeDiff, Nat.reduceEqDiff, Nat.reduceAdd, Nat.reduceMul, Nat.reduceSub, List.all_cons, List.all_nil, Bool.and_true, Bool.and_self, ne_eq, reduceCtorEq, not_false_eq_true, and_self]
  have hlt9 : decide ((1 : Int) + (↑(cnL (fun _ => 1) t) + (↑(cnL (cnL cnE) on) + (↑(cnL cnE wh) + (↑(cnL cnS or) + (↑(cnL cnE it) + ↑(cnL (fun _ => 1) nm)))))) < 0) = false := by simp; omega
  rw [hlt9]
  simp only [vcs, tbl, crs, List.map, reduceIte, Nat.reduceLT, Nat.reduceLeDiff, Nat.reduceEqDiff, Nat.reduceAdd, Nat.reduceMul, Nat.reduceSub, List.all_cons, List.all_nil, Bool.and_true, Bool.and_self, ne_eq, reduceCtorEq, not_false_eq_true, and_self]
  refine (eq_all.2.1 _ _ _ _ _ _ _ hw5 hw3).mono ?_
  rintro r m10 ⟨hg10, bb10, rfl, hb10⟩
  obtain rfl : bb10 = true := hb10.2 rfl
  have g10 := g9.trans hg10
  simp only [vcs, tbl, crs, List.map, reduceIte, Nat.reduceLT, Nat.reduceLeDiff, Nat.reduceEqDiff, Nat.reduceAdd, Nat.reduceMul, Nat.reduceSub, List.all_cons, List.all_nil, Bool.and_true, Bool.and_self, ne_eq, reduceCtorEq, not_false_eq_true, and_self, Bool.not_true]
  refine ⟨fun h => by simp at h, fun _ => ?_⟩
  refine (markPlan_c _ _ _ _ _ _ _ _ 1 _ _ _ (hw5.grow hg10) hf5.1 (ho5.grow hg10) (by omega) (by omega)).mono ?_
  rintro r m11 ⟨rfl, cg11, hv11, ho11⟩
  have g11 := g10.chg_trans cg11 (fun x hx hv => hf5.2 x hx (g4.vis hv))
  have hw3 := (hw3.grow hg10).chg cg11 n35
  simp only [vcs, tbl, crs, List.map, reduceIte, Nat.reduceLT, Nat.reduceLeDiff, Nat.reduceEqDiff, Nat.reduceAdd, Nat.reduceMul, Nat.reduceSub, List.all_cons, List.all_nil, Bool.and_true, Bool.and_self, ne_eq, reduceCtorEq, not_false_eq_true, and_self]
  refine (heldPlan_c _ _ _ _ _ _ _ _ 1 _ _ _ hv11 (by omega) (by omega)).mono ?_
  rintro r m12 ⟨hg12, rfl⟩
  have g12 := g11.trans hg12
  simp only [vcs, tbl, crs, List.map, reduceIte, Nat.reduceLT, Nat.reduceLeDiff, Nat.reduceEqDiff, Nat.reduceAdd, Nat.reduceMul, Nat.reduceSub, List.all_cons, List.all_nil, Bool.and_true, Bool.and_self, ne_eq, reduceCtorEq, not_false_eq_true, and_self]
  refine ⟨fun h => absurd h (by omega), fun _ => ?_⟩
  simp only [vcs, tbl, crs, List.map, reduceIte, Nat.reduceLT, Nat.reduceLeDiff, Nat.reduceEqDiff, Nat.reduceAdd, Nat.reduceMul, Nat.reduceSub, List.all_cons, List.all_nil, Bool.and_true, Bool.and_self, ne_eq, reduceCtorEq, not_false_eq_true, and_self, decide_true, Bool.not_true]
  refine ⟨fun h => by simp at h, fun _ => ?_⟩
  refine (to_all.2.1 _ _ _ _ (h.grow g12) hs).mono ?_
  rintro r m13 ⟨hg13, us13, F13, rfl, hv13, hf13, ho13⟩
  have hw13 := hv13
  obtain ⟨z1, z2, z3, z4, z5, z6, E1, E2, E3, E4, E5, E6, rfl, w1, w2, w3, w4, w5, w6, hF13⟩ := Plan.vals hv13
  obtain ⟨u131, p131, rfl, _⟩ := w1.slice
  obtain ⟨u132, p132, rfl, _⟩ := w2.slice
  obtain ⟨u133, p133, rfl, _⟩ := w3.slice
  obtain ⟨u134, p134, rfl, _⟩ := w4.slice
  obtain ⟨u135, p135, rfl, _⟩ := w5.slice
  obtain ⟨u136, p136, rfl, _⟩ := w6.slice
  have g13 := g12.trans hg13
  simp only [vcs, tbl, crs, List.map, reduceIte, Nat.reduceLT, Nat.reduceLeDiff, Nat.reduceEqDiff, Nat.reduceAdd, Nat.reduceMul, Nat.reduceSub, List.all_cons, List.all_nil, Bool.and_true, Bool.and_self, ne_eq, reduceCtorEq, not_false_eq_true, and_self]
  refine (implPositivePlan_c _ hs _ _ _ hw13).mono ?_
  rintro r m14 ⟨hg14, us14, F14, rfl, hv14, hf14, ho14⟩
  rw [hpe] at hv14
  have hw14 := hv14
  obtain ⟨z1, z2, z3, z4, z5, z6, E1, E2, E3, E4, E5, E6, rfl, w1, w2, w3, w4, w5, w6, hF14⟩ := Plan.vals hv14
  obtain ⟨u141, p141, rfl, _⟩ := w1.slice
  obtain ⟨u142, p142, rfl, _⟩ := w2.slice
  obtain ⟨u143, p143, rfl, _⟩ := w3.slice
  obtain ⟨u144, p144, rfl, _⟩ := w4.slice
  obtain ⟨u145, p145, rfl, _⟩ := w5.slice
  obtain ⟨u146, p146, rfl, _⟩ := w6.slice
  have g14 := g13.trans hg14
  simp only [vcs, tbl, crs, List.map, reduceIte, Nat.reduceLT, Nat.reduceLeDiff, Nat.reduceEqDiff, Nat.reduceAdd, Nat.reduceMul, Nat.reduceSub, List.all_cons, List.all_nil, Bool.and_true, Bool.and_self, ne_eq, reduceCtorEq, not_false_eq_true, and_self]
  have hw3 := ((hw3.grow hg12).grow hg13).grow hg14
  refine (eq_all.2.1 _ _ _ _ _ _ _ hw14 hw3).mono ?_
  rintro r m15 ⟨hg15, bb15, rfl, hb15⟩
  obtain rfl : bb15 = true := hb15.2 rfl
  have g15 := g14.trans hg15
  simp only [vcs, tbl, crs, List.map, reduceIte, Nat.reduceLT, Nat.reduceLeDiff, Nat.reduceEqDiff, Nat.reduceAdd, Nat.reduceMul, Nat.reduceSub, List.all_cons, List.all_nil, Bool.and_true, Bool.and_self, ne_eq, reduceCtorEq, not_false_eq_true, and_self, Bool.not_true]
  refine ⟨fun h => by simp at h, fun _ => ?_⟩
  refine (heldPlan_c _ _ _ _ _ _ _ _ 1 _ _ _ ((((hv11.grow hg12).grow hg13).grow hg14).grow hg15) (by omega) (by omega)).mono ?_
  rintro r m16 ⟨hg16, rfl⟩
  have g16 := g15.trans hg16
  simp only [vcs, tbl, crs, List.map, reduceIte, Nat.reduceLT, Nat.reduceLeDiff, Nat.reduceEqDiff, Nat.reduceAdd, Nat.reduceMul, Nat.reduceSub, List.all_cons, List.all_nil, Bool.and_true, Bool.and_self, ne_eq, reduceCtorEq, not_false_eq_true, and_self]
  refine ⟨fun h => absurd h (by omega), fun _ => ?_⟩
  simp only [vcs, tbl, crs, List.map, reduceIte, Nat.reduceLT, Nat.reduceLeDiff, Nat.reduceEqDiff, Nat.reduceAdd, Nat.reduceMul, Nat.reduceSub, List.all_cons, List.all_nil, Bool.and_true, Bool.and_self, ne_eq, reduceCtorEq, not_false_eq_true, and_self, decide_true, Bool.not_true]
  exact ⟨fun h => by simp at h, fun _ => g16⟩

end Go.Proofs.Ytklligemdfnimaa
set_option linter.unusedVariables false
set_option linter.unusedSimpArgs false
namespace Go.Proofs.Ytklligemdfnimaa
open Go Go.Vc
section
variable {H : Type} {enc : TypeId × Value → H} {W : World} {base : Nat} {sp : Nat → Bool} {held : Bool}
theorem cells3 : Try.prog.cellsOf 3 = 1 := by kernel_rfl
theorem cells4 : Try.prog.cellsOf 4 = 1 := by kernel_rfl
theorem cells9 : Try.prog.cellsOf 9 = 1 := by kernel_rfl
theorem cells46 : Try.prog.cellsOf 46 = 3 := by kernel_rfl
theorem cells50 : Try.prog.cellsOf 50 = 10 := by kernel_rfl
theorem cells69 : Try.prog.cellsOf 69 = 8 := by kernel_rfl
theorem cells163 : Try.prog.cellsOf 163 = 11 := by kernel_rfl
theorem cells47 : Try.prog.cellsOf 47 = 1 := by kernel_rfl
theorem cells48 : Try.prog.cellsOf 48 = 1 := by kernel_rfl
theorem cells64 : Try.prog.cellsOf 64 = 1 := by kernel_rfl
theorem cells65 : Try.prog.cellsOf 65 = 1 := by kernel_rfl
theorem cells66 : Try.prog.cellsOf 66 = 1 := by kernel_rfl
theorem cells67 : Try.prog.cellsOf 67 = 1 := by kernel_rfl
theorem single_eq {a b : Value} (h : [a] = [b]) : a = b := by injection h
theorem read_val {n : Nat} {cs : List Value} {x : DataW H × List MemPlace} (h : DataW.trod enc Try.prog W base sp held n 46 cs = some x) : ∃ (y : Val), cs = [.int .i64 y.kind, .int .i64 y.num, .string y.text] ∧ y.text.size ≤ maxLen := by
  obtain ⟨xs, k, hk, _, hl, hlen, hf⟩ := DataW.trod_struct Try.underlying46 h
  rw [cells46] at hl
  obtain ⟨c0, r0, rfl, hl1⟩ := list_cons hl
  obtain ⟨c1, r1, rfl, hl2⟩ := list_cons hl1
  obtain ⟨c2, rfl⟩ := list_one hl2
  obtain ⟨x0, s0, rfl, hlen1⟩ := list_cons hlen
  obtain ⟨x1, s1, rfl, hlen2⟩ := list_cons hlen1
  obtain ⟨x2, rfl⟩ := list_one hlen2
  have h0 : DataW.trod enc Try.prog W base sp held k 3 (([c0, c1, c2].drop 0).take (Try.prog.cellsOf 3)) = some x0 := hf 0 _ rfl
  rw [cells3] at h0
  have h0 : DataW.trod enc Try.prog W base sp held k 3 [c0] = some x0 := h0
  have h1 : DataW.trod enc Try.prog W base sp held k 3 (([c0, c1, c2].drop 1).take (Try.prog.cellsOf 3)) = some x1 := hf 1 _ rfl
  rw [cells3] at h1
  have h1 : DataW.trod enc Try.prog W base sp held k 3 [c1] = some x1 := h1
  have h2 : DataW.trod enc Try.prog W base sp held k 9 (([c0, c1, c2].drop 2).take (Try.prog.cellsOf 9)) = some x2 := hf 2 _ rfl
  rw [cells9] at h2
  have h2 : DataW.trod enc Try.prog W base sp held k 9 [c2] = some x2 := h2
  obtain ⟨n0, e0, _⟩ := DataW.trod_int Try.underlying3 h0
  obtain ⟨n1, e1, _⟩ := DataW.trod_int Try.underlying3 h1
  obtain ⟨n2, e2, _, hb⟩ := DataW.trod_string Try.underlying9 h2
  obtain rfl := single_eq e0
  obtain rfl := single_eq e1
  obtain rfl := single_eq e2
  exact ⟨⟨n0, n1, n2⟩, rfl, hb⟩
theorem read_int {n : Nat} {cs : List Value} {x : DataW H × List MemPlace} (h : DataW.trod enc Try.prog W base sp held n 3 cs = some x) : ∃ (y : Int) (F : List Nat), ValsF W (irow y) cs F := by
  obtain ⟨n0, rfl, _⟩ := DataW.trod_int Try.underlying3 h
  exact ⟨n0, [], valsF_mk (ValsF.nil_nil _) trivial⟩
theorem read_str {n : Nat} {cs : List Value} {x : DataW H × List MemPlace} (h : DataW.trod enc Try.prog W base sp held n 9 cs = some x) : ∃ (y : ByteArray) (F : List Nat), ValsF W (srow y) cs F := by
  obtain ⟨n0, rfl, _, hb⟩ := DataW.trod_string Try.underlying9 h
  exact ⟨n0, [], valsF_mk (ValsF.nil_nil _) hb⟩
theorem read_trees (n : Nat) : (∀ cs x, DataW.trod enc Try.prog W base sp held n 50 cs = some x → ∃ (e : PExpr) (F : List Nat), ValsF W e.row cs F) ∧
    (∀ cs x, DataW.trod enc Try.prog W base sp held n 69 cs = some x → ∃ (e : Plan) (F : List Nat), ValsF W e.row cs F) ∧
    (∀ cs x, DataW.trod enc Try.prog W base sp held n 163 cs = some x → ∃ (e : PSort) (F : List Nat), ValsF W e.row cs F) := by
  induction n using Nat.strongRecOn with
  | _ n ih =>
  have es : ∀ k, k < n → ∀ cs x, DataW.trod enc Try.prog W base sp held k 47 cs = some x → ∃ (ys : List PExpr) (v : Value) (F : List Nat), cs = [v] ∧ CellF W (.sl ys.length (ys.flatMap PExpr.row)) v F := fun k hk cs x h =>
    read_slice Try.underlying47 cells50 (by decide) PExpr.row_len (fun n' cs' x' hn h' => (ih n' (by omega)).1 cs' x' h') h
  refine ⟨fun cs x h => ?_, fun cs x h => ?_, fun cs x h => ?_⟩
  · skip
    obtain ⟨xs, k, hk, _, hl, hlen, hf⟩ := DataW.trod_struct Try.underlying50 h
    rw [cells50] at hl
    obtain ⟨c0, r0, rfl, hl1⟩ := list_cons hl
    obtain ⟨c1, r1, rfl, hl2⟩ := list_cons hl1
    obtain ⟨c2, r2, rfl, hl3⟩ := list_cons hl2
    obtain ⟨c3, r3, rfl, hl4⟩ := list_cons hl3
    obtain ⟨c4, r4, rfl, hl5⟩ := list_cons hl4
    obtain ⟨c5, r5, rfl, hl6⟩ := list_cons hl5
    obtain ⟨c6, r6, rfl, hl7⟩ := list_cons hl6
    obtain ⟨c7, r7, rfl, hl8⟩ := list_cons hl7
    obtain ⟨c8, r8, rfl, hl9⟩ := list_cons hl8
    obtain ⟨c9, rfl⟩ := list_one hl9
    obtain ⟨x0, s0, rfl, hlen1⟩ := list_cons hlen
    obtain ⟨x1, s1, rfl, hlen2⟩ := list_cons hlen1
    obtain ⟨x2, s2, rfl, hlen3⟩ := list_cons hlen2
    obtain ⟨x3, s3, rfl, hlen4⟩ := list_cons hlen3
    obtain ⟨x4, s4, rfl, hlen5⟩ := list_cons hlen4
    obtain ⟨x5, s5, rfl, hlen6⟩ := list_cons hlen5
    obtain ⟨x6, s6, rfl, hlen7⟩ := list_cons hlen6
    obtain ⟨x7, rfl⟩ := list_one hlen7
    have h0 : DataW.trod enc Try.prog W base sp held k 3 (([c0, c1, c2, c3, c4, c5, c6, c7, c8, c9].drop 0).take (Try.prog.cellsOf 3)) = some x0 := hf 0 _ rfl
    rw [cells3] at h0
    have h0 : DataW.trod enc Try.prog W base sp held k 3 [c0] = some x0 := h0
    have h1 : DataW.trod enc Try.prog W base sp held k 3 (([c0, c1, c2, c3, c4, c5, c6, c7, c8, c9].drop 1).take (Try.prog.cellsOf 3)) = some x1 := hf 1 _ rfl
    rw [cells3] at h1
    have h1 : DataW.trod enc Try.prog W base sp held k 3 [c1] = some x1 := h1
    have h2 : DataW.trod enc Try.prog W base sp held k 4 (([c0, c1, c2, c3, c4, c5, c6, c7, c8, c9].drop 2).take (Try.prog.cellsOf 4)) = some x2 := hf 2 _ rfl
    rw [cells4] at h2
    have h2 : DataW.trod enc Try.prog W base sp held k 4 [c2] = some x2 := h2
    have h3 : DataW.trod enc Try.prog W base sp held k 46 (([c0, c1, c2, c3, c4, c5, c6, c7, c8, c9].drop 3).take (Try.prog.cellsOf 46)) = some x3 := hf 3 _ rfl
    rw [cells46] at h3
    have h3 : DataW.trod enc Try.prog W base sp held k 46 [c3, c4, c5] = some x3 := h3
    have h4 : DataW.trod enc Try.prog W base sp held k 3 (([c0, c1, c2, c3, c4, c5, c6, c7, c8, c9].drop 6).take (Try.prog.cellsOf 3)) = some x4 := hf 4 _ rfl
    rw [cells3] at h4
    have h4 : DataW.trod enc Try.prog W base sp held k 3 [c6] = some x4 := h4
    have h5 : DataW.trod enc Try.prog W base sp held k 3 (([c0, c1, c2, c3, c4, c5, c6, c7, c8, c9].drop 7).take (Try.prog.cellsOf 3)) = some x5 := hf 5 _ rfl
    rw [cells3] at h5
    have h5 : DataW.trod enc Try.prog W base sp held k 3 [c7] = some x5 := h5
    have h6 : DataW.trod enc Try.prog W base sp held k 47 (([c0, c1, c2, c3, c4, c5, c6, c7, c8, c9].drop 8).take (Try.prog.cellsOf 47)) = some x6 := hf 6 _ rfl
    rw [cells47] at h6
    have h6 : DataW.trod enc Try.prog W base sp held k 47 [c8] = some x6 := h6
    have h7 : DataW.trod enc Try.prog W base sp held k 48 (([c0, c1, c2, c3, c4, c5, c6, c7, c8, c9].drop 9).take (Try.prog.cellsOf 48)) = some x7 := hf 7 _ rfl
    rw [cells48] at h7
    have h7 : DataW.trod enc Try.prog W base sp held k 48 [c9] = some x7 := h7
    obtain ⟨n0, e0, _⟩ := DataW.trod_int Try.underlying3 h0
    obtain ⟨n1, e1, _⟩ := DataW.trod_int Try.underlying3 h1
    obtain ⟨n2, e2, _⟩ := DataW.trod_bool Try.underlying4 h2
    obtain ⟨y, e3, hb⟩ := read_val h3
    obtain ⟨n4, e4, _⟩ := DataW.trod_int Try.underlying3 h4
    obtain ⟨n5, e5, _⟩ := DataW.trod_int Try.underlying3 h5
    obtain ⟨ks, v6, F6, e6, hc6⟩ := es _ (by omega) _ _ h6
    obtain ⟨ss, v7, F7, e7, hc7⟩ := read_slice Try.underlying48 cells69 (by decide) Plan.row_len (fun n' cs' x' hn h' => (ih n' (by omega)).2.1 cs' x' h') h7
    simp only [List.cons.injEq, and_true] at e0 e1 e2 e3 e4 e5 e6 e7
    obtain ⟨e3, e3', e3''⟩ := e3
    subst e0 e1 e2 e3 e3' e3'' e4 e5 e6 e7
    exact ⟨.mk n0 n1 n2 y n4 n5 ks ss, F6 ++ F7, PExpr.mk_vals hb hc6 hc7⟩

  · skip
    obtain ⟨xs, k, hk, _, hl, hlen, hf⟩ := DataW.trod_struct Try.underlying69 h
    rw [cells69] at hl
    obtain ⟨c0, r0, rfl, hl1⟩ := list_cons hl
    obtain ⟨c1, r1, rfl, hl2⟩ := list_cons hl1
    obtain ⟨c2, r2, rfl, hl3⟩ := list_cons hl2
    obtain ⟨c3, r3, rfl, hl4⟩ := list_cons hl3
    obtain ⟨c4, r4, rfl, hl5⟩ := list_cons hl4
    obtain ⟨c5, r5, rfl, hl6⟩ := list_cons hl5
    obtain ⟨c6, r6, rfl, hl7⟩ := list_cons hl6
    obtain ⟨c7, rfl⟩ := list_one hl7
    obtain ⟨x0, s0, rfl, hlen1⟩ := list_cons hlen
    obtain ⟨x1, s1, rfl, hlen2⟩ := list_cons hlen1
    obtain ⟨x2, s2, rfl, hlen3⟩ := list_cons hlen2
    obtain ⟨x3, s3, rfl, hlen4⟩ := list_cons hlen3
    obtain ⟨x4, s4, rfl, hlen5⟩ := list_cons hlen4
    obtain ⟨x5, s5, rfl, hlen6⟩ := list_cons hlen5
    obtain ⟨x6, s6, rfl, hlen7⟩ := list_cons hlen6
    obtain ⟨x7, rfl⟩ := list_one hlen7
    have h0 : DataW.trod enc Try.prog W base sp held k 64 (([c0, c1, c2, c3, c4, c5, c6, c7].drop 0).take (Try.prog.cellsOf 64)) = some x0 := hf 0 _ rfl
    rw [cells64] at h0
    have h0 : DataW.trod enc Try.prog W base sp held k 64 [c0] = some x0 := h0
    have h1 : DataW.trod enc Try.prog W base sp held k 65 (([c0, c1, c2, c3, c4, c5, c6, c7].drop 1).take (Try.prog.cellsOf 65)) = some x1 := hf 1 _ rfl
    rw [cells65] at h1
    have h1 : DataW.trod enc Try.prog W base sp held k 65 [c1] = some x1 := h1
    have h2 : DataW.trod enc Try.prog W base sp held k 47 (([c0, c1, c2, c3, c4, c5, c6, c7].drop 2).take (Try.prog.cellsOf 47)) = some x2 := hf 2 _ rfl
    rw [cells47] at h2
    have h2 : DataW.trod enc Try.prog W base sp held k 47 [c2] = some x2 := h2
    have h3 : DataW.trod enc Try.prog W base sp held k 66 (([c0, c1, c2, c3, c4, c5, c6, c7].drop 3).take (Try.prog.cellsOf 66)) = some x3 := hf 3 _ rfl
    rw [cells66] at h3
    have h3 : DataW.trod enc Try.prog W base sp held k 66 [c3] = some x3 := h3
    have h4 : DataW.trod enc Try.prog W base sp held k 47 (([c0, c1, c2, c3, c4, c5, c6, c7].drop 4).take (Try.prog.cellsOf 47)) = some x4 := hf 4 _ rfl
    rw [cells47] at h4
    have h4 : DataW.trod enc Try.prog W base sp held k 47 [c4] = some x4 := h4
    have h5 : DataW.trod enc Try.prog W base sp held k 67 (([c0, c1, c2, c3, c4, c5, c6, c7].drop 5).take (Try.prog.cellsOf 67)) = some x5 := hf 5 _ rfl
    rw [cells67] at h5
    have h5 : DataW.trod enc Try.prog W base sp held k 67 [c5] = some x5 := h5
    have h6 : DataW.trod enc Try.prog W base sp held k 4 (([c0, c1, c2, c3, c4, c5, c6, c7].drop 6).take (Try.prog.cellsOf 4)) = some x6 := hf 6 _ rfl
    rw [cells4] at h6
    have h6 : DataW.trod enc Try.prog W base sp held k 4 [c6] = some x6 := h6
    have h7 : DataW.trod enc Try.prog W base sp held k 3 (([c0, c1, c2, c3, c4, c5, c6, c7].drop 7).take (Try.prog.cellsOf 3)) = some x7 := hf 7 _ rfl
    rw [cells3] at h7
    have h7 : DataW.trod enc Try.prog W base sp held k 3 [c7] = some x7 := h7
    obtain ⟨y0, v0, F0, e0, d0⟩ := read_slice Try.underlying64 cells3 (by decide) irow_len (fun n' cs' x' hn h' => read_int h') h0
    obtain ⟨y1, v1, F1, e1, d1⟩ := read_slice (row := erow) Try.underlying65 cells47 (by decide) erow_len (fun n' cs' x' hn h' => by obtain ⟨ys, v, F, rfl, hc⟩ := es n' (by omega) _ _ h'; exact ⟨ys, F, ValsF.single hc⟩) h1
    obtain ⟨y2, v2, F2, e2, d2⟩ := es _ (by omega) _ _ h2
    obtain ⟨y3, v3, F3, e3, d3⟩ := read_slice Try.underlying66 cells163 (by decide) PSort.row_len (fun n' cs' x' hn h' => (ih n' (by omega)).2.2 cs' x' h') h3
    obtain ⟨y4, v4, F4, e4, d4⟩ := es _ (by omega) _ _ h4
    obtain ⟨y5, v5, F5, e5, d5⟩ := read_slice Try.underlying67 cells9 (by decide) srow_len (fun n' cs' x' hn h' => read_str h') h5
    obtain ⟨n6, e6, _⟩ := DataW.trod_bool Try.underlying4 h6
    obtain ⟨n7, e7, _⟩ := DataW.trod_int Try.underlying3 h7
    simp only [List.cons.injEq, and_true] at e0 e1 e2 e3 e4 e5 e6 e7
    subst e0 e1 e2 e3 e4 e5 e6 e7
    exact ⟨.mk y0 y1 y2 y3 y4 y5 n6 n7, _, Plan.mk_vals d0 d1 d2 d3 d4 d5⟩

  · skip
    obtain ⟨xs, k, hk, _, hl, hlen, hf⟩ := DataW.trod_struct Try.underlying163 h
    rw [cells163] at hl
    obtain ⟨c0, r0, rfl, hl1⟩ := list_cons hl
    obtain ⟨c1, r1, rfl, hl2⟩ := list_cons hl1
    obtain ⟨c2, r2, rfl, hl3⟩ := list_cons hl2
    obtain ⟨c3, r3, rfl, hl4⟩ := list_cons hl3
    obtain ⟨c4, r4, rfl, hl5⟩ := list_cons hl4
    obtain ⟨c5, r5, rfl, hl6⟩ := list_cons hl5
    obtain ⟨c6, r6, rfl, hl7⟩ := list_cons hl6
    obtain ⟨c7, r7, rfl, hl8⟩ := list_cons hl7
    obtain ⟨c8, r8, rfl, hl9⟩ := list_cons hl8
    obtain ⟨c9, r9, rfl, hl10⟩ := list_cons hl9
    obtain ⟨c10, rfl⟩ := list_one hl10
    obtain ⟨x0, s0, rfl, hlen1⟩ := list_cons hlen
    obtain ⟨x1, rfl⟩ := list_one hlen1
    have h0 : DataW.trod enc Try.prog W base sp held k 50 (([c0, c1, c2, c3, c4, c5, c6, c7, c8, c9, c10].drop 0).take (Try.prog.cellsOf 50)) = some x0 := hf 0 _ rfl
    rw [cells50] at h0
    have h0 : DataW.trod enc Try.prog W base sp held k 50 [c0, c1, c2, c3, c4, c5, c6, c7, c8, c9] = some x0 := h0
    have h1 : DataW.trod enc Try.prog W base sp held k 4 (([c0, c1, c2, c3, c4, c5, c6, c7, c8, c9, c10].drop 10).take (Try.prog.cellsOf 4)) = some x1 := hf 1 _ rfl
    rw [cells4] at h1
    have h1 : DataW.trod enc Try.prog W base sp held k 4 [c10] = some x1 := h1
    obtain ⟨e, F, hv⟩ := (ih k (by omega)).1 _ _ h0
    obtain ⟨n1, e1, _⟩ := DataW.trod_bool Try.underlying4 h1
    simp only [List.cons.injEq, and_true] at e1
    subst e1
    exact ⟨.mk e n1, F, PSort.mk_vals hv⟩

end
end Go.Proofs.Ytklligemdfnimaa

set_option linter.unusedVariables false
set_option linter.unusedSimpArgs false
namespace Go.Proofs.Ytklligemdfnimaa.fnExactPositivePlan
open Go Go.Vc Go.ChangeShapes Go.WideShapes Go.ChangeAt Go.RowKit
theorem own : ownKnob Try.prog.godebug = none := by kernel_rfl
theorem laid : laidOutB Try.prog = true := by kernel_rfl
set_option maxRecDepth 100000 in
theorem lifted (os : Os) (started : os.Started) (H : Type) (enc : TypeId × Value → H) :
    ReturnsInHanded {} Try.checked os 9 .any (Rows.fnExactPositivePlanSpec.pre6 enc Try.prog Try.f9 Rows.fnExactPositivePlanRow.domain false) (Rows.fnExactPositivePlanSpec.post enc Try.prog Try.f9 false true false false) := by
  refine returnsInHanded_of_change (C := Try.checked) own started (by kernel_rfl) Try.func9
    (ChangeSpec.witness6 (enc := enc) (C := Try.checked) false ⟨#[], #[.agg #[.slice none 0 0, .slice none 0 0, .slice none 0 0, .slice none 0 0, .slice none 0 0, .slice none 0 0, .bool false, .int .i64 0]], []⟩ 8 (by kernel_rfl) (by kernel_rfl) (by kernel_rfl) (by kernel_rfl)) ?_
  intro W base args ds gs before hval0 hW hcnd _
  have hval : ∀ (j : Nat) t v, Try.f9.params[j]? = some t → args[j]? = some v → Value.okWide Try.prog W .any base t v := hval0
  have hW' := hW
  obtain ⟨p, q, hA0, hV, rfl, hfz, hnd⟩ := hW
  have hA : DataW.TrodAll enc Try.prog W 0 (fun _ => true) true Try.f9.params.toList args.toList ds p := hA0
  rw [Try.params9] at hA hval
  obtain ⟨v0, vs0, d0, ds0, p0, q0, hargs0, rfl, rfl, h0, r0⟩ := trodAll_cons hA
  obtain ⟨rfl, rfl, rfl⟩ := trodAll_nil r0
  obtain rfl : args = #[v0] := by cases args; simp_all
  obtain ⟨rfl, rfl⟩ := trodVars_none hV
  obtain ⟨cs0, rfl, _⟩ := okWide_struct Try.underlying69 (hval 0 69 v0 rfl rfl)
  obtain ⟨n0, t0⟩ := h0
  obtain ⟨x0, F0, hx0⟩ := (read_trees _).2.1 _ _ t0
  clear hA0 hval0
  simp only [List.append_nil] at hW'
  have hlt : ∀ p ∈ p0, p.block < W.heap.size := fun p hp => hW'.lt p hp
  have hcall := (exactPositivePlan x0 W _ F0 hx0).top fun v m' h => h.1
  refine hcall.mono fun e W' ⟨v, m', he, hb, hf, _, _, hv⟩ => ?_
  subst he hv
  exact ⟨_, rfl, post_of_same (pa := p0 ++ []) (pv := []) hW' (fun _ _ _ => (trodAll_cons_mk (shut_bool Try.underlying4 _) trodAll_mk0))
    (fun sp hsp => (trodAll_cons_mk (WideElems.Trod_stays (t := 69) laid (by kernel_rfl) (of_decide_eq_true (by kernel_rfl)) ⟨n0, t0⟩ (fun p hp => hb.same (hlt p (by simp [hp]))) (fun p hp => hsp p (by simp [hp])))
        trodAll_mk0))
    (fun _ _ => rfl) (by simp)
    (hb.frame _) hf (ok_one (by kernel_rfl) rfl (okWide_bool_mk Try.underlying4 _))⟩

theorem over : Rows.fnExactPositivePlanRow.holds Try.pinned (OpenSpec.ofChange Rows.fnExactPositivePlanSpec) :=
  OpenClaim.holds_of_wide 9 Try.f9 rfl rfl rfl rfl rfl rfl rfl ⟨rfl, rfl, rfl, rfl, rfl⟩ rfl rfl rfl rfl rfl (by kernel_rfl) Try.func9 (by kernel_rfl)
    (of_decide_eq_true (by kernel_rfl)) (by unfold Func.isWrapper; first | (rw [if_pos (by decide +kernel)]; kernel_rfl) | (rw [if_neg (by decide +kernel)]; exact ⟨rfl, rfl⟩))
    (fun os started H enc _ => lifted os started H enc)

/--  THE STATEMENT  -/
theorem proved : Rows.FnExactPositivePlanSaid :=
  over
#print axioms proved
end Go.Proofs.Ytklligemdfnimaa.fnExactPositivePlan
