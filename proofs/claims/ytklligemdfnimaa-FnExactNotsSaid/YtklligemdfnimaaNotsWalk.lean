/-
  What both Nots return, and what a reading of a tree says.
  Conditions: none.
-/
import Derived.Test.YtklligemdfnimaaTreeData
import Derived.Test.YtklligemdfnimaaRows
import Derived.ProofKit
import Derived.OpenShut
set_option linter.unusedVariables false
set_option linter.unusedSimpArgs false
set_option linter.unusedVariables false
set_option linter.unusedSimpArgs false
set_option maxRecDepth 4000
namespace Go.Proofs.Ytklligemdfnimaa
open Go Go.Vc
mutual
def nots : PExpr → Int
  | .mk k o n v u a ks ss => notsL ks (if k = 3 ∧ o = 15 then 1 else 0)
def notsL : List PExpr → Int → Int
  | [], c => c
  | e :: es, c => notsL es (IntKind.i64.wrap (c + nots e))
end
def NoC (fn : FuncId) (e : PExpr) : Prop := ∀ (m : World) (vs : List Value) (F : List Nat), ValsF m e.row vs F → FCalls Try.prog fn #[.agg vs.toArray] m fun r m' => Grow m m' ∧ r = .int .i64 (nots e)
theorem isNot_c (k o n v u a ks ss) (m : World) (vs : List Value) (F : List Nat) (h : ValsF m (PExpr.mk k o n v u a ks ss).row vs F) : FCalls Try.prog 72 #[.agg vs.toArray] m fun r m' => Grow m m' ∧ r = .bool (decide (k = 3 ∧ o = 15)) := by
  obtain ⟨x, y, F1, F2, rfl, hv, c1, c2, rfl⟩ := PExpr.vals h
  refine fcalls_of_vc (args := [_]) follows_mixed Try.func72 rfl (by kernel_rfl) (by simp [Try.f72]) ?_
  simp only [Try.f72, vcs, tbl, List.map, reduceIte, Nat.reduceLT, Nat.reduceLeDiff, Nat.reduceEqDiff, Nat.reduceAdd, Nat.reduceMul, Nat.reduceSub, true_and, and_true, decide_eq_true_eq, decide_eq_false_iff_not, List.cons_append, List.nil_append, Bool.false_eq_true, Array.empty_append, Array.append_empty, List.length_cons, List.length_nil, List.getElem?_cons_succ, List.getElem?_cons_zero, Option.some.injEq, Int.toNat_natCast, valsOf_map, List.toList_toArray, List.flatMap_cons, List.flatMap_nil, List.append_nil, List.take_succ_cons, List.take_zero, List.drop_zero, List.drop_succ_cons, Option.bind_some]
  refine ⟨fun h1 => ?_, fun h1 => ?_⟩
  · simp only [vcs, tbl, List.map, reduceIte, Nat.reduceLT, Nat.reduceLeDiff, Nat.reduceEqDiff, Nat.reduceAdd, Nat.reduceMul, Nat.reduceSub, true_and, and_true, decide_eq_true_eq, decide_eq_false_iff_not, List.cons_append, List.nil_append, Bool.false_eq_true, Array.empty_append, Array.append_empty, List.length_cons, List.length_nil, List.getElem?_cons_succ, List.getElem?_cons_zero, Option.some.injEq, Int.toNat_natCast, valsOf_map, List.toList_toArray, List.flatMap_cons, List.flatMap_nil, List.append_nil, List.take_succ_cons, List.take_zero, List.drop_zero, List.drop_succ_cons, Option.bind_some]
    exact ⟨Grow.refl _, by simp_all⟩
  · simp only [vcs, tbl, List.map, reduceIte, Nat.reduceLT, Nat.reduceLeDiff, Nat.reduceEqDiff, Nat.reduceAdd, Nat.reduceMul, Nat.reduceSub, true_and, and_true, decide_eq_true_eq, decide_eq_false_iff_not, List.cons_append, List.nil_append, Bool.false_eq_true, Array.empty_append, Array.append_empty, List.length_cons, List.length_nil, List.getElem?_cons_succ, List.getElem?_cons_zero, Option.some.injEq, Int.toNat_natCast, valsOf_map, List.toList_toArray, List.flatMap_cons, List.flatMap_nil, List.append_nil, List.take_succ_cons, List.take_zero, List.drop_zero, List.drop_succ_cons, Option.bind_some]
    exact ⟨Grow.refl _, by simp_all⟩
theorem specNots_step (k o n v u a ks ss) (hk : ∀ e ∈ ks, NoC 22 e) : NoC 22 (.mk k o n v u a ks ss) := by
  intro m vs F h
  obtain ⟨x, y, F1, F2, rfl, hv, c1, c2, rfl⟩ := PExpr.vals h
  obtain ⟨ax, px, rfl, hcap, hmax, _⟩ := c1.slice
  obtain ⟨ay, py, rfl, _⟩ := c2.slice
  have hmax1 : px ≤ 9223372036854775807 := hmax
  rw [nots]
  refine fcalls_of_vc (args := [_]) follows_mixed Try.func22 rfl (by kernel_rfl) (by simp [Try.f22]) ?_
  simp only [Try.f22, vcs, tbl, List.map, reduceIte, Nat.reduceLT, Nat.reduceLeDiff, Nat.reduceEqDiff, Nat.reduceAdd, Nat.reduceMul, Nat.reduceSub, true_and, and_true, decide_eq_true_eq, decide_eq_false_iff_not, List.cons_append, List.nil_append, Bool.false_eq_true, Array.empty_append, Array.append_empty, List.length_cons, List.length_nil, List.getElem?_cons_succ, List.getElem?_cons_zero, Option.some.injEq, Int.toNat_natCast, valsOf_map, List.toList_toArray, List.flatMap_cons, List.flatMap_nil, List.append_nil, List.take_succ_cons, List.take_zero, List.drop_zero, List.drop_succ_cons, Option.bind_some]
  refine ⟨fun h1 => ?_, fun h1 => ?_⟩
  · simp only [vcs, tbl, List.map, reduceIte, Nat.reduceLT, Nat.reduceLeDiff, Nat.reduceEqDiff, Nat.reduceAdd, Nat.reduceMul, Nat.reduceSub, true_and, and_true, decide_eq_true_eq, decide_eq_false_iff_not, List.cons_append, List.nil_append, Bool.false_eq_true, Array.empty_append, Array.append_empty, List.length_cons, List.length_nil, List.getElem?_cons_succ, List.getElem?_cons_zero, Option.some.injEq, Int.toNat_natCast, valsOf_map, List.toList_toArray, List.flatMap_cons, List.flatMap_nil, List.append_nil, List.take_succ_cons, List.take_zero, List.drop_zero, List.drop_succ_cons, Option.bind_some]
    refine ⟨fun h2 => ?_, fun h2 => ?_⟩
    · refine vcLoop.intro (fun f L m1 => ∃ (j : Nat) (c : Int), f 4 = .c (.v (.int .i64 j)) ∧ f 3 = .c (.v (.int .i64 c)) ∧ L = [(1, .str 56 [.v (.int .i64 k), .v (.int .i64 o), .v (.bool n), .v (.int .i64 v.kind), .v (.int .i64 v.num), .v (.string v.text), .v (.int .i64 u), .v (.int .i64 a), .v (.slice ax ks.length px), .v (.slice ay ss.length py)])] ∧ j ≤ ks.length ∧ Grow m m1 ∧ notsL (ks.drop j) c = notsL ks (if k = 3 ∧ o = 15 then 1 else 0))
        (fun f _ _ => (ks.length - ixS (f 4)).toNat) ⟨_, Sub.one _ _, 0, 1, ?_⟩ ?_
      · simp only [vcs, tbl, List.map, reduceIte, Nat.reduceLT, Nat.reduceLeDiff, Nat.reduceEqDiff, Nat.reduceAdd, Nat.reduceMul, Nat.reduceSub, true_and, and_true, decide_eq_true_eq, decide_eq_false_iff_not, List.cons_append, List.nil_append, Bool.false_eq_true, Array.empty_append, Array.append_empty, List.length_cons, List.length_nil, List.getElem?_cons_succ, List.getElem?_cons_zero, Option.some.injEq, Int.toNat_natCast, valsOf_map, List.toList_toArray, List.flatMap_cons, List.flatMap_nil, List.append_nil, List.take_succ_cons, List.take_zero, List.drop_zero, List.drop_succ_cons, Option.bind_some]
        exact ⟨rfl, by omega, Grow.refl _, by simp_all⟩
      · rintro g L1 m1 ⟨j, c, h4, h3, rfl, hj, hg, hrem⟩
        simp only [vcs, tbl, List.map, reduceIte, Nat.reduceLT, Nat.reduceLeDiff, Nat.reduceEqDiff, Nat.reduceAdd, Nat.reduceMul, Nat.reduceSub, true_and, and_true, decide_eq_true_eq, decide_eq_false_iff_not, List.cons_append, List.nil_append, Bool.false_eq_true, Array.empty_append, Array.append_empty, List.length_cons, List.length_nil, List.getElem?_cons_succ, List.getElem?_cons_zero, Option.some.injEq, Int.toNat_natCast, valsOf_map, List.toList_toArray, List.flatMap_cons, List.flatMap_nil, List.append_nil, List.take_succ_cons, List.take_zero, List.drop_zero, List.drop_succ_cons, Option.bind_some] at h4 h3
        simp only [vcs, tbl, List.map, reduceIte, Nat.reduceLT, Nat.reduceLeDiff, Nat.reduceEqDiff, Nat.reduceAdd, Nat.reduceMul, Nat.reduceSub, true_and, and_true, decide_eq_true_eq, decide_eq_false_iff_not, List.cons_append, List.nil_append, Bool.false_eq_true, Array.empty_append, Array.append_empty, List.length_cons, List.length_nil, List.getElem?_cons_succ, List.getElem?_cons_zero, Option.some.injEq, Int.toNat_natCast, valsOf_map, List.toList_toArray, List.flatMap_cons, List.flatMap_nil, List.append_nil, List.take_succ_cons, List.take_zero, List.drop_zero, List.drop_succ_cons, Option.bind_some, h4, h3]
        refine ⟨fun hlt => ?_, fun hge => ?_⟩
        · have hlt : j < ks.length := by omega
          obtain ⟨ad, vs, Fk, ha, hlen, hcell, hv, _⟩ := c1.elem PExpr.row_len (by decide) (List.getElem?_eq_getElem hlt)
          refine ⟨by omega, by omega, ad, ha, vs, hlen, fun j v hj => hg.cell (by simpa using hcell j v hj), ?_⟩
          simp only [vcs, tbl, List.map, reduceIte, Nat.reduceLT, Nat.reduceLeDiff, Nat.reduceEqDiff, Nat.reduceAdd, Nat.reduceMul, Nat.reduceSub, true_and, and_true, decide_eq_true_eq, decide_eq_false_iff_not, List.cons_append, List.nil_append, Bool.false_eq_true, Array.empty_append, Array.append_empty, List.length_cons, List.length_nil, List.getElem?_cons_succ, List.getElem?_cons_zero, Option.some.injEq, Int.toNat_natCast, valsOf_map, List.toList_toArray, List.flatMap_cons, List.flatMap_nil, List.append_nil, List.take_succ_cons, List.take_zero, List.drop_zero, List.drop_succ_cons, Option.bind_some, h4, h3]
          refine (hk _ (List.getElem_mem hlt) _ _ _ (hv.grow hg)).mono ?_
          rintro r m2 ⟨hg2, rfl⟩
          simp only [vcs, tbl, List.map, reduceIte, Nat.reduceLT, Nat.reduceLeDiff, Nat.reduceEqDiff, Nat.reduceAdd, Nat.reduceMul, Nat.reduceSub, true_and, and_true, decide_eq_true_eq, decide_eq_false_iff_not, List.cons_append, List.nil_append, Bool.false_eq_true, Array.empty_append, Array.append_empty, List.length_cons, List.length_nil, List.getElem?_cons_succ, List.getElem?_cons_zero, Option.some.injEq, Int.toNat_natCast, valsOf_map, List.toList_toArray, List.flatMap_cons, List.flatMap_nil, List.append_nil, List.take_succ_cons, List.take_zero, List.drop_zero, List.drop_succ_cons, Option.bind_some, h4, h3]
          rw [List.drop_eq_getElem_cons hlt, notsL] at hrem
          rw [wrap_id (n := (j : Int) + 1) (by omega) (by omega)]
          refine ⟨_, Sub.one _ _, ⟨j + 1, _, by simp, rfl, rfl, by omega, hg.trans hg2, hrem⟩, by omega⟩
        · have : j = ks.length := by omega
          subst this
          refine ⟨hg, ?_⟩
          simp [notsL] at hrem
          rw [hrem]
    · refine vcLoop.intro (fun f L m1 => ∃ (j : Nat) (c : Int), f 4 = .c (.v (.int .i64 j)) ∧ f 3 = .c (.v (.int .i64 c)) ∧ L = [(1, .str 56 [.v (.int .i64 k), .v (.int .i64 o), .v (.bool n), .v (.int .i64 v.kind), .v (.int .i64 v.num), .v (.string v.text), .v (.int .i64 u), .v (.int .i64 a), .v (.slice ax ks.length px), .v (.slice ay ss.length py)])] ∧ j ≤ ks.length ∧ Grow m m1 ∧ notsL (ks.drop j) c = notsL ks (if k = 3 ∧ o = 15 then 1 else 0))
        (fun f _ _ => (ks.length - ixS (f 4)).toNat) ⟨_, Sub.one _ _, 0, 0, ?_⟩ ?_
      · simp only [vcs, tbl, List.map, reduceIte, Nat.reduceLT, Nat.reduceLeDiff, Nat.reduceEqDiff, Nat.reduceAdd, Nat.reduceMul, Nat.reduceSub, true_and, and_true, decide_eq_true_eq, decide_eq_false_iff_not, List.cons_append, List.nil_append, Bool.false_eq_true, Array.empty_append, Array.append_empty, List.length_cons, List.length_nil, List.getElem?_cons_succ, List.getElem?_cons_zero, Option.some.injEq, Int.toNat_natCast, valsOf_map, List.toList_toArray, List.flatMap_cons, List.flatMap_nil, List.append_nil, List.take_succ_cons, List.take_zero, List.drop_zero, List.drop_succ_cons, Option.bind_some]
        exact ⟨rfl, by omega, Grow.refl _, by simp_all⟩
      · rintro g L1 m1 ⟨j, c, h4, h3, rfl, hj, hg, hrem⟩
        simp only [vcs, tbl, List.map, reduceIte, Nat.reduceLT, Nat.reduceLeDiff, Nat.reduceEqDiff, Nat.reduceAdd, Nat.reduceMul, Nat.reduceSub, true_and, and_true, decide_eq_true_eq, decide_eq_false_iff_not, List.cons_append, List.nil_append, Bool.false_eq_true, Array.empty_append, Array.append_empty, List.length_cons, List.length_nil, List.getElem?_cons_succ, List.getElem?_cons_zero, Option.some.injEq, Int.toNat_natCast, valsOf_map, List.toList_toArray, List.flatMap_cons, List.flatMap_nil, List.append_nil, List.take_succ_cons, List.take_zero, List.drop_zero, List.drop_succ_cons, Option.bind_some] at h4 h3
        simp only [vcs, tbl, List.map, reduceIte, Nat.reduceLT, Nat.reduceLeDiff, Nat.reduceEqDiff, Nat.reduceAdd, Nat.reduceMul, Nat.reduceSub, true_and, and_true, decide_eq_true_eq, decide_eq_false_iff_not, List.cons_append, List.nil_append, Bool.false_eq_true, Array.empty_append, Array.append_empty, List.length_cons, List.length_nil, List.getElem?_cons_succ, List.getElem?_cons_zero, Option.some.injEq, Int.toNat_natCast, valsOf_map, List.toList_toArray, List.flatMap_cons, List.flatMap_nil, List.append_nil, List.take_succ_cons, List.take_zero, List.drop_zero, List.drop_succ_cons, Option.bind_some, h4, h3]
        refine ⟨fun hlt => ?_, fun hge => ?_⟩
        · have hlt : j < ks.length := by omega
          obtain ⟨ad, vs, Fk, ha, hlen, hcell, hv, _⟩ := c1.elem PExpr.row_len (by decide) (List.getElem?_eq_getElem hlt)
          refine ⟨by omega, by omega, ad, ha, vs, hlen, fun j v hj => hg.cell (by simpa using hcell j v hj), ?_⟩
          simp only [vcs, tbl, List.map, reduceIte, Nat.reduceLT, Nat.reduceLeDiff, Nat.reduceEqDiff, Nat.reduceAdd, Nat.reduceMul, Nat.reduceSub, true_and, and_true, decide_eq_true_eq, decide_eq_false_iff_not, List.cons_append, List.nil_append, Bool.false_eq_true, Array.empty_append, Array.append_empty, List.length_cons, List.length_nil, List.getElem?_cons_succ, List.getElem?_cons_zero, Option.some.injEq, Int.toNat_natCast, valsOf_map, List.toList_toArray, List.flatMap_cons, List.flatMap_nil, List.append_nil, List.take_succ_cons, List.take_zero, List.drop_zero, List.drop_succ_cons, Option.bind_some, h4, h3]
          refine (hk _ (List.getElem_mem hlt) _ _ _ (hv.grow hg)).mono ?_
          rintro r m2 ⟨hg2, rfl⟩
          simp only [vcs, tbl, List.map, reduceIte, Nat.reduceLT, Nat.reduceLeDiff, Nat.reduceEqDiff, Nat.reduceAdd, Nat.reduceMul, Nat.reduceSub, true_and, and_true, decide_eq_true_eq, decide_eq_false_iff_not, List.cons_append, List.nil_append, Bool.false_eq_true, Array.empty_append, Array.append_empty, List.length_cons, List.length_nil, List.getElem?_cons_succ, List.getElem?_cons_zero, Option.some.injEq, Int.toNat_natCast, valsOf_map, List.toList_toArray, List.flatMap_cons, List.flatMap_nil, List.append_nil, List.take_succ_cons, List.take_zero, List.drop_zero, List.drop_succ_cons, Option.bind_some, h4, h3]
          rw [List.drop_eq_getElem_cons hlt, notsL] at hrem
          rw [wrap_id (n := (j : Int) + 1) (by omega) (by omega)]
          refine ⟨_, Sub.one _ _, ⟨j + 1, _, by simp, rfl, rfl, by omega, hg.trans hg2, hrem⟩, by omega⟩
        · have : j = ks.length := by omega
          subst this
          refine ⟨hg, ?_⟩
          simp [notsL] at hrem
          rw [hrem]
  · simp only [vcs, tbl, List.map, reduceIte, Nat.reduceLT, Nat.reduceLeDiff, Nat.reduceEqDiff, Nat.reduceAdd, Nat.reduceMul, Nat.reduceSub, true_and, and_true, decide_eq_true_eq, decide_eq_false_iff_not, List.cons_append, List.nil_append, Bool.false_eq_true, Array.empty_append, Array.append_empty, List.length_cons, List.length_nil, List.getElem?_cons_succ, List.getElem?_cons_zero, Option.some.injEq, Int.toNat_natCast, valsOf_map, List.toList_toArray, List.flatMap_cons, List.flatMap_nil, List.append_nil, List.take_succ_cons, List.take_zero, List.drop_zero, List.drop_succ_cons, Option.bind_some]
    refine ⟨fun h => h.elim, fun _ => ?_⟩
    refine vcLoop.intro (fun f L m1 => ∃ (j : Nat) (c : Int), f 4 = .c (.v (.int .i64 j)) ∧ f 3 = .c (.v (.int .i64 c)) ∧ L = [(1, .str 56 [.v (.int .i64 k), .v (.int .i64 o), .v (.bool n), .v (.int .i64 v.kind), .v (.int .i64 v.num), .v (.string v.text), .v (.int .i64 u), .v (.int .i64 a), .v (.slice ax ks.length px), .v (.slice ay ss.length py)])] ∧ j ≤ ks.length ∧ Grow m m1 ∧ notsL (ks.drop j) c = notsL ks (if k = 3 ∧ o = 15 then 1 else 0))
      (fun f _ _ => (ks.length - ixS (f 4)).toNat) ⟨_, Sub.one _ _, 0, 0, ?_⟩ ?_
    · simp only [vcs, tbl, List.map, reduceIte, Nat.reduceLT, Nat.reduceLeDiff, Nat.reduceEqDiff, Nat.reduceAdd, Nat.reduceMul, Nat.reduceSub, true_and, and_true, decide_eq_true_eq, decide_eq_false_iff_not, List.cons_append, List.nil_append, Bool.false_eq_true, Array.empty_append, Array.append_empty, List.length_cons, List.length_nil, List.getElem?_cons_succ, List.getElem?_cons_zero, Option.some.injEq, Int.toNat_natCast, valsOf_map, List.toList_toArray, List.flatMap_cons, List.flatMap_nil, List.append_nil, List.take_succ_cons, List.take_zero, List.drop_zero, List.drop_succ_cons, Option.bind_some]
      exact ⟨rfl, by omega, Grow.refl _, by simp_all⟩
    · rintro g L1 m1 ⟨j, c, h4, h3, rfl, hj, hg, hrem⟩
      simp only [vcs, tbl, List.map, reduceIte, Nat.reduceLT, Nat.reduceLeDiff, Nat.reduceEqDiff, Nat.reduceAdd, Nat.reduceMul, Nat.reduceSub, true_and, and_true, decide_eq_true_eq, decide_eq_false_iff_not, List.cons_append, List.nil_append, Bool.false_eq_true, Array.empty_append, Array.append_empty, List.length_cons, List.length_nil, List.getElem?_cons_succ, List.getElem?_cons_zero, Option.some.injEq, Int.toNat_natCast, valsOf_map, List.toList_toArray, List.flatMap_cons, List.flatMap_nil, List.append_nil, List.take_succ_cons, List.take_zero, List.drop_zero, List.drop_succ_cons, Option.bind_some] at h4 h3
      simp only [vcs, tbl, List.map, reduceIte, Nat.reduceLT, Nat.reduceLeDiff, Nat.reduceEqDiff, Nat.reduceAdd, Nat.reduceMul, Nat.reduceSub, true_and, and_true, decide_eq_true_eq, decide_eq_false_iff_not, List.cons_append, List.nil_append, Bool.false_eq_true, Array.empty_append, Array.append_empty, List.length_cons, List.length_nil, List.getElem?_cons_succ, List.getElem?_cons_zero, Option.some.injEq, Int.toNat_natCast, valsOf_map, List.toList_toArray, List.flatMap_cons, List.flatMap_nil, List.append_nil, List.take_succ_cons, List.take_zero, List.drop_zero, List.drop_succ_cons, Option.bind_some, h4, h3]
      refine ⟨fun hlt => ?_, fun hge => ?_⟩
      · have hlt : j < ks.length := by omega
        obtain ⟨ad, vs, Fk, ha, hlen, hcell, hv, _⟩ := c1.elem PExpr.row_len (by decide) (List.getElem?_eq_getElem hlt)
        refine ⟨by omega, by omega, ad, ha, vs, hlen, fun j v hj => hg.cell (by simpa using hcell j v hj), ?_⟩
        simp only [vcs, tbl, List.map, reduceIte, Nat.reduceLT, Nat.reduceLeDiff, Nat.reduceEqDiff, Nat.reduceAdd, Nat.reduceMul, Nat.reduceSub, true_and, and_true, decide_eq_true_eq, decide_eq_false_iff_not, List.cons_append, List.nil_append, Bool.false_eq_true, Array.empty_append, Array.append_empty, List.length_cons, List.length_nil, List.getElem?_cons_succ, List.getElem?_cons_zero, Option.some.injEq, Int.toNat_natCast, valsOf_map, List.toList_toArray, List.flatMap_cons, List.flatMap_nil, List.append_nil, List.take_succ_cons, List.take_zero, List.drop_zero, List.drop_succ_cons, Option.bind_some, h4, h3]
        refine (hk _ (List.getElem_mem hlt) _ _ _ (hv.grow hg)).mono ?_
        rintro r m2 ⟨hg2, rfl⟩
        simp only [vcs, tbl, List.map, reduceIte, Nat.reduceLT, Nat.reduceLeDiff, Nat.reduceEqDiff, Nat.reduceAdd, Nat.reduceMul, Nat.reduceSub, true_and, and_true, decide_eq_true_eq, decide_eq_false_iff_not, List.cons_append, List.nil_append, Bool.false_eq_true, Array.empty_append, Array.append_empty, List.length_cons, List.length_nil, List.getElem?_cons_succ, List.getElem?_cons_zero, Option.some.injEq, Int.toNat_natCast, valsOf_map, List.toList_toArray, List.flatMap_cons, List.flatMap_nil, List.append_nil, List.take_succ_cons, List.take_zero, List.drop_zero, List.drop_succ_cons, Option.bind_some, h4, h3]
        rw [List.drop_eq_getElem_cons hlt, notsL] at hrem
        rw [wrap_id (n := (j : Int) + 1) (by omega) (by omega)]
        refine ⟨_, Sub.one _ _, ⟨j + 1, _, by simp, rfl, rfl, by omega, hg.trans hg2, hrem⟩, by omega⟩
      · have : j = ks.length := by omega
        subst this
        refine ⟨hg, ?_⟩
        simp [notsL] at hrem
        rw [hrem]

theorem implNots_step (k o n v u a ks ss) (hk : ∀ e ∈ ks, NoC 24 e) : NoC 24 (.mk k o n v u a ks ss) := by
  intro m vs F h
  obtain ⟨x, y, F1, F2, rfl, hv, c1, c2, rfl⟩ := PExpr.vals h
  obtain ⟨ax, px, rfl, hcap, hmax, _⟩ := c1.slice
  obtain ⟨ay, py, rfl, _⟩ := c2.slice
  have hmax1 : px ≤ 9223372036854775807 := hmax
  rw [nots]
  refine fcalls_of_vc (args := [_]) follows_mixed Try.func24 rfl (by kernel_rfl) (by simp [Try.f24]) ?_
  simp only [Try.f24, vcs, tbl, List.map, reduceIte, Nat.reduceLT, Nat.reduceLeDiff, Nat.reduceEqDiff, Nat.reduceAdd, Nat.reduceMul, Nat.reduceSub, true_and, and_true, decide_eq_true_eq, decide_eq_false_iff_not, List.cons_append, List.nil_append, Bool.false_eq_true, Array.empty_append, Array.append_empty, List.length_cons, List.length_nil, List.getElem?_cons_succ, List.getElem?_cons_zero, Option.some.injEq, Int.toNat_natCast, valsOf_map, List.toList_toArray, List.flatMap_cons, List.flatMap_nil, List.append_nil, List.take_succ_cons, List.take_zero, List.drop_zero, List.drop_succ_cons, Option.bind_some]
  refine (isNot_c _ _ _ _ _ _ _ _ _ _ _ h).mono ?_
  rintro r m0 ⟨hg0, rfl⟩
  simp only [vcs, tbl, List.map, reduceIte, Nat.reduceLT, Nat.reduceLeDiff, Nat.reduceEqDiff, Nat.reduceAdd, Nat.reduceMul, Nat.reduceSub, true_and, and_true, decide_eq_true_eq, decide_eq_false_iff_not, List.cons_append, List.nil_append, Bool.false_eq_true, Array.empty_append, Array.append_empty, List.length_cons, List.length_nil, List.getElem?_cons_succ, List.getElem?_cons_zero, Option.some.injEq, Int.toNat_natCast, valsOf_map, List.toList_toArray, List.flatMap_cons, List.flatMap_nil, List.append_nil, List.take_succ_cons, List.take_zero, List.drop_zero, List.drop_succ_cons, Option.bind_some]
  refine ⟨fun h2 => ?_, fun h2 => ?_⟩
  · refine vcLoop.intro (fun f L m1 => ∃ (j : Nat) (c : Int), f 11 = .c (.v (.int .i64 j)) ∧ f 3 = .c (.v (.int .i64 c)) ∧ L = [] ∧ j ≤ ks.length ∧ Grow m m1 ∧ notsL (ks.drop j) c = notsL ks (if k = 3 ∧ o = 15 then 1 else 0))
      (fun f _ _ => (ks.length - ixS (f 11)).toNat) ⟨[], Sub.nil _, 0, 1, ?_⟩ ?_
    · simp only [vcs, tbl, List.map, reduceIte, Nat.reduceLT, Nat.reduceLeDiff, Nat.reduceEqDiff, Nat.reduceAdd, Nat.reduceMul, Nat.reduceSub, true_and, and_true, decide_eq_true_eq, decide_eq_false_iff_not, List.cons_append, List.nil_append, Bool.false_eq_true, Array.empty_append, Array.append_empty, List.length_cons, List.length_nil, List.getElem?_cons_succ, List.getElem?_cons_zero, Option.some.injEq, Int.toNat_natCast, valsOf_map, List.toList_toArray, List.flatMap_cons, List.flatMap_nil, List.append_nil, List.take_succ_cons, List.take_zero, List.drop_zero, List.drop_succ_cons, Option.bind_some]
      exact ⟨rfl, by omega, hg0, by first | (simp_all; done) | (rw [if_neg (fun hh => by simp_all)])⟩
    · rintro g L1 m1 ⟨j, c, h4, h3, rfl, hj, hg, hrem⟩
      simp only [vcs, tbl, List.map, reduceIte, Nat.reduceLT, Nat.reduceLeDiff, Nat.reduceEqDiff, Nat.reduceAdd, Nat.reduceMul, Nat.reduceSub, true_and, and_true, decide_eq_true_eq, decide_eq_false_iff_not, List.cons_append, List.nil_append, Bool.false_eq_true, Array.empty_append, Array.append_empty, List.length_cons, List.length_nil, List.getElem?_cons_succ, List.getElem?_cons_zero, Option.some.injEq, Int.toNat_natCast, valsOf_map, List.toList_toArray, List.flatMap_cons, List.flatMap_nil, List.append_nil, List.take_succ_cons, List.take_zero, List.drop_zero, List.drop_succ_cons, Option.bind_some] at h4 h3
      simp only [vcs, tbl, List.map, reduceIte, Nat.reduceLT, Nat.reduceLeDiff, Nat.reduceEqDiff, Nat.reduceAdd, Nat.reduceMul, Nat.reduceSub, true_and, and_true, decide_eq_true_eq, decide_eq_false_iff_not, List.cons_append, List.nil_append, Bool.false_eq_true, Array.empty_append, Array.append_empty, List.length_cons, List.length_nil, List.getElem?_cons_succ, List.getElem?_cons_zero, Option.some.injEq, Int.toNat_natCast, valsOf_map, List.toList_toArray, List.flatMap_cons, List.flatMap_nil, List.append_nil, List.take_succ_cons, List.take_zero, List.drop_zero, List.drop_succ_cons, Option.bind_some, h4, h3]
      refine ⟨fun hlt => ?_, fun hge => ?_⟩
      · have hlt : j < ks.length := by omega
        obtain ⟨ad, vs, Fk, ha, hlen, hcell, hv, _⟩ := c1.elem PExpr.row_len (by decide) (List.getElem?_eq_getElem hlt)
        refine ⟨by omega, by omega, ad, ha, vs, hlen, fun j v hj => hg.cell (by simpa using hcell j v hj), ?_⟩
        obtain ⟨e0, hke⟩ : ∃ e0, ks[j] = e0 := ⟨_, rfl⟩
        have hkk := hk _ (List.getElem_mem hlt)
        rw [List.drop_eq_getElem_cons hlt, notsL, hke] at hrem
        rw [hke] at hv hkk
        obtain ⟨k', o', n', v', u', a', ks', ss'⟩ := e0
        obtain ⟨x', y', F1', F2', rfl, _, c1', c2', rfl⟩ := PExpr.vals hv
        obtain ⟨ax', px', rfl, _⟩ := c1'.slice
        obtain ⟨ay', py', rfl, _⟩ := c2'.slice
        simp only [vcs, tbl, List.map, reduceIte, Nat.reduceLT, Nat.reduceLeDiff, Nat.reduceEqDiff, Nat.reduceAdd, Nat.reduceMul, Nat.reduceSub, true_and, and_true, decide_eq_true_eq, decide_eq_false_iff_not, List.cons_append, List.nil_append, Bool.false_eq_true, Array.empty_append, Array.append_empty, List.length_cons, List.length_nil, List.getElem?_cons_succ, List.getElem?_cons_zero, Option.some.injEq, Int.toNat_natCast, valsOf_map, List.toList_toArray, List.flatMap_cons, List.flatMap_nil, List.append_nil, List.take_succ_cons, List.take_zero, List.drop_zero, List.drop_succ_cons, Option.bind_some, h4, h3]
        refine (hkk _ _ _ (hv.grow hg)).mono ?_
        rintro r m2 ⟨hg2, rfl⟩
        simp only [vcs, tbl, List.map, reduceIte, Nat.reduceLT, Nat.reduceLeDiff, Nat.reduceEqDiff, Nat.reduceAdd, Nat.reduceMul, Nat.reduceSub, true_and, and_true, decide_eq_true_eq, decide_eq_false_iff_not, List.cons_append, List.nil_append, Bool.false_eq_true, Array.empty_append, Array.append_empty, List.length_cons, List.length_nil, List.getElem?_cons_succ, List.getElem?_cons_zero, Option.some.injEq, Int.toNat_natCast, valsOf_map, List.toList_toArray, List.flatMap_cons, List.flatMap_nil, List.append_nil, List.take_succ_cons, List.take_zero, List.drop_zero, List.drop_succ_cons, Option.bind_some, h4, h3]
        rw [wrap_id (n := (j : Int) + 1) (by omega) (by omega)]
        refine ⟨[], Sub.nil _, ⟨j + 1, _, by simp, rfl, rfl, by omega, hg.trans hg2, hrem⟩, by omega⟩
      · have : j = ks.length := by omega
        subst this
        refine ⟨hg, ?_⟩
        simp [notsL] at hrem
        rw [hrem]
  · refine vcLoop.intro (fun f L m1 => ∃ (j : Nat) (c : Int), f 11 = .c (.v (.int .i64 j)) ∧ f 3 = .c (.v (.int .i64 c)) ∧ L = [] ∧ j ≤ ks.length ∧ Grow m m1 ∧ notsL (ks.drop j) c = notsL ks (if k = 3 ∧ o = 15 then 1 else 0))
      (fun f _ _ => (ks.length - ixS (f 11)).toNat) ⟨[], Sub.nil _, 0, 0, ?_⟩ ?_
    · simp only [vcs, tbl, List.map, reduceIte, Nat.reduceLT, Nat.reduceLeDiff, Nat.reduceEqDiff, Nat.reduceAdd, Nat.reduceMul, Nat.reduceSub, true_and, and_true, decide_eq_true_eq, decide_eq_false_iff_not, List.cons_append, List.nil_append, Bool.false_eq_true, Array.empty_append, Array.append_empty, List.length_cons, List.length_nil, List.getElem?_cons_succ, List.getElem?_cons_zero, Option.some.injEq, Int.toNat_natCast, valsOf_map, List.toList_toArray, List.flatMap_cons, List.flatMap_nil, List.append_nil, List.take_succ_cons, List.take_zero, List.drop_zero, List.drop_succ_cons, Option.bind_some]
      exact ⟨rfl, by omega, hg0, by first | (simp_all; done) | (rw [if_neg (fun hh => by simp_all)])⟩
    · rintro g L1 m1 ⟨j, c, h4, h3, rfl, hj, hg, hrem⟩
      simp only [vcs, tbl, List.map, reduceIte, Nat.reduceLT, Nat.reduceLeDiff, Nat.reduceEqDiff, Nat.reduceAdd, Nat.reduceMul, Nat.reduceSub, true_and, and_true, decide_eq_true_eq, decide_eq_false_iff_not, List.cons_append, List.nil_append, Bool.false_eq_true, Array.empty_append, Array.append_empty, List.length_cons, List.length_nil, List.getElem?_cons_succ, List.getElem?_cons_zero, Option.some.injEq, Int.toNat_natCast, valsOf_map, List.toList_toArray, List.flatMap_cons, List.flatMap_nil, List.append_nil, List.take_succ_cons, List.take_zero, List.drop_zero, List.drop_succ_cons, Option.bind_some] at h4 h3
      simp only [vcs, tbl, List.map, reduceIte, Nat.reduceLT, Nat.reduceLeDiff, Nat.reduceEqDiff, Nat.reduceAdd, Nat.reduceMul, Nat.reduceSub, true_and, and_true, decide_eq_true_eq, decide_eq_false_iff_not, List.cons_append, List.nil_append, Bool.false_eq_true, Array.empty_append, Array.append_empty, List.length_cons, List.length_nil, List.getElem?_cons_succ, List.getElem?_cons_zero, Option.some.injEq, Int.toNat_natCast, valsOf_map, List.toList_toArray, List.flatMap_cons, List.flatMap_nil, List.append_nil, List.take_succ_cons, List.take_zero, List.drop_zero, List.drop_succ_cons, Option.bind_some, h4, h3]
      refine ⟨fun hlt => ?_, fun hge => ?_⟩
      · have hlt : j < ks.length := by omega
        obtain ⟨ad, vs, Fk, ha, hlen, hcell, hv, _⟩ := c1.elem PExpr.row_len (by decide) (List.getElem?_eq_getElem hlt)
        refine ⟨by omega, by omega, ad, ha, vs, hlen, fun j v hj => hg.cell (by simpa using hcell j v hj), ?_⟩
        obtain ⟨e0, hke⟩ : ∃ e0, ks[j] = e0 := ⟨_, rfl⟩
        have hkk := hk _ (List.getElem_mem hlt)
        rw [List.drop_eq_getElem_cons hlt, notsL, hke] at hrem
        rw [hke] at hv hkk
        obtain ⟨k', o', n', v', u', a', ks', ss'⟩ := e0
        obtain ⟨x', y', F1', F2', rfl, _, c1', c2', rfl⟩ := PExpr.vals hv
        obtain ⟨ax', px', rfl, _⟩ := c1'.slice
        obtain ⟨ay', py', rfl, _⟩ := c2'.slice
        simp only [vcs, tbl, List.map, reduceIte, Nat.reduceLT, Nat.reduceLeDiff, Nat.reduceEqDiff, Nat.reduceAdd, Nat.reduceMul, Nat.reduceSub, true_and, and_true, decide_eq_true_eq, decide_eq_false_iff_not, List.cons_append, List.nil_append, Bool.false_eq_true, Array.empty_append, Array.append_empty, List.length_cons, List.length_nil, List.getElem?_cons_succ, List.getElem?_cons_zero, Option.some.injEq, Int.toNat_natCast, valsOf_map, List.toList_toArray, List.flatMap_cons, List.flatMap_nil, List.append_nil, List.take_succ_cons, List.take_zero, List.drop_zero, List.drop_succ_cons, Option.bind_some, h4, h3]
        refine (hkk _ _ _ (hv.grow hg)).mono ?_
        rintro r m2 ⟨hg2, rfl⟩
        simp only [vcs, tbl, List.map, reduceIte, Nat.reduceLT, Nat.reduceLeDiff, Nat.reduceEqDiff, Nat.reduceAdd, Nat.reduceMul, Nat.reduceSub, true_and, and_true, decide_eq_true_eq, decide_eq_false_iff_not, List.cons_append, List.nil_append, Bool.false_eq_true, Array.empty_append, Array.append_empty, List.length_cons, List.length_nil, List.getElem?_cons_succ, List.getElem?_cons_zero, Option.some.injEq, Int.toNat_natCast, valsOf_map, List.toList_toArray, List.flatMap_cons, List.flatMap_nil, List.append_nil, List.take_succ_cons, List.take_zero, List.drop_zero, List.drop_succ_cons, Option.bind_some, h4, h3]
        rw [wrap_id (n := (j : Int) + 1) (by omega) (by omega)]
        refine ⟨[], Sub.nil _, ⟨j + 1, _, by simp, rfl, rfl, by omega, hg.trans hg2, hrem⟩, by omega⟩
      · have : j = ks.length := by omega
        subst this
        refine ⟨hg, ?_⟩
        simp [notsL] at hrem
        rw [hrem]

theorem specNots (e : PExpr) : NoC 22 e := (tree_ind (A := NoC 22) (B := fun _ => True) (C := fun _ => True) (fun _ _ _ _ _ _ _ _ h _ => specNots_step _ _ _ _ _ _ _ _ h) (fun _ _ _ _ _ _ _ _ _ _ _ _ => trivial) (fun _ _ _ => trivial)).1 e
theorem implNots (e : PExpr) : NoC 24 e := (tree_ind (A := NoC 24) (B := fun _ => True) (C := fun _ => True) (fun _ _ _ _ _ _ _ _ h _ => implNots_step _ _ _ _ _ _ _ _ h) (fun _ _ _ _ _ _ _ _ _ _ _ _ => trivial) (fun _ _ _ => trivial)).1 e

theorem exactNots (e : PExpr) (m : World) (vs : List Value) (F : List Nat) (h : ValsF m e.row vs F) :
   FCalls Try.prog 6 #[.agg vs.toArray] m fun r m' => Grow m m' ∧ r = .bool true := by
  have h0 := h
  obtain ⟨e, he⟩ : ∃ e', e = e' := ⟨_, rfl⟩
  subst he
  obtain ⟨k, o, n, v, u, a, ks, ss⟩ := e
  obtain ⟨x, y, F1, F2, rfl, hv, c1, c2, rfl⟩ := PExpr.vals h0
  obtain ⟨ax, px, rfl, _⟩ := c1.slice
  obtain ⟨ay, py, rfl, _⟩ := c2.slice
  generalize hee : PExpr.mk k o n v u a ks ss = e at h
  refine fcalls_of_vc (args := [_]) follows_mixed Try.func6 rfl (by kernel_rfl) (by simp [Try.f6]) ?_
  simp only [Try.f6, vcs, tbl, List.map, reduceIte, Nat.reduceLT, Nat.reduceLeDiff, Nat.reduceEqDiff, Nat.reduceAdd, Nat.reduceMul, Nat.reduceSub, true_and, and_true, decide_eq_true_eq, decide_eq_false_iff_not, List.cons_append, List.nil_append, Bool.false_eq_true, Array.empty_append, Array.append_empty, List.length_cons, List.length_nil, List.getElem?_cons_succ, List.getElem?_cons_zero, Option.some.injEq, Int.toNat_natCast, valsOf_map, List.toList_toArray, List.flatMap_cons, List.flatMap_nil, List.append_nil, List.take_succ_cons, List.take_zero, List.drop_zero, List.drop_succ_cons, Option.bind_some]
  refine (sz_all.1 e _ _ _ _ h (by omega) (by omega)).mono ?_
  rintro r m1 ⟨g1, k1, rfl, hk1, hs⟩
  simp only [vcs, tbl, List.map, reduceIte, Nat.reduceLT, Nat.reduceLeDiff, Nat.reduceEqDiff, Nat.reduceAdd, Nat.reduceMul, Nat.reduceSub, true_and, and_true, decide_eq_true_eq, decide_eq_false_iff_not, List.cons_append, List.nil_append, Bool.false_eq_true, Array.empty_append, Array.append_empty, List.length_cons, List.length_nil, List.getElem?_cons_succ, List.getElem?_cons_zero, Option.some.injEq, Int.toNat_natCast, valsOf_map, List.toList_toArray, List.flatMap_cons, List.flatMap_nil, List.append_nil, List.take_succ_cons, List.take_zero, List.drop_zero, List.drop_succ_cons, Option.bind_some]
  refine ⟨fun _ => g1, fun hn1 => ?_⟩
  have hs := hs (by omega)
  subst hee
  refine (to_all.1 _ _ _ _ (h.grow g1) hs).mono ?_
  rintro r m2 ⟨hg2, us2, F2, rfl, hv2, _⟩
  have hw2 := hv2
  obtain ⟨x2, y2, G2, H2, rfl, _, c2, d2, rfl⟩ := PExpr.vals hv2
  obtain ⟨a2, p2, rfl, _⟩ := c2.slice
  obtain ⟨b2, q2, rfl, _⟩ := d2.slice
  have g2 := g1.trans hg2
  simp only [vcs, tbl, List.map, reduceIte, Nat.reduceLT, Nat.reduceLeDiff, Nat.reduceEqDiff, Nat.reduceAdd, Nat.reduceMul, Nat.reduceSub, true_and, and_true, decide_eq_true_eq, decide_eq_false_iff_not, List.cons_append, List.nil_append, Bool.false_eq_true, Array.empty_append, Array.append_empty, List.length_cons, List.length_nil, List.getElem?_cons_succ, List.getElem?_cons_zero, Option.some.injEq, Int.toNat_natCast, valsOf_map, List.toList_toArray, List.flatMap_cons, List.flatMap_nil, List.append_nil, List.take_succ_cons, List.take_zero, List.drop_zero, List.drop_succ_cons, Option.bind_some]
  refine (specNots _ _ _ _ hw2).mono ?_
  rintro r m3 ⟨hg3, rfl⟩
  have g3 := g2.trans hg3
  simp only [vcs, tbl, List.map, reduceIte, Nat.reduceLT, Nat.reduceLeDiff, Nat.reduceEqDiff, Nat.reduceAdd, Nat.reduceMul, Nat.reduceSub, true_and, and_true, decide_eq_true_eq, decide_eq_false_iff_not, List.cons_append, List.nil_append, Bool.false_eq_true, Array.empty_append, Array.append_empty, List.length_cons, List.length_nil, List.getElem?_cons_succ, List.getElem?_cons_zero, Option.some.injEq, Int.toNat_natCast, valsOf_map, List.toList_toArray, List.flatMap_cons, List.flatMap_nil, List.append_nil, List.take_succ_cons, List.take_zero, List.drop_zero, List.drop_succ_cons, Option.bind_some]
  refine (to_all.1 _ _ _ _ (h.grow g3) hs).mono ?_
  rintro r m4 ⟨hg4, us4, F4, rfl, hv4, _⟩
  have hw4 := hv4
  obtain ⟨x4, y4, G4, H4, rfl, _, c4, d4, rfl⟩ := PExpr.vals hv4
  obtain ⟨a4, p4, rfl, _⟩ := c4.slice
  obtain ⟨b4, q4, rfl, _⟩ := d4.slice
  have g4 := g3.trans hg4
  simp only [vcs, tbl, List.map, reduceIte, Nat.reduceLT, Nat.reduceLeDiff, Nat.reduceEqDiff, Nat.reduceAdd, Nat.reduceMul, Nat.reduceSub, true_and, and_true, decide_eq_true_eq, decide_eq_false_iff_not, List.cons_append, List.nil_append, Bool.false_eq_true, Array.empty_append, Array.append_empty, List.length_cons, List.length_nil, List.getElem?_cons_succ, List.getElem?_cons_zero, Option.some.injEq, Int.toNat_natCast, valsOf_map, List.toList_toArray, List.flatMap_cons, List.flatMap_nil, List.append_nil, List.take_succ_cons, List.take_zero, List.drop_zero, List.drop_succ_cons, Option.bind_some]
  refine (implNots _ _ _ _ hw4).mono ?_
  rintro r m5 ⟨hg5, rfl⟩
  have g5 := g4.trans hg5
  simp only [vcs, tbl, List.map, reduceIte, Nat.reduceLT, Nat.reduceLeDiff, Nat.reduceEqDiff, Nat.reduceAdd, Nat.reduceMul, Nat.reduceSub, true_and, and_true, decide_eq_true_eq, decide_eq_false_iff_not, List.cons_append, List.nil_append, Bool.false_eq_true, Array.empty_append, Array.append_empty, List.length_cons, List.length_nil, List.getElem?_cons_succ, List.getElem?_cons_zero, Option.some.injEq, Int.toNat_natCast, valsOf_map, List.toList_toArray, List.flatMap_cons, List.flatMap_nil, List.append_nil, List.take_succ_cons, List.take_zero, List.drop_zero, List.drop_succ_cons, Option.bind_some, decide_true, Bool.not_true]
  refine ⟨fun h => by simp at h, fun _ => ?_⟩
  refine vcDrawn.intro (.take 0 (.take 1 (.br 2 (.br 3 (.take 4 .done) .nobr) .nobr))) (by kernel_rfl) ?_
  simp only [vcs, tbl, List.map, reduceIte, Nat.reduceLT, Nat.reduceLeDiff, Nat.reduceEqDiff, Nat.reduceAdd, Nat.reduceMul, Nat.reduceSub, true_and, and_true, decide_eq_true_eq, decide_eq_false_iff_not, List.cons_append, List.nil_append, Bool.false_eq_true, Array.empty_append, Array.append_empty, List.length_cons, List.length_nil, List.getElem?_cons_succ, List.getElem?_cons_zero, Option.some.injEq, Int.toNat_natCast, valsOf_map, List.toList_toArray, List.flatMap_cons, List.flatMap_nil, List.append_nil, List.take_succ_cons, List.take_zero, List.drop_zero, List.drop_succ_cons, Option.bind_some]
  refine (to_all.1 _ _ _ _ (h.grow g5) hs).mono ?_
  rintro r m6 ⟨hg6, us6, F6, rfl, hv6, _⟩
  have hw6 := hv6
  obtain ⟨x6, y6, G6, H6, rfl, _, c6, d6, rfl⟩ := PExpr.vals hv6
  obtain ⟨a6, p6, rfl, _⟩ := c6.slice
  obtain ⟨b6, q6, rfl, _⟩ := d6.slice
  have g6 := g5.trans hg6
  refine ⟨hg6, ?_⟩
  simp only [vcs, tbl, List.map, reduceIte, Nat.reduceLT, Nat.reduceLeDiff, Nat.reduceEqDiff, Nat.reduceAdd, Nat.reduceMul, Nat.reduceSub, true_and, and_true, decide_eq_true_eq, decide_eq_false_iff_not, List.cons_append, List.nil_append, Bool.false_eq_true, Array.empty_append, Array.append_empty, List.length_cons, List.length_nil, List.getElem?_cons_succ, List.getElem?_cons_zero, Option.some.injEq, Int.toNat_natCast, valsOf_map, List.toList_toArray, List.flatMap_cons, List.flatMap_nil, List.append_nil, List.take_succ_cons, List.take_zero, List.drop_zero, List.drop_succ_cons, Option.bind_some]
  refine (eq_all.1 _ _ _ _ _ _ _ ((hw4.grow hg5).grow hg6) hw6).mono ?_
  rintro r m7 ⟨hg7, b, rfl, hb⟩
  obtain rfl : b = true := hb.2 rfl
  refine ⟨hg7, ?_⟩
  simp only [vcs, tbl, List.map, reduceIte, Nat.reduceLT, Nat.reduceLeDiff, Nat.reduceEqDiff, Nat.reduceAdd, Nat.reduceMul, Nat.reduceSub, true_and, and_true, decide_eq_true_eq, decide_eq_false_iff_not, List.cons_append, List.nil_append, Bool.false_eq_true, Array.empty_append, Array.append_empty, List.length_cons, List.length_nil, List.getElem?_cons_succ, List.getElem?_cons_zero, Option.some.injEq, Int.toNat_natCast, valsOf_map, List.toList_toArray, List.flatMap_cons, List.flatMap_nil, List.append_nil, List.take_succ_cons, List.take_zero, List.drop_zero, List.drop_succ_cons, Option.bind_some, Bool.not_true]
  exact ⟨fun h => by simp at h, fun _ => g6.trans hg7⟩

end Go.Proofs.Ytklligemdfnimaa
set_option linter.unusedVariables false
set_option linter.unusedSimpArgs false
namespace Go.Proofs.Ytklligemdfnimaa
open Go Go.Vc
section
variable {H : Type} {enc : TypeId × Value → H} {W : World} {base : Nat} {sp : Nat → Bool} {held : Bool}
theorem cells3 : Try.prog.cellsOf 3 = 1 := by kernel_rfl
theorem cells4 : Try.prog.cellsOf 4 = 1 := by kernel_rfl
theorem cells9 : Try.prog.cellsOf 9 = 1 := by kernel_rfl
theorem cells46 : Try.prog.cellsOf 46 = 3 := by kernel_rfl
theorem cells50 : Try.prog.cellsOf 50 = 10 := by kernel_rfl
theorem cells69 : Try.prog.cellsOf 69 = 8 := by kernel_rfl
theorem cells163 : Try.prog.cellsOf 163 = 11 := by kernel_rfl
theorem cells47 : Try.prog.cellsOf 47 = 1 := by kernel_rfl
theorem cells48 : Try.prog.cellsOf 48 = 1 := by kernel_rfl
theorem cells64 : Try.prog.cellsOf 64 = 1 := by kernel_rfl
theorem cells65 : Try.prog.cellsOf 65 = 1 := by kernel_rfl
theorem cells66 : Try.prog.cellsOf 66 = 1 := by kernel_rfl
theorem cells67 : Try.prog.cellsOf 67 = 1 := by kernel_rfl
theorem single_eq {a b : Value} (h : [a] = [b]) : a = b := by injection h
theorem read_val {n : Nat} {cs : List Value} {x : DataW H × List MemPlace} (h : DataW.trod enc Try.prog W base sp held n 46 cs = some x) : ∃ (y : Val), cs = [.int .i64 y.kind, .int .i64 y.num, .string y.text] ∧ y.text.size ≤ maxLen := by
  obtain ⟨xs, k, hk, _, hl, hlen, hf⟩ := DataW.trod_struct Try.underlying46 h
  rw [cells46] at hl
  obtain ⟨c0, r0, rfl, hl1⟩ := list_cons hl
  obtain ⟨c1, r1, rfl, hl2⟩ := list_cons hl1
  obtain ⟨c2, rfl⟩ := list_one hl2
  obtain ⟨x0, s0, rfl, hlen1⟩ := list_cons hlen
  obtain ⟨x1, s1, rfl, hlen2⟩ := list_cons hlen1
  obtain ⟨x2, rfl⟩ := list_one hlen2
  have h0 : DataW.trod enc Try.prog W base sp held k 3 (([c0, c1, c2].drop 0).take (Try.prog.cellsOf 3)) = some x0 := hf 0 _ rfl
  rw [cells3] at h0
  have h0 : DataW.trod enc Try.prog W base sp held k 3 [c0] = some x0 := h0
  have h1 : DataW.trod enc Try.prog W base sp held k 3 (([c0, c1, c2].drop 1).take (Try.prog.cellsOf 3)) = some x1 := hf 1 _ rfl
  rw [cells3] at h1
  have h1 : DataW.trod enc Try.prog W base sp held k 3 [c1] = some x1 := h1
  have h2 : DataW.trod enc Try.prog W base sp held k 9 (([c0, c1, c2].drop 2).take (Try.prog.cellsOf 9)) = some x2 := hf 2 _ rfl
  rw [cells9] at h2
  have h2 : DataW.trod enc Try.prog W base sp held k 9 [c2] = some x2 := h2
  obtain ⟨n0, e0, _⟩ := DataW.trod_int Try.underlying3 h0
  obtain ⟨n1, e1, _⟩ := DataW.trod_int Try.underlying3 h1
  obtain ⟨n2, e2, _, hb⟩ := DataW.trod_string Try.underlying9 h2
  obtain rfl := single_eq e0
  obtain rfl := single_eq e1
  obtain rfl := single_eq e2
  exact ⟨⟨n0, n1, n2⟩, rfl, hb⟩
theorem read_int {n : Nat} {cs : List Value} {x : DataW H × List MemPlace} (h : DataW.trod enc Try.prog W base sp held n 3 cs = some x) : ∃ (y : Int) (F : List Nat), ValsF W (irow y) cs F := by
  obtain ⟨n0, rfl, _⟩ := DataW.trod_int Try.underlying3 h
  exact ⟨n0, [], valsF_mk (ValsF.nil_nil _) trivial⟩
theorem read_str {n : Nat} {cs : List Value} {x : DataW H × List MemPlace} (h : DataW.trod enc Try.prog W base sp held n 9 cs = some x) : ∃ (y : ByteArray) (F : List Nat), ValsF W (srow y) cs F := by
  obtain ⟨n0, rfl, _, hb⟩ := DataW.trod_string Try.underlying9 h
  exact ⟨n0, [], valsF_mk (ValsF.nil_nil _) hb⟩
theorem read_trees (n : Nat) : (∀ cs x, DataW.trod enc Try.prog W base sp held n 50 cs = some x → ∃ (e : PExpr) (F : List Nat), ValsF W e.row cs F) ∧
    (∀ cs x, DataW.trod enc Try.prog W base sp held n 69 cs = some x → ∃ (e : Plan) (F : List Nat), ValsF W e.row cs F) ∧
    (∀ cs x, DataW.trod enc Try.prog W base sp held n 163 cs = some x → ∃ (e : PSort) (F : List Nat), ValsF W e.row cs F) := by
  induction n using Nat.strongRecOn with
  | _ n ih =>
  have es : ∀ k, k < n → ∀ cs x, DataW.trod enc Try.prog W base sp held k 47 cs = some x → ∃ (ys : List PExpr) (v : Value) (F : List Nat), cs = [v] ∧ CellF W (.sl ys.length (ys.flatMap PExpr.row)) v F := fun k hk cs x h =>
    read_slice Try.underlying47 cells50 (by decide) PExpr.row_len (fun n' cs' x' hn h' => (ih n' (by omega)).1 cs' x' h') h
  refine ⟨fun cs x h => ?_, fun cs x h => ?_, fun cs x h => ?_⟩
  · skip
    obtain ⟨xs, k, hk, _, hl, hlen, hf⟩ := DataW.trod_struct Try.underlying50 h
    rw [cells50] at hl
    obtain ⟨c0, r0, rfl, hl1⟩ := list_cons hl
    obtain ⟨c1, r1, rfl, hl2⟩ := list_cons hl1
    obtain ⟨c2, r2, rfl, hl3⟩ := list_cons hl2
    obtain ⟨c3, r3, rfl, hl4⟩ := list_cons hl3
    obtain ⟨c4, r4, rfl, hl5⟩ := list_cons hl4
    obtain ⟨c5, r5, rfl, hl6⟩ := list_cons hl5
    obtain ⟨c6, r6, rfl, hl7⟩ := list_cons hl6
    obtain ⟨c7, r7, rfl, hl8⟩ := list_cons hl7
    obtain ⟨c8, r8, rfl, hl9⟩ := list_cons hl8
    obtain ⟨c9, rfl⟩ := list_one hl9
    obtain ⟨x0, s0, rfl, hlen1⟩ := list_cons hlen
    obtain ⟨x1, s1, rfl, hlen2⟩ := list_cons hlen1
    obtain ⟨x2, s2, rfl, hlen3⟩ := list_cons hlen2
    obtain ⟨x3, s3, rfl, hlen4⟩ := list_cons hlen3
    obtain ⟨x4, s4, rfl, hlen5⟩ := list_cons hlen4
    obtain ⟨x5, s5, rfl, hlen6⟩ := list_cons hlen5
    obtain ⟨x6, s6, rfl, hlen7⟩ := list_cons hlen6
    obtain ⟨x7, rfl⟩ := list_one hlen7
    have h0 : DataW.trod enc Try.prog W base sp held k 3 (([c0, c1, c2, c3, c4, c5, c6, c7, c8, c9].drop 0).take (Try.prog.cellsOf 3)) = some x0 := hf 0 _ rfl
    rw [cells3] at h0
    have h0 : DataW.trod enc Try.prog W base sp held k 3 [c0] = some x0 := h0
    have h1 : DataW.trod enc Try.prog W base sp held k 3 (([c0, c1, c2, c3, c4, c5, c6, c7, c8, c9].drop 1).take (Try.prog.cellsOf 3)) = some x1 := hf 1 _ rfl
    rw [cells3] at h1
    have h1 : DataW.trod enc Try.prog W base sp held k 3 [c1] = some x1 := h1
    have h2 : DataW.trod enc Try.prog W base sp held k 4 (([c0, c1, c2, c3, c4, c5, c6, c7, c8, c9].drop 2).take (Try.prog.cellsOf 4)) = some x2 := hf 2 _ rfl
    rw [cells4] at h2
    have h2 : DataW.trod enc Try.prog W base sp held k 4 [c2] = some x2 := h2
    have h3 : DataW.trod enc Try.prog W base sp held k 46 (([c0, c1, c2, c3, c4, c5, c6, c7, c8, c9].drop 3).take (Try.prog.cellsOf 46)) = some x3 := hf 3 _ rfl
    rw [cells46] at h3
    have h3 : DataW.trod enc Try.prog W base sp held k 46 [c3, c4, c5] = some x3 := h3
    have h4 : DataW.trod enc Try.prog W base sp held k 3 (([c0, c1, c2, c3, c4, c5, c6, c7, c8, c9].drop 6).take (Try.prog.cellsOf 3)) = some x4 := hf 4 _ rfl
    rw [cells3] at h4
    have h4 : DataW.trod enc Try.prog W base sp held k 3 [c6] = some x4 := h4
    have h5 : DataW.trod enc Try.prog W base sp held k 3 (([c0, c1, c2, c3, c4, c5, c6, c7, c8, c9].drop 7).take (Try.prog.cellsOf 3)) = some x5 := hf 5 _ rfl
    rw [cells3] at h5
    have h5 : DataW.trod enc Try.prog W base sp held k 3 [c7] = some x5 := h5
    have h6 : DataW.trod enc Try.prog W base sp held k 47 (([c0, c1, c2, c3, c4, c5, c6, c7, c8, c9].drop 8).take (Try.prog.cellsOf 47)) = some x6 := hf 6 _ rfl
    rw [cells47] at h6
    have h6 : DataW.trod enc Try.prog W base sp held k 47 [c8] = some x6 := h6
    have h7 : DataW.trod enc Try.prog W base sp held k 48 (([c0, c1, c2, c3, c4, c5, c6, c7, c8, c9].drop 9).take (Try.prog.cellsOf 48)) = some x7 := hf 7 _ rfl
    rw [cells48] at h7
    have h7 : DataW.trod enc Try.prog W base sp held k 48 [c9] = some x7 := h7
    obtain ⟨n0, e0, _⟩ := DataW.trod_int Try.underlying3 h0
    obtain ⟨n1, e1, _⟩ := DataW.trod_int Try.underlying3 h1
    obtain ⟨n2, e2, _⟩ := DataW.trod_bool Try.underlying4 h2
    obtain ⟨y, e3, hb⟩ := read_val h3
    obtain ⟨n4, e4, _⟩ := DataW.trod_int Try.underlying3 h4
    obtain ⟨n5, e5, _⟩ := DataW.trod_int Try.underlying3 h5
    obtain ⟨ks, v6, F6, e6, hc6⟩ := es _ (by omega) _ _ h6
    obtain ⟨ss, v7, F7, e7, hc7⟩ := read_slice Try.underlying48 cells69 (by decide) Plan.row_len (fun n' cs' x' hn h' => (ih n' (by omega)).2.1 cs' x' h') h7
    simp only [List.cons.injEq, and_true] at e0 e1 e2 e3 e4 e5 e6 e7
    obtain ⟨e3, e3', e3''⟩ := e3
    subst e0 e1 e2 e3 e3' e3'' e4 e5 e6 e7
    exact ⟨.mk n0 n1 n2 y n4 n5 ks ss, F6 ++ F7, PExpr.mk_vals hb hc6 hc7⟩

  · skip
    obtain ⟨xs, k, hk, _, hl, hlen, hf⟩ := DataW.trod_struct Try.underlying69 h
    rw [cells69] at hl
    obtain ⟨c0, r0, rfl, hl1⟩ := list_cons hl
    obtain ⟨c1, r1, rfl, hl2⟩ := list_cons hl1
    obtain ⟨c2, r2, rfl, hl3⟩ := list_cons hl2
    obtain ⟨c3, r3, rfl, hl4⟩ := list_cons hl3
    obtain ⟨c4, r4, rfl, hl5⟩ := list_cons hl4
    obtain ⟨c5, r5, rfl, hl6⟩ := list_cons hl5
    obtain ⟨c6, r6, rfl, hl7⟩ := list_cons hl6
    obtain ⟨c7, rfl⟩ := list_one hl7
    obtain ⟨x0, s0, rfl, hlen1⟩ := list_cons hlen
    obtain ⟨x1, s1, rfl, hlen2⟩ := list_cons hlen1
    obtain ⟨x2, s2, rfl, hlen3⟩ := list_cons hlen2
    obtain ⟨x3, s3, rfl, hlen4⟩ := list_cons hlen3
    obtain ⟨x4, s4, rfl, hlen5⟩ := list_cons hlen4
    obtain ⟨x5, s5, rfl, hlen6⟩ := list_cons hlen5
    obtain ⟨x6, s6, rfl, hlen7⟩ := list_cons hlen6
    obtain ⟨x7, rfl⟩ := list_one hlen7
    have h0 : DataW.trod enc Try.prog W base sp held k 64 (([c0, c1, c2, c3, c4, c5, c6, c7].drop 0).take (Try.prog.cellsOf 64)) = some x0 := hf 0 _ rfl
    rw [cells64] at h0
    have h0 : DataW.trod enc Try.prog W base sp held k 64 [c0] = some x0 := h0
    have h1 : DataW.trod enc Try.prog W base sp held k 65 (([c0, c1, c2, c3, c4, c5, c6, c7].drop 1).take (Try.prog.cellsOf 65)) = some x1 := hf 1 _ rfl
    rw [cells65] at h1
    have h1 : DataW.trod enc Try.prog W base sp held k 65 [c1] = some x1 := h1
    have h2 : DataW.trod enc Try.prog W base sp held k 47 (([c0, c1, c2, c3, c4, c5, c6, c7].drop 2).take (Try.prog.cellsOf 47)) = some x2 := hf 2 _ rfl
    rw [cells47] at h2
    have h2 : DataW.trod enc Try.prog W base sp held k 47 [c2] = some x2 := h2
    have h3 : DataW.trod enc Try.prog W base sp held k 66 (([c0, c1, c2, c3, c4, c5, c6, c7].drop 3).take (Try.prog.cellsOf 66)) = some x3 := hf 3 _ rfl
    rw [cells66] at h3
    have h3 : DataW.trod enc Try.prog W base sp held k 66 [c3] = some x3 := h3
    have h4 : DataW.trod enc Try.prog W base sp held k 47 (([c0, c1, c2, c3, c4, c5, c6, c7].drop 4).take (Try.prog.cellsOf 47)) = some x4 := hf 4 _ rfl
    rw [cells47] at h4
    have h4 : DataW.trod enc Try.prog W base sp held k 47 [c4] = some x4 := h4
    have h5 : DataW.trod enc Try.prog W base sp held k 67 (([c0, c1, c2, c3, c4, c5, c6, c7].drop 5).take (Try.prog.cellsOf 67)) = some x5 := hf 5 _ rfl
    rw [cells67] at h5
    have h5 : DataW.trod enc Try.prog W base sp held k 67 [c5] = some x5 := h5
    have h6 : DataW.trod enc Try.prog W base sp held k 4 (([c0, c1, c2, c3, c4, c5, c6, c7].drop 6).take (Try.prog.cellsOf 4)) = some x6 := hf 6 _ rfl
    rw [cells4] at h6
    have h6 : DataW.trod enc Try.prog W base sp held k 4 [c6] = some x6 := h6
    have h7 : DataW.trod enc Try.prog W base sp held k 3 (([c0, c1, c2, c3, c4, c5, c6, c7].drop 7).take (Try.prog.cellsOf 3)) = some x7 := hf 7 _ rfl
    rw [cells3] at h7
    have h7 : DataW.trod enc Try.prog W base sp held k 3 [c7] = some x7 := h7
    obtain ⟨y0, v0, F0, e0, d0⟩ := read_slice Try.underlying64 cells3 (by decide) irow_len (fun n' cs' x' hn h' => read_int h') h0
    obtain ⟨y1, v1, F1, e1, d1⟩ := read_slice (row := erow) Try.underlying65 cells47 (by decide) erow_len (fun n' cs' x' hn h' => by obtain ⟨ys, v, F, rfl, hc⟩ := es n' (by omega) _ _ h'; exact ⟨ys, F, ValsF.single hc⟩) h1
    obtain ⟨y2, v2, F2, e2, d2⟩ := es _ (by omega) _ _ h2
    obtain ⟨y3, v3, F3, e3, d3⟩ := read_slice Try.underlying66 cells163 (by decide) PSort.row_len (fun n' cs' x' hn h' => (ih n' (by omega)).2.2 cs' x' h') h3
    obtain ⟨y4, v4, F4, e4, d4⟩ := es _ (by omega) _ _ h4
    obtain ⟨y5, v5, F5, e5, d5⟩ := read_slice Try.underlying67 cells9 (by decide) srow_len (fun n' cs' x' hn h' => read_str h') h5
    obtain ⟨n6, e6, _⟩ := DataW.trod_bool Try.underlying4 h6
    obtain ⟨n7, e7, _⟩ := DataW.trod_int Try.underlying3 h7
    simp only [List.cons.injEq, and_true] at e0 e1 e2 e3 e4 e5 e6 e7
    subst e0 e1 e2 e3 e4 e5 e6 e7
    exact ⟨.mk y0 y1 y2 y3 y4 y5 n6 n7, _, Plan.mk_vals d0 d1 d2 d3 d4 d5⟩

  · skip
    obtain ⟨xs, k, hk, _, hl, hlen, hf⟩ := DataW.trod_struct Try.underlying163 h
    rw [cells163] at hl
    obtain ⟨c0, r0, rfl, hl1⟩ := list_cons hl
    obtain ⟨c1, r1, rfl, hl2⟩ := list_cons hl1
    obtain ⟨c2, r2, rfl, hl3⟩ := list_cons hl2
    obtain ⟨c3, r3, rfl, hl4⟩ := list_cons hl3
    obtain ⟨c4, r4, rfl, hl5⟩ := list_cons hl4
    obtain ⟨c5, r5, rfl, hl6⟩ := list_cons hl5
    obtain ⟨c6, r6, rfl, hl7⟩ := list_cons hl6
    obtain ⟨c7, r7, rfl, hl8⟩ := list_cons hl7
    obtain ⟨c8, r8, rfl, hl9⟩ := list_cons hl8
    obtain ⟨c9, r9, rfl, hl10⟩ := list_cons hl9
    obtain ⟨c10, rfl⟩ := list_one hl10
    obtain ⟨x0, s0, rfl, hlen1⟩ := list_cons hlen
    obtain ⟨x1, rfl⟩ := list_one hlen1
    have h0 : DataW.trod enc Try.prog W base sp held k 50 (([c0, c1, c2, c3, c4, c5, c6, c7, c8, c9, c10].drop 0).take (Try.prog.cellsOf 50)) = some x0 := hf 0 _ rfl
    rw [cells50] at h0
    have h0 : DataW.trod enc Try.prog W base sp held k 50 [c0, c1, c2, c3, c4, c5, c6, c7, c8, c9] = some x0 := h0
    have h1 : DataW.trod enc Try.prog W base sp held k 4 (([c0, c1, c2, c3, c4, c5, c6, c7, c8, c9, c10].drop 10).take (Try.prog.cellsOf 4)) = some x1 := hf 1 _ rfl
    rw [cells4] at h1
    have h1 : DataW.trod enc Try.prog W base sp held k 4 [c10] = some x1 := h1
    obtain ⟨e, F, hv⟩ := (ih k (by omega)).1 _ _ h0
    obtain ⟨n1, e1, _⟩ := DataW.trod_bool Try.underlying4 h1
    simp only [List.cons.injEq, and_true] at e1
    subst e1
    exact ⟨.mk e n1, F, PSort.mk_vals hv⟩

end
end Go.Proofs.Ytklligemdfnimaa
