/-
  The program and the reference carry negations inwards alike, for all arguments: FnExactPositive holds.
  Conditions: none.
-/
import Derived.Test.YtklligemdfnimaaPosA
import Derived.Test.YtklligemdfnimaaRows
import Derived.ProofKit
import Derived.OpenShut
set_option linter.unusedVariables false
set_option linter.unusedSimpArgs false
set_option linter.unusedVariables false
set_option linter.unusedSimpArgs false
set_option maxRecDepth 4000
namespace Go.Proofs.Ytklligemdfnimaa
open Go Go.Vc
def sp : Bool → PExpr → PExpr
  | true => negE
  | false => posE
/-- What the reference does with a tree of its own. -/
def SaR (m : World) (F : List Nat) (e' : PExpr) (r : Value) (m' : World) : Prop :=
  ∃ us F', r = .agg us.toArray ∧ ValsF m' e'.row us F' ∧ Chg F m m' ∧ F'.Nodup ∧ Own m' F' ∧ (∀ x ∈ F', x ∈ F ∨ ¬ Go.Vc.vis m x)
def SaC (b : Bool) (e : PExpr) : Prop := ∀ (m : World) (vs : List Value) (F : List Nat), ValsF m e.row vs F → F.Nodup → Own m F → FCalls Try.prog 81 #[.agg vs.toArray, .bool b] m fun r m' => SaR m F (sp b e) r m'
theorem l31Not_c (k o n v u a ks ss) (m : World) (vs : List Value) (F : List Nat) (h : ValsF m (PExpr.mk k o n v u a ks ss).row vs F) : FCalls Try.prog 138 #[.agg vs.toArray] m fun r m' => m' = m ∧ r = .bool (decide ((k = 3 ∧ o = 15) ∧ ks.length = 1)) := by
  have h0 := h
  obtain ⟨x, y, F1, F2, rfl, hv, c1, c2, rfl⟩ := PExpr.vals h0
  obtain ⟨ax, px, rfl, hax1, hax2, _⟩ := c1.slice
  obtain ⟨ay, py, rfl, _⟩ := c2.slice
  refine fcalls_of_vc (args := [_]) follows_mixed Try.func138 rfl (by kernel_rfl) (by simp [Try.f138]) ?_
  simp only [Try.f138, vcs, tbl, List.map, reduceIte, Nat.reduceLT, Nat.reduceLeDiff, Nat.reduceEqDiff, Nat.reduceAdd, Nat.reduceMul, Nat.reduceSub, true_and, and_true, decide_eq_true_eq, decide_eq_false_iff_not, List.cons_append, List.nil_append, Bool.false_eq_true, Array.empty_append, Array.append_empty, List.length_cons, List.length_nil, List.getElem?_cons_succ, List.getElem?_cons_zero, Option.some.injEq, Int.toNat_natCast, valsOf_map, List.toList_toArray, List.flatMap_cons, List.flatMap_nil, List.append_nil, List.take_succ_cons, List.take_zero, List.drop_zero, List.drop_succ_cons, Option.bind_some, List.all_cons, List.all_nil, Bool.and_true, Bool.and_self, ne_eq, reduceCtorEq, not_false_eq_true, and_self]
  refine ⟨fun h1 => ?_, fun h1 => ?_⟩
  · have h1 : k = 3 := by simpa using h1
    simp only [vcs, tbl, List.map, reduceIte, Nat.reduceLT, Nat.reduceLeDiff, Nat.reduceEqDiff, Nat.reduceAdd, Nat.reduceMul, Nat.reduceSub, true_and, and_true, decide_eq_true_eq, decide_eq_false_iff_not, List.cons_append, List.nil_append, Bool.false_eq_true, Array.empty_append, Array.append_empty, List.length_cons, List.length_nil, List.getElem?_cons_succ, List.getElem?_cons_zero, Option.some.injEq, Int.toNat_natCast, valsOf_map, List.toList_toArray, List.flatMap_cons, List.flatMap_nil, List.append_nil, List.take_succ_cons, List.take_zero, List.drop_zero, List.drop_succ_cons, Option.bind_some, List.all_cons, List.all_nil, Bool.and_true, Bool.and_self, ne_eq, reduceCtorEq, not_false_eq_true, and_self]
    refine ⟨fun h2 => ?_, fun h2 => ?_⟩
    · simp only [vcs, tbl, List.map, reduceIte, Nat.reduceLT, Nat.reduceLeDiff, Nat.reduceEqDiff, Nat.reduceAdd, Nat.reduceMul, Nat.reduceSub, true_and, and_true, decide_eq_true_eq, decide_eq_false_iff_not, List.cons_append, List.nil_append, Bool.false_eq_true, Array.empty_append, Array.append_empty, List.length_cons, List.length_nil, List.getElem?_cons_succ, List.getElem?_cons_zero, Option.some.injEq, Int.toNat_natCast, valsOf_map, List.toList_toArray, List.flatMap_cons, List.flatMap_nil, List.append_nil, List.take_succ_cons, List.take_zero, List.drop_zero, List.drop_succ_cons, Option.bind_some, List.all_cons, List.all_nil, Bool.and_true, Bool.and_self, ne_eq, reduceCtorEq, not_false_eq_true, and_self]
      simp_all; try omega
    · simp only [vcs, tbl, List.map, reduceIte, Nat.reduceLT, Nat.reduceLeDiff, Nat.reduceEqDiff, Nat.reduceAdd, Nat.reduceMul, Nat.reduceSub, true_and, and_true, decide_eq_true_eq, decide_eq_false_iff_not, List.cons_append, List.nil_append, Bool.false_eq_true, Array.empty_append, Array.append_empty, List.length_cons, List.length_nil, List.getElem?_cons_succ, List.getElem?_cons_zero, Option.some.injEq, Int.toNat_natCast, valsOf_map, List.toList_toArray, List.flatMap_cons, List.flatMap_nil, List.append_nil, List.take_succ_cons, List.take_zero, List.drop_zero, List.drop_succ_cons, Option.bind_some, List.all_cons, List.all_nil, Bool.and_true, Bool.and_self, ne_eq, reduceCtorEq, not_false_eq_true, and_self]
      simp_all
  · simp only [vcs, tbl, List.map, reduceIte, Nat.reduceLT, Nat.reduceLeDiff, Nat.reduceEqDiff, Nat.reduceAdd, Nat.reduceMul, Nat.reduceSub, true_and, and_true, decide_eq_true_eq, decide_eq_false_iff_not, List.cons_append, List.nil_append, Bool.false_eq_true, Array.empty_append, Array.append_empty, List.length_cons, List.length_nil, List.getElem?_cons_succ, List.getElem?_cons_zero, Option.some.injEq, Int.toNat_natCast, valsOf_map, List.toList_toArray, List.flatMap_cons, List.flatMap_nil, List.append_nil, List.take_succ_cons, List.take_zero, List.drop_zero, List.drop_succ_cons, Option.bind_some, List.all_cons, List.all_nil, Bool.and_true, Bool.and_self, ne_eq, reduceCtorEq, not_false_eq_true, and_self]
    have h1 : ¬ k = 3 := by simpa using h1
    simp_all
theorem l1In_c (x lo hi : Int) (m : World) : FCalls Try.prog 41 #[.int .i64 x, .int .i64 lo, .int .i64 hi] m fun r m' => m' = m ∧ r = .bool (decide (lo ≤ x ∧ x ≤ hi)) := by
  refine fcalls_of_vc (args := [_, _, _]) follows_mixed Try.func41 rfl (by kernel_rfl) (by simp [Try.f41]) ?_
  simp only [Try.f41, vcs, tbl, List.map, reduceIte, Nat.reduceLT, Nat.reduceLeDiff, Nat.reduceEqDiff, Nat.reduceAdd, Nat.reduceMul, Nat.reduceSub, true_and, and_true, decide_eq_true_eq, decide_eq_false_iff_not, List.cons_append, List.nil_append, Bool.false_eq_true, Array.empty_append, Array.append_empty, List.length_cons, List.length_nil, List.getElem?_cons_succ, List.getElem?_cons_zero, Option.some.injEq, Int.toNat_natCast, valsOf_map, List.toList_toArray, List.flatMap_cons, List.flatMap_nil, List.append_nil, List.take_succ_cons, List.take_zero, List.drop_zero, List.drop_succ_cons, Option.bind_some, List.all_cons, List.all_nil, Bool.and_true, Bool.and_self, ne_eq, reduceCtorEq, not_false_eq_true, and_self]
  refine ⟨fun h1 => ?_, fun h1 => ?_⟩
  · simp only [vcs, tbl, List.map, reduceIte, Nat.reduceLT, Nat.reduceLeDiff, Nat.reduceEqDiff, Nat.reduceAdd, Nat.reduceMul, Nat.reduceSub, true_and, and_true, decide_eq_true_eq, decide_eq_false_iff_not, List.cons_append, List.nil_append, Bool.false_eq_true, Array.empty_append, Array.append_empty, List.length_cons, List.length_nil, List.getElem?_cons_succ, List.getElem?_cons_zero, Option.some.injEq, Int.toNat_natCast, valsOf_map, List.toList_toArray, List.flatMap_cons, List.flatMap_nil, List.append_nil, List.take_succ_cons, List.take_zero, List.drop_zero, List.drop_succ_cons, Option.bind_some, List.all_cons, List.all_nil, Bool.and_true, Bool.and_self, ne_eq, reduceCtorEq, not_false_eq_true, and_self]
    simp_all
  · simp only [vcs, tbl, List.map, reduceIte, Nat.reduceLT, Nat.reduceLeDiff, Nat.reduceEqDiff, Nat.reduceAdd, Nat.reduceMul, Nat.reduceSub, true_and, and_true, decide_eq_true_eq, decide_eq_false_iff_not, List.cons_append, List.nil_append, Bool.false_eq_true, Array.empty_append, Array.append_empty, List.length_cons, List.length_nil, List.getElem?_cons_succ, List.getElem?_cons_zero, Option.some.injEq, Int.toNat_natCast, valsOf_map, List.toList_toArray, List.flatMap_cons, List.flatMap_nil, List.append_nil, List.take_succ_cons, List.take_zero, List.drop_zero, List.drop_succ_cons, Option.bind_some, List.all_cons, List.all_nil, Bool.and_true, Bool.and_self, ne_eq, reduceCtorEq, not_false_eq_true, and_self]
    simp_all; try omega
theorem specAgainst_c (o : Int) (m : World) : FCalls Try.prog 10 #[.int .i64 o] m fun r m' => Grow m m' ∧ r = .int .i64 (against o) := by
  refine fcalls_of_vc (args := [_]) follows_mixed Try.func10 rfl (by kernel_rfl) (by simp [Try.f10]) ?_
  simp only [Try.f10, vcs, tbl, List.map, reduceIte, Nat.reduceLT, Nat.reduceLeDiff, Nat.reduceEqDiff, Nat.reduceAdd, Nat.reduceMul, Nat.reduceSub, true_and, and_true, decide_eq_true_eq, decide_eq_false_iff_not, List.cons_append, List.nil_append, Bool.false_eq_true, Array.empty_append, Array.append_empty, List.length_cons, List.length_nil, List.getElem?_cons_succ, List.getElem?_cons_zero, Option.some.injEq, Int.toNat_natCast, valsOf_map, List.toList_toArray, List.flatMap_cons, List.flatMap_nil, List.append_nil, List.take_succ_cons, List.take_zero, List.drop_zero, List.drop_succ_cons, Option.bind_some, List.all_cons, List.all_nil, Bool.and_true, Bool.and_self, ne_eq, reduceCtorEq, not_false_eq_true, and_self]
  refine (l1In_c o 1 8 m).mono ?_
  rintro r m1 ⟨rfl, rfl⟩
  have hr9 : List.range 9 = [0, 1, 2, 3, 4, 5, 6, 7, 8] := rfl
  have hz9 : (List.replicate 9 [Value.int .i64 0]).flatten = [.int .i64 0, .int .i64 0, .int .i64 0, .int .i64 0, .int .i64 0, .int .i64 0, .int .i64 0, .int .i64 0, .int .i64 0] := rfl
  by_cases hb : 1 ≤ o ∧ o ≤ 8
  · have hd : decide (1 ≤ o ∧ o ≤ 8) = true := by simpa using hb
    rw [hd]
    have h8 : o = 1 ∨ o = 2 ∨ o = 3 ∨ o = 4 ∨ o = 5 ∨ o = 6 ∨ o = 7 ∨ o = 8 := by omega
    rcases h8 with rfl | rfl | rfl | rfl | rfl | rfl | rfl | rfl
    all_goals
      simp only [vcs, tbl, List.map, reduceIte, Nat.reduceLT, Nat.reduceLeDiff, Nat.reduceEqDiff, Nat.reduceAdd, Nat.reduceMul, Nat.reduceSub, true_and, and_true, decide_eq_true_eq, decide_eq_false_iff_not, List.cons_append, List.nil_append, Bool.false_eq_true, Array.empty_append, Array.append_empty, List.length_cons, List.length_nil, List.getElem?_cons_succ, List.getElem?_cons_zero, Option.some.injEq, Int.toNat_natCast, valsOf_map, List.toList_toArray, List.flatMap_cons, List.flatMap_nil, List.append_nil, List.take_succ_cons, List.take_zero, List.drop_zero, List.drop_succ_cons, Option.bind_some, List.all_cons, List.all_nil, Bool.and_true, Bool.and_self, ne_eq, reduceCtorEq, not_false_eq_true, and_self, hr9, hz9, Bool.not_true]
      refine ⟨fun h => h.elim, fun _ => ?_⟩
      exact ⟨by omega, by omega, _, rfl, Grow.refl _, by simp [against]⟩
  · have hd : decide (1 ≤ o ∧ o ≤ 8) = false := by simpa using hb
    rw [hd]
    simp only [vcs, tbl, List.map, reduceIte, Nat.reduceLT, Nat.reduceLeDiff, Nat.reduceEqDiff, Nat.reduceAdd, Nat.reduceMul, Nat.reduceSub, true_and, and_true, decide_eq_true_eq, decide_eq_false_iff_not, List.cons_append, List.nil_append, Bool.false_eq_true, Array.empty_append, Array.append_empty, List.length_cons, List.length_nil, List.getElem?_cons_succ, List.getElem?_cons_zero, Option.some.injEq, Int.toNat_natCast, valsOf_map, List.toList_toArray, List.flatMap_cons, List.flatMap_nil, List.append_nil, List.take_succ_cons, List.take_zero, List.drop_zero, List.drop_succ_cons, Option.bind_some, List.all_cons, List.all_nil, Bool.and_true, Bool.and_self, ne_eq, reduceCtorEq, not_false_eq_true, and_self, Bool.not_false]
    have : against o = 0 := by rw [against, if_neg (by omega), if_neg (by omega), if_neg (by omega), if_neg (by omega), if_neg (by omega), if_neg (by omega), if_neg (by omega), if_neg (by omega)]
    rw [this]
    exact ⟨fun _ => ⟨Grow.refl _, rfl⟩, fun h => h.elim⟩

theorem l31Kids_c (k o n v u a ks ss) (b : Bool) (hk : ∀ e ∈ ks, SaC b e) (m : World) (vs : List Value) (F : List Nat) (h : ValsF m (PExpr.mk k o n v u a ks ss).row vs F) (hn : F.Nodup) (ho : Own m F) :
   FCalls Try.prog 139 #[.agg vs.toArray, .bool b] m fun r m' => SaR m F (.mk k o n v u a (ks.map (sp b)) ss) r m' := by
  have hml : maxLen = 9223372036854775807 := rfl
  have h0 := h
  obtain ⟨x, y, F1, F2, rfl, hv, c1, c2, rfl⟩ := PExpr.vals h0
  obtain ⟨ax, px, rfl, hax1, hax2, _⟩ := c1.slice
  obtain ⟨ay, py, rfl, _⟩ := c2.slice
  have hn0 := hn
  rw [List.nodup_append] at hn0
  obtain ⟨n1, n2, n12⟩ := hn0
  have o1 : Own m F1 := ho.sub (by simp; intro x hx; simp [hx])
  have o2 : Own m F2 := ho.sub (by simp; intro x hx; simp [hx])
  refine fcalls_of_vc (args := [_, _]) follows_mixed Try.func139 rfl (by kernel_rfl) (by simp [Try.f139]) ?_
  simp only [Try.f139, vcs, tbl, List.map, reduceIte, Nat.reduceLT, Nat.reduceLeDiff, Nat.reduceEqDiff, Nat.reduceAdd, Nat.reduceMul, Nat.reduceSub, true_and, and_true, decide_eq_true_eq, decide_eq_false_iff_not, List.cons_append, List.nil_append, Bool.false_eq_true, Array.empty_append, Array.append_empty, List.length_cons, List.length_nil, List.getElem?_cons_succ, List.getElem?_cons_zero, Option.some.injEq, Int.toNat_natCast, valsOf_map, List.toList_toArray, List.flatMap_cons, List.flatMap_nil, List.append_nil, List.take_succ_cons, List.take_zero, List.drop_zero, List.drop_succ_cons, Option.bind_some, List.all_cons, List.all_nil, Bool.and_true, Bool.and_self, ne_eq, reduceCtorEq, not_false_eq_true, and_self]
  by_cases hks : ks = []
  · subst hks
    refine vcLoop.intro (fun f L m1 => f 5 = .c (.v (.int .i64 0)) ∧ m1 = m ∧ L = [(4, .str 56 [.v (.int .i64 0), .v (.int .i64 0), .v (.bool false), .v (.int .i64 0), .v (.int .i64 0), .v (.string ByteArray.empty), .v (.int .i64 0), .v (.int .i64 0), .v (.slice none 0 0), .v (.slice none 0 0)]), (2, .str 56 [.v (.int .i64 k), .v (.int .i64 o), .v (.bool n), .v (.int .i64 v.kind), .v (.int .i64 v.num), .v (.string v.text), .v (.int .i64 u), .v (.int .i64 a), .v (.slice ax 0 px), .v (.slice ay ss.length py)])]) (fun _ _ _ => 0) ⟨_, Sub.at 4 rfl (Sub.at 2 rfl (Sub.nil _)), ?_⟩ ?_
    · simp only [vcs, tbl, List.map, reduceIte, Nat.reduceLT, Nat.reduceLeDiff, Nat.reduceEqDiff, Nat.reduceAdd, Nat.reduceMul, Nat.reduceSub, true_and, and_true, decide_eq_true_eq, decide_eq_false_iff_not, List.cons_append, List.nil_append, Bool.false_eq_true, Array.empty_append, Array.append_empty, List.length_cons, List.length_nil, List.getElem?_cons_succ, List.getElem?_cons_zero, Option.some.injEq, Int.toNat_natCast, valsOf_map, List.toList_toArray, List.flatMap_cons, List.flatMap_nil, List.append_nil, List.take_succ_cons, List.take_zero, List.drop_zero, List.drop_succ_cons, Option.bind_some, List.all_cons, List.all_nil, Bool.and_true, Bool.and_self, ne_eq, reduceCtorEq, not_false_eq_true, and_self]
    · rintro g L1 m1 ⟨h5, rfl, rfl⟩
      simp only [vcs, tbl, List.map, reduceIte, Nat.reduceLT, Nat.reduceLeDiff, Nat.reduceEqDiff, Nat.reduceAdd, Nat.reduceMul, Nat.reduceSub, true_and, and_true, decide_eq_true_eq, decide_eq_false_iff_not, List.cons_append, List.nil_append, Bool.false_eq_true, Array.empty_append, Array.append_empty, List.length_cons, List.length_nil, List.getElem?_cons_succ, List.getElem?_cons_zero, Option.some.injEq, Int.toNat_natCast, valsOf_map, List.toList_toArray, List.flatMap_cons, List.flatMap_nil, List.append_nil, List.take_succ_cons, List.take_zero, List.drop_zero, List.drop_succ_cons, Option.bind_some, List.all_cons, List.all_nil, Bool.and_true, Bool.and_self, ne_eq, reduceCtorEq, not_false_eq_true, and_self] at h5
      simp only [vcs, tbl, List.map, reduceIte, Nat.reduceLT, Nat.reduceLeDiff, Nat.reduceEqDiff, Nat.reduceAdd, Nat.reduceMul, Nat.reduceSub, true_and, and_true, decide_eq_true_eq, decide_eq_false_iff_not, List.cons_append, List.nil_append, Bool.false_eq_true, Array.empty_append, Array.append_empty, List.length_cons, List.length_nil, List.getElem?_cons_succ, List.getElem?_cons_zero, Option.some.injEq, Int.toNat_natCast, valsOf_map, List.toList_toArray, List.flatMap_cons, List.flatMap_nil, List.append_nil, List.take_succ_cons, List.take_zero, List.drop_zero, List.drop_succ_cons, Option.bind_some, List.all_cons, List.all_nil, Bool.and_true, Bool.and_self, ne_eq, reduceCtorEq, not_false_eq_true, and_self, h5]
      refine ⟨fun hlt => by simp at hlt, fun _ => ?_⟩
      exact ⟨_, _, rfl, PExpr.mk_vals hv c1 c2, Chg.refl _ _, hn, ho, fun x hx => .inl hx⟩
  · have hne : ks.flatMap PExpr.row ≠ [] := fun e => by have := congrArg List.length e; rw [flatMap_len PExpr.row_len] at this; have h0 : ([] : List D).length = 0 := rfl; have : ks.length ≠ 0 := fun e => hks (List.eq_nil_of_length_eq_zero e); omega
    obtain ⟨bk, ok, hax, hS0⟩ := Sd.start c1 hne n1 o1
    subst hax
    refine vcLoop.intro (fun f L m1 => ∃ i : Nat, f 5 = .c (.v (.int .i64 i)) ∧ i ≤ ks.length ∧ L = [(4, .str 56 [.v (.int .i64 0), .v (.int .i64 0), .v (.bool false), .v (.int .i64 0), .v (.int .i64 0), .v (.string ByteArray.empty), .v (.int .i64 0), .v (.int .i64 0), .v (.slice none 0 0), .v (.slice none 0 0)]), (2, .str 56 [.v (.int .i64 k), .v (.int .i64 o), .v (.bool n), .v (.int .i64 v.kind), .v (.int .i64 v.num), .v (.string v.text), .v (.int .i64 u), .v (.int .i64 a), .v (.slice (some ⟨bk, ok, none⟩) ks.length px), .v (.slice ay ss.length py)])] ∧ Sd m F1 m1 bk ok (((ks.take i).map (sp b)).flatMap PExpr.row) ((ks.drop i).flatMap PExpr.row))
      (fun f _ _ => (ks.length - ixS (f 5)).toNat) ⟨_, Sub.at 4 rfl (Sub.at 2 rfl (Sub.nil _)), 0, ?_⟩ ?_
    · simp only [vcs, tbl, List.map, reduceIte, Nat.reduceLT, Nat.reduceLeDiff, Nat.reduceEqDiff, Nat.reduceAdd, Nat.reduceMul, Nat.reduceSub, true_and, and_true, decide_eq_true_eq, decide_eq_false_iff_not, List.cons_append, List.nil_append, Bool.false_eq_true, Array.empty_append, Array.append_empty, List.length_cons, List.length_nil, List.getElem?_cons_succ, List.getElem?_cons_zero, Option.some.injEq, Int.toNat_natCast, valsOf_map, List.toList_toArray, List.flatMap_cons, List.flatMap_nil, List.append_nil, List.take_succ_cons, List.take_zero, List.drop_zero, List.drop_succ_cons, Option.bind_some, List.all_cons, List.all_nil, Bool.and_true, Bool.and_self, ne_eq, reduceCtorEq, not_false_eq_true, and_self]
      exact ⟨rfl, Nat.zero_le _, by simpa using hS0⟩
    · rintro g L1 m1 ⟨i, h5, hi, rfl, hS⟩
      simp only [vcs, tbl, List.map, reduceIte, Nat.reduceLT, Nat.reduceLeDiff, Nat.reduceEqDiff, Nat.reduceAdd, Nat.reduceMul, Nat.reduceSub, true_and, and_true, decide_eq_true_eq, decide_eq_false_iff_not, List.cons_append, List.nil_append, Bool.false_eq_true, Array.empty_append, Array.append_empty, List.length_cons, List.length_nil, List.getElem?_cons_succ, List.getElem?_cons_zero, Option.some.injEq, Int.toNat_natCast, valsOf_map, List.toList_toArray, List.flatMap_cons, List.flatMap_nil, List.append_nil, List.take_succ_cons, List.take_zero, List.drop_zero, List.drop_succ_cons, Option.bind_some, List.all_cons, List.all_nil, Bool.and_true, Bool.and_self, ne_eq, reduceCtorEq, not_false_eq_true, and_self] at h5
      simp only [vcs, tbl, List.map, reduceIte, Nat.reduceLT, Nat.reduceLeDiff, Nat.reduceEqDiff, Nat.reduceAdd, Nat.reduceMul, Nat.reduceSub, true_and, and_true, decide_eq_true_eq, decide_eq_false_iff_not, List.cons_append, List.nil_append, Bool.false_eq_true, Array.empty_append, Array.append_empty, List.length_cons, List.length_nil, List.getElem?_cons_succ, List.getElem?_cons_zero, Option.some.injEq, Int.toNat_natCast, valsOf_map, List.toList_toArray, List.flatMap_cons, List.flatMap_nil, List.append_nil, List.take_succ_cons, List.take_zero, List.drop_zero, List.drop_succ_cons, Option.bind_some, List.all_cons, List.all_nil, Bool.and_true, Bool.and_self, ne_eq, reduceCtorEq, not_false_eq_true, and_self, h5]
      refine ⟨fun hlt => ?_, fun hge => ?_⟩
      · have hlt : i < ks.length := by omega
        have hkk := hk _ (List.getElem_mem hlt)
        have hmt : ((ks.take (i + 1)).map (sp b)).flatMap PExpr.row = ((ks.take i).map (sp b)).flatMap PExpr.row ++ (sp b ks[i]).row := by rw [List.take_add_one, List.getElem?_eq_getElem hlt, List.map_append, List.flatMap_append]; simp only [Option.toList_some, List.map_cons, List.map_nil, List.flatMap_cons, List.flatMap_nil, List.append_nil]
        have hd : ks.drop i = ks[i] :: ks.drop (i + 1) := List.drop_eq_getElem_cons hlt
        rw [hd, List.flatMap_cons] at hS
        have hdl : (((ks.take i).map (sp b)).flatMap PExpr.row).length = i * 10 := by rw [flatMap_len PExpr.row_len, List.length_map, List.length_take]; congr 1; omega
        obtain ⟨ve, Fe, hcell, hve, nd, ow, hFe, nx⟩ := hS.step (p := ok + i * 10) (by rw [hdl])
        have hvl : ve.length = 10 := by rw [hve.length, PExpr.row_len]
        refine vcDrawn.introX [22, 14, 17, 20] (.take 0 (.take 2 (.take 3 (.take 5 (.take 8 (.brX 1 (.brX 4 (.take 6 (.brX 7 (.brX 9 (.take 10 (.br 11 .done .nobr)) .nobr) .nobr)) .nobr) (.brX 4 (.take 6 (.brX 1 (.brX 7 (.brX 9 (.take 10 (.br 11 .done .nobr)) .nobr) .nobr) (.brX 7 (.brX 1 (.brX 9 (.take 10 (.br 11 .done .nobr)) .nobr) (.brX 9 (.brX 1 (.take 10 (.br 11 .done .nobr)) .nobr) .nobr)) .nobr))) .nobr))))))) (by kernel_rfl) ?_
        simp only [vcs, tbl, List.map, reduceIte, Nat.reduceLT, Nat.reduceLeDiff, Nat.reduceEqDiff, Nat.reduceAdd, Nat.reduceMul, Nat.reduceSub, true_and, and_true, decide_eq_true_eq, decide_eq_false_iff_not, List.cons_append, List.nil_append, Bool.false_eq_true, Array.empty_append, Array.append_empty, List.length_cons, List.length_nil, List.getElem?_cons_succ, List.getElem?_cons_zero, Option.some.injEq, Int.toNat_natCast, valsOf_map, List.toList_toArray, List.flatMap_cons, List.flatMap_nil, List.append_nil, List.take_succ_cons, List.take_zero, List.drop_zero, List.drop_succ_cons, Option.bind_some, List.all_cons, List.all_nil, Bool.and_true, Bool.and_self, ne_eq, reduceCtorEq, not_false_eq_true, and_self, h5]
        refine ⟨?_, by omega, by omega, _, rfl, ?_, ?_⟩
        · skip
          refine ⟨by omega, by omega, _, rfl, ve, hvl, fun j v hj => by simpa [add_lit0] using hcell j v hj, ?_⟩
          simp only [vcs, tbl, List.map, reduceIte, Nat.reduceLT, Nat.reduceLeDiff, Nat.reduceEqDiff, Nat.reduceAdd, Nat.reduceMul, Nat.reduceSub, true_and, and_true, decide_eq_true_eq, decide_eq_false_iff_not, List.cons_append, List.nil_append, Bool.false_eq_true, Array.empty_append, Array.append_empty, List.length_cons, List.length_nil, List.getElem?_cons_succ, List.getElem?_cons_zero, Option.some.injEq, Int.toNat_natCast, valsOf_map, List.toList_toArray, List.flatMap_cons, List.flatMap_nil, List.append_nil, List.take_succ_cons, List.take_zero, List.drop_zero, List.drop_succ_cons, Option.bind_some, List.all_cons, List.all_nil, Bool.and_true, Bool.and_self, ne_eq, reduceCtorEq, not_false_eq_true, and_self, h5]
          refine (hkk _ _ _ hve nd ow).mono ?_
          rintro r m2 ⟨us, F', rfl, hvr, cg, nd', ow', hsub⟩
          generalize sp b ks[i] = e' at hvr hmt
          have hvr' := hvr
          obtain ⟨kd', op', nt', vl', up', ap', ks', ss'⟩ := e'
          obtain ⟨x', y', H1', H2', rfl, _, q1', q2', hF⟩ := PExpr.vals hvr'
          obtain ⟨ax', px', rfl, _⟩ := q1'.slice
          obtain ⟨ay', py', rfl, _⟩ := q2'.slice
          obtain ⟨hst, hS2⟩ := nx m2 _ _ F' cg hvr nd' ow' hsub (by rw [PExpr.row_len]; rfl)
          rw [PExpr.row_len] at hst
          simp only [vcs, tbl, List.map, reduceIte, Nat.reduceLT, Nat.reduceLeDiff, Nat.reduceEqDiff, Nat.reduceAdd, Nat.reduceMul, Nat.reduceSub, true_and, and_true, decide_eq_true_eq, decide_eq_false_iff_not, List.cons_append, List.nil_append, Bool.false_eq_true, Array.empty_append, Array.append_empty, List.length_cons, List.length_nil, List.getElem?_cons_succ, List.getElem?_cons_zero, Option.some.injEq, Int.toNat_natCast, valsOf_map, List.toList_toArray, List.flatMap_cons, List.flatMap_nil, List.append_nil, List.take_succ_cons, List.take_zero, List.drop_zero, List.drop_succ_cons, Option.bind_some, List.all_cons, List.all_nil, Bool.and_true, Bool.and_self, ne_eq, reduceCtorEq, not_false_eq_true, and_self, h5]
          refine ⟨by omega, by omega, _, rfl, ?_⟩
          simp only [vcs, tbl, List.map, reduceIte, Nat.reduceLT, Nat.reduceLeDiff, Nat.reduceEqDiff, Nat.reduceAdd, Nat.reduceMul, Nat.reduceSub, true_and, and_true, decide_eq_true_eq, decide_eq_false_iff_not, List.cons_append, List.nil_append, Bool.false_eq_true, Array.empty_append, Array.append_empty, List.length_cons, List.length_nil, List.getElem?_cons_succ, List.getElem?_cons_zero, Option.some.injEq, Int.toNat_natCast, valsOf_map, List.toList_toArray, List.flatMap_cons, List.flatMap_nil, List.append_nil, List.take_succ_cons, List.take_zero, List.drop_zero, List.drop_succ_cons, Option.bind_some, List.all_cons, List.all_nil, Bool.and_true, Bool.and_self, ne_eq, reduceCtorEq, not_false_eq_true, and_self, h5, add_lit0]
          refine ⟨hvr.oneCell, fun j hj => by simpa [add_lit0] using hst j hj, ?_⟩
          rw [wrap_id (by omega) (by omega)]
          refine ⟨_, Sub.at 4 rfl (Sub.at 2 rfl (Sub.nil _)), ⟨i + 1, by simp, by omega, rfl, ?_⟩, by omega⟩
          rw [hmt]; exact hS2
        · skip
          refine ⟨ve, hvl, fun j v hj => by simpa [add_lit0] using hcell j v hj, ?_⟩
          simp only [vcs, tbl, List.map, reduceIte, Nat.reduceLT, Nat.reduceLeDiff, Nat.reduceEqDiff, Nat.reduceAdd, Nat.reduceMul, Nat.reduceSub, true_and, and_true, decide_eq_true_eq, decide_eq_false_iff_not, List.cons_append, List.nil_append, Bool.false_eq_true, Array.empty_append, Array.append_empty, List.length_cons, List.length_nil, List.getElem?_cons_succ, List.getElem?_cons_zero, Option.some.injEq, Int.toNat_natCast, valsOf_map, List.toList_toArray, List.flatMap_cons, List.flatMap_nil, List.append_nil, List.take_succ_cons, List.take_zero, List.drop_zero, List.drop_succ_cons, Option.bind_some, List.all_cons, List.all_nil, Bool.and_true, Bool.and_self, ne_eq, reduceCtorEq, not_false_eq_true, and_self, h5]
          refine (hkk _ _ _ hve nd ow).mono ?_
          rintro r m2 ⟨us, F', rfl, hvr, cg, nd', ow', hsub⟩
          generalize sp b ks[i] = e' at hvr hmt
          have hvr' := hvr
          obtain ⟨kd', op', nt', vl', up', ap', ks', ss'⟩ := e'
          obtain ⟨x', y', H1', H2', rfl, _, q1', q2', hF⟩ := PExpr.vals hvr'
          obtain ⟨ax', px', rfl, _⟩ := q1'.slice
          obtain ⟨ay', py', rfl, _⟩ := q2'.slice
          obtain ⟨hst, hS2⟩ := nx m2 _ _ F' cg hvr nd' ow' hsub (by rw [PExpr.row_len]; rfl)
          rw [PExpr.row_len] at hst
          simp only [vcs, tbl, List.map, reduceIte, Nat.reduceLT, Nat.reduceLeDiff, Nat.reduceEqDiff, Nat.reduceAdd, Nat.reduceMul, Nat.reduceSub, true_and, and_true, decide_eq_true_eq, decide_eq_false_iff_not, List.cons_append, List.nil_append, Bool.false_eq_true, Array.empty_append, Array.append_empty, List.length_cons, List.length_nil, List.getElem?_cons_succ, List.getElem?_cons_zero, Option.some.injEq, Int.toNat_natCast, valsOf_map, List.toList_toArray, List.flatMap_cons, List.flatMap_nil, List.append_nil, List.take_succ_cons, List.take_zero, List.drop_zero, List.drop_succ_cons, Option.bind_some, List.all_cons, List.all_nil, Bool.and_true, Bool.and_self, ne_eq, reduceCtorEq, not_false_eq_true, and_self, h5]
          refine ⟨by omega, by omega, _, rfl, ?_⟩
          simp only [vcs, tbl, List.map, reduceIte, Nat.reduceLT, Nat.reduceLeDiff, Nat.reduceEqDiff, Nat.reduceAdd, Nat.reduceMul, Nat.reduceSub, true_and, and_true, decide_eq_true_eq, decide_eq_false_iff_not, List.cons_append, List.nil_append, Bool.false_eq_true, Array.empty_append, Array.append_empty, List.length_cons, List.length_nil, List.getElem?_cons_succ, List.getElem?_cons_zero, Option.some.injEq, Int.toNat_natCast, valsOf_map, List.toList_toArray, List.flatMap_cons, List.flatMap_nil, List.append_nil, List.take_succ_cons, List.take_zero, List.drop_zero, List.drop_succ_cons, Option.bind_some, List.all_cons, List.all_nil, Bool.and_true, Bool.and_self, ne_eq, reduceCtorEq, not_false_eq_true, and_self, h5, add_lit0]
          refine ⟨hvr.oneCell, fun j hj => by simpa [add_lit0] using hst j hj, ?_⟩
          rw [wrap_id (by omega) (by omega)]
          refine ⟨_, Sub.at 4 rfl (Sub.at 2 rfl (Sub.nil _)), ⟨i + 1, by simp, by omega, rfl, ?_⟩, by omega⟩
          rw [hmt]; exact hS2
        · skip
          refine ⟨ve, hvl, fun j v hj => by simpa [add_lit0] using hcell j v hj, ?_⟩
          simp only [vcs, tbl, List.map, reduceIte, Nat.reduceLT, Nat.reduceLeDiff, Nat.reduceEqDiff, Nat.reduceAdd, Nat.reduceMul, Nat.reduceSub, true_and, and_true, decide_eq_true_eq, decide_eq_false_iff_not, List.cons_append, List.nil_append, Bool.false_eq_true, Array.empty_append, Array.append_empty, List.length_cons, List.length_nil, List.getElem?_cons_succ, List.getElem?_cons_zero, Option.some.injEq, Int.toNat_natCast, valsOf_map, List.toList_toArray, List.flatMap_cons, List.flatMap_nil, List.append_nil, List.take_succ_cons, List.take_zero, List.drop_zero, List.drop_succ_cons, Option.bind_some, List.all_cons, List.all_nil, Bool.and_true, Bool.and_self, ne_eq, reduceCtorEq, not_false_eq_true, and_self, h5]
          refine ⟨?_, ?_⟩
          · skip
            refine (hkk _ _ _ hve nd ow).mono ?_
            rintro r m2 ⟨us, F', rfl, hvr, cg, nd', ow', hsub⟩
            generalize sp b ks[i] = e' at hvr hmt
            have hvr' := hvr
            obtain ⟨kd', op', nt', vl', up', ap', ks', ss'⟩ := e'
            obtain ⟨x', y', H1', H2', rfl, _, q1', q2', hF⟩ := PExpr.vals hvr'
            obtain ⟨ax', px', rfl, _⟩ := q1'.slice
            obtain ⟨ay', py', rfl, _⟩ := q2'.slice
            obtain ⟨hst, hS2⟩ := nx m2 _ _ F' cg hvr nd' ow' hsub (by rw [PExpr.row_len]; rfl)
            rw [PExpr.row_len] at hst
            simp only [vcs, tbl, List.map, reduceIte, Nat.reduceLT, Nat.reduceLeDiff, Nat.reduceEqDiff, Nat.reduceAdd, Nat.reduceMul, Nat.reduceSub, true_and, and_true, decide_eq_true_eq, decide_eq_false_iff_not, List.cons_append, List.nil_append, Bool.false_eq_true, Array.empty_append, Array.append_empty, List.length_cons, List.length_nil, List.getElem?_cons_succ, List.getElem?_cons_zero, Option.some.injEq, Int.toNat_natCast, valsOf_map, List.toList_toArray, List.flatMap_cons, List.flatMap_nil, List.append_nil, List.take_succ_cons, List.take_zero, List.drop_zero, List.drop_succ_cons, Option.bind_some, List.all_cons, List.all_nil, Bool.and_true, Bool.and_self, ne_eq, reduceCtorEq, not_false_eq_true, and_self, h5]
            refine ⟨by omega, by omega, _, rfl, ?_⟩
            simp only [vcs, tbl, List.map, reduceIte, Nat.reduceLT, Nat.reduceLeDiff, Nat.reduceEqDiff, Nat.reduceAdd, Nat.reduceMul, Nat.reduceSub, true_and, and_true, decide_eq_true_eq, decide_eq_false_iff_not, List.cons_append, List.nil_append, Bool.false_eq_true, Array.empty_append, Array.append_empty, List.length_cons, List.length_nil, List.getElem?_cons_succ, List.getElem?_cons_zero, Option.some.injEq, Int.toNat_natCast, valsOf_map, List.toList_toArray, List.flatMap_cons, List.flatMap_nil, List.append_nil, List.take_succ_cons, List.take_zero, List.drop_zero, List.drop_succ_cons, Option.bind_some, List.all_cons, List.all_nil, Bool.and_true, Bool.and_self, ne_eq, reduceCtorEq, not_false_eq_true, and_self, h5, add_lit0]
            refine ⟨hvr.oneCell, fun j hj => by simpa [add_lit0] using hst j hj, ?_⟩
            rw [wrap_id (by omega) (by omega)]
            refine ⟨_, Sub.at 4 rfl (Sub.at 2 rfl (Sub.nil _)), ⟨i + 1, by simp, by omega, rfl, ?_⟩, by omega⟩
            rw [hmt]; exact hS2
          · skip
            refine (hkk _ _ _ hve nd ow).mono ?_
            rintro r m2 ⟨us, F', rfl, hvr, cg, nd', ow', hsub⟩
            generalize sp b ks[i] = e' at hvr hmt
            have hvr' := hvr
            obtain ⟨kd', op', nt', vl', up', ap', ks', ss'⟩ := e'
            obtain ⟨x', y', H1', H2', rfl, _, q1', q2', hF⟩ := PExpr.vals hvr'
            obtain ⟨ax', px', rfl, _⟩ := q1'.slice
            obtain ⟨ay', py', rfl, _⟩ := q2'.slice
            obtain ⟨hst, hS2⟩ := nx m2 _ _ F' cg hvr nd' ow' hsub (by rw [PExpr.row_len]; rfl)
            rw [PExpr.row_len] at hst
            simp only [vcs, tbl, List.map, reduceIte, Nat.reduceLT, Nat.reduceLeDiff, Nat.reduceEqDiff, Nat.reduceAdd, Nat.reduceMul, Nat.reduceSub, true_and, and_true, decide_eq_true_eq, decide_eq_false_iff_not, List.cons_append, List.nil_append, Bool.false_eq_true, Array.empty_append, Array.append_empty, List.length_cons, List.length_nil, List.getElem?_cons_succ, List.getElem?_cons_zero, Option.some.injEq, Int.toNat_natCast, valsOf_map, List.toList_toArray, List.flatMap_cons, List.flatMap_nil, List.append_nil, List.take_succ_cons, List.take_zero, List.drop_zero, List.drop_succ_cons, Option.bind_some, List.all_cons, List.all_nil, Bool.and_true, Bool.and_self, ne_eq, reduceCtorEq, not_false_eq_true, and_self, h5]
            refine ⟨by omega, by omega, _, rfl, ?_⟩
            simp only [vcs, tbl, List.map, reduceIte, Nat.reduceLT, Nat.reduceLeDiff, Nat.reduceEqDiff, Nat.reduceAdd, Nat.reduceMul, Nat.reduceSub, true_and, and_true, decide_eq_true_eq, decide_eq_false_iff_not, List.cons_append, List.nil_append, Bool.false_eq_true, Array.empty_append, Array.append_empty, List.length_cons, List.length_nil, List.getElem?_cons_succ, List.getElem?_cons_zero, Option.some.injEq, Int.toNat_natCast, valsOf_map, List.toList_toArray, List.flatMap_cons, List.flatMap_nil, List.append_nil, List.take_succ_cons, List.take_zero, List.drop_zero, List.drop_succ_cons, Option.bind_some, List.all_cons, List.all_nil, Bool.and_true, Bool.and_self, ne_eq, reduceCtorEq, not_false_eq_true, and_self, h5, add_lit0]
            refine ⟨hvr.oneCell, fun j hj => by simpa [add_lit0] using hst j hj, ?_⟩
            rw [wrap_id (by omega) (by omega)]
            refine ⟨_, Sub.at 4 rfl (Sub.at 2 rfl (Sub.nil _)), ⟨i + 1, by simp, by omega, rfl, ?_⟩, by omega⟩
            rw [hmt]; exact hS2
      · have : i = ks.length := by omega
        subst this
        rw [List.take_length, List.drop_length] at hS
        obtain ⟨F', hc', nd', ow', cg, hsub⟩ := hS.done (n := ks.length) (cap := px) (fun e => hne (by have := congrArg List.length e; rw [flatMap_len PExpr.row_len, List.length_map] at this; have h0 : ([] : List D).length = 0 := rfl; rw [List.eq_nil_of_length_eq_zero (by omega : ks.length = 0)]; rfl)) hax1 hax2
        have d2 : ∀ x ∈ F2, x ∉ F1 := fun x hx e => n12 x e x hx rfl
        have c2' := c2.chg cg d2
        have v2 := CellF.vis _ c2
        refine ⟨_, F' ++ F2, rfl, PExpr.mk_valsK (List.length_map _) rfl hv hc' c2', cg.mono (by simp; intro x hx; exact .inl hx), ?_, ?_, ?_⟩
        · rw [List.nodup_append]
          refine ⟨nd', n2, fun x hx y hy e => ?_⟩
          subst e
          rcases hsub x hx with h | h
          · exact d2 x hy h
          · exact h (v2 x hy)
        · refine ow'.app fun x hx => ?_
          obtain ⟨cs, t, e⟩ := o2 x hx
          exact ⟨cs, t, (cg.blocks x (vis_of_own ⟨cs, t, e⟩) (d2 x hx)).trans e⟩
        · intro x hx
          rcases List.mem_append.1 hx with hx | hx
          · exact (hsub x hx).imp (fun h => by simp [h]) id
          · exact .inl (by simp [hx])

set_option maxHeartbeats 1000000 in
theorem l31Said_step (k o n v u a ks ss) (hk : ∀ e ∈ ks, ∀ b, SaC b e) (b : Bool) : SaC b (.mk k o n v u a ks ss) := by
  intro m vs F h hn ho
  have hml : maxLen = 9223372036854775807 := rfl
  have h0 := h
  obtain ⟨x, y, F1, F2, rfl, hv, c1, c2, rfl⟩ := PExpr.vals h0
  obtain ⟨ax, px, rfl, hax1, hax2, _⟩ := c1.slice
  obtain ⟨ay, py, rfl, _⟩ := c2.slice
  have hn0 := hn
  rw [List.nodup_append] at hn0
  obtain ⟨n1, n2, n12⟩ := hn0
  have o1 : Own m F1 := ho.sub (by simp; intro x hx; simp [hx])
  generalize hFF : F1 ++ F2 = F at h hn ho
  refine fcalls_of_vc (args := [_, _]) follows_mixed Try.func81 rfl (by kernel_rfl) (by simp [Try.f81]) ?_
  simp only [Try.f81, vcs, tbl, List.map, reduceIte, Nat.reduceLT, Nat.reduceLeDiff, Nat.reduceEqDiff, Nat.reduceAdd, Nat.reduceMul, Nat.reduceSub, true_and, and_true, decide_eq_true_eq, decide_eq_false_iff_not, List.cons_append, List.nil_append, Bool.false_eq_true, Array.empty_append, Array.append_empty, List.length_cons, List.length_nil, List.getElem?_cons_succ, List.getElem?_cons_zero, Option.some.injEq, Int.toNat_natCast, valsOf_map, List.toList_toArray, List.flatMap_cons, List.flatMap_nil, List.append_nil, List.take_succ_cons, List.take_zero, List.drop_zero, List.drop_succ_cons, Option.bind_some, List.all_cons, List.all_nil, Bool.and_true, Bool.and_self, ne_eq, reduceCtorEq, not_false_eq_true, and_self]
  refine (l31Not_c _ _ _ _ _ _ _ _ _ _ _ h).mono ?_
  rintro r m1 ⟨rfl, rfl⟩
  simp only [vcs, tbl, List.map, reduceIte, Nat.reduceLT, Nat.reduceLeDiff, Nat.reduceEqDiff, Nat.reduceAdd, Nat.reduceMul, Nat.reduceSub, true_and, and_true, decide_eq_true_eq, decide_eq_false_iff_not, List.cons_append, List.nil_append, Bool.false_eq_true, Array.empty_append, Array.append_empty, List.length_cons, List.length_nil, List.getElem?_cons_succ, List.getElem?_cons_zero, Option.some.injEq, Int.toNat_natCast, valsOf_map, List.toList_toArray, List.flatMap_cons, List.flatMap_nil, List.append_nil, List.take_succ_cons, List.take_zero, List.drop_zero, List.drop_succ_cons, Option.bind_some, List.all_cons, List.all_nil, Bool.and_true, Bool.and_self, ne_eq, reduceCtorEq, not_false_eq_true, and_self]
  refine ⟨fun h1 => ?_, fun h1 => ?_⟩
  · have h1 : (k = 3 ∧ o = 15) ∧ ks.length = 1 := by simpa using h1
    have hl0 : 0 < ks.length := by omega
    have hd : ks = ks[0] :: ks.drop 1 := by have := List.drop_eq_getElem_cons hl0; simpa using this
    have hne : ks.flatMap PExpr.row ≠ [] := fun e => by have := congrArg List.length e; rw [flatMap_len PExpr.row_len] at this; have h0 : ([] : List D).length = 0 := rfl; omega
    obtain ⟨bk, ok, hax, hS0⟩ := Sd.start c1 hne n1 o1
    subst hax
    have hfm : ks.flatMap PExpr.row = ks[0].row ++ (ks.drop 1).flatMap PExpr.row := by rw [← List.flatMap_cons, ← hd]
    rw [hfm] at hS0
    obtain ⟨ve, Fe, hcell, hve, nd, ow, hFe, nx⟩ := hS0.step (p := ok) (by simp)
    have hvl : ve.length = 10 := by rw [hve.length, PExpr.row_len]
    have hsp : sp b (.mk k o n v u a ks ss) = sp (!b) ks[0] := by
      cases b
      · show posE _ = negE _; rw [posE, if_pos h1, negEs_eq, hdE_map]
      · show negE _ = posE _; rw [negE, if_pos h1, posEs_eq, hdE_map]
    rw [hsp]
    refine ⟨by omega, by omega, _, rfl, ve, hvl, fun j v hj => by simpa [add_lit0] using hcell j v hj, ?_⟩
    simp only [vcs, tbl, List.map, reduceIte, Nat.reduceLT, Nat.reduceLeDiff, Nat.reduceEqDiff, Nat.reduceAdd, Nat.reduceMul, Nat.reduceSub, true_and, and_true, decide_eq_true_eq, decide_eq_false_iff_not, List.cons_append, List.nil_append, Bool.false_eq_true, Array.empty_append, Array.append_empty, List.length_cons, List.length_nil, List.getElem?_cons_succ, List.getElem?_cons_zero, Option.some.injEq, Int.toNat_natCast, valsOf_map, List.toList_toArray, List.flatMap_cons, List.flatMap_nil, List.append_nil, List.take_succ_cons, List.take_zero, List.drop_zero, List.drop_succ_cons, Option.bind_some, List.all_cons, List.all_nil, Bool.and_true, Bool.and_self, ne_eq, reduceCtorEq, not_false_eq_true, and_self]
    refine (hk _ (List.getElem_mem hl0) (!b) _ _ _ hve nd ow).mono ?_
    rintro r m2 ⟨us, F', rfl, hvr, cg, nd', ow', hsub⟩
    generalize sp (!b) ks[0] = e' at hvr
    have hvr' := hvr
    obtain ⟨kd', op', nt', vl', up', ap', ks', ss'⟩ := e'
    obtain ⟨x', y', H1', H2', rfl, _, q1', q2', hF⟩ := PExpr.vals hvr'
    obtain ⟨ax', px', rfl, _⟩ := q1'.slice
    obtain ⟨ay', py', rfl, _⟩ := q2'.slice
    simp only [vcs, tbl, List.map, reduceIte, Nat.reduceLT, Nat.reduceLeDiff, Nat.reduceEqDiff, Nat.reduceAdd, Nat.reduceMul, Nat.reduceSub, true_and, and_true, decide_eq_true_eq, decide_eq_false_iff_not, List.cons_append, List.nil_append, Bool.false_eq_true, Array.empty_append, Array.append_empty, List.length_cons, List.length_nil, List.getElem?_cons_succ, List.getElem?_cons_zero, Option.some.injEq, Int.toNat_natCast, valsOf_map, List.toList_toArray, List.flatMap_cons, List.flatMap_nil, List.append_nil, List.take_succ_cons, List.take_zero, List.drop_zero, List.drop_succ_cons, Option.bind_some, List.all_cons, List.all_nil, Bool.and_true, Bool.and_self, ne_eq, reduceCtorEq, not_false_eq_true, and_self]
    exact ⟨_, F', rfl, hvr, cg.mono (fun x hx => by rw [← hFF]; simp [hFe x hx]), nd', ow', fun x hx => (hsub x hx).imp (fun hx => by rw [← hFF]; simp [hFe x hx]) id⟩
  · have h1 : ¬ ((k = 3 ∧ o = 15) ∧ ks.length = 1) := by simpa using h1
    cases b with
    | false =>
      simp only [vcs, tbl, List.map, reduceIte, Nat.reduceLT, Nat.reduceLeDiff, Nat.reduceEqDiff, Nat.reduceAdd, Nat.reduceMul, Nat.reduceSub, true_and, and_true, decide_eq_true_eq, decide_eq_false_iff_not, List.cons_append, List.nil_append, Bool.false_eq_true, Array.empty_append, Array.append_empty, List.length_cons, List.length_nil, List.getElem?_cons_succ, List.getElem?_cons_zero, Option.some.injEq, Int.toNat_natCast, valsOf_map, List.toList_toArray, List.flatMap_cons, List.flatMap_nil, List.append_nil, List.take_succ_cons, List.take_zero, List.drop_zero, List.drop_succ_cons, Option.bind_some, List.all_cons, List.all_nil, Bool.and_true, Bool.and_self, ne_eq, reduceCtorEq, not_false_eq_true, and_self, Bool.not_false]
      refine ⟨fun _ => ?_, fun h => by simp at h⟩
      have hsp : sp false (.mk k o n v u a ks ss) = .mk k o n v u a (ks.map posE) ss := by show posE _ = _; rw [posE, if_neg h1, posEs_eq]
      rw [hsp]
      refine (l31Kids_c _ _ _ _ _ _ _ _ false (fun e he => hk e he false) _ _ _ h hn ho).mono ?_
      rintro r m5 ⟨us, F', rfl, hvr, cg, nd', ow', hsub⟩
      have hvr' := hvr
      obtain ⟨x', y', H1', H2', rfl, _, q1', q2', hF⟩ := PExpr.vals hvr'
      obtain ⟨ax', px', rfl, _⟩ := q1'.slice
      obtain ⟨ay', py', rfl, _⟩ := q2'.slice
      simp only [vcs, tbl, List.map, reduceIte, Nat.reduceLT, Nat.reduceLeDiff, Nat.reduceEqDiff, Nat.reduceAdd, Nat.reduceMul, Nat.reduceSub, true_and, and_true, decide_eq_true_eq, decide_eq_false_iff_not, List.cons_append, List.nil_append, Bool.false_eq_true, Array.empty_append, Array.append_empty, List.length_cons, List.length_nil, List.getElem?_cons_succ, List.getElem?_cons_zero, Option.some.injEq, Int.toNat_natCast, valsOf_map, List.toList_toArray, List.flatMap_cons, List.flatMap_nil, List.append_nil, List.take_succ_cons, List.take_zero, List.drop_zero, List.drop_succ_cons, Option.bind_some, List.all_cons, List.all_nil, Bool.and_true, Bool.and_self, ne_eq, reduceCtorEq, not_false_eq_true, and_self, range1, rep1, Nat.zero_mul, Nat.zero_add, Nat.le_refl]
      exact ⟨_, F', rfl, hvr, cg, nd', ow', hsub⟩
    | true =>
      simp only [vcs, tbl, List.map, reduceIte, Nat.reduceLT, Nat.reduceLeDiff, Nat.reduceEqDiff, Nat.reduceAdd, Nat.reduceMul, Nat.reduceSub, true_and, and_true, decide_eq_true_eq, decide_eq_false_iff_not, List.cons_append, List.nil_append, Bool.false_eq_true, Array.empty_append, Array.append_empty, List.length_cons, List.length_nil, List.getElem?_cons_succ, List.getElem?_cons_zero, Option.some.injEq, Int.toNat_natCast, valsOf_map, List.toList_toArray, List.flatMap_cons, List.flatMap_nil, List.append_nil, List.take_succ_cons, List.take_zero, List.drop_zero, List.drop_succ_cons, Option.bind_some, List.all_cons, List.all_nil, Bool.and_true, Bool.and_self, ne_eq, reduceCtorEq, not_false_eq_true, and_self, Bool.not_true]
      refine ⟨fun h => by simp at h, fun _ => ?_⟩
      refine ⟨fun hk4 => ?_, fun hk4 => ?_⟩
      · refine ⟨fun ho1 => ?_, fun ho1 => ?_⟩
        · have ho1 : o = 1 := by simpa using ho1
          simp only [vcs, tbl, List.map, reduceIte, Nat.reduceLT, Nat.reduceLeDiff, Nat.reduceEqDiff, Nat.reduceAdd, Nat.reduceMul, Nat.reduceSub, true_and, and_true, decide_eq_true_eq, decide_eq_false_iff_not, List.cons_append, List.nil_append, Bool.false_eq_true, Array.empty_append, Array.append_empty, List.length_cons, List.length_nil, List.getElem?_cons_succ, List.getElem?_cons_zero, Option.some.injEq, Int.toNat_natCast, valsOf_map, List.toList_toArray, List.flatMap_cons, List.flatMap_nil, List.append_nil, List.take_succ_cons, List.take_zero, List.drop_zero, List.drop_succ_cons, Option.bind_some, List.all_cons, List.all_nil, Bool.and_true, Bool.and_self, ne_eq, reduceCtorEq, not_false_eq_true, and_self]
          refine ⟨fun _ => ?_, fun h => by simp at h⟩
          have ha : against o ≠ 0 := by rcases (by omega : o = 1 ∨ o = 2 ∨ o = 3 ∨ o = 4 ∨ o = 5 ∨ o = 6 ∨ o = 7 ∨ o = 8) with rfl | rfl | rfl | rfl | rfl | rfl | rfl | rfl <;> simp [against]
          refine (specAgainst_c o _).mono ?_
          rintro r m2 ⟨hg, rfl⟩
          simp only [vcs, tbl, List.map, reduceIte, Nat.reduceLT, Nat.reduceLeDiff, Nat.reduceEqDiff, Nat.reduceAdd, Nat.reduceMul, Nat.reduceSub, true_and, and_true, decide_eq_true_eq, decide_eq_false_iff_not, List.cons_append, List.nil_append, Bool.false_eq_true, Array.empty_append, Array.append_empty, List.length_cons, List.length_nil, List.getElem?_cons_succ, List.getElem?_cons_zero, Option.some.injEq, Int.toNat_natCast, valsOf_map, List.toList_toArray, List.flatMap_cons, List.flatMap_nil, List.append_nil, List.take_succ_cons, List.take_zero, List.drop_zero, List.drop_succ_cons, Option.bind_some, List.all_cons, List.all_nil, Bool.and_true, Bool.and_self, ne_eq, reduceCtorEq, not_false_eq_true, and_self]
          have hne : sp true (.mk k o n v u a ks ss) = .mk k (against o) n v u a (ks.map negE) ss := by show negE _ = _; rw [negE, if_neg h1, if_pos ⟨hk4, ha⟩, if_pos (.inl ho1), negEs_eq]
          rw [hne]
          have h2 : ValsF m2 (PExpr.mk k (against o) n v u a ks ss).row _ F := hFF ▸ (PExpr.mk_vals hv c1 c2).grow hg
          refine (l31Kids_c _ _ _ _ _ _ _ _ true (fun e he => hk e he true) _ _ _ h2 hn (ho.grow hg)).mono ?_
          rintro r m5 ⟨us, F', rfl, hvr, cg, nd', ow', hsub⟩
          have hvr' := hvr
          obtain ⟨x', y', H1', H2', rfl, _, q1', q2', hF⟩ := PExpr.vals hvr'
          obtain ⟨ax', px', rfl, _⟩ := q1'.slice
          obtain ⟨ay', py', rfl, _⟩ := q2'.slice
          simp only [vcs, tbl, List.map, reduceIte, Nat.reduceLT, Nat.reduceLeDiff, Nat.reduceEqDiff, Nat.reduceAdd, Nat.reduceMul, Nat.reduceSub, true_and, and_true, decide_eq_true_eq, decide_eq_false_iff_not, List.cons_append, List.nil_append, Bool.false_eq_true, Array.empty_append, Array.append_empty, List.length_cons, List.length_nil, List.getElem?_cons_succ, List.getElem?_cons_zero, Option.some.injEq, Int.toNat_natCast, valsOf_map, List.toList_toArray, List.flatMap_cons, List.flatMap_nil, List.append_nil, List.take_succ_cons, List.take_zero, List.drop_zero, List.drop_succ_cons, Option.bind_some, List.all_cons, List.all_nil, Bool.and_true, Bool.and_self, ne_eq, reduceCtorEq, not_false_eq_true, and_self, range1, rep1, Nat.zero_mul, Nat.zero_add, Nat.le_refl]
          exact ⟨_, F', rfl, hvr, ((hg.chg F).trans cg), nd', ow', (fun x hx => (hsub x hx).imp id (fun h hv => h (hg.vis hv)))⟩
        · have ho1 : ¬ o = 1 := by simpa using ho1
          simp only [vcs, tbl, List.map, reduceIte, Nat.reduceLT, Nat.reduceLeDiff, Nat.reduceEqDiff, Nat.reduceAdd, Nat.reduceMul, Nat.reduceSub, true_and, and_true, decide_eq_true_eq, decide_eq_false_iff_not, List.cons_append, List.nil_append, Bool.false_eq_true, Array.empty_append, Array.append_empty, List.length_cons, List.length_nil, List.getElem?_cons_succ, List.getElem?_cons_zero, Option.some.injEq, Int.toNat_natCast, valsOf_map, List.toList_toArray, List.flatMap_cons, List.flatMap_nil, List.append_nil, List.take_succ_cons, List.take_zero, List.drop_zero, List.drop_succ_cons, Option.bind_some, List.all_cons, List.all_nil, Bool.and_true, Bool.and_self, ne_eq, reduceCtorEq, not_false_eq_true, and_self]
          refine ⟨fun ho2 => ?_, fun ho2 => ?_⟩
          · skip
            have ha : against o ≠ 0 := by rcases (by omega : o = 1 ∨ o = 2 ∨ o = 3 ∨ o = 4 ∨ o = 5 ∨ o = 6 ∨ o = 7 ∨ o = 8) with rfl | rfl | rfl | rfl | rfl | rfl | rfl | rfl <;> simp [against]
            refine (specAgainst_c o _).mono ?_
            rintro r m2 ⟨hg, rfl⟩
            simp only [vcs, tbl, List.map, reduceIte, Nat.reduceLT, Nat.reduceLeDiff, Nat.reduceEqDiff, Nat.reduceAdd, Nat.reduceMul, Nat.reduceSub, true_and, and_true, decide_eq_true_eq, decide_eq_false_iff_not, List.cons_append, List.nil_append, Bool.false_eq_true, Array.empty_append, Array.append_empty, List.length_cons, List.length_nil, List.getElem?_cons_succ, List.getElem?_cons_zero, Option.some.injEq, Int.toNat_natCast, valsOf_map, List.toList_toArray, List.flatMap_cons, List.flatMap_nil, List.append_nil, List.take_succ_cons, List.take_zero, List.drop_zero, List.drop_succ_cons, Option.bind_some, List.all_cons, List.all_nil, Bool.and_true, Bool.and_self, ne_eq, reduceCtorEq, not_false_eq_true, and_self]
            have hne : sp true (.mk k o n v u a ks ss) = .mk k (against o) n v u a (ks.map negE) ss := by show negE _ = _; rw [negE, if_neg h1, if_pos ⟨hk4, ha⟩, if_pos (.inr ho2), negEs_eq]
            rw [hne]
            have h2 : ValsF m2 (PExpr.mk k (against o) n v u a ks ss).row _ F := hFF ▸ (PExpr.mk_vals hv c1 c2).grow hg
            refine (l31Kids_c _ _ _ _ _ _ _ _ true (fun e he => hk e he true) _ _ _ h2 hn (ho.grow hg)).mono ?_
            rintro r m5 ⟨us, F', rfl, hvr, cg, nd', ow', hsub⟩
            have hvr' := hvr
            obtain ⟨x', y', H1', H2', rfl, _, q1', q2', hF⟩ := PExpr.vals hvr'
            obtain ⟨ax', px', rfl, _⟩ := q1'.slice
            obtain ⟨ay', py', rfl, _⟩ := q2'.slice
            simp only [vcs, tbl, List.map, reduceIte, Nat.reduceLT, Nat.reduceLeDiff, Nat.reduceEqDiff, Nat.reduceAdd, Nat.reduceMul, Nat.reduceSub, true_and, and_true, decide_eq_true_eq, decide_eq_false_iff_not, List.cons_append, List.nil_append, Bool.false_eq_true, Array.empty_append, Array.append_empty, List.length_cons, List.length_nil, List.getElem?_cons_succ, List.getElem?_cons_zero, Option.some.injEq, Int.toNat_natCast, valsOf_map, List.toList_toArray, List.flatMap_cons, List.flatMap_nil, List.append_nil, List.take_succ_cons, List.take_zero, List.drop_zero, List.drop_succ_cons, Option.bind_some, List.all_cons, List.all_nil, Bool.and_true, Bool.and_self, ne_eq, reduceCtorEq, not_false_eq_true, and_self, range1, rep1, Nat.zero_mul, Nat.zero_add, Nat.le_refl]
            exact ⟨_, F', rfl, hvr, ((hg.chg F).trans cg), nd', ow', (fun x hx => (hsub x hx).imp id (fun h hv => h (hg.vis hv)))⟩
          · refine (l1In_c o 3 8 _).mono ?_
            rintro r m3 ⟨rfl, rfl⟩
            simp only [vcs, tbl, List.map, reduceIte, Nat.reduceLT, Nat.reduceLeDiff, Nat.reduceEqDiff, Nat.reduceAdd, Nat.reduceMul, Nat.reduceSub, true_and, and_true, decide_eq_true_eq, decide_eq_false_iff_not, List.cons_append, List.nil_append, Bool.false_eq_true, Array.empty_append, Array.append_empty, List.length_cons, List.length_nil, List.getElem?_cons_succ, List.getElem?_cons_zero, Option.some.injEq, Int.toNat_natCast, valsOf_map, List.toList_toArray, List.flatMap_cons, List.flatMap_nil, List.append_nil, List.take_succ_cons, List.take_zero, List.drop_zero, List.drop_succ_cons, Option.bind_some, List.all_cons, List.all_nil, Bool.and_true, Bool.and_self, ne_eq, reduceCtorEq, not_false_eq_true, and_self]
            refine ⟨fun hin => ?_, fun hin => ?_⟩
            · have hin : 3 ≤ o ∧ o ≤ 8 := by simpa using hin
              have ha : against o ≠ 0 := by rcases (by omega : o = 1 ∨ o = 2 ∨ o = 3 ∨ o = 4 ∨ o = 5 ∨ o = 6 ∨ o = 7 ∨ o = 8) with rfl | rfl | rfl | rfl | rfl | rfl | rfl | rfl <;> simp [against]
              refine (specAgainst_c o _).mono ?_
              rintro r m2 ⟨hg, rfl⟩
              simp only [vcs, tbl, List.map, reduceIte, Nat.reduceLT, Nat.reduceLeDiff, Nat.reduceEqDiff, Nat.reduceAdd, Nat.reduceMul, Nat.reduceSub, true_and, and_true, decide_eq_true_eq, decide_eq_false_iff_not, List.cons_append, List.nil_append, Bool.false_eq_true, Array.empty_append, Array.append_empty, List.length_cons, List.length_nil, List.getElem?_cons_succ, List.getElem?_cons_zero, Option.some.injEq, Int.toNat_natCast, valsOf_map, List.toList_toArray, List.flatMap_cons, List.flatMap_nil, List.append_nil, List.take_succ_cons, List.take_zero, List.drop_zero, List.drop_succ_cons, Option.bind_some, List.all_cons, List.all_nil, Bool.and_true, Bool.and_self, ne_eq, reduceCtorEq, not_false_eq_true, and_self]
              have hne : sp true (.mk k o n v u a ks ss) = .mk k (against o) n v u a (ks.map posE) ss := by show negE _ = _; rw [negE, if_neg h1, if_pos ⟨hk4, ha⟩, if_neg (fun hh => hh.elim ho1 ho2), posEs_eq]
              rw [hne]
              have h2 : ValsF m2 (PExpr.mk k (against o) n v u a ks ss).row _ F := hFF ▸ (PExpr.mk_vals hv c1 c2).grow hg
              refine (l31Kids_c _ _ _ _ _ _ _ _ false (fun e he => hk e he false) _ _ _ h2 hn (ho.grow hg)).mono ?_
              rintro r m5 ⟨us, F', rfl, hvr, cg, nd', ow', hsub⟩
              have hvr' := hvr
              obtain ⟨x', y', H1', H2', rfl, _, q1', q2', hF⟩ := PExpr.vals hvr'
              obtain ⟨ax', px', rfl, _⟩ := q1'.slice
              obtain ⟨ay', py', rfl, _⟩ := q2'.slice
              simp only [vcs, tbl, List.map, reduceIte, Nat.reduceLT, Nat.reduceLeDiff, Nat.reduceEqDiff, Nat.reduceAdd, Nat.reduceMul, Nat.reduceSub, true_and, and_true, decide_eq_true_eq, decide_eq_false_iff_not, List.cons_append, List.nil_append, Bool.false_eq_true, Array.empty_append, Array.append_empty, List.length_cons, List.length_nil, List.getElem?_cons_succ, List.getElem?_cons_zero, Option.some.injEq, Int.toNat_natCast, valsOf_map, List.toList_toArray, List.flatMap_cons, List.flatMap_nil, List.append_nil, List.take_succ_cons, List.take_zero, List.drop_zero, List.drop_succ_cons, Option.bind_some, List.all_cons, List.all_nil, Bool.and_true, Bool.and_self, ne_eq, reduceCtorEq, not_false_eq_true, and_self, range1, rep1, Nat.zero_mul, Nat.zero_add, Nat.le_refl]
              exact ⟨_, F', rfl, hvr, ((hg.chg F).trans cg), nd', ow', (fun x hx => (hsub x hx).imp id (fun h hv => h (hg.vis hv)))⟩
            · have hin : ¬ (3 ≤ o ∧ o ≤ 8) := by simpa using hin
              have ha : against o = 0 := by rw [against, if_neg (by omega), if_neg (by omega), if_neg (by omega), if_neg (by omega), if_neg (by omega), if_neg (by omega), if_neg (by omega), if_neg (by omega)]
              have hne : sp true (.mk k o n v u a ks ss) = .mk 3 15 false ⟨0, 0, ByteArray.empty⟩ 0 0 [.mk k o n v u a (ks.map posE) ss] [] := by show negE _ = _; rw [negE, if_neg h1, if_neg (fun hh => hh.2 ha), if_neg (fun hh => by omega), posEs_eq]
              rw [hne]
              refine (l31Kids_c _ _ _ _ _ _ _ _ false (fun e he => hk e he false) _ _ _ h hn ho).mono ?_
              rintro r m5 ⟨us, F', rfl, hvr, cg, nd', ow', hsub⟩
              have hvr' := hvr
              obtain ⟨x', y', H1', H2', rfl, _, q1', q2', hF⟩ := PExpr.vals hvr'
              obtain ⟨ax', px', rfl, _⟩ := q1'.slice
              obtain ⟨ay', py', rfl, _⟩ := q2'.slice
              simp only [vcs, tbl, List.map, reduceIte, Nat.reduceLT, Nat.reduceLeDiff, Nat.reduceEqDiff, Nat.reduceAdd, Nat.reduceMul, Nat.reduceSub, true_and, and_true, decide_eq_true_eq, decide_eq_false_iff_not, List.cons_append, List.nil_append, Bool.false_eq_true, Array.empty_append, Array.append_empty, List.length_cons, List.length_nil, List.getElem?_cons_succ, List.getElem?_cons_zero, Option.some.injEq, Int.toNat_natCast, valsOf_map, List.toList_toArray, List.flatMap_cons, List.flatMap_nil, List.append_nil, List.take_succ_cons, List.take_zero, List.drop_zero, List.drop_succ_cons, Option.bind_some, List.all_cons, List.all_nil, Bool.and_true, Bool.and_self, ne_eq, reduceCtorEq, not_false_eq_true, and_self, range1, rep1, Nat.zero_mul, Nat.zero_add, Nat.le_refl]
              intro bN m6 hp
              have cgm : Chg F _ m5 := cg
              have hsm : ∀ x ∈ F', x ∈ F ∨ ¬ Go.Vc.vis _ x := hsub
              have hrow : [PExpr.mk k o n v u a (ks.map posE) ss].flatMap PExpr.row = (PExpr.mk k o n v u a (ks.map posE) ss).row := by simp
              have hvl : ValsF m5 (PExpr.mk k o n v u a (ks.map posE) ss).row _ F' := hvr
              rw [← hrow] at hvl
              have hck := CellF.of_pubN (n := 1) (cap := 1) hp hvl (fun e => by have := congrArg List.length e; rw [flatMap_len PExpr.row_len] at this; simp at this) (Nat.le_refl _) (by decide)
              refine ⟨_, (bN :: F') ++ [], rfl, PExpr.mk_valsK rfl rfl (by decide) hck (CellF.nilS _), cgm.trans (hp.grow.chg F), ?_, ?_, ?_⟩
              · simp only [List.append_nil, List.nodup_cons]
                exact ⟨fun hb => hp.new (hvr.vis bN hb), nd'⟩
              · simp only [List.append_nil]
                exact Own.pub hp ow'
              · simp only [List.append_nil]
                intro x hx
                rcases List.mem_cons.1 hx with rfl | hx
                · exact .inr fun hv => hp.new (cgm.seen _ hv)
                · exact hsm x hx
      · skip
        refine ⟨fun hk5 => ⟨fun _ => ?_, fun h => absurd hk5 h⟩, fun hk5 => ?_⟩
        · skip
          have hne : sp true (.mk k o n v u a ks ss) = .mk k o (!n) v u a (ks.map posE) ss := by show negE _ = _; rw [negE, if_neg h1, if_neg (fun hh => hk4 hh.1), if_pos (by omega), posEs_eq]
          rw [hne]
          have h2 : ValsF _ (PExpr.mk k o (!n) v u a ks ss).row _ F := hFF ▸ PExpr.mk_vals hv c1 c2
          refine (l31Kids_c _ _ _ _ _ _ _ _ false (fun e he => hk e he false) _ _ _ h2 hn ho).mono ?_
          rintro r m5 ⟨us, F', rfl, hvr, cg, nd', ow', hsub⟩
          have hvr' := hvr
          obtain ⟨x', y', H1', H2', rfl, _, q1', q2', hF⟩ := PExpr.vals hvr'
          obtain ⟨ax', px', rfl, _⟩ := q1'.slice
          obtain ⟨ay', py', rfl, _⟩ := q2'.slice
          simp only [vcs, tbl, List.map, reduceIte, Nat.reduceLT, Nat.reduceLeDiff, Nat.reduceEqDiff, Nat.reduceAdd, Nat.reduceMul, Nat.reduceSub, true_and, and_true, decide_eq_true_eq, decide_eq_false_iff_not, List.cons_append, List.nil_append, Bool.false_eq_true, Array.empty_append, Array.append_empty, List.length_cons, List.length_nil, List.getElem?_cons_succ, List.getElem?_cons_zero, Option.some.injEq, Int.toNat_natCast, valsOf_map, List.toList_toArray, List.flatMap_cons, List.flatMap_nil, List.append_nil, List.take_succ_cons, List.take_zero, List.drop_zero, List.drop_succ_cons, Option.bind_some, List.all_cons, List.all_nil, Bool.and_true, Bool.and_self, ne_eq, reduceCtorEq, not_false_eq_true, and_self, range1, rep1, Nat.zero_mul, Nat.zero_add, Nat.le_refl]
          exact ⟨_, F', rfl, hvr, cg, nd', ow', hsub⟩
        refine ⟨fun hk6 => ⟨fun _ => ?_, fun h => absurd hk6 h⟩, fun hk6 => ?_⟩
        · skip
          have hne : sp true (.mk k o n v u a ks ss) = .mk k o (!n) v u a (ks.map posE) ss := by show negE _ = _; rw [negE, if_neg h1, if_neg (fun hh => hk4 hh.1), if_pos (by omega), posEs_eq]
          rw [hne]
          have h2 : ValsF _ (PExpr.mk k o (!n) v u a ks ss).row _ F := hFF ▸ PExpr.mk_vals hv c1 c2
          refine (l31Kids_c _ _ _ _ _ _ _ _ false (fun e he => hk e he false) _ _ _ h2 hn ho).mono ?_
          rintro r m5 ⟨us, F', rfl, hvr, cg, nd', ow', hsub⟩
          have hvr' := hvr
          obtain ⟨x', y', H1', H2', rfl, _, q1', q2', hF⟩ := PExpr.vals hvr'
          obtain ⟨ax', px', rfl, _⟩ := q1'.slice
          obtain ⟨ay', py', rfl, _⟩ := q2'.slice
          simp only [vcs, tbl, List.map, reduceIte, Nat.reduceLT, Nat.reduceLeDiff, Nat.reduceEqDiff, Nat.reduceAdd, Nat.reduceMul, Nat.reduceSub, true_and, and_true, decide_eq_true_eq, decide_eq_false_iff_not, List.cons_append, List.nil_append, Bool.false_eq_true, Array.empty_append, Array.append_empty, List.length_cons, List.length_nil, List.getElem?_cons_succ, List.getElem?_cons_zero, Option.some.injEq, Int.toNat_natCast, valsOf_map, List.toList_toArray, List.flatMap_cons, List.flatMap_nil, List.append_nil, List.take_succ_cons, List.take_zero, List.drop_zero, List.drop_succ_cons, Option.bind_some, List.all_cons, List.all_nil, Bool.and_true, Bool.and_self, ne_eq, reduceCtorEq, not_false_eq_true, and_self, range1, rep1, Nat.zero_mul, Nat.zero_add, Nat.le_refl]
          exact ⟨_, F', rfl, hvr, cg, nd', ow', hsub⟩
        refine ⟨fun hk7 => ⟨fun _ => ?_, fun h => absurd hk7 h⟩, fun hk7 => ?_⟩
        · skip
          have hne : sp true (.mk k o n v u a ks ss) = .mk k o (!n) v u a (ks.map posE) ss := by show negE _ = _; rw [negE, if_neg h1, if_neg (fun hh => hk4 hh.1), if_pos (by omega), posEs_eq]
          rw [hne]
          have h2 : ValsF _ (PExpr.mk k o (!n) v u a ks ss).row _ F := hFF ▸ PExpr.mk_vals hv c1 c2
          refine (l31Kids_c _ _ _ _ _ _ _ _ false (fun e he => hk e he false) _ _ _ h2 hn ho).mono ?_
          rintro r m5 ⟨us, F', rfl, hvr, cg, nd', ow', hsub⟩
          have hvr' := hvr
          obtain ⟨x', y', H1', H2', rfl, _, q1', q2', hF⟩ := PExpr.vals hvr'
          obtain ⟨ax', px', rfl, _⟩ := q1'.slice
          obtain ⟨ay', py', rfl, _⟩ := q2'.slice
          simp only [vcs, tbl, List.map, reduceIte, Nat.reduceLT, Nat.reduceLeDiff, Nat.reduceEqDiff, Nat.reduceAdd, Nat.reduceMul, Nat.reduceSub, true_and, and_true, decide_eq_true_eq, decide_eq_false_iff_not, List.cons_append, List.nil_append, Bool.false_eq_true, Array.empty_append, Array.append_empty, List.length_cons, List.length_nil, List.getElem?_cons_succ, List.getElem?_cons_zero, Option.some.injEq, Int.toNat_natCast, valsOf_map, List.toList_toArray, List.flatMap_cons, List.flatMap_nil, List.append_nil, List.take_succ_cons, List.take_zero, List.drop_zero, List.drop_succ_cons, Option.bind_some, List.all_cons, List.all_nil, Bool.and_true, Bool.and_self, ne_eq, reduceCtorEq, not_false_eq_true, and_self, range1, rep1, Nat.zero_mul, Nat.zero_add, Nat.le_refl]
          exact ⟨_, F', rfl, hvr, cg, nd', ow', hsub⟩
        refine ⟨fun hk8 => ?_, fun hk8 => ?_⟩
        · skip
          have hne : sp true (.mk k o n v u a ks ss) = .mk k o (!n) v u a (ks.map posE) ss := by show negE _ = _; rw [negE, if_neg h1, if_neg (fun hh => hk4 hh.1), if_pos (by omega), posEs_eq]
          rw [hne]
          have h2 : ValsF _ (PExpr.mk k o (!n) v u a ks ss).row _ F := hFF ▸ PExpr.mk_vals hv c1 c2
          refine (l31Kids_c _ _ _ _ _ _ _ _ false (fun e he => hk e he false) _ _ _ h2 hn ho).mono ?_
          rintro r m5 ⟨us, F', rfl, hvr, cg, nd', ow', hsub⟩
          have hvr' := hvr
          obtain ⟨x', y', H1', H2', rfl, _, q1', q2', hF⟩ := PExpr.vals hvr'
          obtain ⟨ax', px', rfl, _⟩ := q1'.slice
          obtain ⟨ay', py', rfl, _⟩ := q2'.slice
          simp only [vcs, tbl, List.map, reduceIte, Nat.reduceLT, Nat.reduceLeDiff, Nat.reduceEqDiff, Nat.reduceAdd, Nat.reduceMul, Nat.reduceSub, true_and, and_true, decide_eq_true_eq, decide_eq_false_iff_not, List.cons_append, List.nil_append, Bool.false_eq_true, Array.empty_append, Array.append_empty, List.length_cons, List.length_nil, List.getElem?_cons_succ, List.getElem?_cons_zero, Option.some.injEq, Int.toNat_natCast, valsOf_map, List.toList_toArray, List.flatMap_cons, List.flatMap_nil, List.append_nil, List.take_succ_cons, List.take_zero, List.drop_zero, List.drop_succ_cons, Option.bind_some, List.all_cons, List.all_nil, Bool.and_true, Bool.and_self, ne_eq, reduceCtorEq, not_false_eq_true, and_self, range1, rep1, Nat.zero_mul, Nat.zero_add, Nat.le_refl]
          exact ⟨_, F', rfl, hvr, cg, nd', ow', hsub⟩
        have hne : sp true (.mk k o n v u a ks ss) = .mk 3 15 false ⟨0, 0, ByteArray.empty⟩ 0 0 [.mk k o n v u a (ks.map posE) ss] [] := by show negE _ = _; rw [negE, if_neg h1, if_neg (fun hh => hk4 hh.1), if_neg (fun hh => by omega), posEs_eq]
        rw [hne]
        refine (l31Kids_c _ _ _ _ _ _ _ _ false (fun e he => hk e he false) _ _ _ h hn ho).mono ?_
        rintro r m5 ⟨us, F', rfl, hvr, cg, nd', ow', hsub⟩
        have hvr' := hvr
        obtain ⟨x', y', H1', H2', rfl, _, q1', q2', hF⟩ := PExpr.vals hvr'
        obtain ⟨ax', px', rfl, _⟩ := q1'.slice
        obtain ⟨ay', py', rfl, _⟩ := q2'.slice
        simp only [vcs, tbl, List.map, reduceIte, Nat.reduceLT, Nat.reduceLeDiff, Nat.reduceEqDiff, Nat.reduceAdd, Nat.reduceMul, Nat.reduceSub, true_and, and_true, decide_eq_true_eq, decide_eq_false_iff_not, List.cons_append, List.nil_append, Bool.false_eq_true, Array.empty_append, Array.append_empty, List.length_cons, List.length_nil, List.getElem?_cons_succ, List.getElem?_cons_zero, Option.some.injEq, Int.toNat_natCast, valsOf_map, List.toList_toArray, List.flatMap_cons, List.flatMap_nil, List.append_nil, List.take_succ_cons, List.take_zero, List.drop_zero, List.drop_succ_cons, Option.bind_some, List.all_cons, List.all_nil, Bool.and_true, Bool.and_self, ne_eq, reduceCtorEq, not_false_eq_true, and_self, range1, rep1, Nat.zero_mul, Nat.zero_add, Nat.le_refl]
        intro bN m6 hp
        have cgm : Chg F _ m5 := cg
        have hsm : ∀ x ∈ F', x ∈ F ∨ ¬ Go.Vc.vis _ x := hsub
        have hrow : [PExpr.mk k o n v u a (ks.map posE) ss].flatMap PExpr.row = (PExpr.mk k o n v u a (ks.map posE) ss).row := by simp
        have hvl : ValsF m5 (PExpr.mk k o n v u a (ks.map posE) ss).row _ F' := hvr
        rw [← hrow] at hvl
        have hck := CellF.of_pubN (n := 1) (cap := 1) hp hvl (fun e => by have := congrArg List.length e; rw [flatMap_len PExpr.row_len] at this; simp at this) (Nat.le_refl _) (by decide)
        refine ⟨_, (bN :: F') ++ [], rfl, PExpr.mk_valsK rfl rfl (by decide) hck (CellF.nilS _), cgm.trans (hp.grow.chg F), ?_, ?_, ?_⟩
        · simp only [List.append_nil, List.nodup_cons]
          exact ⟨fun hb => hp.new (hvr.vis bN hb), nd'⟩
        · simp only [List.append_nil]
          exact Own.pub hp ow'
        · simp only [List.append_nil]
          intro x hx
          rcases List.mem_cons.1 hx with rfl | hx
          · exact .inr fun hv => hp.new (cgm.seen _ hv)
          · exact hsm x hx

theorem said_all (e : PExpr) : ∀ b, SaC b e :=
  (tree_ind (A := fun e => ∀ b, SaC b e) (B := fun _ => True) (C := fun _ => True) (fun k o n v u a ks ss hk _ => l31Said_step k o n v u a ks ss hk) (fun _ _ _ _ _ _ _ _ _ _ _ _ => trivial) (fun _ _ _ => trivial)).1 e

end Go.Proofs.Ytklligemdfnimaa
set_option linter.unusedVariables false
set_option linter.unusedSimpArgs false
set_option maxRecDepth 4000
namespace Go.Proofs.Ytklligemdfnimaa
open Go Go.Vc
theorem cnL_one {α : Type} : ∀ es : List α, cnL (fun _ => 1) es = es.length
  | [] => rfl
  | e :: es => by simp [cnL, cnL_one es]; omega
def SwE (e : PExpr) : Prop := ∀ (m : World) (vs : List Value) (F : List Nat) (left : Int), ValsF m e.row vs F → 0 ≤ left → left ≤ 1048576 →
  FCalls Try.prog 21 #[.agg vs.toArray, .int .i64 left] m fun r m' => Grow m m' ∧ ∃ k : Int, r = .int .i64 k ∧ k ≤ left ∧ (0 ≤ k → ESmall e ∧ 9 * k + (cnE e : Int) ≤ 9 * left + 8)
def SwP (e : Plan) : Prop := ∀ (m : World) (vs : List Value) (F : List Nat) (left : Int), ValsF m e.row vs F → 0 ≤ left → left ≤ 1048576 →
  FCalls Try.prog 34 #[.agg vs.toArray, .int .i64 left] m fun r m' => Grow m m' ∧ ∃ k : Int, r = .int .i64 k ∧ k ≤ left ∧ (0 ≤ k → PSmall e ∧ 9 * k + (cnP e : Int) ≤ 9 * left + 9)
def SwO (e : PSort) : Prop := ∀ (m : World) (vs : List Value) (F : List Nat) (left : Int), ValsF m e.row vs F → 0 ≤ left → left ≤ 1048576 →
  FCalls Try.prog 148 #[.agg vs.toArray, .int .i64 left] m fun r m' => Grow m m' ∧ ∃ k : Int, r = .int .i64 k ∧ k ≤ left ∧ (0 ≤ k → SSmall e ∧ 9 * k + (cnS e : Int) ≤ 9 * left + 9)
def esmallW (l : List PExpr) : Prop := l.length ≤ 1048576 ∧ ∀ e ∈ l, ESmall e
def tsmallW (s : ByteArray) : Prop := True
theorem swIntS (es : List Int) (m : World) (left : Int) (v : Value) (F : List Nat) (h : CellF m (.sl es.length (es.flatMap irow)) v F) (h0 : 0 ≤ left) (h1 : left ≤ 1048576) :
   FCalls Try.prog 90 #[v, .int .i64 left] m fun r m' => Grow m m' ∧ ∃ k : Int, r = .int .i64 k ∧ k ≤ left ∧ (0 ≤ k → es.length ≤ 1048576 ∧ 9 * k + (cnL (fun _ => 1) es : Int) ≤ 9 * left) := by
  obtain ⟨a, cap, rfl, hcap, hmax, _⟩ := h.slice
  have hmax' : cap ≤ 9223372036854775807 := hmax
  refine fcalls_of_vc (args := [_, _]) follows_mixed Try.func90 rfl (by kernel_rfl) (by simp [Try.f90]) ?_
  simp only [Try.f90, vcs, tbl, List.map, reduceIte, Nat.reduceLT, Nat.reduceLeDiff, Nat.reduceEqDiff, Nat.reduceAdd, Nat.reduceMul, Nat.reduceSub, true_and, and_true, decide_eq_true_eq, decide_eq_false_iff_not, List.cons_append, List.nil_append, Bool.false_eq_true, Array.empty_append, Array.append_empty, List.length_cons, List.length_nil, List.getElem?_cons_succ, List.getElem?_cons_zero, Option.some.injEq, Int.toNat_natCast, valsOf_map, List.toList_toArray, List.flatMap_cons, List.flatMap_nil, List.append_nil, List.take_succ_cons, List.take_zero, List.drop_zero, List.drop_succ_cons, Option.bind_some]
  rw [wrap_id (by omega) (by omega), cnL_one]
  exact ⟨fun h => ⟨Grow.refl _, -1, rfl, by omega, by omega⟩, fun h => ⟨Grow.refl _, _, rfl, by omega, fun h => by omega⟩⟩

theorem swPExprS (es : List PExpr) (hx : ∀ e ∈ es, SwE e) (m : World) (left : Int) (v : Value) (F : List Nat) (h : CellF m (.sl es.length (es.flatMap PExpr.row)) v F) (h0 : 0 ≤ left) (h1 : left ≤ 1048576) :
   FCalls Try.prog 67 #[v, .int .i64 left] m fun r m' => Grow m m' ∧ ∃ k : Int, r = .int .i64 k ∧ k ≤ left ∧ (0 ≤ k → (es.length ≤ 1048576 ∧ ∀ e ∈ es, ESmall e) ∧ 9 * k + (cnL cnE es : Int) ≤ 9 * left) := by
  obtain ⟨a, cap, rfl, hcap, hmax, _⟩ := h.slice
  have hmax' : cap ≤ 9223372036854775807 := hmax
  refine fcalls_of_vc (args := [_, _]) follows_mixed Try.func67 rfl (by kernel_rfl) (by simp [Try.f67]) ?_
  simp only [Try.f67, vcs, tbl, List.map, reduceIte, Nat.reduceLT, Nat.reduceLeDiff, Nat.reduceEqDiff, Nat.reduceAdd, Nat.reduceMul, Nat.reduceSub, true_and, and_true, decide_eq_true_eq, decide_eq_false_iff_not, List.cons_append, List.nil_append, Bool.false_eq_true, Array.empty_append, Array.append_empty, List.length_cons, List.length_nil, List.getElem?_cons_succ, List.getElem?_cons_zero, Option.some.injEq, Int.toNat_natCast, valsOf_map, List.toList_toArray, List.flatMap_cons, List.flatMap_nil, List.append_nil, List.take_succ_cons, List.take_zero, List.drop_zero, List.drop_succ_cons, Option.bind_some]
  rw [wrap_id (by omega) (by omega)]
  refine ⟨fun h => ⟨Grow.refl _, -1, rfl, by omega, by omega⟩, fun h' => ?_⟩
  refine vcLoop.intro (fun f L m1 => ∃ (k : Nat) (l : Int), f 5 = .c (.v (.int .i64 k)) ∧ f 1 = .c (.v (.int .i64 l)) ∧ L = [] ∧ k ≤ es.length ∧ 0 ≤ l ∧ l ≤ left ∧ Grow m m1 ∧ (∀ e ∈ es.take k, ESmall e) ∧ 9 * l + (cnL cnE (es.take k) : Int) ≤ 9 * (left - es.length) + 9 * k)
    (fun f _ _ => (es.length - ixS (f 5)).toNat) ⟨[], Sub.nil _, 0, left - es.length, ?_⟩ ?_
  · simp only [vcs, tbl, List.map, reduceIte, Nat.reduceLT, Nat.reduceLeDiff, Nat.reduceEqDiff, Nat.reduceAdd, Nat.reduceMul, Nat.reduceSub, true_and, and_true, decide_eq_true_eq, decide_eq_false_iff_not, List.cons_append, List.nil_append, Bool.false_eq_true, Array.empty_append, Array.append_empty, List.length_cons, List.length_nil, List.getElem?_cons_succ, List.getElem?_cons_zero, Option.some.injEq, Int.toNat_natCast, valsOf_map, List.toList_toArray, List.flatMap_cons, List.flatMap_nil, List.append_nil, List.take_succ_cons, List.take_zero, List.drop_zero, List.drop_succ_cons, Option.bind_some]
    exact ⟨rfl, by omega, by omega, by omega, Grow.refl _, by simp, by simp [cnL]⟩
  · rintro g L1 m1 ⟨k, l, h5, h1', rfl, hk, hl0, hl1', hg, hsm, hw⟩
    have hl1 : l ≤ 1048576 := by omega
    simp only [vcs, tbl, List.map, reduceIte, Nat.reduceLT, Nat.reduceLeDiff, Nat.reduceEqDiff, Nat.reduceAdd, Nat.reduceMul, Nat.reduceSub, true_and, and_true, decide_eq_true_eq, decide_eq_false_iff_not, List.cons_append, List.nil_append, Bool.false_eq_true, Array.empty_append, Array.append_empty, List.length_cons, List.length_nil, List.getElem?_cons_succ, List.getElem?_cons_zero, Option.some.injEq, Int.toNat_natCast, valsOf_map, List.toList_toArray, List.flatMap_cons, List.flatMap_nil, List.append_nil, List.take_succ_cons, List.take_zero, List.drop_zero, List.drop_succ_cons, Option.bind_some] at h5 h1'
    simp only [vcs, tbl, List.map, reduceIte, Nat.reduceLT, Nat.reduceLeDiff, Nat.reduceEqDiff, Nat.reduceAdd, Nat.reduceMul, Nat.reduceSub, true_and, and_true, decide_eq_true_eq, decide_eq_false_iff_not, List.cons_append, List.nil_append, Bool.false_eq_true, Array.empty_append, Array.append_empty, List.length_cons, List.length_nil, List.getElem?_cons_succ, List.getElem?_cons_zero, Option.some.injEq, Int.toNat_natCast, valsOf_map, List.toList_toArray, List.flatMap_cons, List.flatMap_nil, List.append_nil, List.take_succ_cons, List.take_zero, List.drop_zero, List.drop_succ_cons, Option.bind_some, h5, h1']
    refine ⟨fun hlt => ?_, fun hge => ?_⟩
    · have hlt : k < es.length := by omega
      have hcs := cnL_take_succ cnE es k hlt
      obtain ⟨ad, vs, Fk, ha, hlen, hcell, hv, _⟩ := h.elem PExpr.row_len (by decide) (List.getElem?_eq_getElem hlt)
      refine ⟨by omega, by omega, ad, ha, vs, hlen, fun j v hj => hg.cell (by simpa using hcell j v hj), ?_⟩
      simp only [vcs, tbl, List.map, reduceIte, Nat.reduceLT, Nat.reduceLeDiff, Nat.reduceEqDiff, Nat.reduceAdd, Nat.reduceMul, Nat.reduceSub, true_and, and_true, decide_eq_true_eq, decide_eq_false_iff_not, List.cons_append, List.nil_append, Bool.false_eq_true, Array.empty_append, Array.append_empty, List.length_cons, List.length_nil, List.getElem?_cons_succ, List.getElem?_cons_zero, Option.some.injEq, Int.toNat_natCast, valsOf_map, List.toList_toArray, List.flatMap_cons, List.flatMap_nil, List.append_nil, List.take_succ_cons, List.take_zero, List.drop_zero, List.drop_succ_cons, Option.bind_some, h5, h1']
      refine (hx _ (List.getElem_mem hlt) _ _ _ _ (hv.grow hg) hl0 hl1).mono ?_
      rintro r m2 ⟨hg2, q, rfl, hq, hqs⟩
      simp only [vcs, tbl, List.map, reduceIte, Nat.reduceLT, Nat.reduceLeDiff, Nat.reduceEqDiff, Nat.reduceAdd, Nat.reduceMul, Nat.reduceSub, true_and, and_true, decide_eq_true_eq, decide_eq_false_iff_not, List.cons_append, List.nil_append, Bool.false_eq_true, Array.empty_append, Array.append_empty, List.length_cons, List.length_nil, List.getElem?_cons_succ, List.getElem?_cons_zero, Option.some.injEq, Int.toNat_natCast, valsOf_map, List.toList_toArray, List.flatMap_cons, List.flatMap_nil, List.append_nil, List.take_succ_cons, List.take_zero, List.drop_zero, List.drop_succ_cons, Option.bind_some, h5, h1']
      refine ⟨fun hn => ⟨hg.trans hg2, -1, rfl, by omega, by omega⟩, fun hn => ?_⟩
      rw [wrap_id (by omega) (by omega)]
      refine ⟨[], Sub.nil _, ⟨k + 1, _, by simp, rfl, rfl, by omega, by omega, by omega, hg.trans hg2, ?_, by have := (hqs (by omega)).2; omega⟩, by omega⟩
      intro e he
      rw [List.take_add_one, List.getElem?_eq_getElem hlt] at he
      rcases List.mem_append.1 he with he | he
      · exact hsm e he
      · simp at he; subst he; exact (hqs (by omega)).1
    · have : k = es.length := by omega
      subst this
      exact ⟨hg, l, rfl, by omega, fun _ => ⟨⟨by omega, fun e he => hsm e (by simpa using he)⟩, by rw [List.take_length] at hw; omega⟩⟩

theorem swPlanS (es : List Plan) (hx : ∀ e ∈ es, SwP e) (m : World) (left : Int) (v : Value) (F : List Nat) (h : CellF m (.sl es.length (es.flatMap Plan.row)) v F) (h0 : 0 ≤ left) (h1 : left ≤ 1048576) :
   FCalls Try.prog 68 #[v, .int .i64 left] m fun r m' => Grow m m' ∧ ∃ k : Int, r = .int .i64 k ∧ k ≤ left ∧ (0 ≤ k → (es.length ≤ 1048576 ∧ ∀ e ∈ es, PSmall e) ∧ 9 * k + (cnL cnP es : Int) ≤ 9 * left) := by
  obtain ⟨a, cap, rfl, hcap, hmax, _⟩ := h.slice
  have hmax' : cap ≤ 9223372036854775807 := hmax
  refine fcalls_of_vc (args := [_, _]) follows_mixed Try.func68 rfl (by kernel_rfl) (by simp [Try.f68]) ?_
  simp only [Try.f68, vcs, tbl, List.map, reduceIte, Nat.reduceLT, Nat.reduceLeDiff, Nat.reduceEqDiff, Nat.reduceAdd, Nat.reduceMul, Nat.reduceSub, true_and, and_true, decide_eq_true_eq, decide_eq_false_iff_not, List.cons_append, List.nil_append, Bool.false_eq_true, Array.empty_append, Array.append_empty, List.length_cons, List.length_nil, List.getElem?_cons_succ, List.getElem?_cons_zero, Option.some.injEq, Int.toNat_natCast, valsOf_map, List.toList_toArray, List.flatMap_cons, List.flatMap_nil, List.append_nil, List.take_succ_cons, List.take_zero, List.drop_zero, List.drop_succ_cons, Option.bind_some]
  rw [wrap_id (by omega) (by omega)]
  refine ⟨fun h => ⟨Grow.refl _, -1, rfl, by omega, by omega⟩, fun h' => ?_⟩
  refine vcLoop.intro (fun f L m1 => ∃ (k : Nat) (l : Int), f 5 = .c (.v (.int .i64 k)) ∧ f 1 = .c (.v (.int .i64 l)) ∧ L = [] ∧ k ≤ es.length ∧ 0 ≤ l ∧ l ≤ left ∧ Grow m m1 ∧ (∀ e ∈ es.take k, PSmall e) ∧ 9 * l + (cnL cnP (es.take k) : Int) ≤ 9 * (left - es.length) + 9 * k)
    (fun f _ _ => (es.length - ixS (f 5)).toNat) ⟨[], Sub.nil _, 0, left - es.length, ?_⟩ ?_
  · simp only [vcs, tbl, List.map, reduceIte, Nat.reduceLT, Nat.reduceLeDiff, Nat.reduceEqDiff, Nat.reduceAdd, Nat.reduceMul, Nat.reduceSub, true_and, and_true, decide_eq_true_eq, decide_eq_false_iff_not, List.cons_append, List.nil_append, Bool.false_eq_true, Array.empty_append, Array.append_empty, List.length_cons, List.length_nil, List.getElem?_cons_succ, List.getElem?_cons_zero, Option.some.injEq, Int.toNat_natCast, valsOf_map, List.toList_toArray, List.flatMap_cons, List.flatMap_nil, List.append_nil, List.take_succ_cons, List.take_zero, List.drop_zero, List.drop_succ_cons, Option.bind_some]
    exact ⟨rfl, by omega, by omega, by omega, Grow.refl _, by simp, by simp [cnL]⟩
  · rintro g L1 m1 ⟨k, l, h5, h1', rfl, hk, hl0, hl1', hg, hsm, hw⟩
    have hl1 : l ≤ 1048576 := by omega
    simp only [vcs, tbl, List.map, reduceIte, Nat.reduceLT, Nat.reduceLeDiff, Nat.reduceEqDiff, Nat.reduceAdd, Nat.reduceMul, Nat.reduceSub, true_and, and_true, decide_eq_true_eq, decide_eq_false_iff_not, List.cons_append, List.nil_append, Bool.false_eq_true, Array.empty_append, Array.append_empty, List.length_cons, List.length_nil, List.getElem?_cons_succ, List.getElem?_cons_zero, Option.some.injEq, Int.toNat_natCast, valsOf_map, List.toList_toArray, List.flatMap_cons, List.flatMap_nil, List.append_nil, List.take_succ_cons, List.take_zero, List.drop_zero, List.drop_succ_cons, Option.bind_some] at h5 h1'
    simp only [vcs, tbl, List.map, reduceIte, Nat.reduceLT, Nat.reduceLeDiff, Nat.reduceEqDiff, Nat.reduceAdd, Nat.reduceMul, Nat.reduceSub, true_and, and_true, decide_eq_true_eq, decide_eq_false_iff_not, List.cons_append, List.nil_append, Bool.false_eq_true, Array.empty_append, Array.append_empty, List.length_cons, List.length_nil, List.getElem?_cons_succ, List.getElem?_cons_zero, Option.some.injEq, Int.toNat_natCast, valsOf_map, List.toList_toArray, List.flatMap_cons, List.flatMap_nil, List.append_nil, List.take_succ_cons, List.take_zero, List.drop_zero, List.drop_succ_cons, Option.bind_some, h5, h1']
    refine ⟨fun hlt => ?_, fun hge => ?_⟩
    · have hlt : k < es.length := by omega
      have hcs := cnL_take_succ cnP es k hlt
      obtain ⟨ad, vs, Fk, ha, hlen, hcell, hv, _⟩ := h.elem Plan.row_len (by decide) (List.getElem?_eq_getElem hlt)
      refine ⟨by omega, by omega, ad, ha, vs, hlen, fun j v hj => hg.cell (by simpa using hcell j v hj), ?_⟩
      simp only [vcs, tbl, List.map, reduceIte, Nat.reduceLT, Nat.reduceLeDiff, Nat.reduceEqDiff, Nat.reduceAdd, Nat.reduceMul, Nat.reduceSub, true_and, and_true, decide_eq_true_eq, decide_eq_false_iff_not, List.cons_append, List.nil_append, Bool.false_eq_true, Array.empty_append, Array.append_empty, List.length_cons, List.length_nil, List.getElem?_cons_succ, List.getElem?_cons_zero, Option.some.injEq, Int.toNat_natCast, valsOf_map, List.toList_toArray, List.flatMap_cons, List.flatMap_nil, List.append_nil, List.take_succ_cons, List.take_zero, List.drop_zero, List.drop_succ_cons, Option.bind_some, h5, h1']
      refine (hx _ (List.getElem_mem hlt) _ _ _ _ (hv.grow hg) hl0 hl1).mono ?_
      rintro r m2 ⟨hg2, q, rfl, hq, hqs⟩
      simp only [vcs, tbl, List.map, reduceIte, Nat.reduceLT, Nat.reduceLeDiff, Nat.reduceEqDiff, Nat.reduceAdd, Nat.reduceMul, Nat.reduceSub, true_and, and_true, decide_eq_true_eq, decide_eq_false_iff_not, List.cons_append, List.nil_append, Bool.false_eq_true, Array.empty_append, Array.append_empty, List.length_cons, List.length_nil, List.getElem?_cons_succ, List.getElem?_cons_zero, Option.some.injEq, Int.toNat_natCast, valsOf_map, List.toList_toArray, List.flatMap_cons, List.flatMap_nil, List.append_nil, List.take_succ_cons, List.take_zero, List.drop_zero, List.drop_succ_cons, Option.bind_some, h5, h1']
      refine ⟨fun hn => ⟨hg.trans hg2, -1, rfl, by omega, by omega⟩, fun hn => ?_⟩
      rw [wrap_id (by omega) (by omega)]
      refine ⟨[], Sub.nil _, ⟨k + 1, _, by simp, rfl, rfl, by omega, by omega, by omega, hg.trans hg2, ?_, by have := (hqs (by omega)).2; omega⟩, by omega⟩
      intro e he
      rw [List.take_add_one, List.getElem?_eq_getElem hlt] at he
      rcases List.mem_append.1 he with he | he
      · exact hsm e he
      · simp at he; subst he; exact (hqs (by omega)).1
    · have : k = es.length := by omega
      subst this
      exact ⟨hg, l, rfl, by omega, fun _ => ⟨⟨by omega, fun e he => hsm e (by simpa using he)⟩, by rw [List.take_length] at hw; omega⟩⟩

theorem swPSortS (es : List PSort) (hx : ∀ e ∈ es, SwO e) (m : World) (left : Int) (v : Value) (F : List Nat) (h : CellF m (.sl es.length (es.flatMap PSort.row)) v F) (h0 : 0 ≤ left) (h1 : left ≤ 1048576) :
   FCalls Try.prog 92 #[v, .int .i64 left] m fun r m' => Grow m m' ∧ ∃ k : Int, r = .int .i64 k ∧ k ≤ left ∧ (0 ≤ k → (es.length ≤ 1048576 ∧ ∀ e ∈ es, SSmall e) ∧ 9 * k + (cnL cnS es : Int) ≤ 9 * left) := by
  obtain ⟨a, cap, rfl, hcap, hmax, _⟩ := h.slice
  have hmax' : cap ≤ 9223372036854775807 := hmax
  refine fcalls_of_vc (args := [_, _]) follows_mixed Try.func92 rfl (by kernel_rfl) (by simp [Try.f92]) ?_
  simp only [Try.f92, vcs, tbl, List.map, reduceIte, Nat.reduceLT, Nat.reduceLeDiff, Nat.reduceEqDiff, Nat.reduceAdd, Nat.reduceMul, Nat.reduceSub, true_and, and_true, decide_eq_true_eq, decide_eq_false_iff_not, List.cons_append, List.nil_append, Bool.false_eq_true, Array.empty_append, Array.append_empty, List.length_cons, List.length_nil, List.getElem?_cons_succ, List.getElem?_cons_zero, Option.some.injEq, Int.toNat_natCast, valsOf_map, List.toList_toArray, List.flatMap_cons, List.flatMap_nil, List.append_nil, List.take_succ_cons, List.take_zero, List.drop_zero, List.drop_succ_cons, Option.bind_some]
  rw [wrap_id (by omega) (by omega)]
  refine ⟨fun h => ⟨Grow.refl _, -1, rfl, by omega, by omega⟩, fun h' => ?_⟩
  refine vcLoop.intro (fun f L m1 => ∃ (k : Nat) (l : Int), f 5 = .c (.v (.int .i64 k)) ∧ f 1 = .c (.v (.int .i64 l)) ∧ L = [] ∧ k ≤ es.length ∧ 0 ≤ l ∧ l ≤ left ∧ Grow m m1 ∧ (∀ e ∈ es.take k, SSmall e) ∧ 9 * l + (cnL cnS (es.take k) : Int) ≤ 9 * (left - es.length) + 9 * k)
    (fun f _ _ => (es.length - ixS (f 5)).toNat) ⟨[], Sub.nil _, 0, left - es.length, ?_⟩ ?_
  · simp only [vcs, tbl, List.map, reduceIte, Nat.reduceLT, Nat.reduceLeDiff, Nat.reduceEqDiff, Nat.reduceAdd, Nat.reduceMul, Nat.reduceSub, true_and, and_true, decide_eq_true_eq, decide_eq_false_iff_not, List.cons_append, List.nil_append, Bool.false_eq_true, Array.empty_append, Array.append_empty, List.length_cons, List.length_nil, List.getElem?_cons_succ, List.getElem?_cons_zero, Option.some.injEq, Int.toNat_natCast, valsOf_map, List.toList_toArray, List.flatMap_cons, List.flatMap_nil, List.append_nil, List.take_succ_cons, List.take_zero, List.drop_zero, List.drop_succ_cons, Option.bind_some]
    exact ⟨rfl, by omega, by omega, by omega, Grow.refl _, by simp, by simp [cnL]⟩
  · rintro g L1 m1 ⟨k, l, h5, h1', rfl, hk, hl0, hl1', hg, hsm, hw⟩
    have hl1 : l ≤ 1048576 := by omega
    simp only [vcs, tbl, List.map, reduceIte, Nat.reduceLT, Nat.reduceLeDiff, Nat.reduceEqDiff, Nat.reduceAdd, Nat.reduceMul, Nat.reduceSub, true_and, and_true, decide_eq_true_eq, decide_eq_false_iff_not, List.cons_append, List.nil_append, Bool.false_eq_true, Array.empty_append, Array.append_empty, List.length_cons, List.length_nil, List.getElem?_cons_succ, List.getElem?_cons_zero, Option.some.injEq, Int.toNat_natCast, valsOf_map, List.toList_toArray, List.flatMap_cons, List.flatMap_nil, List.append_nil, List.take_succ_cons, List.take_zero, List.drop_zero, List.drop_succ_cons, Option.bind_some] at h5 h1'
    simp only [vcs, tbl, List.map, reduceIte, Nat.reduceLT, Nat.reduceLeDiff, Nat.reduceEqDiff, Nat.reduceAdd, Nat.reduceMul, Nat.reduceSub, true_and, and_true, decide_eq_true_eq, decide_eq_false_iff_not, List.cons_append, List.nil_append, Bool.false_eq_true, Array.empty_append, Array.append_empty, List.length_cons, List.length_nil, List.getElem?_cons_succ, List.getElem?_cons_zero, Option.some.injEq, Int.toNat_natCast, valsOf_map, List.toList_toArray, List.flatMap_cons, List.flatMap_nil, List.append_nil, List.take_succ_cons, List.take_zero, List.drop_zero, List.drop_succ_cons, Option.bind_some, h5, h1']
    refine ⟨fun hlt => ?_, fun hge => ?_⟩
    · have hlt : k < es.length := by omega
      have hcs := cnL_take_succ cnS es k hlt
      obtain ⟨ad, vs, Fk, ha, hlen, hcell, hv, _⟩ := h.elem PSort.row_len (by decide) (List.getElem?_eq_getElem hlt)
      refine ⟨by omega, by omega, ad, ha, vs, hlen, fun j v hj => hg.cell (by simpa using hcell j v hj), ?_⟩
      simp only [vcs, tbl, List.map, reduceIte, Nat.reduceLT, Nat.reduceLeDiff, Nat.reduceEqDiff, Nat.reduceAdd, Nat.reduceMul, Nat.reduceSub, true_and, and_true, decide_eq_true_eq, decide_eq_false_iff_not, List.cons_append, List.nil_append, Bool.false_eq_true, Array.empty_append, Array.append_empty, List.length_cons, List.length_nil, List.getElem?_cons_succ, List.getElem?_cons_zero, Option.some.injEq, Int.toNat_natCast, valsOf_map, List.toList_toArray, List.flatMap_cons, List.flatMap_nil, List.append_nil, List.take_succ_cons, List.take_zero, List.drop_zero, List.drop_succ_cons, Option.bind_some, h5, h1']
      refine (hx _ (List.getElem_mem hlt) _ _ _ _ (hv.grow hg) hl0 hl1).mono ?_
      rintro r m2 ⟨hg2, q, rfl, hq, hqs⟩
      simp only [vcs, tbl, List.map, reduceIte, Nat.reduceLT, Nat.reduceLeDiff, Nat.reduceEqDiff, Nat.reduceAdd, Nat.reduceMul, Nat.reduceSub, true_and, and_true, decide_eq_true_eq, decide_eq_false_iff_not, List.cons_append, List.nil_append, Bool.false_eq_true, Array.empty_append, Array.append_empty, List.length_cons, List.length_nil, List.getElem?_cons_succ, List.getElem?_cons_zero, Option.some.injEq, Int.toNat_natCast, valsOf_map, List.toList_toArray, List.flatMap_cons, List.flatMap_nil, List.append_nil, List.take_succ_cons, List.take_zero, List.drop_zero, List.drop_succ_cons, Option.bind_some, h5, h1']
      refine ⟨fun hn => ⟨hg.trans hg2, -1, rfl, by omega, by omega⟩, fun hn => ?_⟩
      rw [wrap_id (by omega) (by omega)]
      refine ⟨[], Sub.nil _, ⟨k + 1, _, by simp, rfl, rfl, by omega, by omega, by omega, hg.trans hg2, ?_, by have := (hqs (by omega)).2; omega⟩, by omega⟩
      intro e he
      rw [List.take_add_one, List.getElem?_eq_getElem hlt] at he
      rcases List.mem_append.1 he with he | he
      · exact hsm e he
      · simp at he; subst he; exact (hqs (by omega)).1
    · have : k = es.length := by omega
      subst this
      exact ⟨hg, l, rfl, by omega, fun _ => ⟨⟨by omega, fun e he => hsm e (by simpa using he)⟩, by rw [List.take_length] at hw; omega⟩⟩

theorem swPExprSS (es : List (List PExpr)) (hx : ∀ l ∈ es, ∀ e ∈ l, SwE e) (m : World) (left : Int) (v : Value) (F : List Nat) (h : CellF m (.sl es.length (es.flatMap erow)) v F) (h0 : 0 ≤ left) (h1 : left ≤ 1048576) :
   FCalls Try.prog 91 #[v, .int .i64 left] m fun r m' => Grow m m' ∧ ∃ k : Int, r = .int .i64 k ∧ k ≤ left ∧ (0 ≤ k → (es.length ≤ 1048576 ∧ ∀ e ∈ es, esmallW e) ∧ 9 * k + (cnL (cnL cnE) es : Int) ≤ 9 * left) := by
  obtain ⟨a, cap, rfl, hcap, hmax, _⟩ := h.slice
  have hmax' : cap ≤ 9223372036854775807 := hmax
  refine fcalls_of_vc (args := [_, _]) follows_mixed Try.func91 rfl (by kernel_rfl) (by simp [Try.f91]) ?_
  simp only [Try.f91, vcs, tbl, List.map, reduceIte, Nat.reduceLT, Nat.reduceLeDiff, Nat.reduceEqDiff, Nat.reduceAdd, Nat.reduceMul, Nat.reduceSub, true_and, and_true, decide_eq_true_eq, decide_eq_false_iff_not, List.cons_append, List.nil_append, Bool.false_eq_true, Array.empty_append, Array.append_empty, List.length_cons, List.length_nil, List.getElem?_cons_succ, List.getElem?_cons_zero, Option.some.injEq, Int.toNat_natCast, valsOf_map, List.toList_toArray, List.flatMap_cons, List.flatMap_nil, List.append_nil, List.take_succ_cons, List.take_zero, List.drop_zero, List.drop_succ_cons, Option.bind_some]
  rw [wrap_id (by omega) (by omega)]
  refine ⟨fun h => ⟨Grow.refl _, -1, rfl, by omega, by omega⟩, fun h' => ?_⟩
  refine vcLoop.intro (fun f L m1 => ∃ (k : Nat) (l : Int), f 5 = .c (.v (.int .i64 k)) ∧ f 1 = .c (.v (.int .i64 l)) ∧ L = [] ∧ k ≤ es.length ∧ 0 ≤ l ∧ l ≤ left ∧ Grow m m1 ∧ (∀ e ∈ es.take k, esmallW e) ∧ 9 * l + (cnL (cnL cnE) (es.take k) : Int) ≤ 9 * (left - es.length) + 9 * k)
    (fun f _ _ => (es.length - ixS (f 5)).toNat) ⟨[], Sub.nil _, 0, left - es.length, ?_⟩ ?_
  · simp only [vcs, tbl, List.map, reduceIte, Nat.reduceLT, Nat.reduceLeDiff, Nat.reduceEqDiff, Nat.reduceAdd, Nat.reduceMul, Nat.reduceSub, true_and, and_true, decide_eq_true_eq, decide_eq_false_iff_not, List.cons_append, List.nil_append, Bool.false_eq_true, Array.empty_append, Array.append_empty, List.length_cons, List.length_nil, List.getElem?_cons_succ, List.getElem?_cons_zero, Option.some.injEq, Int.toNat_natCast, valsOf_map, List.toList_toArray, List.flatMap_cons, List.flatMap_nil, List.append_nil, List.take_succ_cons, List.take_zero, List.drop_zero, List.drop_succ_cons, Option.bind_some]
    exact ⟨rfl, by omega, by omega, by omega, Grow.refl _, by simp, by simp [cnL]⟩
  · rintro g L1 m1 ⟨k, l, h5, h1', rfl, hk, hl0, hl1', hg, hsm, hw⟩
    have hl1 : l ≤ 1048576 := by omega
    simp only [vcs, tbl, List.map, reduceIte, Nat.reduceLT, Nat.reduceLeDiff, Nat.reduceEqDiff, Nat.reduceAdd, Nat.reduceMul, Nat.reduceSub, true_and, and_true, decide_eq_true_eq, decide_eq_false_iff_not, List.cons_append, List.nil_append, Bool.false_eq_true, Array.empty_append, Array.append_empty, List.length_cons, List.length_nil, List.getElem?_cons_succ, List.getElem?_cons_zero, Option.some.injEq, Int.toNat_natCast, valsOf_map, List.toList_toArray, List.flatMap_cons, List.flatMap_nil, List.append_nil, List.take_succ_cons, List.take_zero, List.drop_zero, List.drop_succ_cons, Option.bind_some] at h5 h1'
    simp only [vcs, tbl, List.map, reduceIte, Nat.reduceLT, Nat.reduceLeDiff, Nat.reduceEqDiff, Nat.reduceAdd, Nat.reduceMul, Nat.reduceSub, true_and, and_true, decide_eq_true_eq, decide_eq_false_iff_not, List.cons_append, List.nil_append, Bool.false_eq_true, Array.empty_append, Array.append_empty, List.length_cons, List.length_nil, List.getElem?_cons_succ, List.getElem?_cons_zero, Option.some.injEq, Int.toNat_natCast, valsOf_map, List.toList_toArray, List.flatMap_cons, List.flatMap_nil, List.append_nil, List.take_succ_cons, List.take_zero, List.drop_zero, List.drop_succ_cons, Option.bind_some, h5, h1']
    refine ⟨fun hlt => ?_, fun hge => ?_⟩
    · have hlt : k < es.length := by omega
      have hcs := cnL_take_succ (cnL cnE) es k hlt
      obtain ⟨ad, vs, Fk, ha, hlen, hcell, hv, _⟩ := h.elem erow_len (by decide) (List.getElem?_eq_getElem hlt)
      obtain ⟨u, hu⟩ : ∃ u, vs[0]? = some u := ⟨vs[0]'(by omega), List.getElem?_eq_getElem _⟩
      have hcu := hg.cell (hcell 0 u hu)
      rw [add0] at hcu
      have hvu := (ValsF.one hv hu).grow hg
      refine ⟨by omega, by omega, ad, ha, u, hcu, ?_⟩
      simp only [vcs, tbl, List.map, reduceIte, Nat.reduceLT, Nat.reduceLeDiff, Nat.reduceEqDiff, Nat.reduceAdd, Nat.reduceMul, Nat.reduceSub, true_and, and_true, decide_eq_true_eq, decide_eq_false_iff_not, List.cons_append, List.nil_append, Bool.false_eq_true, Array.empty_append, Array.append_empty, List.length_cons, List.length_nil, List.getElem?_cons_succ, List.getElem?_cons_zero, Option.some.injEq, Int.toNat_natCast, valsOf_map, List.toList_toArray, List.flatMap_cons, List.flatMap_nil, List.append_nil, List.take_succ_cons, List.take_zero, List.drop_zero, List.drop_succ_cons, Option.bind_some, h5, h1']
      refine (swPExprS _ (hx _ (List.getElem_mem hlt)) _ _ _ _ hvu hl0 hl1).mono ?_
      rintro r m2 ⟨hg2, q, rfl, hq, hqs⟩
      simp only [vcs, tbl, List.map, reduceIte, Nat.reduceLT, Nat.reduceLeDiff, Nat.reduceEqDiff, Nat.reduceAdd, Nat.reduceMul, Nat.reduceSub, true_and, and_true, decide_eq_true_eq, decide_eq_false_iff_not, List.cons_append, List.nil_append, Bool.false_eq_true, Array.empty_append, Array.append_empty, List.length_cons, List.length_nil, List.getElem?_cons_succ, List.getElem?_cons_zero, Option.some.injEq, Int.toNat_natCast, valsOf_map, List.toList_toArray, List.flatMap_cons, List.flatMap_nil, List.append_nil, List.take_succ_cons, List.take_zero, List.drop_zero, List.drop_succ_cons, Option.bind_some, h5, h1']
      refine ⟨fun hn => ⟨hg.trans hg2, -1, rfl, by omega, by omega⟩, fun hn => ?_⟩
      rw [wrap_id (by omega) (by omega)]
      refine ⟨[], Sub.nil _, ⟨k + 1, _, by simp, rfl, rfl, by omega, by omega, by omega, hg.trans hg2, ?_, by have := (hqs (by omega)).2; omega⟩, by omega⟩
      intro e he
      rw [List.take_add_one, List.getElem?_eq_getElem hlt] at he
      rcases List.mem_append.1 he with he | he
      · exact hsm e he
      · simp at he; subst he; exact (hqs (by omega)).1
    · have : k = es.length := by omega
      subst this
      exact ⟨hg, l, rfl, by omega, fun _ => ⟨⟨by omega, fun e he => hsm e (by simpa using he)⟩, by rw [List.take_length] at hw; omega⟩⟩

theorem swStringS (es : List ByteArray)  (m : World) (left : Int) (v : Value) (F : List Nat) (h : CellF m (.sl es.length (es.flatMap srow)) v F) (h0 : 0 ≤ left) (h1 : left ≤ 1048576) :
   FCalls Try.prog 93 #[v, .int .i64 left] m fun r m' => Grow m m' ∧ ∃ k : Int, r = .int .i64 k ∧ k ≤ left ∧ (0 ≤ k → (es.length ≤ 1048576 ∧ ∀ e ∈ es, tsmallW e) ∧ 9 * k + (cnL (fun _ => 1) es : Int) ≤ 9 * left) := by
  obtain ⟨a, cap, rfl, hcap, hmax, _⟩ := h.slice
  have hmax' : cap ≤ 9223372036854775807 := hmax
  refine fcalls_of_vc (args := [_, _]) follows_mixed Try.func93 rfl (by kernel_rfl) (by simp [Try.f93]) ?_
  simp only [Try.f93, vcs, tbl, List.map, reduceIte, Nat.reduceLT, Nat.reduceLeDiff, Nat.reduceEqDiff, Nat.reduceAdd, Nat.reduceMul, Nat.reduceSub, true_and, and_true, decide_eq_true_eq, decide_eq_false_iff_not, List.cons_append, List.nil_append, Bool.false_eq_true, Array.empty_append, Array.append_empty, List.length_cons, List.length_nil, List.getElem?_cons_succ, List.getElem?_cons_zero, Option.some.injEq, Int.toNat_natCast, valsOf_map, List.toList_toArray, List.flatMap_cons, List.flatMap_nil, List.append_nil, List.take_succ_cons, List.take_zero, List.drop_zero, List.drop_succ_cons, Option.bind_some]
  rw [wrap_id (by omega) (by omega)]
  refine ⟨fun h => ⟨Grow.refl _, -1, rfl, by omega, by omega⟩, fun h' => ?_⟩
  refine vcLoop.intro (fun f L m1 => ∃ (k : Nat) (l : Int), f 5 = .c (.v (.int .i64 k)) ∧ f 1 = .c (.v (.int .i64 l)) ∧ L = [] ∧ k ≤ es.length ∧ 0 ≤ l ∧ l ≤ left ∧ Grow m m1 ∧ (∀ e ∈ es.take k, tsmallW e) ∧ 9 * l + (cnL (fun _ => 1) (es.take k) : Int) ≤ 9 * (left - es.length) + 9 * k)
    (fun f _ _ => (es.length - ixS (f 5)).toNat) ⟨[], Sub.nil _, 0, left - es.length, ?_⟩ ?_
  · simp only [vcs, tbl, List.map, reduceIte, Nat.reduceLT, Nat.reduceLeDiff, Nat.reduceEqDiff, Nat.reduceAdd, Nat.reduceMul, Nat.reduceSub, true_and, and_true, decide_eq_true_eq, decide_eq_false_iff_not, List.cons_append, List.nil_append, Bool.false_eq_true, Array.empty_append, Array.append_empty, List.length_cons, List.length_nil, List.getElem?_cons_succ, List.getElem?_cons_zero, Option.some.injEq, Int.toNat_natCast, valsOf_map, List.toList_toArray, List.flatMap_cons, List.flatMap_nil, List.append_nil, List.take_succ_cons, List.take_zero, List.drop_zero, List.drop_succ_cons, Option.bind_some]
    exact ⟨rfl, by omega, by omega, by omega, Grow.refl _, by simp, by simp [cnL]⟩
  · rintro g L1 m1 ⟨k, l, h5, h1', rfl, hk, hl0, hl1', hg, hsm, hw⟩
    have hl1 : l ≤ 1048576 := by omega
    simp only [vcs, tbl, List.map, reduceIte, Nat.reduceLT, Nat.reduceLeDiff, Nat.reduceEqDiff, Nat.reduceAdd, Nat.reduceMul, Nat.reduceSub, true_and, and_true, decide_eq_true_eq, decide_eq_false_iff_not, List.cons_append, List.nil_append, Bool.false_eq_true, Array.empty_append, Array.append_empty, List.length_cons, List.length_nil, List.getElem?_cons_succ, List.getElem?_cons_zero, Option.some.injEq, Int.toNat_natCast, valsOf_map, List.toList_toArray, List.flatMap_cons, List.flatMap_nil, List.append_nil, List.take_succ_cons, List.take_zero, List.drop_zero, List.drop_succ_cons, Option.bind_some] at h5 h1'
    simp only [vcs, tbl, List.map, reduceIte, Nat.reduceLT, Nat.reduceLeDiff, Nat.reduceEqDiff, Nat.reduceAdd, Nat.reduceMul, Nat.reduceSub, true_and, and_true, decide_eq_true_eq, decide_eq_false_iff_not, List.cons_append, List.nil_append, Bool.false_eq_true, Array.empty_append, Array.append_empty, List.length_cons, List.length_nil, List.getElem?_cons_succ, List.getElem?_cons_zero, Option.some.injEq, Int.toNat_natCast, valsOf_map, List.toList_toArray, List.flatMap_cons, List.flatMap_nil, List.append_nil, List.take_succ_cons, List.take_zero, List.drop_zero, List.drop_succ_cons, Option.bind_some, h5, h1']
    refine ⟨fun hlt => ?_, fun hge => ?_⟩
    · have hlt : k < es.length := by omega
      have hcs := cnL_take_succ (fun _ => 1) es k hlt
      obtain ⟨ad, vs, Fk, ha, hlen, hcell, hv, _⟩ := h.elem srow_len (by decide) (List.getElem?_eq_getElem hlt)
      obtain ⟨r1, rfl, hv1, ho⟩ := valsF_lit hv
      have ho' : es[k].size ≤ 9223372036854775807 := ho
      have hcu := hg.cell (hcell 0 _ rfl)
      rw [add0] at hcu
      refine ⟨by omega, by omega, ad, ha, _, hcu, ?_⟩
      simp only [vcs, tbl, List.map, reduceIte, Nat.reduceLT, Nat.reduceLeDiff, Nat.reduceEqDiff, Nat.reduceAdd, Nat.reduceMul, Nat.reduceSub, true_and, and_true, decide_eq_true_eq, decide_eq_false_iff_not, List.cons_append, List.nil_append, Bool.false_eq_true, Array.empty_append, Array.append_empty, List.length_cons, List.length_nil, List.getElem?_cons_succ, List.getElem?_cons_zero, Option.some.injEq, Int.toNat_natCast, valsOf_map, List.toList_toArray, List.flatMap_cons, List.flatMap_nil, List.append_nil, List.take_succ_cons, List.take_zero, List.drop_zero, List.drop_succ_cons, Option.bind_some, h5, h1']
      rw [wrap_id (by omega) (by omega)]
      refine ⟨fun hn => ⟨hg, -1, rfl, by omega, by omega⟩, fun hn => ?_⟩
      rw [wrap_id (by omega) (by omega)]
      refine ⟨[], Sub.nil _, ⟨k + 1, _, by simp, rfl, rfl, by omega, by omega, by omega, hg, ?_, by omega⟩, by omega⟩
      intro e he
      trivial
    · have : k = es.length := by omega
      subst this
      exact ⟨hg, l, rfl, by omega, fun _ => ⟨⟨by omega, fun e he => hsm e (by simpa using he)⟩, by rw [List.take_length] at hw; omega⟩⟩

theorem swPExpr_step (k o n v u a ks ss) (hk : ∀ e ∈ ks, SwE e) (hp : ∀ p ∈ ss, SwP p) : SwE (.mk k o n v u a ks ss) := by
  intro m vs F left h h0 h1
  obtain ⟨x, y, F1, F2, rfl, hv, c1, c2, rfl⟩ := PExpr.vals h
  refine fcalls_of_vc (args := [_, _]) follows_mixed Try.func21 rfl (by kernel_rfl) (by simp [Try.f21]) ?_
  simp only [Try.f21, vcs, tbl, List.map, reduceIte, Nat.reduceLT, Nat.reduceLeDiff, Nat.reduceEqDiff, Nat.reduceAdd, Nat.reduceMul, Nat.reduceSub, true_and, and_true, decide_eq_true_eq, decide_eq_false_iff_not, List.cons_append, List.nil_append, Bool.false_eq_true, Array.empty_append, Array.append_empty, List.length_cons, List.length_nil, List.getElem?_cons_succ, List.getElem?_cons_zero, Option.some.injEq, Int.toNat_natCast, valsOf_map, List.toList_toArray, List.flatMap_cons, List.flatMap_nil, List.append_nil, List.take_succ_cons, List.take_zero, List.drop_zero, List.drop_succ_cons, Option.bind_some]
  refine (szValue v _ _ _ _ (Val.mk_vals _ _ hv) h0 h1).mono ?_
  rintro r m1 ⟨hg1, k1, rfl, hk1, hs1⟩
  have g1 := hg1
  simp only [vcs, tbl, List.map, reduceIte, Nat.reduceLT, Nat.reduceLeDiff, Nat.reduceEqDiff, Nat.reduceAdd, Nat.reduceMul, Nat.reduceSub, true_and, and_true, decide_eq_true_eq, decide_eq_false_iff_not, List.cons_append, List.nil_append, Bool.false_eq_true, Array.empty_append, Array.append_empty, List.length_cons, List.length_nil, List.getElem?_cons_succ, List.getElem?_cons_zero, Option.some.injEq, Int.toNat_natCast, valsOf_map, List.toList_toArray, List.flatMap_cons, List.flatMap_nil, List.append_nil, List.take_succ_cons, List.take_zero, List.drop_zero, List.drop_succ_cons, Option.bind_some]
  refine ⟨fun h => ⟨g1, -1, rfl, by omega, by omega⟩, fun hn1 => ?_⟩
  refine (swPExprS _ hk _ _ _ _ (c1.grow g1) (by omega) (by omega)).mono ?_
  rintro r m2 ⟨hg2, k2, rfl, hk2, hs2⟩
  have g2 := g1.trans hg2
  simp only [vcs, tbl, List.map, reduceIte, Nat.reduceLT, Nat.reduceLeDiff, Nat.reduceEqDiff, Nat.reduceAdd, Nat.reduceMul, Nat.reduceSub, true_and, and_true, decide_eq_true_eq, decide_eq_false_iff_not, List.cons_append, List.nil_append, Bool.false_eq_true, Array.empty_append, Array.append_empty, List.length_cons, List.length_nil, List.getElem?_cons_succ, List.getElem?_cons_zero, Option.some.injEq, Int.toNat_natCast, valsOf_map, List.toList_toArray, List.flatMap_cons, List.flatMap_nil, List.append_nil, List.take_succ_cons, List.take_zero, List.drop_zero, List.drop_succ_cons, Option.bind_some]
  refine ⟨fun h => ⟨g2, -1, rfl, by omega, by omega⟩, fun hn2 => ?_⟩
  refine (swPlanS _ hp _ _ _ _ (c2.grow g2) (by omega) (by omega)).mono ?_
  rintro r m3 ⟨hg3, k3, rfl, hk3, hs3⟩
  have g3 := g2.trans hg3
  simp only [vcs, tbl, List.map, reduceIte, Nat.reduceLT, Nat.reduceLeDiff, Nat.reduceEqDiff, Nat.reduceAdd, Nat.reduceMul, Nat.reduceSub, true_and, and_true, decide_eq_true_eq, decide_eq_false_iff_not, List.cons_append, List.nil_append, Bool.false_eq_true, Array.empty_append, Array.append_empty, List.length_cons, List.length_nil, List.getElem?_cons_succ, List.getElem?_cons_zero, Option.some.injEq, Int.toNat_natCast, valsOf_map, List.toList_toArray, List.flatMap_cons, List.flatMap_nil, List.append_nil, List.take_succ_cons, List.take_zero, List.drop_zero, List.drop_succ_cons, Option.bind_some]
  refine ⟨fun h => ⟨g3, -1, rfl, by omega, by omega⟩, fun hn => ⟨g3, _, rfl, by omega, fun h => ?_⟩⟩
  obtain ⟨q2, w2⟩ := hs2 (by omega)
  obtain ⟨q3, w3⟩ := hs3 (by omega)
  refine ⟨.mk (hs1 (by omega)) q2.1 q2.2 q3.1 q3.2, ?_⟩
  rw [cnE, cnEs_eq, cnPs_eq]; omega
theorem swPSort_step (e d) (he : SwE e) : SwO (.mk e d) := by
  intro m vs F left h h0 h1
  obtain ⟨us, rfl, hl, hv⟩ := PSort.vals h
  have hcs : cnS (.mk e d) = cnE e + 1 := by rw [cnS]
  rw [hcs]
  have he0 := he
  obtain ⟨k, o, n, v, u, a, ks, ss⟩ := e
  obtain ⟨x, y, F1, F2, rfl, _, c1, c2, rfl⟩ := PExpr.vals hv
  refine fcalls_of_vc (args := [_, _]) follows_mixed Try.func148 rfl (by kernel_rfl) (by simp [Try.f148]) ?_
  simp only [Try.f148, vcs, tbl, List.map, reduceIte, Nat.reduceLT, Nat.reduceLeDiff, Nat.reduceEqDiff, Nat.reduceAdd, Nat.reduceMul, Nat.reduceSub, true_and, and_true, decide_eq_true_eq, decide_eq_false_iff_not, List.cons_append, List.nil_append, Bool.false_eq_true, Array.empty_append, Array.append_empty, List.length_cons, List.length_nil, List.getElem?_cons_succ, List.getElem?_cons_zero, Option.some.injEq, Int.toNat_natCast, valsOf_map, List.toList_toArray, List.flatMap_cons, List.flatMap_nil, List.append_nil, List.take_succ_cons, List.take_zero, List.drop_zero, List.drop_succ_cons, Option.bind_some]
  refine (he0 _ _ _ _ hv h0 h1).mono ?_
  rintro r m1 ⟨hg1, k1, rfl, hk1, hs1⟩
  have g1 := hg1
  simp only [vcs, tbl, List.map, reduceIte, Nat.reduceLT, Nat.reduceLeDiff, Nat.reduceEqDiff, Nat.reduceAdd, Nat.reduceMul, Nat.reduceSub, true_and, and_true, decide_eq_true_eq, decide_eq_false_iff_not, List.cons_append, List.nil_append, Bool.false_eq_true, Array.empty_append, Array.append_empty, List.length_cons, List.length_nil, List.getElem?_cons_succ, List.getElem?_cons_zero, Option.some.injEq, Int.toNat_natCast, valsOf_map, List.toList_toArray, List.flatMap_cons, List.flatMap_nil, List.append_nil, List.take_succ_cons, List.take_zero, List.drop_zero, List.drop_succ_cons, Option.bind_some]
  refine ⟨fun h => ⟨g1, -1, rfl, by omega, by omega⟩, fun hn => ⟨g1, _, rfl, by omega, fun h => ?_⟩⟩
  obtain ⟨q1, w1⟩ := hs1 (by omega)
  exact ⟨.mk q1, by omega⟩
theorem swPlan_step (t on wh or it nm ds li) (h1 : ∀ l ∈ on, ∀ e ∈ l, SwE e) (h2 : ∀ e ∈ wh, SwE e) (h3 : ∀ s ∈ or, SwO s) (h4 : ∀ e ∈ it, SwE e) : SwP (.mk t on wh or it nm ds li) := by
  intro m vs F left h z0 z1
  obtain ⟨a, b, c, d, e, f, F1, F2, F3, F4, F5, F6, rfl, c1, c2, c3, c4, c5, c6, rfl⟩ := Plan.vals h
  refine fcalls_of_vc (args := [_, _]) follows_mixed Try.func34 rfl (by kernel_rfl) (by simp [Try.f34]) ?_
  simp only [Try.f34, vcs, tbl, List.map, reduceIte, Nat.reduceLT, Nat.reduceLeDiff, Nat.reduceEqDiff, Nat.reduceAdd, Nat.reduceMul, Nat.reduceSub, true_and, and_true, decide_eq_true_eq, decide_eq_false_iff_not, List.cons_append, List.nil_append, Bool.false_eq_true, Array.empty_append, Array.append_empty, List.length_cons, List.length_nil, List.getElem?_cons_succ, List.getElem?_cons_zero, Option.some.injEq, Int.toNat_natCast, valsOf_map, List.toList_toArray, List.flatMap_cons, List.flatMap_nil, List.append_nil, List.take_succ_cons, List.take_zero, List.drop_zero, List.drop_succ_cons, Option.bind_some]
  refine (swIntS _ _ _ _ _ c1 z0 z1).mono ?_
  rintro r m1 ⟨hg1, k1, rfl, hk1, hs1⟩
  have g1 := hg1
  simp only [vcs, tbl, List.map, reduceIte, Nat.reduceLT, Nat.reduceLeDiff, Nat.reduceEqDiff, Nat.reduceAdd, Nat.reduceMul, Nat.reduceSub, true_and, and_true, decide_eq_true_eq, decide_eq_false_iff_not, List.cons_append, List.nil_append, Bool.false_eq_true, Array.empty_append, Array.append_empty, List.length_cons, List.length_nil, List.getElem?_cons_succ, List.getElem?_cons_zero, Option.some.injEq, Int.toNat_natCast, valsOf_map, List.toList_toArray, List.flatMap_cons, List.flatMap_nil, List.append_nil, List.take_succ_cons, List.take_zero, List.drop_zero, List.drop_succ_cons, Option.bind_some]
  refine ⟨fun h => ⟨g1, -1, rfl, by omega, by omega⟩, fun hn1 => ?_⟩
  refine (swPExprSS _ h1 _ _ _ _ (c2.grow g1) (by omega) (by omega)).mono ?_
  rintro r m2 ⟨hg2, k2, rfl, hk2, hs2⟩
  have g2 := g1.trans hg2
  simp only [vcs, tbl, List.map, reduceIte, Nat.reduceLT, Nat.reduceLeDiff, Nat.reduceEqDiff, Nat.reduceAdd, Nat.reduceMul, Nat.reduceSub, true_and, and_true, decide_eq_true_eq, decide_eq_false_iff_not, List.cons_append, List.nil_append, Bool.false_eq_true, Array.empty_append, Array.append_empty, List.length_cons, List.length_nil, List.getElem?_cons_succ, List.getElem?_cons_zero, Option.some.injEq, Int.toNat_natCast, valsOf_map, List.toList_toArray, List.flatMap_cons, List.flatMap_nil, List.append_nil, List.take_succ_cons, List.take_zero, List.drop_zero, List.drop_succ_cons, Option.bind_some]
  refine ⟨fun h => ⟨g2, -1, rfl, by omega, by omega⟩, fun hn2 => ?_⟩
  refine (swPExprS _ h2 _ _ _ _ (c3.grow g2) (by omega) (by omega)).mono ?_
  rintro r m3 ⟨hg3, k3, rfl, hk3, hs3⟩
  have g3 := g2.trans hg3
  simp only [vcs, tbl, List.map, reduceIte, Nat.reduceLT, Nat.reduceLeDiff, Nat.reduceEqDiff, Nat.reduceAdd, Nat.reduceMul, Nat.reduceSub, true_and, and_true, decide_eq_true_eq, decide_eq_false_iff_not, List.cons_append, List.nil_append, Bool.false_eq_true, Array.empty_append, Array.append_empty, List.length_cons, List.length_nil, List.getElem?_cons_succ, List.getElem?_cons_zero, Option.some.injEq, Int.toNat_natCast, valsOf_map, List.toList_toArray, List.flatMap_cons, List.flatMap_nil, List.append_nil, List.take_succ_cons, List.take_zero, List.drop_zero, List.drop_succ_cons, Option.bind_some]
  refine ⟨fun h => ⟨g3, -1, rfl, by omega, by omega⟩, fun hn3 => ?_⟩
  refine (swPSortS _ h3 _ _ _ _ (c4.grow g3) (by omega) (by omega)).mono ?_
  rintro r m4 ⟨hg4, k4, rfl, hk4, hs4⟩
  have g4 := g3.trans hg4
  simp only [vcs, tbl, List.map, reduceIte, Nat.reduceLT, Nat.reduceLeDiff, Nat.reduceEqDiff, Nat.reduceAdd, Nat.reduceMul, Nat.reduceSub, true_and, and_true, decide_eq_true_eq, decide_eq_false_iff_not, List.cons_append, List.nil_append, Bool.false_eq_true, Array.empty_append, Array.append_empty, List.length_cons, List.length_nil, List.getElem?_cons_succ, List.getElem?_cons_zero, Option.some.injEq, Int.toNat_natCast, valsOf_map, List.toList_toArray, List.flatMap_cons, List.flatMap_nil, List.append_nil, List.take_succ_cons, List.take_zero, List.drop_zero, List.drop_succ_cons, Option.bind_some]
  refine ⟨fun h => ⟨g4, -1, rfl, by omega, by omega⟩, fun hn4 => ?_⟩
  refine (swPExprS _ h4 _ _ _ _ (c5.grow g4) (by omega) (by omega)).mono ?_
  rintro r m5 ⟨hg5, k5, rfl, hk5, hs5⟩
  have g5 := g4.trans hg5
  simp only [vcs, tbl, List.map, reduceIte, Nat.reduceLT, Nat.reduceLeDiff, Nat.reduceEqDiff, Nat.reduceAdd, Nat.reduceMul, Nat.reduceSub, true_and, and_true, decide_eq_true_eq, decide_eq_false_iff_not, List.cons_append, List.nil_append, Bool.false_eq_true, Array.empty_append, Array.append_empty, List.length_cons, List.length_nil, List.getElem?_cons_succ, List.getElem?_cons_zero, Option.some.injEq, Int.toNat_natCast, valsOf_map, List.toList_toArray, List.flatMap_cons, List.flatMap_nil, List.append_nil, List.take_succ_cons, List.take_zero, List.drop_zero, List.drop_succ_cons, Option.bind_some]
  refine ⟨fun h => ⟨g5, -1, rfl, by omega, by omega⟩, fun hn5 => ?_⟩
  refine (swStringS _ _ _ _ _ (c6.grow g5) (by omega) (by omega)).mono ?_
  rintro r m6 ⟨hg6, k6, rfl, hk6, hs6⟩
  have g6 := g5.trans hg6
  simp only [vcs, tbl, List.map, reduceIte, Nat.reduceLT, Nat.reduceLeDiff, Nat.reduceEqDiff, Nat.reduceAdd, Nat.reduceMul, Nat.reduceSub, true_and, and_true, decide_eq_true_eq, decide_eq_false_iff_not, List.cons_append, List.nil_append, Bool.false_eq_true, Array.empty_append, Array.append_empty, List.length_cons, List.length_nil, List.getElem?_cons_succ, List.getElem?_cons_zero, Option.some.injEq, Int.toNat_natCast, valsOf_map, List.toList_toArray, List.flatMap_cons, List.flatMap_nil, List.append_nil, List.take_succ_cons, List.take_zero, List.drop_zero, List.drop_succ_cons, Option.bind_some]
  refine ⟨fun h => ⟨g6, -1, rfl, by omega, by omega⟩, fun hn => ⟨g6, _, rfl, by omega, fun h => ?_⟩⟩
  obtain ⟨q1, w1⟩ := hs1 (by omega)
  obtain ⟨q2, w2⟩ := hs2 (by omega)
  obtain ⟨q3, w3⟩ := hs3 (by omega)
  obtain ⟨q4, w4⟩ := hs4 (by omega)
  obtain ⟨q5, w5⟩ := hs5 (by omega)
  obtain ⟨q6, w6⟩ := hs6 (by omega)
  refine ⟨.mk q1 q2.1 (fun l hl => (q2.2 l hl).1) (fun l hl => (q2.2 l hl).2) q3.1 q3.2 q4.1 q4.2 q5.1 q5.2 q6.1, ?_⟩
  rw [cnP, cnEEs_eq, cnEs_eq, cnSs_eq, cnEs_eq]; omega
theorem sw_all : (∀ e, SwE e) ∧ (∀ p, SwP p) ∧ (∀ s, SwO s) := tree_ind swPExpr_step swPlan_step swPSort_step

end Go.Proofs.Ytklligemdfnimaa
set_option linter.unusedVariables false
set_option linter.unusedSimpArgs false
set_option maxRecDepth 4000
namespace Go.Proofs.Ytklligemdfnimaa
open Go Go.Vc
theorem specPositive_c (e : PExpr) (hs : ESmall e) : ChC 29 posE e := by
  intro m vs F h
  have h0 := h
  generalize hee : e = e0 at h0
  obtain ⟨k, o, n, v, u, a, ks, ss⟩ := e0
  obtain ⟨x, y, F1, F2, rfl, hv, c1, c2, rfl⟩ := PExpr.vals h0
  obtain ⟨ax, px, rfl, _⟩ := c1.slice
  obtain ⟨ay, py, rfl, _⟩ := c2.slice
  refine fcalls_of_vc (args := [_]) follows_mixed Try.func29 rfl (by kernel_rfl) (by simp [Try.f29]) ?_
  simp only [Try.f29, vcs, tbl, List.map, reduceIte, Nat.reduceLT, Nat.reduceLeDiff, Nat.reduceEqDiff, Nat.reduceAdd, Nat.reduceMul, Nat.reduceSub, true_and, and_true, decide_eq_true_eq, decide_eq_false_iff_not, List.cons_append, List.nil_append, Bool.false_eq_true, Array.empty_append, Array.append_empty, List.length_cons, List.length_nil, List.getElem?_cons_succ, List.getElem?_cons_zero, Option.some.injEq, Int.toNat_natCast, valsOf_map, List.toList_toArray, List.flatMap_cons, List.flatMap_nil, List.append_nil, List.take_succ_cons, List.take_zero, List.drop_zero, List.drop_succ_cons, Option.bind_some, List.all_cons, List.all_nil, Bool.and_true, Bool.and_self, ne_eq, reduceCtorEq, not_false_eq_true, and_self]
  refine (cp_all.1 e hs _ _ _ h).mono ?_
  rintro r m1 ⟨hg1, us, F', rfl, hvr, hf1, ho1⟩
  have hvr : ValsF m1 e.row us F' := hvr
  simp only [vcs, tbl, List.map, reduceIte, Nat.reduceLT, Nat.reduceLeDiff, Nat.reduceEqDiff, Nat.reduceAdd, Nat.reduceMul, Nat.reduceSub, true_and, and_true, decide_eq_true_eq, decide_eq_false_iff_not, List.cons_append, List.nil_append, Bool.false_eq_true, Array.empty_append, Array.append_empty, List.length_cons, List.length_nil, List.getElem?_cons_succ, List.getElem?_cons_zero, Option.some.injEq, Int.toNat_natCast, valsOf_map, List.toList_toArray, List.flatMap_cons, List.flatMap_nil, List.append_nil, List.take_succ_cons, List.take_zero, List.drop_zero, List.drop_succ_cons, Option.bind_some, List.all_cons, List.all_nil, Bool.and_true, Bool.and_self, ne_eq, reduceCtorEq, not_false_eq_true, and_self]
  refine (said_all e false _ _ _ hvr hf1.1 ho1).mono ?_
  rintro r m2 ⟨us2, F2, rfl, hv2, cg, nd2, ow2, hsub⟩
  have hv2 : ValsF m2 (posE e).row us2 F2 := hv2
  have hv2' := hv2
  generalize posE e = e' at hv2'
  obtain ⟨k', o', n', v', u', a', ks', ss'⟩ := e'
  obtain ⟨x', y', H1, H2, rfl, _, q1, q2, hF⟩ := PExpr.vals hv2'
  obtain ⟨ax', px', rfl, _⟩ := q1.slice
  obtain ⟨ay', py', rfl, _⟩ := q2.slice
  simp only [vcs, tbl, List.map, reduceIte, Nat.reduceLT, Nat.reduceLeDiff, Nat.reduceEqDiff, Nat.reduceAdd, Nat.reduceMul, Nat.reduceSub, true_and, and_true, decide_eq_true_eq, decide_eq_false_iff_not, List.cons_append, List.nil_append, Bool.false_eq_true, Array.empty_append, Array.append_empty, List.length_cons, List.length_nil, List.getElem?_cons_succ, List.getElem?_cons_zero, Option.some.injEq, Int.toNat_natCast, valsOf_map, List.toList_toArray, List.flatMap_cons, List.flatMap_nil, List.append_nil, List.take_succ_cons, List.take_zero, List.drop_zero, List.drop_succ_cons, Option.bind_some, List.all_cons, List.all_nil, Bool.and_true, Bool.and_self, ne_eq, reduceCtorEq, not_false_eq_true, and_self]
  rw [← hee]
  exact ⟨hg1.chg_trans cg hf1.2, _, F2, rfl, hv2, ⟨nd2, fun x hx => (hsub x hx).elim (hf1.2 x) (fun h hv => h (hg1.vis hv))⟩, ow2⟩
theorem markPExpr_c (k o n v u a ks ss) (q : Int) (m : World) (vs : List Value) (F : List Nat) (h : ValsF m (PExpr.mk k o n v u a ks ss).row vs F) (hn : F.Nodup) (ho : Own m F) (h0 : 0 ≤ q) (h1 : q + (cnL cnE ks + cnL cnP ss) ≤ 4611686018427387904) :
   FCalls Try.prog 32 #[.agg vs.toArray, .int .i64 q] m fun r m' => r = .int .i64 (q + (cnL cnE ks + cnL cnP ss)) ∧ Chg F m m' ∧ ValsF m' (PExpr.mk k o n v u a (mkL mkE cnE q ks) (mkL mkP cnP (q + cnL cnE ks) ss)).row vs F ∧ Own m' F := by
  obtain ⟨x, y, F1, F2, rfl, hv, c1, c2, rfl⟩ := PExpr.vals h
  obtain ⟨ax, px, rfl, _⟩ := c1.slice
  obtain ⟨ay, py, rfl, _⟩ := c2.slice
  rw [List.nodup_append] at hn
  obtain ⟨n1, n2, n12⟩ := hn
  have o1 : Own m F1 := ho.sub (by simp; intro x hx; simp [hx])
  have o2 : Own m F2 := ho.sub (by simp; intro x hx; simp [hx])
  refine fcalls_of_vc (args := [_, _]) follows_mixed Try.func32 rfl (by kernel_rfl) (by simp [Try.f32]) ?_
  simp only [Try.f32, vcs, tbl, List.map, reduceIte, Nat.reduceLT, Nat.reduceLeDiff, Nat.reduceEqDiff, Nat.reduceAdd, Nat.reduceMul, Nat.reduceSub, true_and, and_true, decide_eq_true_eq, decide_eq_false_iff_not, List.cons_append, List.nil_append, Bool.false_eq_true, Array.empty_append, Array.append_empty, List.length_cons, List.length_nil, List.getElem?_cons_succ, List.getElem?_cons_zero, Option.some.injEq, Int.toNat_natCast, valsOf_map, List.toList_toArray, List.flatMap_cons, List.flatMap_nil, List.append_nil, List.take_succ_cons, List.take_zero, List.drop_zero, List.drop_succ_cons, Option.bind_some, List.all_cons, List.all_nil, Bool.and_true, Bool.and_self, ne_eq, reduceCtorEq, not_false_eq_true, and_self]
  refine (markPExprS _ (fun e _ => mk_all.1 e) _ _ _ _ c1 n1 o1 h0 (by omega)).mono ?_
  rintro r m1 ⟨rfl, c1', o1', g1⟩
  simp only [vcs, tbl, List.map, reduceIte, Nat.reduceLT, Nat.reduceLeDiff, Nat.reduceEqDiff, Nat.reduceAdd, Nat.reduceMul, Nat.reduceSub, true_and, and_true, decide_eq_true_eq, decide_eq_false_iff_not, List.cons_append, List.nil_append, Bool.false_eq_true, Array.empty_append, Array.append_empty, List.length_cons, List.length_nil, List.getElem?_cons_succ, List.getElem?_cons_zero, Option.some.injEq, Int.toNat_natCast, valsOf_map, List.toList_toArray, List.flatMap_cons, List.flatMap_nil, List.append_nil, List.take_succ_cons, List.take_zero, List.drop_zero, List.drop_succ_cons, Option.bind_some, List.all_cons, List.all_nil, Bool.and_true, Bool.and_self, ne_eq, reduceCtorEq, not_false_eq_true, and_self]
  have d2 : ∀ x ∈ F2, x ∉ F1 := fun x hx e => n12 x e x hx rfl
  have c2' := c2.chg g1 d2
  have o2' : Own m1 F2 := fun x hx => by
    obtain ⟨cs, t, e⟩ := o2 x hx
    exact ⟨cs, t, (g1.blocks x (vis_of_own ⟨cs, t, e⟩) (d2 x hx)).trans e⟩
  refine (markPlanS _ (fun e _ => mk_all.2.1 e) _ _ _ _ c2' n2 o2' (by omega) (by omega)).mono ?_
  rintro r m2 ⟨rfl, c2'', o2'', g2⟩
  simp only [vcs, tbl, List.map, reduceIte, Nat.reduceLT, Nat.reduceLeDiff, Nat.reduceEqDiff, Nat.reduceAdd, Nat.reduceMul, Nat.reduceSub, true_and, and_true, decide_eq_true_eq, decide_eq_false_iff_not, List.cons_append, List.nil_append, Bool.false_eq_true, Array.empty_append, Array.append_empty, List.length_cons, List.length_nil, List.getElem?_cons_succ, List.getElem?_cons_zero, Option.some.injEq, Int.toNat_natCast, valsOf_map, List.toList_toArray, List.flatMap_cons, List.flatMap_nil, List.append_nil, List.take_succ_cons, List.take_zero, List.drop_zero, List.drop_succ_cons, Option.bind_some, List.all_cons, List.all_nil, Bool.and_true, Bool.and_self, ne_eq, reduceCtorEq, not_false_eq_true, and_self]
  have d1 : ∀ x ∈ F1, x ∉ F2 := fun x hx e => n12 x hx x e rfl
  have o1'' : Own m2 F1 := fun x hx => by
    obtain ⟨cs, t, e⟩ := o1' x hx
    exact ⟨cs, t, (g2.blocks x (vis_of_own ⟨cs, t, e⟩) (d1 x hx)).trans e⟩
  exact ⟨by rw [Int.add_assoc], (g1.mono (by simp; intro x hx; exact .inl hx)).trans (g2.mono (by simp; intro x hx; exact .inr hx)),
    PExpr.mk_valsK (mkL_len _ _ _ _) (mkL_len _ _ _ _) hv (c1'.chg g2 d1) c2'', o1''.app o2''⟩
theorem heldPExpr_c (k o n v u a ks ss) (q : Int) (m : World) (vs : List Value) (F : List Nat) (h : ValsF m (PExpr.mk k o n v u a (mkL mkE cnE q ks) (mkL mkP cnP (q + cnL cnE ks) ss)).row vs F) (h0 : 0 ≤ q) (h1 : q + (cnL cnE ks + cnL cnP ss) ≤ 4611686018427387904) :
   FCalls Try.prog 33 #[.agg vs.toArray, .int .i64 q] m fun r m' => Grow m m' ∧ r = .int .i64 (q + (cnL cnE ks + cnL cnP ss)) := by
  obtain ⟨x, y, F1, F2, rfl, c1, c2⟩ := PExpr.valsK (mkL_len _ _ _ _) (mkL_len _ _ _ _) h
  obtain ⟨ax, px, rfl, _⟩ := c1.slice
  obtain ⟨ay, py, rfl, _⟩ := c2.slice
  refine fcalls_of_vc (args := [_, _]) follows_mixed Try.func33 rfl (by kernel_rfl) (by simp [Try.f33]) ?_
  simp only [Try.f33, vcs, tbl, List.map, reduceIte, Nat.reduceLT, Nat.reduceLeDiff, Nat.reduceEqDiff, Nat.reduceAdd, Nat.reduceMul, Nat.reduceSub, true_and, and_true, decide_eq_true_eq, decide_eq_false_iff_not, List.cons_append, List.nil_append, Bool.false_eq_true, Array.empty_append, Array.append_empty, List.length_cons, List.length_nil, List.getElem?_cons_succ, List.getElem?_cons_zero, Option.some.injEq, Int.toNat_natCast, valsOf_map, List.toList_toArray, List.flatMap_cons, List.flatMap_nil, List.append_nil, List.take_succ_cons, List.take_zero, List.drop_zero, List.drop_succ_cons, Option.bind_some, List.all_cons, List.all_nil, Bool.and_true, Bool.and_self, ne_eq, reduceCtorEq, not_false_eq_true, and_self]
  refine (heldPExprS _ (fun e _ => hd_all.1 e) _ _ _ _ c1 h0 (by omega)).mono ?_
  rintro r m1 ⟨g1, rfl⟩
  simp only [vcs, tbl, List.map, reduceIte, Nat.reduceLT, Nat.reduceLeDiff, Nat.reduceEqDiff, Nat.reduceAdd, Nat.reduceMul, Nat.reduceSub, true_and, and_true, decide_eq_true_eq, decide_eq_false_iff_not, List.cons_append, List.nil_append, Bool.false_eq_true, Array.empty_append, Array.append_empty, List.length_cons, List.length_nil, List.getElem?_cons_succ, List.getElem?_cons_zero, Option.some.injEq, Int.toNat_natCast, valsOf_map, List.toList_toArray, List.flatMap_cons, List.flatMap_nil, List.append_nil, List.take_succ_cons, List.take_zero, List.drop_zero, List.drop_succ_cons, Option.bind_some, List.all_cons, List.all_nil, Bool.and_true, Bool.and_self, ne_eq, reduceCtorEq, not_false_eq_true, and_self]
  refine ⟨fun h => absurd h (by omega), fun _ => ?_⟩
  refine (heldPlanS _ (fun e _ => hd_all.2.1 e) _ _ _ _ (c2.grow g1) (by omega) (by omega)).mono ?_
  rintro r m2 ⟨g2, rfl⟩
  simp only [vcs, tbl, List.map, reduceIte, Nat.reduceLT, Nat.reduceLeDiff, Nat.reduceEqDiff, Nat.reduceAdd, Nat.reduceMul, Nat.reduceSub, true_and, and_true, decide_eq_true_eq, decide_eq_false_iff_not, List.cons_append, List.nil_append, Bool.false_eq_true, Array.empty_append, Array.append_empty, List.length_cons, List.length_nil, List.getElem?_cons_succ, List.getElem?_cons_zero, Option.some.injEq, Int.toNat_natCast, valsOf_map, List.toList_toArray, List.flatMap_cons, List.flatMap_nil, List.append_nil, List.take_succ_cons, List.take_zero, List.drop_zero, List.drop_succ_cons, Option.bind_some, List.all_cons, List.all_nil, Bool.and_true, Bool.and_self, ne_eq, reduceCtorEq, not_false_eq_true, and_self]
  exact ⟨fun h => absurd h (by omega), fun _ => ⟨g1.trans g2, by rw [Int.add_assoc]⟩⟩
theorem cnL_map_le {f : PExpr → PExpr} : ∀ {ks : List PExpr}, (∀ e ∈ ks, cnE (f e) ≤ 2 * cnE e) → cnL cnE (ks.map f) ≤ 2 * cnL cnE ks
  | [], _ => by simp [cnL]
  | e :: es, h => by
    have h1 := h e (by simp)
    have h2 := cnL_map_le (ks := es) (fun e he => h e (by simp [he]))
    simp only [List.map_cons, cnL]; omega
theorem cn_hd {f : PExpr → PExpr} {ks : List PExpr} (hl : 0 < ks.length) (h : ∀ e ∈ ks, cnE (f e) ≤ 2 * cnE e) : cnE (hdE (ks.map f)) ≤ 2 * cnL cnE ks := by
  cases ks with
  | nil => simp at hl
  | cons e es => have := h e (by simp); simp only [List.map_cons, hdE, cnL]; omega
theorem cn_pos (e : PExpr) : cnE (posE e) ≤ 2 * cnE e ∧ cnE (negE e) ≤ 2 * cnE e :=
  (tree_ind (A := fun e => cnE (posE e) ≤ 2 * cnE e ∧ cnE (negE e) ≤ 2 * cnE e) (B := fun _ => True) (C := fun _ => True) (fun k o n v u a ks ss hk _ => by
    have hp := cnL_map_le (f := posE) (fun e he => (hk e he).1)
    have hn := cnL_map_le (f := negE) (fun e he => (hk e he).2)
    have hw : ∀ k o n v u a ks, cnE (.mk k o n v u a ks ss) = 8 + (cnL cnE ks + cnL cnP ss) := fun k o n v u a ks => by rw [cnE, cnEs_eq, cnPs_eq]
    rw [hw]
    constructor
    · rw [posE, posEs_eq, negEs_eq]
      split
      · rename_i h; have := cn_hd (f := negE) (by omega : 0 < ks.length) (fun e he => (hk e he).2); omega
      · rw [hw]; omega
    · rw [negE, posEs_eq, negEs_eq]
      split
      · rename_i h; have := cn_hd (f := posE) (by omega : 0 < ks.length) (fun e he => (hk e he).1); omega
      · split
        · rw [hw]; split <;> omega
        · split
          · rw [hw]; omega
          · rw [cnE, cnEs_eq, cnPs_eq]; simp only [cnL, hw]; omega) (fun _ _ _ _ _ _ _ _ _ _ _ _ => trivial) (fun _ _ _ => trivial)).1 e

set_option maxHeartbeats 2000000 in
theorem exactPositive (e : PExpr) (m : World) (vs : List Value) (F : List Nat) (h : ValsF m e.row vs F) :
   FCalls Try.prog 8 #[.agg vs.toArray] m fun r m' => Grow m m' ∧ r = .bool true := by
  have h0 := h
  obtain ⟨e, he⟩ : ∃ e', e = e' := ⟨_, rfl⟩
  subst he
  obtain ⟨k, o, n, v, u, a, ks, ss⟩ := e
  obtain ⟨x, y, F1, F2, rfl, hv, c1, c2, rfl⟩ := PExpr.vals h0
  obtain ⟨ax, px, rfl, _⟩ := c1.slice
  obtain ⟨ay, py, rfl, _⟩ := c2.slice
  generalize hee : PExpr.mk k o n v u a ks ss = e at h
  refine fcalls_of_vc (args := [_]) follows_mixed Try.func8 rfl (by kernel_rfl) (by simp [Try.f8]) ?_
  simp only [Try.f8, vcs, tbl, List.map, reduceIte, Nat.reduceLT, Nat.reduceLeDiff, Nat.reduceEqDiff, Nat.reduceAdd, Nat.reduceMul, Nat.reduceSub, true_and, and_true, decide_eq_true_eq, decide_eq_false_iff_not, List.cons_append, List.nil_append, Bool.false_eq_true, Array.empty_append, Array.append_empty, List.length_cons, List.length_nil, List.getElem?_cons_succ, List.getElem?_cons_zero, Option.some.injEq, Int.toNat_natCast, valsOf_map, List.toList_toArray, List.flatMap_cons, List.flatMap_nil, List.append_nil, List.take_succ_cons, List.take_zero, List.drop_zero, List.drop_succ_cons, Option.bind_some, List.all_cons, List.all_nil, Bool.and_true, Bool.and_self, ne_eq, reduceCtorEq, not_false_eq_true, and_self]
  refine (sw_all.1 e _ _ _ _ h (by omega) (by omega)).mono ?_
  rintro r m1 ⟨g1, k1, rfl, hk1, hs⟩
  simp only [vcs, tbl, List.map, reduceIte, Nat.reduceLT, Nat.reduceLeDiff, Nat.reduceEqDiff, Nat.reduceAdd, Nat.reduceMul, Nat.reduceSub, true_and, and_true, decide_eq_true_eq, decide_eq_false_iff_not, List.cons_append, List.nil_append, Bool.false_eq_true, Array.empty_append, Array.append_empty, List.length_cons, List.length_nil, List.getElem?_cons_succ, List.getElem?_cons_zero, Option.some.injEq, Int.toNat_natCast, valsOf_map, List.toList_toArray, List.flatMap_cons, List.flatMap_nil, List.append_nil, List.take_succ_cons, List.take_zero, List.drop_zero, List.drop_succ_cons, Option.bind_some, List.all_cons, List.all_nil, Bool.and_true, Bool.and_self, ne_eq, reduceCtorEq, not_false_eq_true, and_self]
  refine ⟨fun _ => g1, fun hn1 => ?_⟩
  obtain ⟨hs, hwt⟩ := hs (by omega)
  have hcp := (cn_pos e).1
  obtain ⟨e', hpe⟩ : ∃ e', posE e = e' := ⟨_, rfl⟩
  rw [hpe] at hcp
  subst hee
  obtain ⟨k', o', n', v', u', a', ks', ss'⟩ := e'
  have hce : cnE (.mk k o n v u a ks ss) = 8 + (cnL cnE ks + cnL cnP ss) := by rw [cnE, cnEs_eq, cnPs_eq]
  have hce' : cnE (.mk k' o' n' v' u' a' ks' ss') = 8 + (cnL cnE ks' + cnL cnP ss') := by rw [cnE, cnEs_eq, cnPs_eq]
  rw [hce] at hwt hcp
  rw [hce'] at hcp
  refine (to_all.1 _ _ _ _ (h.grow g1) hs).mono ?_
  rintro r m2 ⟨hg2, us2, F2, rfl, hv2, hf2, ho2⟩
  have hw2 := hv2
  obtain ⟨x2, y2, G2, H2, rfl, _, d2, f2, hF2⟩ := PExpr.vals hv2
  obtain ⟨a2, p2, rfl, _⟩ := d2.slice
  obtain ⟨b2, q2, rfl, _⟩ := f2.slice
  have g2 := g1.trans hg2
  simp only [vcs, tbl, List.map, reduceIte, Nat.reduceLT, Nat.reduceLeDiff, Nat.reduceEqDiff, Nat.reduceAdd, Nat.reduceMul, Nat.reduceSub, true_and, and_true, decide_eq_true_eq, decide_eq_false_iff_not, List.cons_append, List.nil_append, Bool.false_eq_true, Array.empty_append, Array.append_empty, List.length_cons, List.length_nil, List.getElem?_cons_succ, List.getElem?_cons_zero, Option.some.injEq, Int.toNat_natCast, valsOf_map, List.toList_toArray, List.flatMap_cons, List.flatMap_nil, List.append_nil, List.take_succ_cons, List.take_zero, List.drop_zero, List.drop_succ_cons, Option.bind_some, List.all_cons, List.all_nil, Bool.and_true, Bool.and_self, ne_eq, reduceCtorEq, not_false_eq_true, and_self]
  refine (specPositive_c _ hs _ _ _ hw2).mono ?_
  rintro r m3 ⟨hg3, us3, F3, rfl, hv3, hf3, ho3⟩
  rw [hpe] at hv3
  have hw3 := hv3
  obtain ⟨x3, y3, G3, H3, rfl, _, d3, f3, hF3⟩ := PExpr.vals hv3
  obtain ⟨a3, p3, rfl, _⟩ := d3.slice
  obtain ⟨b3, q3, rfl, _⟩ := f3.slice
  have g3 := g2.trans hg3
  simp only [vcs, tbl, List.map, reduceIte, Nat.reduceLT, Nat.reduceLeDiff, Nat.reduceEqDiff, Nat.reduceAdd, Nat.reduceMul, Nat.reduceSub, true_and, and_true, decide_eq_true_eq, decide_eq_false_iff_not, List.cons_append, List.nil_append, Bool.false_eq_true, Array.empty_append, Array.append_empty, List.length_cons, List.length_nil, List.getElem?_cons_succ, List.getElem?_cons_zero, Option.some.injEq, Int.toNat_natCast, valsOf_map, List.toList_toArray, List.flatMap_cons, List.flatMap_nil, List.append_nil, List.take_succ_cons, List.take_zero, List.drop_zero, List.drop_succ_cons, Option.bind_some, List.all_cons, List.all_nil, Bool.and_true, Bool.and_self, ne_eq, reduceCtorEq, not_false_eq_true, and_self]
  refine (to_all.1 _ _ _ _ (h.grow g3) hs).mono ?_
  rintro r m4 ⟨hg4, us4, F4, rfl, hv4, hf4, ho4⟩
  have hw4 := hv4
  obtain ⟨x4, y4, G4, H4, rfl, _, d4, f4, hF4⟩ := PExpr.vals hv4
  obtain ⟨a4, p4, rfl, _⟩ := d4.slice
  obtain ⟨b4, q4, rfl, _⟩ := f4.slice
  have g4 := g3.trans hg4
  simp only [vcs, tbl, List.map, reduceIte, Nat.reduceLT, Nat.reduceLeDiff, Nat.reduceEqDiff, Nat.reduceAdd, Nat.reduceMul, Nat.reduceSub, true_and, and_true, decide_eq_true_eq, decide_eq_false_iff_not, List.cons_append, List.nil_append, Bool.false_eq_true, Array.empty_append, Array.append_empty, List.length_cons, List.length_nil, List.getElem?_cons_succ, List.getElem?_cons_zero, Option.some.injEq, Int.toNat_natCast, valsOf_map, List.toList_toArray, List.flatMap_cons, List.flatMap_nil, List.append_nil, List.take_succ_cons, List.take_zero, List.drop_zero, List.drop_succ_cons, Option.bind_some, List.all_cons, List.all_nil, Bool.and_true, Bool.and_self, ne_eq, reduceCtorEq, not_false_eq_true, and_self]
  refine ((pos_all _ hs).1 _ _ _ hw4).mono ?_
  rintro r m5 ⟨hg5, us5, F5, rfl, hv5, hf5, ho5⟩
  rw [hpe] at hv5
  have hw5 := hv5
  obtain ⟨x5, y5, G5, H5, rfl, _, d5, f5, hF5⟩ := PExpr.vals hv5
  obtain ⟨a5, p5, rfl, _⟩ := d5.slice
  obtain ⟨b5, q5, rfl, _⟩ := f5.slice
  have g5 := g4.trans hg5
  simp only [vcs, tbl, List.map, reduceIte, Nat.reduceLT, Nat.reduceLeDiff, Nat.reduceEqDiff, Nat.reduceAdd, Nat.reduceMul, Nat.reduceSub, true_and, and_true, decide_eq_true_eq, decide_eq_false_iff_not, List.cons_append, List.nil_append, Bool.false_eq_true, Array.empty_append, Array.append_empty, List.length_cons, List.length_nil, List.getElem?_cons_succ, List.getElem?_cons_zero, Option.some.injEq, Int.toNat_natCast, valsOf_map, List.toList_toArray, List.flatMap_cons, List.flatMap_nil, List.append_nil, List.take_succ_cons, List.take_zero, List.drop_zero, List.drop_succ_cons, Option.bind_some, List.all_cons, List.all_nil, Bool.and_true, Bool.and_self, ne_eq, reduceCtorEq, not_false_eq_true, and_self]
  have hw3 := (hw3.grow hg4).grow hg5
  refine (eq_all.1 _ _ _ _ _ _ _ hw5 hw3).mono ?_
  rintro r m6 ⟨hg6, bb6, rfl, hb6⟩
  obtain rfl : bb6 = true := hb6.2 rfl
  have g6 := g5.trans hg6
  simp only [vcs, tbl, List.map, reduceIte, Nat.reduceLT, Nat.reduceLeDiff, Nat.reduceEqDiff, Nat.reduceAdd, Nat.reduceMul, Nat.reduceSub, true_and, and_true, decide_eq_true_eq, decide_eq_false_iff_not, List.cons_append, List.nil_append, Bool.false_eq_true, Array.empty_append, Array.append_empty, List.length_cons, List.length_nil, List.getElem?_cons_succ, List.getElem?_cons_zero, Option.some.injEq, Int.toNat_natCast, valsOf_map, List.toList_toArray, List.flatMap_cons, List.flatMap_nil, List.append_nil, List.take_succ_cons, List.take_zero, List.drop_zero, List.drop_succ_cons, Option.bind_some, List.all_cons, List.all_nil, Bool.and_true, Bool.and_self, ne_eq, reduceCtorEq, not_false_eq_true, and_self, Bool.not_true]
  refine ⟨fun h => by simp at h, fun _ => ?_⟩
  refine vcDrawn.introL (.take 0 (.take 1 (.br 2 (.br 3 (.take 4 .done) .nobr) .nobr))) (by kernel_rfl) ?_
  simp only [vcs, tbl, List.map, reduceIte, Nat.reduceLT, Nat.reduceLeDiff, Nat.reduceEqDiff, Nat.reduceAdd, Nat.reduceMul, Nat.reduceSub, true_and, and_true, decide_eq_true_eq, decide_eq_false_iff_not, List.cons_append, List.nil_append, Bool.false_eq_true, Array.empty_append, Array.append_empty, List.length_cons, List.length_nil, List.getElem?_cons_succ, List.getElem?_cons_zero, Option.some.injEq, Int.toNat_natCast, valsOf_map, List.toList_toArray, List.flatMap_cons, List.flatMap_nil, List.append_nil, List.take_succ_cons, List.take_zero, List.drop_zero, List.drop_succ_cons, Option.bind_some, List.all_cons, List.all_nil, Bool.and_true, Bool.and_self, ne_eq, reduceCtorEq, not_false_eq_true, and_self]
  refine (to_all.1 _ _ _ _ (h.grow g6) hs).mono ?_
  rintro r m7 ⟨hg7, us7, F7, rfl, hv7, hf7, ho7⟩
  have hw7 := hv7
  obtain ⟨x7, y7, G7, H7, rfl, _, d7, f7, hF7⟩ := PExpr.vals hv7
  obtain ⟨a7, p7, rfl, _⟩ := d7.slice
  obtain ⟨b7, q7, rfl, _⟩ := f7.slice
  have g7 := g6.trans hg7
  refine ⟨hg7, ?_⟩
  simp only [vcs, tbl, List.map, reduceIte, Nat.reduceLT, Nat.reduceLeDiff, Nat.reduceEqDiff, Nat.reduceAdd, Nat.reduceMul, Nat.reduceSub, true_and, and_true, decide_eq_true_eq, decide_eq_false_iff_not, List.cons_append, List.nil_append, Bool.false_eq_true, Array.empty_append, Array.append_empty, List.length_cons, List.length_nil, List.getElem?_cons_succ, List.getElem?_cons_zero, Option.some.injEq, Int.toNat_natCast, valsOf_map, List.toList_toArray, List.flatMap_cons, List.flatMap_nil, List.append_nil, List.take_succ_cons, List.take_zero, List.drop_zero, List.drop_succ_cons, Option.bind_some, List.all_cons, List.all_nil, Bool.and_true, Bool.and_self, ne_eq, reduceCtorEq, not_false_eq_true, and_self]
  have hw4 := ((hw4.grow hg5).grow hg6).grow hg7
  refine (eq_all.1 _ _ _ _ _ _ _ hw4 hw7).mono ?_
  rintro r m8 ⟨hg8, bb8, rfl, hb8⟩
  obtain rfl : bb8 = true := hb8.2 rfl
  have g8 := g7.trans hg8
  refine ⟨hg8, ?_⟩
  simp only [vcs, tbl, List.map, reduceIte, Nat.reduceLT, Nat.reduceLeDiff, Nat.reduceEqDiff, Nat.reduceAdd, Nat.reduceMul, Nat.reduceSub, true_and, and_true, decide_eq_true_eq, decide_eq_false_iff_not, List.cons_append, List.nil_append, Bool.false_eq_true, Array.empty_append, Array.append_empty, List.length_cons, List.length_nil, List.getElem?_cons_succ, List.getElem?_cons_zero, Option.some.injEq, Int.toNat_natCast, valsOf_map, List.toList_toArray, List.flatMap_cons, List.flatMap_nil, List.append_nil, List.take_succ_cons, List.take_zero, List.drop_zero, List.drop_succ_cons, Option.bind_some, List.all_cons, List.all_nil, Bool.and_true, Bool.and_self, ne_eq, reduceCtorEq, not_false_eq_true, and_self, Bool.not_true]
  refine ⟨fun h => by simp at h, fun _ => ?_⟩
  have v3 := hw3.vis
  have n34 : ∀ x ∈ F3, x ∉ F4 := fun x hx e => hf4.2 x e (hv3.vis x hx)
  have n35 : ∀ x ∈ F3, x ∉ F5 := fun x hx e => hf5.2 x e (hg4.vis (hv3.vis x hx))
  have n54 : ∀ x ∈ F5, x ∉ F4 := fun x hx e => hf5.2 x hx (hv4.vis x e)
  have hg58 := (hg6.trans hg7).trans hg8
  refine (markPExpr_c _ _ _ _ _ _ _ _ 1 _ _ _ (hw4.grow hg8) hf4.1 ((((ho4.grow hg5).grow hg6).grow hg7).grow hg8) (by omega) (by omega)).mono ?_
  rintro r m9 ⟨rfl, cg9, hv9, ho9⟩
  have g9 := g8.chg_trans cg9 (fun x hx hv => hf4.2 x hx (g3.vis hv))
  have hw3 := (hw3.grow hg58).chg cg9 n34
  have hw5 := (hw5.grow hg58).chg cg9 n54
  have ho5 : Own m9 F5 := fun x hx => by
    obtain ⟨cs, t, e⟩ := (ho5.grow hg58) x hx
    exact ⟨cs, t, (cg9.blocks x (vis_of_own ⟨cs, t, e⟩) (n54 x hx)).trans e⟩
  simp only [vcs, tbl, List.map, reduceIte, Nat.reduceLT, Nat.reduceLeDiff, Nat.reduceEqDiff, Nat.reduceAdd, Nat.reduceMul, Nat.reduceSub, true_and, and_true, decide_eq_true_eq, decide_eq_false_iff_not, List.cons_append, List.nil_append, Bool.false_eq_true, Array.empty_append, Array.append_empty, List.length_cons, List.length_nil, List.getElem?_cons_succ, List.getElem?_cons_zero, Option.some.injEq, Int.toNat_natCast, valsOf_map, List.toList_toArray, List.flatMap_cons, List.flatMap_nil, List.append_nil, List.take_succ_cons, List.take_zero, List.drop_zero, List.drop_succ_cons, Option.bind_some, List.all_cons, List.all_nil, Bool.and_true, Bool.and_self, ne_eq, reduceCtorEq, not_false_eq_true, and_self]
  have hlt9 : decide ((1 : Int) + (cnL cnE ks + cnL cnP ss) < 0) = false := by simp; omega
  rw [hlt9]
  simp only [vcs, tbl, List.map, reduceIte, Nat.reduceLT, Nat.reduceLeDiff, Nat.reduceEqDiff, Nat.reduceAdd, Nat.reduceMul, Nat.reduceSub, true_and, and_true, decide_eq_true_eq, decide_eq_false_iff_not, List.cons_append, List.nil_append, Bool.false_eq_true, Array.empty_append, Array.append_empty, List.length_cons, List.length_nil, List.getElem?_cons_succ, List.getElem?_cons_zero, Option.some.injEq, Int.toNat_natCast, valsOf_map, List.toList_toArray, List.flatMap_cons, List.flatMap_nil, List.append_nil, List.take_succ_cons, List.take_zero, List.drop_zero, List.drop_succ_cons, Option.bind_some, List.all_cons, List.all_nil, Bool.and_true, Bool.and_self, ne_eq, reduceCtorEq, not_false_eq_true, and_self]
  refine (eq_all.1 _ _ _ _ _ _ _ hw5 hw3).mono ?_
  rintro r m10 ⟨hg10, bb10, rfl, hb10⟩
  obtain rfl : bb10 = true := hb10.2 rfl
  have g10 := g9.trans hg10
  simp only [vcs, tbl, List.map, reduceIte, Nat.reduceLT, Nat.reduceLeDiff, Nat.reduceEqDiff, Nat.reduceAdd, Nat.reduceMul, Nat.reduceSub, true_and, and_true, decide_eq_true_eq, decide_eq_false_iff_not, List.cons_append, List.nil_append, Bool.false_eq_true, Array.empty_append, Array.append_empty, List.length_cons, List.length_nil, List.getElem?_cons_succ, List.getElem?_cons_zero, Option.some.injEq, Int.toNat_natCast, valsOf_map, List.toList_toArray, List.flatMap_cons, List.flatMap_nil, List.append_nil, List.take_succ_cons, List.take_zero, List.drop_zero, List.drop_succ_cons, Option.bind_some, List.all_cons, List.all_nil, Bool.and_true, Bool.and_self, ne_eq, reduceCtorEq, not_false_eq_true, and_self, Bool.not_true]
  refine ⟨fun h => by simp at h, fun _ => ?_⟩
  refine (markPExpr_c _ _ _ _ _ _ _ _ 1 _ _ _ (hw5.grow hg10) hf5.1 (ho5.grow hg10) (by omega) (by omega)).mono ?_
  rintro r m11 ⟨rfl, cg11, hv11, ho11⟩
  have g11 := g10.chg_trans cg11 (fun x hx hv => hf5.2 x hx (g4.vis hv))
  have hw3 := (hw3.grow hg10).chg cg11 n35
  simp only [vcs, tbl, List.map, reduceIte, Nat.reduceLT, Nat.reduceLeDiff, Nat.reduceEqDiff, Nat.reduceAdd, Nat.reduceMul, Nat.reduceSub, true_and, and_true, decide_eq_true_eq, decide_eq_false_iff_not, List.cons_append, List.nil_append, Bool.false_eq_true, Array.empty_append, Array.append_empty, List.length_cons, List.length_nil, List.getElem?_cons_succ, List.getElem?_cons_zero, Option.some.injEq, Int.toNat_natCast, valsOf_map, List.toList_toArray, List.flatMap_cons, List.flatMap_nil, List.append_nil, List.take_succ_cons, List.take_zero, List.drop_zero, List.drop_succ_cons, Option.bind_some, List.all_cons, List.all_nil, Bool.and_true, Bool.and_self, ne_eq, reduceCtorEq, not_false_eq_true, and_self]
  refine (heldPExpr_c _ _ _ _ _ _ _ _ 1 _ _ _ hv11 (by omega) (by omega)).mono ?_
  rintro r m12 ⟨hg12, rfl⟩
  have g12 := g11.trans hg12
  simp only [vcs, tbl, List.map, reduceIte, Nat.reduceLT, Nat.reduceLeDiff, Nat.reduceEqDiff, Nat.reduceAdd, Nat.reduceMul, Nat.reduceSub, true_and, and_true, decide_eq_true_eq, decide_eq_false_iff_not, List.cons_append, List.nil_append, Bool.false_eq_true, Array.empty_append, Array.append_empty, List.length_cons, List.length_nil, List.getElem?_cons_succ, List.getElem?_cons_zero, Option.some.injEq, Int.toNat_natCast, valsOf_map, List.toList_toArray, List.flatMap_cons, List.flatMap_nil, List.append_nil, List.take_succ_cons, List.take_zero, List.drop_zero, List.drop_succ_cons, Option.bind_some, List.all_cons, List.all_nil, Bool.and_true, Bool.and_self, ne_eq, reduceCtorEq, not_false_eq_true, and_self]
  refine ⟨fun h => absurd h (by omega), fun _ => ?_⟩
  simp only [vcs, tbl, List.map, reduceIte, Nat.reduceLT, Nat.reduceLeDiff, Nat.reduceEqDiff, Nat.reduceAdd, Nat.reduceMul, Nat.reduceSub, true_and, and_true, decide_eq_true_eq, decide_eq_false_iff_not, List.cons_append, List.nil_append, Bool.false_eq_true, Array.empty_append, Array.append_empty, List.length_cons, List.length_nil, List.getElem?_cons_succ, List.getElem?_cons_zero, Option.some.injEq, Int.toNat_natCast, valsOf_map, List.toList_toArray, List.flatMap_cons, List.flatMap_nil, List.append_nil, List.take_succ_cons, List.take_zero, List.drop_zero, List.drop_succ_cons, Option.bind_some, List.all_cons, List.all_nil, Bool.and_true, Bool.and_self, ne_eq, reduceCtorEq, not_false_eq_true, and_self, decide_true, Bool.not_true]
  refine ⟨fun h => by simp at h, fun _ => ?_⟩
  refine (to_all.1 _ _ _ _ (h.grow g12) hs).mono ?_
  rintro r m13 ⟨hg13, us13, F13, rfl, hv13, hf13, ho13⟩
  have hw13 := hv13
  obtain ⟨x13, y13, G13, H13, rfl, _, d13, f13, hF13⟩ := PExpr.vals hv13
  obtain ⟨a13, p13, rfl, _⟩ := d13.slice
  obtain ⟨b13, q13, rfl, _⟩ := f13.slice
  have g13 := g12.trans hg13
  simp only [vcs, tbl, List.map, reduceIte, Nat.reduceLT, Nat.reduceLeDiff, Nat.reduceEqDiff, Nat.reduceAdd, Nat.reduceMul, Nat.reduceSub, true_and, and_true, decide_eq_true_eq, decide_eq_false_iff_not, List.cons_append, List.nil_append, Bool.false_eq_true, Array.empty_append, Array.append_empty, List.length_cons, List.length_nil, List.getElem?_cons_succ, List.getElem?_cons_zero, Option.some.injEq, Int.toNat_natCast, valsOf_map, List.toList_toArray, List.flatMap_cons, List.flatMap_nil, List.append_nil, List.take_succ_cons, List.take_zero, List.drop_zero, List.drop_succ_cons, Option.bind_some, List.all_cons, List.all_nil, Bool.and_true, Bool.and_self, ne_eq, reduceCtorEq, not_false_eq_true, and_self]
  refine ((pos_all _ hs).1 _ _ _ hw13).mono ?_
  rintro r m14 ⟨hg14, us14, F14, rfl, hv14, hf14, ho14⟩
  rw [hpe] at hv14
  have hw14 := hv14
  obtain ⟨x14, y14, G14, H14, rfl, _, d14, f14, hF14⟩ := PExpr.vals hv14
  obtain ⟨a14, p14, rfl, _⟩ := d14.slice
  obtain ⟨b14, q14, rfl, _⟩ := f14.slice
  have g14 := g13.trans hg14
  simp only [vcs, tbl, List.map, reduceIte, Nat.reduceLT, Nat.reduceLeDiff, Nat.reduceEqDiff, Nat.reduceAdd, Nat.reduceMul, Nat.reduceSub, true_and, and_true, decide_eq_true_eq, decide_eq_false_iff_not, List.cons_append, List.nil_append, Bool.false_eq_true, Array.empty_append, Array.append_empty, List.length_cons, List.length_nil, List.getElem?_cons_succ, List.getElem?_cons_zero, Option.some.injEq, Int.toNat_natCast, valsOf_map, List.toList_toArray, List.flatMap_cons, List.flatMap_nil, List.append_nil, List.take_succ_cons, List.take_zero, List.drop_zero, List.drop_succ_cons, Option.bind_some, List.all_cons, List.all_nil, Bool.and_true, Bool.and_self, ne_eq, reduceCtorEq, not_false_eq_true, and_self]
  have hw3 := ((hw3.grow hg12).grow hg13).grow hg14
  refine (eq_all.1 _ _ _ _ _ _ _ hw14 hw3).mono ?_
  rintro r m15 ⟨hg15, bb15, rfl, hb15⟩
  obtain rfl : bb15 = true := hb15.2 rfl
  have g15 := g14.trans hg15
  simp only [vcs, tbl, List.map, reduceIte, Nat.reduceLT, Nat.reduceLeDiff, Nat.reduceEqDiff, Nat.reduceAdd, Nat.reduceMul, Nat.reduceSub, true_and, and_true, decide_eq_true_eq, decide_eq_false_iff_not, List.cons_append, List.nil_append, Bool.false_eq_true, Array.empty_append, Array.append_empty, List.length_cons, List.length_nil, List.getElem?_cons_succ, List.getElem?_cons_zero, Option.some.injEq, Int.toNat_natCast, valsOf_map, List.toList_toArray, List.flatMap_cons, List.flatMap_nil, List.append_nil, List.take_succ_cons, List.take_zero, List.drop_zero, List.drop_succ_cons, Option.bind_some, List.all_cons, List.all_nil, Bool.and_true, Bool.and_self, ne_eq, reduceCtorEq, not_false_eq_true, and_self, Bool.not_true]
  refine ⟨fun h => by simp at h, fun _ => ?_⟩
  refine (heldPExpr_c _ _ _ _ _ _ _ _ 1 _ _ _ ((((hv11.grow hg12).grow hg13).grow hg14).grow hg15) (by omega) (by omega)).mono ?_
  rintro r m16 ⟨hg16, rfl⟩
  have g16 := g15.trans hg16
  simp only [vcs, tbl, List.map, reduceIte, Nat.reduceLT, Nat.reduceLeDiff, Nat.reduceEqDiff, Nat.reduceAdd, Nat.reduceMul, Nat.reduceSub, true_and, and_true, decide_eq_true_eq, decide_eq_false_iff_not, List.cons_append, List.nil_append, Bool.false_eq_true, Array.empty_append, Array.append_empty, List.length_cons, List.length_nil, List.getElem?_cons_succ, List.getElem?_cons_zero, Option.some.injEq, Int.toNat_natCast, valsOf_map, List.toList_toArray, List.flatMap_cons, List.flatMap_nil, List.append_nil, List.take_succ_cons, List.take_zero, List.drop_zero, List.drop_succ_cons, Option.bind_some, List.all_cons, List.all_nil, Bool.and_true, Bool.and_self, ne_eq, reduceCtorEq, not_false_eq_true, and_self]
  refine ⟨fun h => absurd h (by omega), fun _ => ?_⟩
  simp only [vcs, tbl, List.map, reduceIte, Nat.reduceLT, Nat.reduceLeDiff, Nat.reduceEqDiff, Nat.reduceAdd, Nat.reduceMul, Nat.reduceSub, true_and, and_true, decide_eq_true_eq, decide_eq_false_iff_not, List.cons_append, List.nil_append, Bool.false_eq_true, Array.empty_append, Array.append_empty, List.length_cons, List.length_nil, List.getElem?_cons_succ, List.getElem?_cons_zero, Option.some.injEq, Int.toNat_natCast, valsOf_map, List.toList_toArray, List.flatMap_cons, List.flatMap_nil, List.append_nil, List.take_succ_cons, List.take_zero, List.drop_zero, List.drop_succ_cons, Option.bind_some, List.all_cons, List.all_nil, Bool.and_true, Bool.and_self, ne_eq, reduceCtorEq, not_false_eq_true, and_self, decide_true, Bool.not_true]
  exact ⟨fun h => by simp at h, fun _ => g16⟩

end Go.Proofs.Ytklligemdfnimaa
set_option linter.unusedVariables false
set_option linter.unusedSimpArgs false
namespace Go.Proofs.Ytklligemdfnimaa
open Go Go.Vc
section
variable {H : Type} {enc : TypeId × Value → H} {W : World} {base : Nat} {sp : Nat → Bool} {held : Bool}
theorem cells3 : Try.prog.cellsOf 3 = 1 := by kernel_rfl
theorem cells4 : Try.prog.cellsOf 4 = 1 := by kernel_rfl
theorem cells9 : Try.prog.cellsOf 9 = 1 := by kernel_rfl
theorem cells46 : Try.prog.cellsOf 46 = 3 := by kernel_rfl
theorem cells50 : Try.prog.cellsOf 50 = 10 := by kernel_rfl
theorem cells69 : Try.prog.cellsOf 69 = 8 := by kernel_rfl
theorem cells163 : Try.prog.cellsOf 163 = 11 := by kernel_rfl
theorem cells47 : Try.prog.cellsOf 47 = 1 := by kernel_rfl
theorem cells48 : Try.prog.cellsOf 48 = 1 := by kernel_rfl
theorem cells64 : Try.prog.cellsOf 64 = 1 := by kernel_rfl
theorem cells65 : Try.prog.cellsOf 65 = 1 := by kernel_rfl
theorem cells66 : Try.prog.cellsOf 66 = 1 := by kernel_rfl
theorem cells67 : Try.prog.cellsOf 67 = 1 := by kernel_rfl
theorem single_eq {a b : Value} (h : [a] = [b]) : a = b := by injection h
theorem read_val {n : Nat} {cs : List Value} {x : DataW H × List MemPlace} (h : DataW.trod enc Try.prog W base sp held n 46 cs = some x) : ∃ (y : Val), cs = [.int .i64 y.kind, .int .i64 y.num, .string y.text] ∧ y.text.size ≤ maxLen := by
  obtain ⟨xs, k, hk, _, hl, hlen, hf⟩ := DataW.trod_struct Try.underlying46 h
  rw [cells46] at hl
  obtain ⟨c0, r0, rfl, hl1⟩ := list_cons hl
  obtain ⟨c1, r1, rfl, hl2⟩ := list_cons hl1
  obtain ⟨c2, rfl⟩ := list_one hl2
  obtain ⟨x0, s0, rfl, hlen1⟩ := list_cons hlen
  obtain ⟨x1, s1, rfl, hlen2⟩ := list_cons hlen1
  obtain ⟨x2, rfl⟩ := list_one hlen2
  have h0 : DataW.trod enc Try.prog W base sp held k 3 (([c0, c1, c2].drop 0).take (Try.prog.cellsOf 3)) = some x0 := hf 0 _ rfl
  rw [cells3] at h0
  have h0 : DataW.trod enc Try.prog W base sp held k 3 [c0] = some x0 := h0
  have h1 : DataW.trod enc Try.prog W base sp held k 3 (([c0, c1, c2].drop 1).take (Try.prog.cellsOf 3)) = some x1 := hf 1 _ rfl
  rw [cells3] at h1
  have h1 : DataW.trod enc Try.prog W base sp held k 3 [c1] = some x1 := h1
  have h2 : DataW.trod enc Try.prog W base sp held k 9 (([c0, c1, c2].drop 2).take (Try.prog.cellsOf 9)) = some x2 := hf 2 _ rfl
  rw [cells9] at h2
  have h2 : DataW.trod enc Try.prog W base sp held k 9 [c2] = some x2 := h2
  obtain ⟨n0, e0, _⟩ := DataW.trod_int Try.underlying3 h0
  obtain ⟨n1, e1, _⟩ := DataW.trod_int Try.underlying3 h1
  obtain ⟨n2, e2, _, hb⟩ := DataW.trod_string Try.underlying9 h2
  obtain rfl := single_eq e0
  obtain rfl := single_eq e1
  obtain rfl := single_eq e2
  exact ⟨⟨n0, n1, n2⟩, rfl, hb⟩
theorem read_int {n : Nat} {cs : List Value} {x : DataW H × List MemPlace} (h : DataW.trod enc Try.prog W base sp held n 3 cs = some x) : ∃ (y : Int) (F : List Nat), ValsF W (irow y) cs F := by
  obtain ⟨n0, rfl, _⟩ := DataW.trod_int Try.underlying3 h
  exact ⟨n0, [], valsF_mk (ValsF.nil_nil _) trivial⟩
theorem read_str {n : Nat} {cs : List Value} {x : DataW H × List MemPlace} (h : DataW.trod enc Try.prog W base sp held n 9 cs = some x) : ∃ (y : ByteArray) (F : List Nat), ValsF W (srow y) cs F := by
  obtain ⟨n0, rfl, _, hb⟩ := DataW.trod_string Try.underlying9 h
  exact ⟨n0, [], valsF_mk (ValsF.nil_nil _) hb⟩
theorem read_trees (n : Nat) : (∀ cs x, DataW.trod enc Try.prog W base sp held n 50 cs = some x → ∃ (e : PExpr) (F : List Nat), ValsF W e.row cs F) ∧
    (∀ cs x, DataW.trod enc Try.prog W base sp held n 69 cs = some x → ∃ (e : Plan) (F : List Nat), ValsF W e.row cs F) ∧
    (∀ cs x, DataW.trod enc Try.prog W base sp held n 163 cs = some x → ∃ (e : PSort) (F : List Nat), ValsF W e.row cs F) := by
  induction n using Nat.strongRecOn with
  | _ n ih =>
  have es : ∀ k, k < n → ∀ cs x, DataW.trod enc Try.prog W base sp held k 47 cs = some x → ∃ (ys : List PExpr) (v : Value) (F : List Nat), cs = [v] ∧ CellF W (.sl ys.length (ys.flatMap PExpr.row)) v F := fun k hk cs x h =>
    read_slice Try.underlying47 cells50 (by decide) PExpr.row_len (fun n' cs' x' hn h' => (ih n' (by omega)).1 cs' x' h') h
  refine ⟨fun cs x h => ?_, fun cs x h => ?_, fun cs x h => ?_⟩
  · skip
    obtain ⟨xs, k, hk, _, hl, hlen, hf⟩ := DataW.trod_struct Try.underlying50 h
    rw [cells50] at hl
    obtain ⟨c0, r0, rfl, hl1⟩ := list_cons hl
    obtain ⟨c1, r1, rfl, hl2⟩ := list_cons hl1
    obtain ⟨c2, r2, rfl, hl3⟩ := list_cons hl2
    obtain ⟨c3, r3, rfl, hl4⟩ := list_cons hl3
    obtain ⟨c4, r4, rfl, hl5⟩ := list_cons hl4
    obtain ⟨c5, r5, rfl, hl6⟩ := list_cons hl5
    obtain ⟨c6, r6, rfl, hl7⟩ := list_cons hl6
    obtain ⟨c7, r7, rfl, hl8⟩ := list_cons hl7
    obtain ⟨c8, r8, rfl, hl9⟩ := list_cons hl8
    obtain ⟨c9, rfl⟩ := list_one hl9
    obtain ⟨x0, s0, rfl, hlen1⟩ := list_cons hlen
    obtain ⟨x1, s1, rfl, hlen2⟩ := list_cons hlen1
    obtain ⟨x2, s2, rfl, hlen3⟩ := list_cons hlen2
    obtain ⟨x3, s3, rfl, hlen4⟩ := list_cons hlen3
    obtain ⟨x4, s4, rfl, hlen5⟩ := list_cons hlen4
    obtain ⟨x5, s5, rfl, hlen6⟩ := list_cons hlen5
    obtain ⟨x6, s6, rfl, hlen7⟩ := list_cons hlen6
    obtain ⟨x7, rfl⟩ := list_one hlen7
    have h0 : DataW.trod enc Try.prog W base sp held k 3 (([c0, c1, c2, c3, c4, c5, c6, c7, c8, c9].drop 0).take (Try.prog.cellsOf 3)) = some x0 := hf 0 _ rfl
    rw [cells3] at h0
    have h0 : DataW.trod enc Try.prog W base sp held k 3 [c0] = some x0 := h0
    have h1 : DataW.trod enc Try.prog W base sp held k 3 (([c0, c1, c2, c3, c4, c5, c6, c7, c8, c9].drop 1).take (Try.prog.cellsOf 3)) = some x1 := hf 1 _ rfl
    rw [cells3] at h1
    have h1 : DataW.trod enc Try.prog W base sp held k 3 [c1] = some x1 := h1
    have h2 : DataW.trod enc Try.prog W base sp held k 4 (([c0, c1, c2, c3, c4, c5, c6, c7, c8, c9].drop 2).take (Try.prog.cellsOf 4)) = some x2 := hf 2 _ rfl
    rw [cells4] at h2
    have h2 : DataW.trod enc Try.prog W base sp held k 4 [c2] = some x2 := h2
    have h3 : DataW.trod enc Try.prog W base sp held k 46 (([c0, c1, c2, c3, c4, c5, c6, c7, c8, c9].drop 3).take (Try.prog.cellsOf 46)) = some x3 := hf 3 _ rfl
    rw [cells46] at h3
    have h3 : DataW.trod enc Try.prog W base sp held k 46 [c3, c4, c5] = some x3 := h3
    have h4 : DataW.trod enc Try.prog W base sp held k 3 (([c0, c1, c2, c3, c4, c5, c6, c7, c8, c9].drop 6).take (Try.prog.cellsOf 3)) = some x4 := hf 4 _ rfl
    rw [cells3] at h4
    have h4 : DataW.trod enc Try.prog W base sp held k 3 [c6] = some x4 := h4
    have h5 : DataW.trod enc Try.prog W base sp held k 3 (([c0, c1, c2, c3, c4, c5, c6, c7, c8, c9].drop 7).take (Try.prog.cellsOf 3)) = some x5 := hf 5 _ rfl
    rw [cells3] at h5
    have h5 : DataW.trod enc Try.prog W base sp held k 3 [c7] = some x5 := h5
    have h6 : DataW.trod enc Try.prog W base sp held k 47 (([c0, c1, c2, c3, c4, c5, c6, c7, c8, c9].drop 8).take (Try.prog.cellsOf 47)) = some x6 := hf 6 _ rfl
    rw [cells47] at h6
    have h6 : DataW.trod enc Try.prog W base sp held k 47 [c8] = some x6 := h6
    have h7 : DataW.trod enc Try.prog W base sp held k 48 (([c0, c1, c2, c3, c4, c5, c6, c7, c8, c9].drop 9).take (Try.prog.cellsOf 48)) = some x7 := hf 7 _ rfl
    rw [cells48] at h7
    have h7 : DataW.trod enc Try.prog W base sp held k 48 [c9] = some x7 := h7
    obtain ⟨n0, e0, _⟩ := DataW.trod_int Try.underlying3 h0
    obtain ⟨n1, e1, _⟩ := DataW.trod_int Try.underlying3 h1
    obtain ⟨n2, e2, _⟩ := DataW.trod_bool Try.underlying4 h2
    obtain ⟨y, e3, hb⟩ := read_val h3
    obtain ⟨n4, e4, _⟩ := DataW.trod_int Try.underlying3 h4
    obtain ⟨n5, e5, _⟩ := DataW.trod_int Try.underlying3 h5
    obtain ⟨ks, v6, F6, e6, hc6⟩ := es _ (by omega) _ _ h6
    obtain ⟨ss, v7, F7, e7, hc7⟩ := read_slice Try.underlying48 cells69 (by decide) Plan.row_len (fun n' cs' x' hn h' => (ih n' (by omega)).2.1 cs' x' h') h7
    simp only [List.cons.injEq, and_true] at e0 e1 e2 e3 e4 e5 e6 e7
    obtain ⟨e3, e3', e3''⟩ := e3
    subst e0 e1 e2 e3 e3' e3'' e4 e5 e6 e7
    exact ⟨.mk n0 n1 n2 y n4 n5 ks ss, F6 ++ F7, PExpr.mk_vals hb hc6 hc7⟩

  · skip
    obtain ⟨xs, k, hk, _, hl, hlen, hf⟩ := DataW.trod_struct Try.underlying69 h
    rw [cells69] at hl
    obtain ⟨c0, r0, rfl, hl1⟩ := list_cons hl
    obtain ⟨c1, r1, rfl, hl2⟩ := list_cons hl1
    obtain ⟨c2, r2, rfl, hl3⟩ := list_cons hl2
    obtain ⟨c3, r3, rfl, hl4⟩ := list_cons hl3
    obtain ⟨c4, r4, rfl, hl5⟩ := list_cons hl4
    obtain ⟨c5, r5, rfl, hl6⟩ := list_cons hl5
    obtain ⟨c6, r6, rfl, hl7⟩ := list_cons hl6
    obtain ⟨c7, rfl⟩ := list_one hl7
    obtain ⟨x0, s0, rfl, hlen1⟩ := list_cons hlen
    obtain ⟨x1, s1, rfl, hlen2⟩ := list_cons hlen1
    obtain ⟨x2, s2, rfl, hlen3⟩ := list_cons hlen2
    obtain ⟨x3, s3, rfl, hlen4⟩ := list_cons hlen3
    obtain ⟨x4, s4, rfl, hlen5⟩ := list_cons hlen4
    obtain ⟨x5, s5, rfl, hlen6⟩ := list_cons hlen5
    obtain ⟨x6, s6, rfl, hlen7⟩ := list_cons hlen6
    obtain ⟨x7, rfl⟩ := list_one hlen7
    have h0 : DataW.trod enc Try.prog W base sp held k 64 (([c0, c1, c2, c3, c4, c5, c6, c7].drop 0).take (Try.prog.cellsOf 64)) = some x0 := hf 0 _ rfl
    rw [cells64] at h0
    have h0 : DataW.trod enc Try.prog W base sp held k 64 [c0] = some x0 := h0
    have h1 : DataW.trod enc Try.prog W base sp held k 65 (([c0, c1, c2, c3, c4, c5, c6, c7].drop 1).take (Try.prog.cellsOf 65)) = some x1 := hf 1 _ rfl
    rw [cells65] at h1
    have h1 : DataW.trod enc Try.prog W base sp held k 65 [c1] = some x1 := h1
    have h2 : DataW.trod enc Try.prog W base sp held k 47 (([c0, c1, c2, c3, c4, c5, c6, c7].drop 2).take (Try.prog.cellsOf 47)) = some x2 := hf 2 _ rfl
    rw [cells47] at h2
    have h2 : DataW.trod enc Try.prog W base sp held k 47 [c2] = some x2 := h2
    have h3 : DataW.trod enc Try.prog W base sp held k 66 (([c0, c1, c2, c3, c4, c5, c6, c7].drop 3).take (Try.prog.cellsOf 66)) = some x3 := hf 3 _ rfl
    rw [cells66] at h3
    have h3 : DataW.trod enc Try.prog W base sp held k 66 [c3] = some x3 := h3
    have h4 : DataW.trod enc Try.prog W base sp held k 47 (([c0, c1, c2, c3, c4, c5, c6, c7].drop 4).take (Try.prog.cellsOf 47)) = some x4 := hf 4 _ rfl
    rw [cells47] at h4
    have h4 : DataW.trod enc Try.prog W base sp held k 47 [c4] = some x4 := h4
    have h5 : DataW.trod enc Try.prog W base sp held k 67 (([c0, c1, c2, c3, c4, c5, c6, c7].drop 5).take (Try.prog.cellsOf 67)) = some x5 := hf 5 _ rfl
    rw [cells67] at h5
    have h5 : DataW.trod enc Try.prog W base sp held k 67 [c5] = some x5 := h5
    have h6 : DataW.trod enc Try.prog W base sp held k 4 (([c0, c1, c2, c3, c4, c5, c6, c7].drop 6).take (Try.prog.cellsOf 4)) = some x6 := hf 6 _ rfl
    rw [cells4] at h6
    have h6 : DataW.trod enc Try.prog W base sp held k 4 [c6] = some x6 := h6
    have h7 : DataW.trod enc Try.prog W base sp held k 3 (([c0, c1, c2, c3, c4, c5, c6, c7].drop 7).take (Try.prog.cellsOf 3)) = some x7 := hf 7 _ rfl
    rw [cells3] at h7
    have h7 : DataW.trod enc Try.prog W base sp held k 3 [c7] = some x7 := h7
    obtain ⟨y0, v0, F0, e0, d0⟩ := read_slice Try.underlying64 cells3 (by decide) irow_len (fun n' cs' x' hn h' => read_int h') h0
    obtain ⟨y1, v1, F1, e1, d1⟩ := read_slice (row := erow) Try.underlying65 cells47 (by decide) erow_len (fun n' cs' x' hn h' => by obtain ⟨ys, v, F, rfl, hc⟩ := es n' (by omega) _ _ h'; exact ⟨ys, F, ValsF.single hc⟩) h1
    obtain ⟨y2, v2, F2, e2, d2⟩ := es _ (by omega) _ _ h2
    obtain ⟨y3, v3, F3, e3, d3⟩ := read_slice Try.underlying66 cells163 (by decide) PSort.row_len (fun n' cs' x' hn h' => (ih n' (by omega)).2.2 cs' x' h') h3
    obtain ⟨y4, v4, F4, e4, d4⟩ := es _ (by omega) _ _ h4
    obtain ⟨y5, v5, F5, e5, d5⟩ := read_slice Try.underlying67 cells9 (by decide) srow_len (fun n' cs' x' hn h' => read_str h') h5
    obtain ⟨n6, e6, _⟩ := DataW.trod_bool Try.underlying4 h6
    obtain ⟨n7, e7, _⟩ := DataW.trod_int Try.underlying3 h7
    simp only [List.cons.injEq, and_true] at e0 e1 e2 e3 e4 e5 e6 e7
    subst e0 e1 e2 e3 e4 e5 e6 e7
    exact ⟨.mk y0 y1 y2 y3 y4 y5 n6 n7, _, Plan.mk_vals d0 d1 d2 d3 d4 d5⟩

  · skip
    obtain ⟨xs, k, hk, _, hl, hlen, hf⟩ := DataW.trod_struct Try.underlying163 h
    rw [cells163] at hl
    obtain ⟨c0, r0, rfl, hl1⟩ := list_cons hl
    obtain ⟨c1, r1, rfl, hl2⟩ := list_cons hl1
    obtain ⟨c2, r2, rfl, hl3⟩ := list_cons hl2
    obtain ⟨c3, r3, rfl, hl4⟩ := list_cons hl3
    obtain ⟨c4, r4, rfl, hl5⟩ := list_cons hl4
    obtain ⟨c5, r5, rfl, hl6⟩ := list_cons hl5
    obtain ⟨c6, r6, rfl, hl7⟩ := list_cons hl6
    obtain ⟨c7, r7, rfl, hl8⟩ := list_cons hl7
    obtain ⟨c8, r8, rfl, hl9⟩ := list_cons hl8
    obtain ⟨c9, r9, rfl, hl10⟩ := list_cons hl9
    obtain ⟨c10, rfl⟩ := list_one hl10
    obtain ⟨x0, s0, rfl, hlen1⟩ := list_cons hlen
    obtain ⟨x1, rfl⟩ := list_one hlen1
    have h0 : DataW.trod enc Try.prog W base sp held k 50 (([c0, c1, c2, c3, c4, c5, c6, c7, c8, c9, c10].drop 0).take (Try.prog.cellsOf 50)) = some x0 := hf 0 _ rfl
    rw [cells50] at h0
    have h0 : DataW.trod enc Try.prog W base sp held k 50 [c0, c1, c2, c3, c4, c5, c6, c7, c8, c9] = some x0 := h0
    have h1 : DataW.trod enc Try.prog W base sp held k 4 (([c0, c1, c2, c3, c4, c5, c6, c7, c8, c9, c10].drop 10).take (Try.prog.cellsOf 4)) = some x1 := hf 1 _ rfl
    rw [cells4] at h1
    have h1 : DataW.trod enc Try.prog W base sp held k 4 [c10] = some x1 := h1
    obtain ⟨e, F, hv⟩ := (ih k (by omega)).1 _ _ h0
    obtain ⟨n1, e1, _⟩ := DataW.trod_bool Try.underlying4 h1
    simp only [List.cons.injEq, and_true] at e1
    subst e1
    exact ⟨.mk e n1, F, PSort.mk_vals hv⟩

end
end Go.Proofs.Ytklligemdfnimaa

set_option linter.unusedVariables false
set_option linter.unusedSimpArgs false
namespace Go.Proofs.Ytklligemdfnimaa.fnExactPositive
open Go Go.Vc Go.ChangeShapes Go.WideShapes Go.ChangeAt Go.RowKit
theorem own : ownKnob Try.prog.godebug = none := by kernel_rfl
theorem laid : laidOutB Try.prog = true := by kernel_rfl
set_option maxRecDepth 100000 in
theorem lifted (os : Os) (started : os.Started) (H : Type) (enc : TypeId × Value → H) :
    ReturnsInHanded {} Try.checked os 8 .any (Rows.fnExactPositiveSpec.pre6 enc Try.prog Try.f8 Rows.fnExactPositiveRow.domain false) (Rows.fnExactPositiveSpec.post enc Try.prog Try.f8 false true false false) := by
  refine returnsInHanded_of_change (C := Try.checked) own started (by kernel_rfl) Try.func8
    (ChangeSpec.witness6 (enc := enc) (C := Try.checked) false ⟨#[], #[.agg #[.int .i64 0, .int .i64 0, .bool false, .int .i64 0, .int .i64 0, .string ByteArray.empty, .int .i64 0, .int .i64 0, .slice none 0 0, .slice none 0 0]], []⟩ 8 (by kernel_rfl) (by kernel_rfl) (by kernel_rfl) (by kernel_rfl)) ?_
  intro W base args ds gs before hval0 hW hcnd _
  have hval : ∀ (j : Nat) t v, Try.f8.params[j]? = some t → args[j]? = some v → Value.okWide Try.prog W .any base t v := hval0
  have hW' := hW
  obtain ⟨p, q, hA0, hV, rfl, hfz, hnd⟩ := hW
  have hA : DataW.TrodAll enc Try.prog W 0 (fun _ => true) true Try.f8.params.toList args.toList ds p := hA0
  rw [Try.params8] at hA hval
  obtain ⟨v0, vs0, d0, ds0, p0, q0, hargs0, rfl, rfl, h0, r0⟩ := trodAll_cons hA
  obtain ⟨rfl, rfl, rfl⟩ := trodAll_nil r0
  obtain rfl : args = #[v0] := by cases args; simp_all
  obtain ⟨rfl, rfl⟩ := trodVars_none hV
  obtain ⟨cs0, rfl, _⟩ := okWide_struct Try.underlying50 (hval 0 50 v0 rfl rfl)
  obtain ⟨n0, t0⟩ := h0
  obtain ⟨x0, F0, hx0⟩ := (read_trees _).1 _ _ t0
  clear hA0 hval0
  simp only [List.append_nil] at hW'
  have hlt : ∀ p ∈ p0, p.block < W.heap.size := fun p hp => hW'.lt p hp
  have hcall := (exactPositive x0 W _ F0 hx0).top fun v m' h => h.1
  refine hcall.mono fun e W' ⟨v, m', he, hb, hf, _, _, hv⟩ => ?_
  subst he hv
  exact ⟨_, rfl, post_of_same (pa := p0 ++ []) (pv := []) hW' (fun _ _ _ => (trodAll_cons_mk (shut_bool Try.underlying4 _) trodAll_mk0))
    (fun sp hsp => (trodAll_cons_mk (WideElems.Trod_stays (t := 50) laid (by kernel_rfl) (of_decide_eq_true (by kernel_rfl)) ⟨n0, t0⟩ (fun p hp => hb.same (hlt p (by simp [hp]))) (fun p hp => hsp p (by simp [hp])))
        trodAll_mk0))
    (fun _ _ => rfl) (by simp)
    (hb.frame _) hf (ok_one (by kernel_rfl) rfl (okWide_bool_mk Try.underlying4 _))⟩

theorem over : Rows.fnExactPositiveRow.holds Try.pinned (OpenSpec.ofChange Rows.fnExactPositiveSpec) :=
  OpenClaim.holds_of_wide 8 Try.f8 rfl rfl rfl rfl rfl rfl rfl ⟨rfl, rfl, rfl, rfl, rfl⟩ rfl rfl rfl rfl rfl (by kernel_rfl) Try.func8 (by kernel_rfl)
    (of_decide_eq_true (by kernel_rfl)) (by unfold Func.isWrapper; first | (rw [if_pos (by decide +kernel)]; kernel_rfl) | (rw [if_neg (by decide +kernel)]; exact ⟨rfl, rfl⟩))
    (fun os started H enc _ => lifted os started H enc)

/--  THE STATEMENT  -/
theorem proved : Rows.FnExactPositiveSaid :=
  over
#print axioms proved
end Go.Proofs.Ytklligemdfnimaa.fnExactPositive
