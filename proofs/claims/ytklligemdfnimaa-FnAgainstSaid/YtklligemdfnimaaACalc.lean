/-
  The draw of an operation; operations of the program.
  Conditions: none.
-/
import Derived.Test.YtklligemdfnimaaADraw
set_option linter.unusedVariables false
set_option linter.unusedSimpArgs false
set_option linter.unusedVariables false
set_option linter.unusedSimpArgs false
set_option maxRecDepth 4000
namespace Go.Proofs.Ytklligemdfnimaa
open Go Go.Vc
theorem range2 : List.range 2 = [0, 1] := rfl
theorem rep2 (z : Value) : (List.replicate 2 [z]).flatten = [z, z] := rfl
theorem range5 : List.range 5 = [0, 1, 2, 3, 4] := rfl
theorem rep5 (z : Value) : (List.replicate 5 [z]).flatten = [z, z, z, z, z] := rfl
theorem _root_.Go.Vc.Grow.chgN {m m1 m2 : World} {F : List Nat} (g : Grow m m1) (c : Chg F m1 m2) (hn : ∀ b ∈ F, ¬ Go.Vc.vis m b) : Grow m m2 :=
  ⟨fun b hb => (c.blocks b (g.vis hb) fun hF => hn b hF hb).trans (g.blocks b hb), c.os.trans g.os, c.tape.trans g.tape, c.output.trans g.output⟩
theorem TextValue2_c (s : ByteArray) (m : World) : FCalls Try.prog 57 #[.string s] m fun r m' => m' = m ∧ r = .agg #[.int .i64 2, .int .i64 0, .string s] := by
  refine fcalls_of_vc (args := [_]) follows_mixed Try.func57 rfl (by kernel_rfl) (by simp [Try.f57]) ?_
  simp only [Try.f57, vcs, tbl, crs, List.map, reduceIte, Nat.reduceLT, Nat.reduceLeDiff, Nat.reduceEqDiff, Nat.reduceAdd, Nat.reduceMul, Nat.reduceSub, List.all_cons, List.all_nil, Bool.and_true, Bool.and_self, ne_eq, reduceCtorEq, not_false_eq_true, and_self]
set_option maxHeartbeats 2000000 in
theorem DrawCalc_c (bs : List Int) (m : World) (v : Value) (F : List Nat) (h : CellF m (.sl bs.length (bs.flatMap brow)) v F) :
   FCalls Try.prog 18 #[v] m fun r m' => Grow m m' ∧ ∃ (op : Int) (a b : Val), r = .tuple #[.int .i64 op, .agg #[.int .i64 a.kind, .int .i64 a.num, .string a.text], .agg #[.int .i64 b.kind, .int .i64 b.num, .string b.text]] ∧ 0 ≤ op ∧ op ≤ 17 ∧ a.text.size ≤ 4000 ∧ b.text.size ≤ 4000 := by
  obtain ⟨a, cap, rfl, hcap, hmax, hz⟩ := h.slice
  refine fcalls_of_vc (args := [_]) follows_mixed Try.func18 rfl (by kernel_rfl) (by simp [Try.f18]) ?_
  simp only [Try.f18, vcs, tbl, crs, List.map, reduceIte, Nat.reduceLT, Nat.reduceLeDiff, Nat.reduceEqDiff, Nat.reduceAdd, Nat.reduceMul, Nat.reduceSub, List.all_cons, List.all_nil, Bool.and_true, Bool.and_self, ne_eq, reduceCtorEq, not_false_eq_true, and_self]
  refine (l1New_c bs m _ F h).mono ?_
  rintro r m1 ⟨g1, bc, rfl, cu1, hn⟩
  simp only [vcs, tbl, crs, List.map, reduceIte, Nat.reduceLT, Nat.reduceLeDiff, Nat.reduceEqDiff, Nat.reduceAdd, Nat.reduceMul, Nat.reduceSub, List.all_cons, List.all_nil, Bool.and_true, Bool.and_self, ne_eq, reduceCtorEq, not_false_eq_true, and_self]
  refine (l1Below_c 18 (by decide) m1 bc cu1).mono ?_
  rintro r m2 ⟨g2, cu2, op, rfl, p2, q2⟩
  have q2 : op ≤ 17 := q2
  simp only [vcs, tbl, crs, List.map, reduceIte, Nat.reduceLT, Nat.reduceLeDiff, Nat.reduceEqDiff, Nat.reduceAdd, Nat.reduceMul, Nat.reduceSub, List.all_cons, List.all_nil, Bool.and_true, Bool.and_self, ne_eq, reduceCtorEq, not_false_eq_true, and_self]
  refine (l1Once_c 5 (by decide) m2 bc cu2).mono ?_
  rintro r m3 ⟨g3, cu3, t3, rfl⟩
  simp only [vcs, tbl, crs, List.map, reduceIte, Nat.reduceLT, Nat.reduceLeDiff, Nat.reduceEqDiff, Nat.reduceAdd, Nat.reduceMul, Nat.reduceSub, List.all_cons, List.all_nil, Bool.and_true, Bool.and_self, ne_eq, reduceCtorEq, not_false_eq_true, and_self]
  refine ⟨fun h0 => ?_, fun h0 => ?_⟩
  · refine (l5Bent_c m3 bc cu3).mono ?_
    rintro r m4 ⟨g4, cu4, ⟨ak, an, at'⟩, rfl, ha⟩
    simp only [vcs, tbl, crs, List.map, reduceIte, Nat.reduceLT, Nat.reduceLeDiff, Nat.reduceEqDiff, Nat.reduceAdd, Nat.reduceMul, Nat.reduceSub, List.all_cons, List.all_nil, Bool.and_true, Bool.and_self, ne_eq, reduceCtorEq, not_false_eq_true, and_self]
    refine (l5Bent_c m4 bc cu4).mono ?_
    rintro r m5 ⟨g5, cu5, ⟨bk, bn, bt⟩, rfl, hb⟩
    simp only [vcs, tbl, crs, List.map, reduceIte, Nat.reduceLT, Nat.reduceLeDiff, Nat.reduceEqDiff, Nat.reduceAdd, Nat.reduceMul, Nat.reduceSub, List.all_cons, List.all_nil, Bool.and_true, Bool.and_self, ne_eq, reduceCtorEq, not_false_eq_true, and_self]
    exact ⟨g1.chgN (((g2.trans g3).trans g4).trans g5) (by simpa using hn), op, ⟨ak, an, at'⟩, ⟨bk, bn, bt⟩, rfl, p2, q2, Nat.le_trans ha (by decide), Nat.le_trans hb (by decide)⟩
  · refine (l1Below_c 3 (by decide) m3 bc cu3).mono ?_
    rintro r m4 ⟨g4, cu4, kd, rfl, p4, q4⟩
    rcases (by omega : op = 1 ∨ op = 2 ∨ op = 9 ∨ (9 < op ∧ op ≠ 1 ∧ op ≠ 2 ∧ op ≠ 9) ∨ (¬ 9 < op ∧ op ≠ 1 ∧ op ≠ 2 ∧ op ≠ 9)) with o | o | o | o | o
    · have e1 : decide (op = 1) = true := by simp; omega
      have e2 : decide (op = 2) = false := by simp; omega
      have e9 : decide (op = 9) = false := by simp; omega
      have eg : decide (9 < op) = false := by simp; omega
      simp only [vcs, tbl, crs, List.map, reduceIte, Nat.reduceLT, Nat.reduceLeDiff, Nat.reduceEqDiff, Nat.reduceAdd, Nat.reduceMul, Nat.reduceSub, List.all_cons, List.all_nil, Bool.and_true, Bool.and_self, ne_eq, reduceCtorEq, not_false_eq_true, and_self, e1, e2, e9, eg, true_implies, false_implies, and_true, true_and, Bool.true_eq_false, Bool.false_eq_true]
      refine (l6Typed_c _ m4 bc cu4).mono ?_
      rintro r m5 ⟨g5, cu5, ⟨ak, an, at'⟩, rfl, ha⟩
      simp only [vcs, tbl, crs, List.map, reduceIte, Nat.reduceLT, Nat.reduceLeDiff, Nat.reduceEqDiff, Nat.reduceAdd, Nat.reduceMul, Nat.reduceSub, List.all_cons, List.all_nil, Bool.and_true, Bool.and_self, ne_eq, reduceCtorEq, not_false_eq_true, and_self, e1, e2, e9, eg, true_implies, false_implies, and_true, true_and, Bool.true_eq_false, Bool.false_eq_true]
      refine (l6Typed_c _ m5 bc cu5).mono ?_
      rintro r m6 ⟨g6, cu6, ⟨bk, bn, bt⟩, rfl, hb⟩
      simp only [vcs, tbl, crs, List.map, reduceIte, Nat.reduceLT, Nat.reduceLeDiff, Nat.reduceEqDiff, Nat.reduceAdd, Nat.reduceMul, Nat.reduceSub, List.all_cons, List.all_nil, Bool.and_true, Bool.and_self, ne_eq, reduceCtorEq, not_false_eq_true, and_self, e1, e2, e9, eg, true_implies, false_implies, and_true, true_and, Bool.true_eq_false, Bool.false_eq_true]
      refine vcDrawn.introX [73,72] (.take 0 (.take 3 (.brX 1 (.brX 2 (.br 4 (.br 5 .done .nobr) .nobr) (.br 4 (.brX 2 (.br 5 .done .nobr) .nobr) .nobr)) (.brX 2 (.brX 1 (.br 4 (.br 5 .done .nobr) .nobr) .nobr) .nobr)))) (by kernel_rfl) ?_
      simp only [vcs, tbl, crs, List.map, reduceIte, Nat.reduceLT, Nat.reduceLeDiff, Nat.reduceEqDiff, Nat.reduceAdd, Nat.reduceMul, Nat.reduceSub, List.all_cons, List.all_nil, Bool.and_true, Bool.and_self, ne_eq, reduceCtorEq, not_false_eq_true, and_self, e1, e2, e9, eg, true_implies, false_implies, and_true, true_and, Bool.true_eq_false, Bool.false_eq_true]
      exact ⟨g1.chgN (((((g2).trans g3).trans g4).trans g5).trans g6) (by simpa using hn), op, ⟨ak, an, at'⟩, ⟨bk, bn, bt⟩, rfl, p2, q2, Nat.le_trans ha (by decide), Nat.le_trans hb (by decide)⟩

    · have e1 : decide (op = 1) = false := by simp; omega
      have e2 : decide (op = 2) = true := by simp; omega
      have e9 : decide (op = 9) = false := by simp; omega
      have eg : decide (9 < op) = false := by simp; omega
      simp only [vcs, tbl, crs, List.map, reduceIte, Nat.reduceLT, Nat.reduceLeDiff, Nat.reduceEqDiff, Nat.reduceAdd, Nat.reduceMul, Nat.reduceSub, List.all_cons, List.all_nil, Bool.and_true, Bool.and_self, ne_eq, reduceCtorEq, not_false_eq_true, and_self, e1, e2, e9, eg, true_implies, false_implies, and_true, true_and, Bool.true_eq_false, Bool.false_eq_true]
      refine (l6Typed_c _ m4 bc cu4).mono ?_
      rintro r m5 ⟨g5, cu5, ⟨ak, an, at'⟩, rfl, ha⟩
      simp only [vcs, tbl, crs, List.map, reduceIte, Nat.reduceLT, Nat.reduceLeDiff, Nat.reduceEqDiff, Nat.reduceAdd, Nat.reduceMul, Nat.reduceSub, List.all_cons, List.all_nil, Bool.and_true, Bool.and_self, ne_eq, reduceCtorEq, not_false_eq_true, and_self, e1, e2, e9, eg, true_implies, false_implies, and_true, true_and, Bool.true_eq_false, Bool.false_eq_true]
      refine (l6Typed_c _ m5 bc cu5).mono ?_
      rintro r m6 ⟨g6, cu6, ⟨bk, bn, bt⟩, rfl, hb⟩
      simp only [vcs, tbl, crs, List.map, reduceIte, Nat.reduceLT, Nat.reduceLeDiff, Nat.reduceEqDiff, Nat.reduceAdd, Nat.reduceMul, Nat.reduceSub, List.all_cons, List.all_nil, Bool.and_true, Bool.and_self, ne_eq, reduceCtorEq, not_false_eq_true, and_self, e1, e2, e9, eg, true_implies, false_implies, and_true, true_and, Bool.true_eq_false, Bool.false_eq_true]
      refine vcDrawn.introX [73,72] (.take 0 (.take 3 (.brX 1 (.brX 2 (.br 4 (.br 5 .done .nobr) .nobr) (.br 4 (.brX 2 (.br 5 .done .nobr) .nobr) .nobr)) (.brX 2 (.brX 1 (.br 4 (.br 5 .done .nobr) .nobr) .nobr) .nobr)))) (by kernel_rfl) ?_
      simp only [vcs, tbl, crs, List.map, reduceIte, Nat.reduceLT, Nat.reduceLeDiff, Nat.reduceEqDiff, Nat.reduceAdd, Nat.reduceMul, Nat.reduceSub, List.all_cons, List.all_nil, Bool.and_true, Bool.and_self, ne_eq, reduceCtorEq, not_false_eq_true, and_self, e1, e2, e9, eg, true_implies, false_implies, and_true, true_and, Bool.true_eq_false, Bool.false_eq_true]
      exact ⟨g1.chgN (((((g2).trans g3).trans g4).trans g5).trans g6) (by simpa using hn), op, ⟨ak, an, at'⟩, ⟨bk, bn, bt⟩, rfl, p2, q2, Nat.le_trans ha (by decide), Nat.le_trans hb (by decide)⟩

    · have e1 : decide (op = 1) = false := by simp; omega
      have e2 : decide (op = 2) = false := by simp; omega
      have e9 : decide (op = 9) = true := by simp; omega
      have eg : decide (9 < op) = false := by simp; omega
      simp only [vcs, tbl, crs, List.map, reduceIte, Nat.reduceLT, Nat.reduceLeDiff, Nat.reduceEqDiff, Nat.reduceAdd, Nat.reduceMul, Nat.reduceSub, List.all_cons, List.all_nil, Bool.and_true, Bool.and_self, ne_eq, reduceCtorEq, not_false_eq_true, and_self, e1, e2, e9, eg, true_implies, false_implies, and_true, true_and, Bool.true_eq_false, Bool.false_eq_true]
      refine (l6Typed_c _ m4 bc cu4).mono ?_
      rintro r m5 ⟨g5, cu5, ⟨ak, an, at'⟩, rfl, ha⟩
      simp only [vcs, tbl, crs, List.map, reduceIte, Nat.reduceLT, Nat.reduceLeDiff, Nat.reduceEqDiff, Nat.reduceAdd, Nat.reduceMul, Nat.reduceSub, List.all_cons, List.all_nil, Bool.and_true, Bool.and_self, ne_eq, reduceCtorEq, not_false_eq_true, and_self, e1, e2, e9, eg, true_implies, false_implies, and_true, true_and, Bool.true_eq_false, Bool.false_eq_true]
      refine (l6Typed_c _ m5 bc cu5).mono ?_
      rintro r m6 ⟨g6, cu6, ⟨bk, bn, bt⟩, rfl, hb⟩
      simp only [vcs, tbl, crs, List.map, reduceIte, Nat.reduceLT, Nat.reduceLeDiff, Nat.reduceEqDiff, Nat.reduceAdd, Nat.reduceMul, Nat.reduceSub, List.all_cons, List.all_nil, Bool.and_true, Bool.and_self, ne_eq, reduceCtorEq, not_false_eq_true, and_self, e1, e2, e9, eg, true_implies, false_implies, and_true, true_and, Bool.true_eq_false, Bool.false_eq_true]
      refine (l1Once_c 10 (by decide) m6 bc cu6).mono ?_
      rintro r m7 ⟨g7, cu7, t7, rfl⟩
      simp only [vcs, tbl, crs, List.map, reduceIte, Nat.reduceLT, Nat.reduceLeDiff, Nat.reduceEqDiff, Nat.reduceAdd, Nat.reduceMul, Nat.reduceSub, List.all_cons, List.all_nil, Bool.and_true, Bool.and_self, ne_eq, reduceCtorEq, not_false_eq_true, and_self, e1, e2, e9, eg, true_implies, false_implies, and_true, true_and, Bool.true_eq_false, Bool.false_eq_true]
      refine ⟨fun h7 => ?_, fun h7 => ?_⟩
      · refine vcLoop.intro (fun f L m' => ∃ (k n : Int) (s : ByteArray), L = [(8, .str 40 [.v (.int .i64 k), .v (.int .i64 n), .v (.string s)]), (9, .str 40 [.v (.int .i64 bk), .v (.int .i64 bn), .v (.string bt)]), (4, .str 40 [.v (.int .i64 0), .v (.int .i64 0), .v (.string ByteArray.empty)]), (3, .str 40 [.v (.int .i64 0), .v (.int .i64 0), .v (.string ByteArray.empty)])] ∧ s.size ≤ 2000 ∧ m' = m7)
          (fun _ L _ => bentMu L) ⟨[(8, .str 40 [.v (.int .i64 ak), .v (.int .i64 an), .v (.string at')]), (9, .str 40 [.v (.int .i64 bk), .v (.int .i64 bn), .v (.string bt)]), (4, .str 40 [.v (.int .i64 0), .v (.int .i64 0), .v (.string ByteArray.empty)]), (3, .str 40 [.v (.int .i64 0), .v (.int .i64 0), .v (.string ByteArray.empty)])], ?_, ak, an, at', ?_⟩ ?_
        · exact Sub.at 8 rfl (Sub.at 9 rfl (Sub.at 4 rfl (Sub.at 3 rfl (Sub.nil _))))
        · exact ⟨rfl, ha, rfl⟩
        · rintro g L1 m8 ⟨k, n, s, rfl, hs, rfl⟩
          have hz : (⟨#[48, 49, 50, 51, 52, 53, 54, 55, 56, 57]⟩ : ByteArray).size = 10 := rfl
          simp only [vcs, tbl, crs, List.map, reduceIte, Nat.reduceLT, Nat.reduceLeDiff, Nat.reduceEqDiff, Nat.reduceAdd, Nat.reduceMul, Nat.reduceSub, List.all_cons, List.all_nil, Bool.and_true, Bool.and_self, ne_eq, reduceCtorEq, not_false_eq_true, and_self, e1, e2, e9, eg, true_implies, false_implies, and_true, true_and, Bool.true_eq_false, Bool.false_eq_true]
          refine ⟨fun hlt => ?_, fun hge => ?_⟩
          · rw [pure_sadd (by omega)]
            simp only [vcs, tbl, crs, List.map, reduceIte, Nat.reduceLT, Nat.reduceLeDiff, Nat.reduceEqDiff, Nat.reduceAdd, Nat.reduceMul, Nat.reduceSub, List.all_cons, List.all_nil, Bool.and_true, Bool.and_self, ne_eq, reduceCtorEq, not_false_eq_true, and_self, e1, e2, e9, eg, true_implies, false_implies, and_true, true_and, Bool.true_eq_false, Bool.false_eq_true]
            refine (TextValue2_c _ m8).mono ?_
            rintro r m9 ⟨rfl, rfl⟩
            simp only [vcs, tbl, crs, List.map, reduceIte, Nat.reduceLT, Nat.reduceLeDiff, Nat.reduceEqDiff, Nat.reduceAdd, Nat.reduceMul, Nat.reduceSub, List.all_cons, List.all_nil, Bool.and_true, Bool.and_self, ne_eq, reduceCtorEq, not_false_eq_true, and_self, e1, e2, e9, eg, true_implies, false_implies, and_true, true_and, Bool.true_eq_false, Bool.false_eq_true]
            refine ⟨[(8, .str 40 [.v (.int .i64 2), .v (.int .i64 0), .v (.string (s ++ ⟨#[48, 49, 50, 51, 52, 53, 54, 55, 56, 57]⟩))]), (9, .str 40 [.v (.int .i64 bk), .v (.int .i64 bn), .v (.string bt)]), (4, .str 40 [.v (.int .i64 0), .v (.int .i64 0), .v (.string ByteArray.empty)]), (3, .str 40 [.v (.int .i64 0), .v (.int .i64 0), .v (.string ByteArray.empty)])], ?_, ⟨_, _, _, rfl, ?_⟩, ?_⟩
            · exact Sub.at 8 rfl (Sub.at 9 rfl (Sub.at 4 rfl (Sub.at 3 rfl (Sub.nil _))))
            · rw [ByteArray.size_append, hz]; omega
            · show 400 - (s ++ ⟨#[48, 49, 50, 51, 52, 53, 54, 55, 56, 57]⟩ : ByteArray).size < 400 - s.size
              rw [ByteArray.size_append, hz]; omega
          · refine vcDrawn.introX [68,65] (.take 0 (.take 2 (.brX 1 (.br 3 (.brX 4 (.take 5 (.br 6 (.br 7 .done .nobr) .nobr)) .nobr) .nobr) (.br 3 (.brX 1 (.brX 4 (.take 5 (.br 6 (.br 7 .done .nobr) .nobr)) .nobr) (.brX 4 (.brX 1 (.take 5 (.br 6 (.br 7 .done .nobr) .nobr)) .nobr) .nobr)) .nobr)))) (by kernel_rfl) ?_
            simp only [vcs, tbl, crs, List.map, reduceIte, Nat.reduceLT, Nat.reduceLeDiff, Nat.reduceEqDiff, Nat.reduceAdd, Nat.reduceMul, Nat.reduceSub, List.all_cons, List.all_nil, Bool.and_true, Bool.and_self, ne_eq, reduceCtorEq, not_false_eq_true, and_self, e1, e2, e9, eg, true_implies, false_implies, and_true, true_and, Bool.true_eq_false, Bool.false_eq_true, add_lit0, Nat.zero_mul, Nat.zero_add, Nat.add_zero, Nat.le_refl, range5, rep5, range2, rep2]
            refine ⟨?_, ?_, ?_⟩
            · intro b m9 hp
              refine (pickS_c [⟨#[]⟩, ⟨#[120]⟩] (by decide) (by decide) (by decide) hp cu7).mono ?_
              rintro r m10 ⟨g8, cu8, b8, rfl, hb8⟩
              simp only [vcs, tbl, crs, List.map, reduceIte, Nat.reduceLT, Nat.reduceLeDiff, Nat.reduceEqDiff, Nat.reduceAdd, Nat.reduceMul, Nat.reduceSub, List.all_cons, List.all_nil, Bool.and_true, Bool.and_self, ne_eq, reduceCtorEq, not_false_eq_true, and_self, e1, e2, e9, eg, true_implies, false_implies, and_true, true_and, Bool.true_eq_false, Bool.false_eq_true]
              rw [pure_sadd (by omega)]
              simp only [vcs, tbl, crs, List.map, reduceIte, Nat.reduceLT, Nat.reduceLeDiff, Nat.reduceEqDiff, Nat.reduceAdd, Nat.reduceMul, Nat.reduceSub, List.all_cons, List.all_nil, Bool.and_true, Bool.and_self, ne_eq, reduceCtorEq, not_false_eq_true, and_self, e1, e2, e9, eg, true_implies, false_implies, and_true, true_and, Bool.true_eq_false, Bool.false_eq_true]
              refine (TextValue2_c _ m10).mono ?_
              rintro r m11 ⟨rfl, rfl⟩
              simp only [vcs, tbl, crs, List.map, reduceIte, Nat.reduceLT, Nat.reduceLeDiff, Nat.reduceEqDiff, Nat.reduceAdd, Nat.reduceMul, Nat.reduceSub, List.all_cons, List.all_nil, Bool.and_true, Bool.and_self, ne_eq, reduceCtorEq, not_false_eq_true, and_self, e1, e2, e9, eg, true_implies, false_implies, and_true, true_and, Bool.true_eq_false, Bool.false_eq_true]
              refine ⟨Grow.refl _, ?_⟩
              refine vcDrawn.introX [73,72] (.take 0 (.take 3 (.brX 1 (.brX 2 (.br 4 (.br 5 .done .nobr) .nobr) (.br 4 (.brX 2 (.br 5 .done .nobr) .nobr) .nobr)) (.brX 2 (.brX 1 (.br 4 (.br 5 .done .nobr) .nobr) .nobr) .nobr)))) (by kernel_rfl) ?_
              simp only [vcs, tbl, crs, List.map, reduceIte, Nat.reduceLT, Nat.reduceLeDiff, Nat.reduceEqDiff, Nat.reduceAdd, Nat.reduceMul, Nat.reduceSub, List.all_cons, List.all_nil, Bool.and_true, Bool.and_self, ne_eq, reduceCtorEq, not_false_eq_true, and_self, e1, e2, e9, eg, true_implies, false_implies, and_true, true_and, Bool.true_eq_false, Bool.false_eq_true]
              exact ⟨g1.chgN (((((((g2).trans g3).trans g4).trans g5).trans g6).trans g7).trans g8) (by simpa using hn), op, ⟨k, n, s⟩, ⟨2, 0, s ++ b8⟩, rfl, p2, q2, Nat.le_trans hs (by decide), Nat.le_trans (show (s ++ b8).size ≤ 4000 by rw [ByteArray.size_append]; omega) (by decide)⟩
            · intro b m9 hp
              refine (pickS_c [⟨#[]⟩, ⟨#[120]⟩] (by decide) (by decide) (by decide) hp cu7).mono ?_
              rintro r m10 ⟨g8, cu8, b8, rfl, hb8⟩
              simp only [vcs, tbl, crs, List.map, reduceIte, Nat.reduceLT, Nat.reduceLeDiff, Nat.reduceEqDiff, Nat.reduceAdd, Nat.reduceMul, Nat.reduceSub, List.all_cons, List.all_nil, Bool.and_true, Bool.and_self, ne_eq, reduceCtorEq, not_false_eq_true, and_self, e1, e2, e9, eg, true_implies, false_implies, and_true, true_and, Bool.true_eq_false, Bool.false_eq_true]
              rw [pure_sadd (by omega)]
              simp only [vcs, tbl, crs, List.map, reduceIte, Nat.reduceLT, Nat.reduceLeDiff, Nat.reduceEqDiff, Nat.reduceAdd, Nat.reduceMul, Nat.reduceSub, List.all_cons, List.all_nil, Bool.and_true, Bool.and_self, ne_eq, reduceCtorEq, not_false_eq_true, and_self, e1, e2, e9, eg, true_implies, false_implies, and_true, true_and, Bool.true_eq_false, Bool.false_eq_true]
              refine (TextValue2_c _ m10).mono ?_
              rintro r m11 ⟨rfl, rfl⟩
              simp only [vcs, tbl, crs, List.map, reduceIte, Nat.reduceLT, Nat.reduceLeDiff, Nat.reduceEqDiff, Nat.reduceAdd, Nat.reduceMul, Nat.reduceSub, List.all_cons, List.all_nil, Bool.and_true, Bool.and_self, ne_eq, reduceCtorEq, not_false_eq_true, and_self, e1, e2, e9, eg, true_implies, false_implies, and_true, true_and, Bool.true_eq_false, Bool.false_eq_true]
              refine ⟨Grow.refl _, ?_⟩
              refine vcDrawn.introX [73,72] (.take 0 (.take 3 (.brX 1 (.brX 2 (.br 4 (.br 5 .done .nobr) .nobr) (.br 4 (.brX 2 (.br 5 .done .nobr) .nobr) .nobr)) (.brX 2 (.brX 1 (.br 4 (.br 5 .done .nobr) .nobr) .nobr) .nobr)))) (by kernel_rfl) ?_
              simp only [vcs, tbl, crs, List.map, reduceIte, Nat.reduceLT, Nat.reduceLeDiff, Nat.reduceEqDiff, Nat.reduceAdd, Nat.reduceMul, Nat.reduceSub, List.all_cons, List.all_nil, Bool.and_true, Bool.and_self, ne_eq, reduceCtorEq, not_false_eq_true, and_self, e1, e2, e9, eg, true_implies, false_implies, and_true, true_and, Bool.true_eq_false, Bool.false_eq_true]
              exact ⟨g1.chgN (((((((g2).trans g3).trans g4).trans g5).trans g6).trans g7).trans g8) (by simpa using hn), op, ⟨k, n, s⟩, ⟨2, 0, s ++ b8⟩, rfl, p2, q2, Nat.le_trans hs (by decide), Nat.le_trans (show (s ++ b8).size ≤ 4000 by rw [ByteArray.size_append]; omega) (by decide)⟩
            · intro b m9 hp
              refine (pickS_c [⟨#[]⟩, ⟨#[120]⟩] (by decide) (by decide) (by decide) hp cu7).mono ?_
              rintro r m10 ⟨g8, cu8, b8, rfl, hb8⟩
              simp only [vcs, tbl, crs, List.map, reduceIte, Nat.reduceLT, Nat.reduceLeDiff, Nat.reduceEqDiff, Nat.reduceAdd, Nat.reduceMul, Nat.reduceSub, List.all_cons, List.all_nil, Bool.and_true, Bool.and_self, ne_eq, reduceCtorEq, not_false_eq_true, and_self, e1, e2, e9, eg, true_implies, false_implies, and_true, true_and, Bool.true_eq_false, Bool.false_eq_true]
              rw [pure_sadd (by omega)]
              simp only [vcs, tbl, crs, List.map, reduceIte, Nat.reduceLT, Nat.reduceLeDiff, Nat.reduceEqDiff, Nat.reduceAdd, Nat.reduceMul, Nat.reduceSub, List.all_cons, List.all_nil, Bool.and_true, Bool.and_self, ne_eq, reduceCtorEq, not_false_eq_true, and_self, e1, e2, e9, eg, true_implies, false_implies, and_true, true_and, Bool.true_eq_false, Bool.false_eq_true]
              refine (TextValue2_c _ m10).mono ?_
              rintro r m11 ⟨rfl, rfl⟩
              simp only [vcs, tbl, crs, List.map, reduceIte, Nat.reduceLT, Nat.reduceLeDiff, Nat.reduceEqDiff, Nat.reduceAdd, Nat.reduceMul, Nat.reduceSub, List.all_cons, List.all_nil, Bool.and_true, Bool.and_self, ne_eq, reduceCtorEq, not_false_eq_true, and_self, e1, e2, e9, eg, true_implies, false_implies, and_true, true_and, Bool.true_eq_false, Bool.false_eq_true]
              refine ⟨Grow.refl _, ?_⟩
              refine vcDrawn.introX [73,72] (.take 0 (.take 3 (.brX 1 (.brX 2 (.br 4 (.br 5 .done .nobr) .nobr) (.br 4 (.brX 2 (.br 5 .done .nobr) .nobr) .nobr)) (.brX 2 (.brX 1 (.br 4 (.br 5 .done .nobr) .nobr) .nobr) .nobr)))) (by kernel_rfl) ?_
              simp only [vcs, tbl, crs, List.map, reduceIte, Nat.reduceLT, Nat.reduceLeDiff, Nat.reduceEqDiff, Nat.reduceAdd, Nat.reduceMul, Nat.reduceSub, List.all_cons, List.all_nil, Bool.and_true, Bool.and_self, ne_eq, reduceCtorEq, not_false_eq_true, and_self, e1, e2, e9, eg, true_implies, false_implies, and_true, true_and, Bool.true_eq_false, Bool.false_eq_true]
              exact ⟨g1.chgN (((((((g2).trans g3).trans g4).trans g5).trans g6).trans g7).trans g8) (by simpa using hn), op, ⟨k, n, s⟩, ⟨2, 0, s ++ b8⟩, rfl, p2, q2, Nat.le_trans hs (by decide), Nat.le_trans (show (s ++ b8).size ≤ 4000 by rw [ByteArray.size_append]; omega) (by decide)⟩
      · refine vcDrawn.introX [73,72] (.take 0 (.take 3 (.brX 1 (.brX 2 (.br 4 (.br 5 .done .nobr) .nobr) (.br 4 (.brX 2 (.br 5 .done .nobr) .nobr) .nobr)) (.brX 2 (.brX 1 (.br 4 (.br 5 .done .nobr) .nobr) .nobr) .nobr)))) (by kernel_rfl) ?_
        simp only [vcs, tbl, crs, List.map, reduceIte, Nat.reduceLT, Nat.reduceLeDiff, Nat.reduceEqDiff, Nat.reduceAdd, Nat.reduceMul, Nat.reduceSub, List.all_cons, List.all_nil, Bool.and_true, Bool.and_self, ne_eq, reduceCtorEq, not_false_eq_true, and_self, e1, e2, e9, eg, true_implies, false_implies, and_true, true_and, Bool.true_eq_false, Bool.false_eq_true]
        exact ⟨g1.chgN ((((((g2).trans g3).trans g4).trans g5).trans g6).trans g7) (by simpa using hn), op, ⟨ak, an, at'⟩, ⟨bk, bn, bt⟩, rfl, p2, q2, Nat.le_trans ha (by decide), Nat.le_trans hb (by decide)⟩

    · obtain ⟨og, o1, o2, o9⟩ := o
      have e1 : decide (op = 1) = false := by simp; omega
      have e2 : decide (op = 2) = false := by simp; omega
      have e9 : decide (op = 9) = false := by simp; omega
      have eg : decide (9 < op) = true := by simp; omega
      simp only [vcs, tbl, crs, List.map, reduceIte, Nat.reduceLT, Nat.reduceLeDiff, Nat.reduceEqDiff, Nat.reduceAdd, Nat.reduceMul, Nat.reduceSub, List.all_cons, List.all_nil, Bool.and_true, Bool.and_self, ne_eq, reduceCtorEq, not_false_eq_true, and_self, e1, e2, e9, eg, true_implies, false_implies, and_true, true_and, Bool.true_eq_false, Bool.false_eq_true]
      refine (l6Typed_c _ m4 bc cu4).mono ?_
      rintro r m5 ⟨g5, cu5, ⟨ak, an, at'⟩, rfl, ha⟩
      simp only [vcs, tbl, crs, List.map, reduceIte, Nat.reduceLT, Nat.reduceLeDiff, Nat.reduceEqDiff, Nat.reduceAdd, Nat.reduceMul, Nat.reduceSub, List.all_cons, List.all_nil, Bool.and_true, Bool.and_self, ne_eq, reduceCtorEq, not_false_eq_true, and_self, e1, e2, e9, eg, true_implies, false_implies, and_true, true_and, Bool.true_eq_false, Bool.false_eq_true]
      refine (l6Typed_c _ m5 bc cu5).mono ?_
      rintro r m6 ⟨g6, cu6, ⟨bk, bn, bt⟩, rfl, hb⟩
      simp only [vcs, tbl, crs, List.map, reduceIte, Nat.reduceLT, Nat.reduceLeDiff, Nat.reduceEqDiff, Nat.reduceAdd, Nat.reduceMul, Nat.reduceSub, List.all_cons, List.all_nil, Bool.and_true, Bool.and_self, ne_eq, reduceCtorEq, not_false_eq_true, and_self, e1, e2, e9, eg, true_implies, false_implies, and_true, true_and, Bool.true_eq_false, Bool.false_eq_true]
      refine (l1Once_c 3 (by decide) m6 bc cu6).mono ?_
      rintro r m7 ⟨g7, cu7, t7, rfl⟩
      simp only [vcs, tbl, crs, List.map, reduceIte, Nat.reduceLT, Nat.reduceLeDiff, Nat.reduceEqDiff, Nat.reduceAdd, Nat.reduceMul, Nat.reduceSub, List.all_cons, List.all_nil, Bool.and_true, Bool.and_self, ne_eq, reduceCtorEq, not_false_eq_true, and_self, e1, e2, e9, eg, true_implies, false_implies, and_true, true_and, Bool.true_eq_false, Bool.false_eq_true]
      refine ⟨fun h7 => ?_, fun h7 => ?_⟩
      · simp only [vcs, tbl, crs, List.map, reduceIte, Nat.reduceLT, Nat.reduceLeDiff, Nat.reduceEqDiff, Nat.reduceAdd, Nat.reduceMul, Nat.reduceSub, List.all_cons, List.all_nil, Bool.and_true, Bool.and_self, ne_eq, reduceCtorEq, not_false_eq_true, and_self, e1, e2, e9, eg, true_implies, false_implies, and_true, true_and, Bool.true_eq_false, Bool.false_eq_true, add_lit0, Nat.zero_mul, Nat.zero_add, Nat.add_zero, Nat.le_refl, range5, rep5, range2, rep2]
        intro b m8 hp
        refine (pickI_c [0, 1, -1, 2, -3] (by decide) (by decide) hp cu7).mono ?_
        rintro r m9 ⟨g8, cu8, b8, rfl, _⟩
        simp only [vcs, tbl, crs, List.map, reduceIte, Nat.reduceLT, Nat.reduceLeDiff, Nat.reduceEqDiff, Nat.reduceAdd, Nat.reduceMul, Nat.reduceSub, List.all_cons, List.all_nil, Bool.and_true, Bool.and_self, ne_eq, reduceCtorEq, not_false_eq_true, and_self, e1, e2, e9, eg, true_implies, false_implies, and_true, true_and, Bool.true_eq_false, Bool.false_eq_true]
        refine (IntValue_c b8 m9).mono ?_
        rintro r m10 ⟨rfl, ⟨ck, cn, ct⟩, rfl, hc⟩
        simp only [vcs, tbl, crs, List.map, reduceIte, Nat.reduceLT, Nat.reduceLeDiff, Nat.reduceEqDiff, Nat.reduceAdd, Nat.reduceMul, Nat.reduceSub, List.all_cons, List.all_nil, Bool.and_true, Bool.and_self, ne_eq, reduceCtorEq, not_false_eq_true, and_self, e1, e2, e9, eg, true_implies, false_implies, and_true, true_and, Bool.true_eq_false, Bool.false_eq_true]
        refine vcDrawn.introX [73,72] (.take 0 (.take 3 (.brX 1 (.brX 2 (.br 4 (.br 5 .done .nobr) .nobr) (.br 4 (.brX 2 (.br 5 .done .nobr) .nobr) .nobr)) (.brX 2 (.brX 1 (.br 4 (.br 5 .done .nobr) .nobr) .nobr) .nobr)))) (by kernel_rfl) ?_
        simp only [vcs, tbl, crs, List.map, reduceIte, Nat.reduceLT, Nat.reduceLeDiff, Nat.reduceEqDiff, Nat.reduceAdd, Nat.reduceMul, Nat.reduceSub, List.all_cons, List.all_nil, Bool.and_true, Bool.and_self, ne_eq, reduceCtorEq, not_false_eq_true, and_self, e1, e2, e9, eg, true_implies, false_implies, and_true, true_and, Bool.true_eq_false, Bool.false_eq_true]
        exact ⟨g1.chgN (((((((g2).trans g3).trans g4).trans g5).trans g6).trans g7).trans g8) (by simpa using hn), op, ⟨ak, an, at'⟩, ⟨ck, cn, ct⟩, rfl, p2, q2, Nat.le_trans ha (by decide), Nat.le_trans hc (by decide)⟩
      · refine vcDrawn.introX [73,72] (.take 0 (.take 3 (.brX 1 (.brX 2 (.br 4 (.br 5 .done .nobr) .nobr) (.br 4 (.brX 2 (.br 5 .done .nobr) .nobr) .nobr)) (.brX 2 (.brX 1 (.br 4 (.br 5 .done .nobr) .nobr) .nobr) .nobr)))) (by kernel_rfl) ?_
        simp only [vcs, tbl, crs, List.map, reduceIte, Nat.reduceLT, Nat.reduceLeDiff, Nat.reduceEqDiff, Nat.reduceAdd, Nat.reduceMul, Nat.reduceSub, List.all_cons, List.all_nil, Bool.and_true, Bool.and_self, ne_eq, reduceCtorEq, not_false_eq_true, and_self, e1, e2, e9, eg, true_implies, false_implies, and_true, true_and, Bool.true_eq_false, Bool.false_eq_true]
        exact ⟨g1.chgN ((((((g2).trans g3).trans g4).trans g5).trans g6).trans g7) (by simpa using hn), op, ⟨ak, an, at'⟩, ⟨bk, bn, bt⟩, rfl, p2, q2, Nat.le_trans ha (by decide), Nat.le_trans hb (by decide)⟩

    · obtain ⟨og, o1, o2, o9⟩ := o
      have e1 : decide (op = 1) = false := by simp; omega
      have e2 : decide (op = 2) = false := by simp; omega
      have e9 : decide (op = 9) = false := by simp; omega
      have eg : decide (9 < op) = false := by simp; omega
      simp only [vcs, tbl, crs, List.map, reduceIte, Nat.reduceLT, Nat.reduceLeDiff, Nat.reduceEqDiff, Nat.reduceAdd, Nat.reduceMul, Nat.reduceSub, List.all_cons, List.all_nil, Bool.and_true, Bool.and_self, ne_eq, reduceCtorEq, not_false_eq_true, and_self, e1, e2, e9, eg, true_implies, false_implies, and_true, true_and, Bool.true_eq_false, Bool.false_eq_true]
      refine (l6Typed_c _ m4 bc cu4).mono ?_
      rintro r m5 ⟨g5, cu5, ⟨ak, an, at'⟩, rfl, ha⟩
      simp only [vcs, tbl, crs, List.map, reduceIte, Nat.reduceLT, Nat.reduceLeDiff, Nat.reduceEqDiff, Nat.reduceAdd, Nat.reduceMul, Nat.reduceSub, List.all_cons, List.all_nil, Bool.and_true, Bool.and_self, ne_eq, reduceCtorEq, not_false_eq_true, and_self, e1, e2, e9, eg, true_implies, false_implies, and_true, true_and, Bool.true_eq_false, Bool.false_eq_true]
      refine (l6Typed_c _ m5 bc cu5).mono ?_
      rintro r m6 ⟨g6, cu6, ⟨bk, bn, bt⟩, rfl, hb⟩
      simp only [vcs, tbl, crs, List.map, reduceIte, Nat.reduceLT, Nat.reduceLeDiff, Nat.reduceEqDiff, Nat.reduceAdd, Nat.reduceMul, Nat.reduceSub, List.all_cons, List.all_nil, Bool.and_true, Bool.and_self, ne_eq, reduceCtorEq, not_false_eq_true, and_self, e1, e2, e9, eg, true_implies, false_implies, and_true, true_and, Bool.true_eq_false, Bool.false_eq_true]
      refine vcDrawn.introX [73,72] (.take 0 (.take 3 (.brX 1 (.brX 2 (.br 4 (.br 5 .done .nobr) .nobr) (.br 4 (.brX 2 (.br 5 .done .nobr) .nobr) .nobr)) (.brX 2 (.brX 1 (.br 4 (.br 5 .done .nobr) .nobr) .nobr) .nobr)))) (by kernel_rfl) ?_
      simp only [vcs, tbl, crs, List.map, reduceIte, Nat.reduceLT, Nat.reduceLeDiff, Nat.reduceEqDiff, Nat.reduceAdd, Nat.reduceMul, Nat.reduceSub, List.all_cons, List.all_nil, Bool.and_true, Bool.and_self, ne_eq, reduceCtorEq, not_false_eq_true, and_self, e1, e2, e9, eg, true_implies, false_implies, and_true, true_and, Bool.true_eq_false, Bool.false_eq_true]
      exact ⟨g1.chgN (((((g2).trans g3).trans g4).trans g5).trans g6) (by simpa using hn), op, ⟨ak, an, at'⟩, ⟨bk, bn, bt⟩, rfl, p2, q2, Nat.le_trans ha (by decide), Nat.le_trans hb (by decide)⟩


end Go.Proofs.Ytklligemdfnimaa
set_option linter.unusedVariables false
set_option linter.unusedSimpArgs false
set_option maxRecDepth 4000
namespace Go.Proofs.Ytklligemdfnimaa
open Go Go.Vc
section
variable {P : Program} {n : Nat} {d : Option Nat} {K : K0} {f : Regs} {L : Lst} {m : World}
def sltB (a b : ByteArray) : Bool := Op.bytesLess a.toList b.toList
def sgtB (a b : ByteArray) : Bool := !(Op.bytesLess a.toList b.toList || a.toList == b.toList)
theorem pure_slss {t : TypeId} {x y : Operand} {a b : ByteArray} : vcPure P n d (do eqGuard .lss t x y (.string a) (.string b); binOp .lss t (.string a) (.string b)) K f L m = K (put n f d (.c (.v (.bool (sltB a b))))) L m :=
  vcPure_of fun w => by rw [run_eqGuard rfl]; simp [binOp, Op.stringOp, sltB]
theorem pure_sgtr {t : TypeId} {x y : Operand} {a b : ByteArray} : vcPure P n d (do eqGuard .gtr t x y (.string a) (.string b); binOp .gtr t (.string a) (.string b)) K f L m = K (put n f d (.c (.v (.bool (sgtB a b))))) L m :=
  vcPure_of fun w => by rw [run_eqGuard rfl]; simp [binOp, Op.stringOp, sgtB]
end
theorem isNaNI_c (x : Int) (m : World) : FCalls Try.prog 161 #[.int .i64 x] m fun r m' => m' = m ∧ r = .bool false := by
  refine fcalls_of_vc (args := [_]) follows_mixed Try.func161 rfl (by kernel_rfl) (by simp [Try.f161]) ?_
  simp only [Try.f161, vcs, tbl, crs, List.map, reduceIte, Nat.reduceLT, Nat.reduceLeDiff, Nat.reduceEqDiff, Nat.reduceAdd, Nat.reduceMul, Nat.reduceSub, List.all_cons, List.all_nil, Bool.and_true, Bool.and_self, ne_eq, reduceCtorEq, not_false_eq_true, and_self]
  simp
theorem isNaNS_c (x : ByteArray) (m : World) : FCalls Try.prog 162 #[.string x] m fun r m' => m' = m ∧ r = .bool false := by
  refine fcalls_of_vc (args := [_]) follows_mixed Try.func162 rfl (by kernel_rfl) (by simp [Try.f162]) ?_
  simp only [Try.f162, vcs, tbl, crs, List.map, reduceIte, Nat.reduceLT, Nat.reduceLeDiff, Nat.reduceEqDiff, Nat.reduceAdd, Nat.reduceMul, Nat.reduceSub, List.all_cons, List.all_nil, Bool.and_true, Bool.and_self, ne_eq, reduceCtorEq, not_false_eq_true, and_self]
  simp
def cmpI (x y : Int) : Int := if x < y then -1 else if y < x then 1 else 0
def cmpS (x y : ByteArray) : Int := if sltB x y = true then -1 else if sgtB x y = true then 1 else 0
def or3 (x y z : Int) : Int := if x = 0 then (if y = 0 then z else y) else x
theorem cmpI_c (x y : Int) (m : World) : FCalls Try.prog 155 #[.int .i64 x, .int .i64 y] m fun r m' => m' = m ∧ r = .int .i64 (cmpI x y) := by
  refine fcalls_of_vc (args := [_, _]) follows_mixed Try.func155 rfl (by kernel_rfl) (by simp [Try.f155]) ?_
  simp only [Try.f155, vcs, tbl, crs, List.map, reduceIte, Nat.reduceLT, Nat.reduceLeDiff, Nat.reduceEqDiff, Nat.reduceAdd, Nat.reduceMul, Nat.reduceSub, List.all_cons, List.all_nil, Bool.and_true, Bool.and_self, ne_eq, reduceCtorEq, not_false_eq_true, and_self]
  refine (isNaNI_c x m).mono ?_
  rintro r m1 ⟨rfl, rfl⟩
  simp only [vcs, tbl, crs, List.map, reduceIte, Nat.reduceLT, Nat.reduceLeDiff, Nat.reduceEqDiff, Nat.reduceAdd, Nat.reduceMul, Nat.reduceSub, List.all_cons, List.all_nil, Bool.and_true, Bool.and_self, ne_eq, reduceCtorEq, not_false_eq_true, and_self]
  refine (isNaNI_c y _).mono ?_
  rintro r m1 ⟨rfl, rfl⟩
  simp only [vcs, tbl, crs, List.map, reduceIte, Nat.reduceLT, Nat.reduceLeDiff, Nat.reduceEqDiff, Nat.reduceAdd, Nat.reduceMul, Nat.reduceSub, List.all_cons, List.all_nil, Bool.and_true, Bool.and_self, ne_eq, reduceCtorEq, not_false_eq_true, and_self, true_implies, false_implies, and_true, true_and, Bool.true_eq_false, Bool.false_eq_true]
  refine ⟨fun h => by rw [cmpI, if_pos h], fun h => ?_⟩
  refine ⟨fun h2 => by rw [cmpI, if_neg h, if_pos h2], fun h2 => by rw [cmpI, if_neg h, if_neg h2]⟩
theorem cmpS_c (x y : ByteArray) (m : World) : FCalls Try.prog 156 #[.string x, .string y] m fun r m' => m' = m ∧ r = .int .i64 (cmpS x y) := by
  refine fcalls_of_vc (args := [_, _]) follows_mixed Try.func156 rfl (by kernel_rfl) (by simp [Try.f156]) ?_
  simp only [Try.f156, vcs, tbl, crs, List.map, reduceIte, Nat.reduceLT, Nat.reduceLeDiff, Nat.reduceEqDiff, Nat.reduceAdd, Nat.reduceMul, Nat.reduceSub, List.all_cons, List.all_nil, Bool.and_true, Bool.and_self, ne_eq, reduceCtorEq, not_false_eq_true, and_self]
  refine (isNaNS_c x m).mono ?_
  rintro r m1 ⟨rfl, rfl⟩
  simp only [vcs, tbl, crs, List.map, reduceIte, Nat.reduceLT, Nat.reduceLeDiff, Nat.reduceEqDiff, Nat.reduceAdd, Nat.reduceMul, Nat.reduceSub, List.all_cons, List.all_nil, Bool.and_true, Bool.and_self, ne_eq, reduceCtorEq, not_false_eq_true, and_self]
  refine (isNaNS_c y _).mono ?_
  rintro r m1 ⟨rfl, rfl⟩
  simp only [vcs, tbl, crs, List.map, reduceIte, Nat.reduceLT, Nat.reduceLeDiff, Nat.reduceEqDiff, Nat.reduceAdd, Nat.reduceMul, Nat.reduceSub, List.all_cons, List.all_nil, Bool.and_true, Bool.and_self, ne_eq, reduceCtorEq, not_false_eq_true, and_self, true_implies, false_implies, and_true, true_and, Bool.true_eq_false, Bool.false_eq_true, pure_slss, pure_sgtr]
  refine ⟨fun h => by rw [cmpS, if_pos h], fun h => ?_⟩
  refine ⟨fun h2 => by rw [cmpS, if_neg (by simp [h]), if_pos h2], fun h2 => by rw [cmpS, if_neg (by simp [h]), if_neg (by simp [h2])]⟩
theorem or3_at (x y z : Int) (i : Nat) (e : Int) (h : [x, y, z][i]? = some e) (h0 : ∀ j, j < i → [x, y, z][j]? = some 0) (he : e ≠ 0) : or3 x y z = e := by
  rcases i with _ | _ | _ | i
  · simp at h; rw [or3, h, if_neg he]
  · have a := h0 0 (by omega); simp at h a; rw [or3, if_pos a, h, if_neg he]
  · have a := h0 0 (by omega); have b := h0 1 (by omega); simp at h a b; rw [or3, if_pos a, if_pos b, h]
  · simp at h
theorem or3_end (x y z : Int) (h0 : ∀ j, j < 3 → [x, y, z][j]? = some 0) : or3 x y z = 0 := by
  have a := h0 0 (by omega); have b := h0 1 (by omega); have c := h0 2 (by omega); simp at a b c; rw [or3, if_pos a, if_pos b, c]
theorem Or_c (x y z : Int) (m : World) (v : Value) (F : List Nat) (h : CellF m (.sl 3 ([x, y, z].flatMap irow)) v F) :
   FCalls Try.prog 154 #[v] m fun r m' => m' = m ∧ r = .int .i64 (or3 x y z) := by
  obtain ⟨a, cap, rfl, hcap, hmax, hz⟩ := h.slice
  refine fcalls_of_vc (args := [_]) follows_mixed Try.func154 rfl (by kernel_rfl) (by simp [Try.f154]) ?_
  simp only [Try.f154, vcs, tbl, crs, List.map, reduceIte, Nat.reduceLT, Nat.reduceLeDiff, Nat.reduceEqDiff, Nat.reduceAdd, Nat.reduceMul, Nat.reduceSub, List.all_cons, List.all_nil, Bool.and_true, Bool.and_self, ne_eq, reduceCtorEq, not_false_eq_true, and_self]
  refine vcLoop.intro (fun f L m' => ∃ (i : Nat), f 8 = .c (.v (.int .i64 i)) ∧ L = [] ∧ i ≤ 3 ∧ m' = m ∧ (∀ j, j < i → [x, y, z][j]? = some 0))
    (fun f _ _ => (3 - ixS (f 8)).toNat) ⟨[], Sub.nil _, 0, ?_⟩ ?_
  · simp only [vcs, tbl, crs, List.map, reduceIte, Nat.reduceLT, Nat.reduceLeDiff, Nat.reduceEqDiff, Nat.reduceAdd, Nat.reduceMul, Nat.reduceSub, List.all_cons, List.all_nil, Bool.and_true, Bool.and_self, ne_eq, reduceCtorEq, not_false_eq_true, and_self]
    exact ⟨by simp, fun j hj => absurd hj (Nat.not_lt_zero j)⟩
  · rintro g L1 m5 ⟨i, h8, rfl, hi, rfl, hz0⟩
    simp only [vcs, tbl, crs, List.map, reduceIte, Nat.reduceLT, Nat.reduceLeDiff, Nat.reduceEqDiff, Nat.reduceAdd, Nat.reduceMul, Nat.reduceSub, List.all_cons, List.all_nil, Bool.and_true, Bool.and_self, ne_eq, reduceCtorEq, not_false_eq_true, and_self] at h8
    simp only [vcs, tbl, crs, List.map, reduceIte, Nat.reduceLT, Nat.reduceLeDiff, Nat.reduceEqDiff, Nat.reduceAdd, Nat.reduceMul, Nat.reduceSub, List.all_cons, List.all_nil, Bool.and_true, Bool.and_self, ne_eq, reduceCtorEq, not_false_eq_true, and_self, h8]
    refine ⟨fun hlt => ?_, fun hge => ?_⟩
    · have hlt' : i < [x, y, z].length := by show i < 3; omega
      obtain ⟨ad, vs, Fk, ha, hvl, hcell, hv, _⟩ := h.elem irow_len (by decide) (List.getElem?_eq_getElem hlt')
      have hat := List.getElem?_eq_getElem hlt'
      obtain ⟨e, he⟩ : ∃ e, [x, y, z][i] = e := ⟨_, rfl⟩
      rw [he] at hv hat
      obtain ⟨r1, rfl, hv1, _⟩ := valsF_lit hv
      have hcu := hcell 0 _ rfl
      rw [add0] at hcu
      refine ⟨by omega, by simp at hlt; omega, ad, ha, _, hcu, ?_⟩
      simp only [vcs, tbl, crs, List.map, reduceIte, Nat.reduceLT, Nat.reduceLeDiff, Nat.reduceEqDiff, Nat.reduceAdd, Nat.reduceMul, Nat.reduceSub, List.all_cons, List.all_nil, Bool.and_true, Bool.and_self, ne_eq, reduceCtorEq, not_false_eq_true, and_self, h8]
      refine ⟨fun hne => ?_, fun heq => ?_⟩
      · exact (congrArg _ (or3_at x y z i e hat hz0 (by simpa using hne)).symm)
      · have heq : e = 0 := by simpa using heq
        rw [wrap_id (n := (i : Int) + 1) (by omega) (by omega)]
        refine ⟨[], Sub.nil _, ⟨i + 1, by simp, rfl, by simp at hlt; omega, fun j hj => ?_⟩, by simp at hlt; omega⟩
        rcases Nat.lt_succ_iff_lt_or_eq.1 hj with h1 | h1
        · exact hz0 j h1
        · rw [h1, hat, heq]
    · have hi3 : i = 3 := by simp at hge; omega
      subst hi3
      rw [or3_end x y z hz0]

end Go.Proofs.Ytklligemdfnimaa
set_option linter.unusedVariables false
set_option linter.unusedSimpArgs false
set_option maxRecDepth 4000
namespace Go.Proofs.Ytklligemdfnimaa
open Go Go.Vc
abbrev vv (x : Val) : Value := .agg #[.int .i64 x.kind, .int .i64 x.num, .string x.text]
def bv (b : Bool) : Val := ⟨3, if b then 1 else 0, ByteArray.empty⟩
theorem implBool_c (b : Bool) (m : World) : FCalls Try.prog 65 #[.bool b] m fun r m' => m' = m ∧ r = vv (bv b) := by
  refine fcalls_of_vc (args := [_]) follows_mixed Try.func65 rfl (by kernel_rfl) (by simp [Try.f65]) ?_
  simp only [Try.f65, vcs, tbl, crs, List.map, reduceIte, Nat.reduceLT, Nat.reduceLeDiff, Nat.reduceEqDiff, Nat.reduceAdd, Nat.reduceMul, Nat.reduceSub, List.all_cons, List.all_nil, Bool.and_true, Bool.and_self, ne_eq, reduceCtorEq, not_false_eq_true, and_self]
  exact ⟨fun h => by subst h; rfl, fun h => by subst h; rfl⟩
def ordV (a b : Val) : Int := or3 (cmpI a.kind b.kind) (cmpI a.num b.num) (cmpS a.text b.text)
theorem Order_c (a b : Val) (m : World) : FCalls Try.prog 123 #[vv a, vv b] m fun r m' => Grow m m' ∧ r = .int .i64 (ordV a b) := by
  obtain ⟨ak, an, at'⟩ := a
  obtain ⟨bk, bn, bt⟩ := b
  refine fcalls_of_vc (args := [_, _]) follows_mixed Try.func123 rfl (by kernel_rfl) (by simp [Try.f123]) ?_
  simp only [Try.f123, vcs, tbl, crs, List.map, reduceIte, Nat.reduceLT, Nat.reduceLeDiff, Nat.reduceEqDiff, Nat.reduceAdd, Nat.reduceMul, Nat.reduceSub, List.all_cons, List.all_nil, Bool.and_true, Bool.and_self, ne_eq, reduceCtorEq, not_false_eq_true, and_self]
  refine vcDrawn.introL (.take 0 (.take 1 (.take 2 (.take 3 (.take 5 (.take 6 (.take 7 (.take 8 (.take 10 (.take 11 (.take 12 (.take 13 (.br 4 (.br 9 (.br 14 (.br 15 (.br 16 (.take 17 .done) .nobr) .nobr) .nobr) .nobr) .nobr))))))))))))) (by kernel_rfl) ?_
  simp only [vcs, tbl, crs, List.map, reduceIte, Nat.reduceLT, Nat.reduceLeDiff, Nat.reduceEqDiff, Nat.reduceAdd, Nat.reduceMul, Nat.reduceSub, List.all_cons, List.all_nil, Bool.and_true, Bool.and_self, ne_eq, reduceCtorEq, not_false_eq_true, and_self]
  refine (cmpI_c ak bk m).mono ?_
  rintro r m1 ⟨rfl, rfl⟩
  simp only [vcs, tbl, crs, List.map, reduceIte, Nat.reduceLT, Nat.reduceLeDiff, Nat.reduceEqDiff, Nat.reduceAdd, Nat.reduceMul, Nat.reduceSub, List.all_cons, List.all_nil, Bool.and_true, Bool.and_self, ne_eq, reduceCtorEq, not_false_eq_true, and_self]
  refine ⟨Grow.refl _, ?_⟩
  refine (cmpI_c an bn _).mono ?_
  rintro r m1 ⟨rfl, rfl⟩
  simp only [vcs, tbl, crs, List.map, reduceIte, Nat.reduceLT, Nat.reduceLeDiff, Nat.reduceEqDiff, Nat.reduceAdd, Nat.reduceMul, Nat.reduceSub, List.all_cons, List.all_nil, Bool.and_true, Bool.and_self, ne_eq, reduceCtorEq, not_false_eq_true, and_self]
  refine ⟨Grow.refl _, ?_⟩
  refine (cmpS_c at' bt _).mono ?_
  rintro r m1 ⟨rfl, rfl⟩
  simp only [vcs, tbl, crs, List.map, reduceIte, Nat.reduceLT, Nat.reduceLeDiff, Nat.reduceEqDiff, Nat.reduceAdd, Nat.reduceMul, Nat.reduceSub, List.all_cons, List.all_nil, Bool.and_true, Bool.and_self, ne_eq, reduceCtorEq, not_false_eq_true, and_self, add_lit0, Nat.zero_mul, Nat.zero_add, Nat.add_zero, Nat.le_refl, range3, rep3]
  refine ⟨Grow.refl _, ?_⟩
  intro b m2 hp
  have hc := CellF.of_pubN (n := 3) (cap := 3) hp (valspickI m1 [cmpI ak bk, cmpI an bn, cmpS at' bt]) (by simp [irow]) (Nat.le_refl _) (by decide)
  refine (Or_c _ _ _ m2 _ _ hc).mono ?_
  rintro r m3 ⟨rfl, rfl⟩
  simp only [vcs, tbl, crs, List.map, reduceIte, Nat.reduceLT, Nat.reduceLeDiff, Nat.reduceEqDiff, Nat.reduceAdd, Nat.reduceMul, Nat.reduceSub, List.all_cons, List.all_nil, Bool.and_true, Bool.and_self, ne_eq, reduceCtorEq, not_false_eq_true, and_self]
  exact ⟨Grow.refl _, hp.grow, rfl⟩
def cmpB (op o : Int) : Bool := if op = 3 then decide (o = 0) else if op = 4 then !decide (o = 0) else if op = 5 then decide (o < 0) else if op = 6 then decide (o ≤ 0) else if op = 7 then decide (0 < o) else decide (0 ≤ o)
theorem compared_c (op : Int) (a b : Val) (m : World) : FCalls Try.prog 62 #[.int .i64 op, vv a, vv b] m fun r m' => Grow m m' ∧ r = vv (bv (cmpB op (ordV a b))) := by
  refine fcalls_of_vc (args := [_, _, _]) follows_mixed Try.func62 rfl (by kernel_rfl) (by simp [Try.f62]) ?_
  simp only [Try.f62, vcs, tbl, crs, List.map, reduceIte, Nat.reduceLT, Nat.reduceLeDiff, Nat.reduceEqDiff, Nat.reduceAdd, Nat.reduceMul, Nat.reduceSub, List.all_cons, List.all_nil, Bool.and_true, Bool.and_self, ne_eq, reduceCtorEq, not_false_eq_true, and_self]
  refine (Order_c a b m).mono ?_
  rintro r m1 ⟨g1, rfl⟩
  simp only [vcs, tbl, crs, List.map, reduceIte, Nat.reduceLT, Nat.reduceLeDiff, Nat.reduceEqDiff, Nat.reduceAdd, Nat.reduceMul, Nat.reduceSub, List.all_cons, List.all_nil, Bool.and_true, Bool.and_self, ne_eq, reduceCtorEq, not_false_eq_true, and_self]
  generalize ordV a b = o
  refine ⟨fun h0 => ?_, fun h0 => ?_⟩
  · refine (implBool_c _ m1).mono ?_
    rintro r m2 ⟨rfl, rfl⟩
    simp only [vcs, tbl, crs, List.map, reduceIte, Nat.reduceLT, Nat.reduceLeDiff, Nat.reduceEqDiff, Nat.reduceAdd, Nat.reduceMul, Nat.reduceSub, List.all_cons, List.all_nil, Bool.and_true, Bool.and_self, ne_eq, reduceCtorEq, not_false_eq_true, and_self]
    exact ⟨g1, by rw [cmpB, if_pos h0]⟩
  · refine ⟨fun h1 => ?_, fun h1 => ?_⟩
    · refine (implBool_c _ m1).mono ?_
      rintro r m2 ⟨rfl, rfl⟩
      simp only [vcs, tbl, crs, List.map, reduceIte, Nat.reduceLT, Nat.reduceLeDiff, Nat.reduceEqDiff, Nat.reduceAdd, Nat.reduceMul, Nat.reduceSub, List.all_cons, List.all_nil, Bool.and_true, Bool.and_self, ne_eq, reduceCtorEq, not_false_eq_true, and_self]
      exact ⟨g1, by rw [cmpB, if_neg h0, if_pos h1]⟩
    · refine ⟨fun h2 => ?_, fun h2 => ?_⟩
      · refine (implBool_c _ m1).mono ?_
        rintro r m2 ⟨rfl, rfl⟩
        simp only [vcs, tbl, crs, List.map, reduceIte, Nat.reduceLT, Nat.reduceLeDiff, Nat.reduceEqDiff, Nat.reduceAdd, Nat.reduceMul, Nat.reduceSub, List.all_cons, List.all_nil, Bool.and_true, Bool.and_self, ne_eq, reduceCtorEq, not_false_eq_true, and_self]
        exact ⟨g1, by rw [cmpB, if_neg h0, if_neg h1, if_pos h2]⟩
      · refine ⟨fun h3 => ?_, fun h3 => ?_⟩
        · refine (implBool_c _ m1).mono ?_
          rintro r m2 ⟨rfl, rfl⟩
          simp only [vcs, tbl, crs, List.map, reduceIte, Nat.reduceLT, Nat.reduceLeDiff, Nat.reduceEqDiff, Nat.reduceAdd, Nat.reduceMul, Nat.reduceSub, List.all_cons, List.all_nil, Bool.and_true, Bool.and_self, ne_eq, reduceCtorEq, not_false_eq_true, and_self]
          exact ⟨g1, by rw [cmpB, if_neg h0, if_neg h1, if_neg h2, if_pos h3]⟩
        · refine ⟨fun h4 => ?_, fun h4 => ?_⟩
          · refine (implBool_c _ m1).mono ?_
            rintro r m2 ⟨rfl, rfl⟩
            simp only [vcs, tbl, crs, List.map, reduceIte, Nat.reduceLT, Nat.reduceLeDiff, Nat.reduceEqDiff, Nat.reduceAdd, Nat.reduceMul, Nat.reduceSub, List.all_cons, List.all_nil, Bool.and_true, Bool.and_self, ne_eq, reduceCtorEq, not_false_eq_true, and_self]
            exact ⟨g1, by rw [cmpB, if_neg h0, if_neg h1, if_neg h2, if_neg h3, if_pos h4]⟩
          · refine (implBool_c _ m1).mono ?_
            rintro r m2 ⟨rfl, rfl⟩
            simp only [vcs, tbl, crs, List.map, reduceIte, Nat.reduceLT, Nat.reduceLeDiff, Nat.reduceEqDiff, Nat.reduceAdd, Nat.reduceMul, Nat.reduceSub, List.all_cons, List.all_nil, Bool.and_true, Bool.and_self, ne_eq, reduceCtorEq, not_false_eq_true, and_self]
            exact ⟨g1, by rw [cmpB, if_neg h0, if_neg h1, if_neg h2, if_neg h3, if_neg h4]⟩

def okB (x : Val) : Bool := if x.kind = 0 then decide (x.num = 0) && decide (x.text = ⟨#[]⟩) else if x.kind = 1 then decide (x.text = ⟨#[]⟩) else if x.kind = 2 then decide (x.num = 0) && decide ((x.text.size : Int) ≤ 200) else if x.kind = 3 then (decide (x.num = 0) || decide (x.num = 1)) && decide (x.text = ⟨#[]⟩) else false
theorem fitsOp_c (op : Int) (h8 : op ≤ 8) (a : Val) (m : World) : FCalls Try.prog 61 #[.int .i64 op, vv a] m fun r m' => m' = m ∧ r = .bool true := by
  have e8 : decide (op ≤ 8) = true := by simpa using h8
  refine fcalls_of_vc (args := [_, _]) follows_mixed Try.func61 rfl (by kernel_rfl) (by simp [Try.f61]) ?_
  simp only [Try.f61, vcs, tbl, crs, List.map, reduceIte, Nat.reduceLT, Nat.reduceLeDiff, Nat.reduceEqDiff, Nat.reduceAdd, Nat.reduceMul, Nat.reduceSub, List.all_cons, List.all_nil, Bool.and_true, Bool.and_self, ne_eq, reduceCtorEq, not_false_eq_true, and_self]
  refine ⟨fun h => ?_, fun h => ?_⟩
  · simp only [vcs, tbl, crs, List.map, reduceIte, Nat.reduceLT, Nat.reduceLeDiff, Nat.reduceEqDiff, Nat.reduceAdd, Nat.reduceMul, Nat.reduceSub, List.all_cons, List.all_nil, Bool.and_true, Bool.and_self, ne_eq, reduceCtorEq, not_false_eq_true, and_self, h, true_implies, false_implies, and_true, true_and, Bool.true_eq_false, Bool.false_eq_true]
  · simp only [vcs, tbl, crs, List.map, reduceIte, Nat.reduceLT, Nat.reduceLeDiff, Nat.reduceEqDiff, Nat.reduceAdd, Nat.reduceMul, Nat.reduceSub, List.all_cons, List.all_nil, Bool.and_true, Bool.and_self, ne_eq, reduceCtorEq, not_false_eq_true, and_self, h, e8, true_implies, false_implies, and_true, true_and, Bool.true_eq_false, Bool.false_eq_true]
theorem ValueOk_c (a : Val) (m : World) : FCalls Try.prog 59 #[vv a] m fun r m' => m' = m ∧ r = .bool (okB a) := by
  refine fcalls_of_vc (args := [_]) follows_mixed Try.func59 rfl (by kernel_rfl) (by simp [Try.f59]) ?_
  simp only [Try.f59, vcs, tbl, crs, List.map, reduceIte, Nat.reduceLT, Nat.reduceLeDiff, Nat.reduceEqDiff, Nat.reduceAdd, Nat.reduceMul, Nat.reduceSub, List.all_cons, List.all_nil, Bool.and_true, Bool.and_self, ne_eq, reduceCtorEq, not_false_eq_true, and_self]
  refine ⟨fun h0 => ?_, fun h0 => ?_⟩
  · refine ⟨fun h1 => ?_, fun h1 => ?_⟩
    · simp only [vcs, tbl, crs, List.map, reduceIte, Nat.reduceLT, Nat.reduceLeDiff, Nat.reduceEqDiff, Nat.reduceAdd, Nat.reduceMul, Nat.reduceSub, List.all_cons, List.all_nil, Bool.and_true, Bool.and_self, ne_eq, reduceCtorEq, not_false_eq_true, and_self, h1, true_implies, false_implies, and_true, true_and, Bool.true_eq_false, Bool.false_eq_true]
      have h1 : a.num = 0 := by simpa using h1
      simp [okB, h0, h1]
    · simp only [vcs, tbl, crs, List.map, reduceIte, Nat.reduceLT, Nat.reduceLeDiff, Nat.reduceEqDiff, Nat.reduceAdd, Nat.reduceMul, Nat.reduceSub, List.all_cons, List.all_nil, Bool.and_true, Bool.and_self, ne_eq, reduceCtorEq, not_false_eq_true, and_self, h1, true_implies, false_implies, and_true, true_and, Bool.true_eq_false, Bool.false_eq_true]
      have h1 : ¬ a.num = 0 := by simpa using h1
      simp [okB, h0, h1]
  · refine ⟨fun h1 => ?_, fun h1 => ?_⟩
    · simp [okB, h1]
    · refine ⟨fun h2 => ?_, fun h2 => ?_⟩
      · refine ⟨fun h3 => ?_, fun h3 => ?_⟩
        · simp only [vcs, tbl, crs, List.map, reduceIte, Nat.reduceLT, Nat.reduceLeDiff, Nat.reduceEqDiff, Nat.reduceAdd, Nat.reduceMul, Nat.reduceSub, List.all_cons, List.all_nil, Bool.and_true, Bool.and_self, ne_eq, reduceCtorEq, not_false_eq_true, and_self, h3, true_implies, false_implies, and_true, true_and, Bool.true_eq_false, Bool.false_eq_true]
          have h3 : a.num = 0 := by simpa using h3
          simp [okB, h2, h3]
        · simp only [vcs, tbl, crs, List.map, reduceIte, Nat.reduceLT, Nat.reduceLeDiff, Nat.reduceEqDiff, Nat.reduceAdd, Nat.reduceMul, Nat.reduceSub, List.all_cons, List.all_nil, Bool.and_true, Bool.and_self, ne_eq, reduceCtorEq, not_false_eq_true, and_self, h3, true_implies, false_implies, and_true, true_and, Bool.true_eq_false, Bool.false_eq_true]
          have h3 : ¬ a.num = 0 := by simpa using h3
          simp [okB, h2, h3]
      · refine ⟨fun h3 => ?_, fun h3 => ?_⟩
        · refine ⟨fun h4 => ?_, fun h4 => ?_⟩
          · simp only [vcs, tbl, crs, List.map, reduceIte, Nat.reduceLT, Nat.reduceLeDiff, Nat.reduceEqDiff, Nat.reduceAdd, Nat.reduceMul, Nat.reduceSub, List.all_cons, List.all_nil, Bool.and_true, Bool.and_self, ne_eq, reduceCtorEq, not_false_eq_true, and_self, h4, true_implies, false_implies, and_true, true_and, Bool.true_eq_false, Bool.false_eq_true]
            have h4 : a.num = 0 := by simpa using h4
            simp [okB, h3, h4]
          · simp only [vcs, tbl, crs, List.map, reduceIte, Nat.reduceLT, Nat.reduceLeDiff, Nat.reduceEqDiff, Nat.reduceAdd, Nat.reduceMul, Nat.reduceSub, List.all_cons, List.all_nil, Bool.and_true, Bool.and_self, ne_eq, reduceCtorEq, not_false_eq_true, and_self, h4, true_implies, false_implies, and_true, true_and, Bool.true_eq_false, Bool.false_eq_true]
            refine ⟨fun h5 => ?_, fun h5 => ?_⟩
            · simp only [vcs, tbl, crs, List.map, reduceIte, Nat.reduceLT, Nat.reduceLeDiff, Nat.reduceEqDiff, Nat.reduceAdd, Nat.reduceMul, Nat.reduceSub, List.all_cons, List.all_nil, Bool.and_true, Bool.and_self, ne_eq, reduceCtorEq, not_false_eq_true, and_self, h4, h5, true_implies, false_implies, and_true, true_and, Bool.true_eq_false, Bool.false_eq_true]
              try (have h5 : a.num = 1 := by simpa using h5
                   simp [okB, h3, h5])
            · simp only [vcs, tbl, crs, List.map, reduceIte, Nat.reduceLT, Nat.reduceLeDiff, Nat.reduceEqDiff, Nat.reduceAdd, Nat.reduceMul, Nat.reduceSub, List.all_cons, List.all_nil, Bool.and_true, Bool.and_self, ne_eq, reduceCtorEq, not_false_eq_true, and_self, h4, h5, true_implies, false_implies, and_true, true_and, Bool.true_eq_false, Bool.false_eq_true]
              have h4 : ¬ a.num = 0 := by simpa using h4
              have h5 : ¬ a.num = 1 := by simpa using h5
              simp [okB, h3, h4, h5]
        · simp [okB, h0, h1, h2, h3]

end Go.Proofs.Ytklligemdfnimaa
set_option linter.unusedVariables false
set_option linter.unusedSimpArgs false
set_option maxRecDepth 4000
namespace Go.Proofs.Ytklligemdfnimaa
open Go Go.Vc
def nilV : Val := ⟨0, 0, ByteArray.empty⟩
/-- 'impl.Calc' of a comparison. -/
def calcV (op : Int) (a b : Val) : Val × Int :=
  if okB a = false ∨ okB b = false then (nilV, 1)
  else if a.kind = 0 ∨ b.kind = 0 then (nilV, 0)
  else if a.kind ≠ b.kind then (nilV, 1)
  else (bv (cmpB op (ordV a b)), 0)
set_option maxHeartbeats 2000000 in
theorem Calc_c (op : Int) (h3 : 3 ≤ op) (h8 : op ≤ 8) (a b : Val) (m : World) : FCalls Try.prog 19 #[.int .i64 op, vv a, vv b] m fun r m' => Grow m m' ∧ r = .tuple #[vv (calcV op a b).1, .int .i64 (calcV op a b).2] := by
  have e1 : decide (op < 1) = false := by simp; omega
  have e2 : decide (14 < op) = false := by simp; omega
  have e3 : decide (op ≤ 2) = false := by simp; omega
  have e4 : decide (op ≤ 8) = true := by simp; omega
  refine fcalls_of_vc (args := [_, _, _]) follows_mixed Try.func19 rfl (by kernel_rfl) (by simp [Try.f19]) ?_
  simp only [Try.f19, vcs, tbl, crs, List.map, reduceIte, Nat.reduceLT, Nat.reduceLeDiff, Nat.reduceEqDiff, Nat.reduceAdd, Nat.reduceMul, Nat.reduceSub, List.all_cons, List.all_nil, Bool.and_true, Bool.and_self, ne_eq, reduceCtorEq, not_false_eq_true, and_self]
  simp only [vcs, tbl, crs, List.map, reduceIte, Nat.reduceLT, Nat.reduceLeDiff, Nat.reduceEqDiff, Nat.reduceAdd, Nat.reduceMul, Nat.reduceSub, List.all_cons, List.all_nil, Bool.and_true, Bool.and_self, ne_eq, reduceCtorEq, not_false_eq_true, and_self, e1, e2, e3, e4, true_implies, false_implies, and_true, true_and, Bool.true_eq_false, Bool.false_eq_true]
  refine (ValueOk_c a m).mono ?_
  rintro r m1 ⟨rfl, rfl⟩
  simp only [vcs, tbl, crs, List.map, reduceIte, Nat.reduceLT, Nat.reduceLeDiff, Nat.reduceEqDiff, Nat.reduceAdd, Nat.reduceMul, Nat.reduceSub, List.all_cons, List.all_nil, Bool.and_true, Bool.and_self, ne_eq, reduceCtorEq, not_false_eq_true, and_self, e1, e2, e3, e4, true_implies, false_implies, and_true, true_and, Bool.true_eq_false, Bool.false_eq_true]
  cases hA : okB a
  · simp only [vcs, tbl, crs, List.map, reduceIte, Nat.reduceLT, Nat.reduceLeDiff, Nat.reduceEqDiff, Nat.reduceAdd, Nat.reduceMul, Nat.reduceSub, List.all_cons, List.all_nil, Bool.and_true, Bool.and_self, ne_eq, reduceCtorEq, not_false_eq_true, and_self, hA, Bool.not_false, e1, e2, e3, e4, true_implies, false_implies, and_true, true_and, Bool.true_eq_false, Bool.false_eq_true]
    refine ⟨Grow.refl _, ?_⟩
    rw [calcV, if_pos (.inl hA)]; rfl
  · simp only [vcs, tbl, crs, List.map, reduceIte, Nat.reduceLT, Nat.reduceLeDiff, Nat.reduceEqDiff, Nat.reduceAdd, Nat.reduceMul, Nat.reduceSub, List.all_cons, List.all_nil, Bool.and_true, Bool.and_self, ne_eq, reduceCtorEq, not_false_eq_true, and_self, hA, Bool.not_true, e1, e2, e3, e4, true_implies, false_implies, and_true, true_and, Bool.true_eq_false, Bool.false_eq_true]
    refine (ValueOk_c b _).mono ?_
    rintro r m2 ⟨rfl, rfl⟩
    cases hB : okB b
    · simp only [vcs, tbl, crs, List.map, reduceIte, Nat.reduceLT, Nat.reduceLeDiff, Nat.reduceEqDiff, Nat.reduceAdd, Nat.reduceMul, Nat.reduceSub, List.all_cons, List.all_nil, Bool.and_true, Bool.and_self, ne_eq, reduceCtorEq, not_false_eq_true, and_self, hB, Bool.not_false, e1, e2, e3, e4, true_implies, false_implies, and_true, true_and, Bool.true_eq_false, Bool.false_eq_true]
      refine ⟨Grow.refl _, ?_⟩
      rw [calcV, if_pos (.inr hB)]; rfl
    · simp only [vcs, tbl, crs, List.map, reduceIte, Nat.reduceLT, Nat.reduceLeDiff, Nat.reduceEqDiff, Nat.reduceAdd, Nat.reduceMul, Nat.reduceSub, List.all_cons, List.all_nil, Bool.and_true, Bool.and_self, ne_eq, reduceCtorEq, not_false_eq_true, and_self, hB, Bool.not_true, e1, e2, e3, e4, true_implies, false_implies, and_true, true_and, Bool.true_eq_false, Bool.false_eq_true]
      have hAB : ¬ (okB a = false ∨ okB b = false) := by simp [hA, hB]
      cases hka : decide (a.kind = 0)
      · cases hkb : decide (b.kind = 0)
        · simp only [vcs, tbl, crs, List.map, reduceIte, Nat.reduceLT, Nat.reduceLeDiff, Nat.reduceEqDiff, Nat.reduceAdd, Nat.reduceMul, Nat.reduceSub, List.all_cons, List.all_nil, Bool.and_true, Bool.and_self, ne_eq, reduceCtorEq, not_false_eq_true, and_self, hka, hkb, Bool.not_false, Bool.not_true, e1, e2, e3, e4, true_implies, false_implies, and_true, true_and, Bool.true_eq_false, Bool.false_eq_true]
          refine (fitsOp_c op h8 a _).mono ?_
          rintro r m3 ⟨rfl, rfl⟩
          simp only [vcs, tbl, crs, List.map, reduceIte, Nat.reduceLT, Nat.reduceLeDiff, Nat.reduceEqDiff, Nat.reduceAdd, Nat.reduceMul, Nat.reduceSub, List.all_cons, List.all_nil, Bool.and_true, Bool.and_self, ne_eq, reduceCtorEq, not_false_eq_true, and_self, hka, hkb, Bool.not_false, Bool.not_true, e1, e2, e3, e4, true_implies, false_implies, and_true, true_and, Bool.true_eq_false, Bool.false_eq_true]
          refine (fitsOp_c op h8 b _).mono ?_
          rintro r m4 ⟨rfl, rfl⟩
          simp only [vcs, tbl, crs, List.map, reduceIte, Nat.reduceLT, Nat.reduceLeDiff, Nat.reduceEqDiff, Nat.reduceAdd, Nat.reduceMul, Nat.reduceSub, List.all_cons, List.all_nil, Bool.and_true, Bool.and_self, ne_eq, reduceCtorEq, not_false_eq_true, and_self, hka, hkb, Bool.not_false, Bool.not_true, e1, e2, e3, e4, true_implies, false_implies, and_true, true_and, Bool.true_eq_false, Bool.false_eq_true]
          have hka' : ¬ a.kind = 0 := by simpa using hka
          have hkb' : ¬ b.kind = 0 := by simpa using hkb
          have hn0 : ¬ (a.kind = 0 ∨ b.kind = 0) := by omega
          refine ⟨fun hne => ?_, fun heq => ?_⟩
          · refine ⟨Grow.refl _, ?_⟩
            have hne : a.kind ≠ b.kind := by simpa using hne
            rw [calcV, if_neg hAB, if_neg hn0, if_pos hne]; rfl
          · have heq : ¬ (a.kind ≠ b.kind) := by simpa using heq
            refine (compared_c op a b _).mono ?_
            rintro r m5 ⟨g5, rfl⟩
            simp only [vcs, tbl, crs, List.map, reduceIte, Nat.reduceLT, Nat.reduceLeDiff, Nat.reduceEqDiff, Nat.reduceAdd, Nat.reduceMul, Nat.reduceSub, List.all_cons, List.all_nil, Bool.and_true, Bool.and_self, ne_eq, reduceCtorEq, not_false_eq_true, and_self, hka, hkb, Bool.not_false, Bool.not_true, e1, e2, e3, e4, true_implies, false_implies, and_true, true_and, Bool.true_eq_false, Bool.false_eq_true]
            refine ⟨g5, ?_⟩
            rw [calcV, if_neg hAB, if_neg hn0, if_neg heq]
        · simp only [vcs, tbl, crs, List.map, reduceIte, Nat.reduceLT, Nat.reduceLeDiff, Nat.reduceEqDiff, Nat.reduceAdd, Nat.reduceMul, Nat.reduceSub, List.all_cons, List.all_nil, Bool.and_true, Bool.and_self, ne_eq, reduceCtorEq, not_false_eq_true, and_self, hka, hkb, Bool.not_false, Bool.not_true, e1, e2, e3, e4, true_implies, false_implies, and_true, true_and, Bool.true_eq_false, Bool.false_eq_true]
          refine (fitsOp_c op h8 a _).mono ?_
          rintro r m3 ⟨rfl, rfl⟩
          simp only [vcs, tbl, crs, List.map, reduceIte, Nat.reduceLT, Nat.reduceLeDiff, Nat.reduceEqDiff, Nat.reduceAdd, Nat.reduceMul, Nat.reduceSub, List.all_cons, List.all_nil, Bool.and_true, Bool.and_self, ne_eq, reduceCtorEq, not_false_eq_true, and_self, hka, hkb, Bool.not_false, Bool.not_true, e1, e2, e3, e4, true_implies, false_implies, and_true, true_and, Bool.true_eq_false, Bool.false_eq_true]
          refine (fitsOp_c op h8 b _).mono ?_
          rintro r m4 ⟨rfl, rfl⟩
          simp only [vcs, tbl, crs, List.map, reduceIte, Nat.reduceLT, Nat.reduceLeDiff, Nat.reduceEqDiff, Nat.reduceAdd, Nat.reduceMul, Nat.reduceSub, List.all_cons, List.all_nil, Bool.and_true, Bool.and_self, ne_eq, reduceCtorEq, not_false_eq_true, and_self, hka, hkb, Bool.not_false, Bool.not_true, e1, e2, e3, e4, true_implies, false_implies, and_true, true_and, Bool.true_eq_false, Bool.false_eq_true]
          refine ⟨Grow.refl _, ?_⟩
          have hkb : b.kind = 0 := by simpa using hkb
          rw [calcV, if_neg hAB, if_pos (.inr hkb)]; rfl
      · simp only [vcs, tbl, crs, List.map, reduceIte, Nat.reduceLT, Nat.reduceLeDiff, Nat.reduceEqDiff, Nat.reduceAdd, Nat.reduceMul, Nat.reduceSub, List.all_cons, List.all_nil, Bool.and_true, Bool.and_self, ne_eq, reduceCtorEq, not_false_eq_true, and_self, hka, Bool.not_false, Bool.not_true, e1, e2, e3, e4, true_implies, false_implies, and_true, true_and, Bool.true_eq_false, Bool.false_eq_true]
        refine (fitsOp_c op h8 a _).mono ?_
        rintro r m3 ⟨rfl, rfl⟩
        simp only [vcs, tbl, crs, List.map, reduceIte, Nat.reduceLT, Nat.reduceLeDiff, Nat.reduceEqDiff, Nat.reduceAdd, Nat.reduceMul, Nat.reduceSub, List.all_cons, List.all_nil, Bool.and_true, Bool.and_self, ne_eq, reduceCtorEq, not_false_eq_true, and_self, hka, Bool.not_false, Bool.not_true, e1, e2, e3, e4, true_implies, false_implies, and_true, true_and, Bool.true_eq_false, Bool.false_eq_true]
        refine (fitsOp_c op h8 b _).mono ?_
        rintro r m4 ⟨rfl, rfl⟩
        simp only [vcs, tbl, crs, List.map, reduceIte, Nat.reduceLT, Nat.reduceLeDiff, Nat.reduceEqDiff, Nat.reduceAdd, Nat.reduceMul, Nat.reduceSub, List.all_cons, List.all_nil, Bool.and_true, Bool.and_self, ne_eq, reduceCtorEq, not_false_eq_true, and_self, hka, Bool.not_false, Bool.not_true, e1, e2, e3, e4, true_implies, false_implies, and_true, true_and, Bool.true_eq_false, Bool.false_eq_true]
        refine ⟨Grow.refl _, ?_⟩
        have hka : a.kind = 0 := by simpa using hka
        rw [calcV, if_neg hAB, if_pos (.inl hka)]; rfl
def notV (a : Val) : Val := if a.kind = 0 then nilV else bv (decide (a.num = 0))
theorem Unary_c (a : Val) (hk : okB a = true) (h03 : a.kind = 0 ∨ a.kind = 3) (m : World) : FCalls Try.prog 20 #[.int .i64 15, vv a] m fun r m' => Grow m m' ∧ r = .tuple #[vv (notV a), .int .i64 0] := by
  refine fcalls_of_vc (args := [_, _]) follows_mixed Try.func20 rfl (by kernel_rfl) (by simp [Try.f20]) ?_
  simp only [Try.f20, vcs, tbl, crs, List.map, reduceIte, Nat.reduceLT, Nat.reduceLeDiff, Nat.reduceEqDiff, Nat.reduceAdd, Nat.reduceMul, Nat.reduceSub, List.all_cons, List.all_nil, Bool.and_true, Bool.and_self, ne_eq, reduceCtorEq, not_false_eq_true, and_self]
  refine (ValueOk_c a m).mono ?_
  rintro r m1 ⟨rfl, rfl⟩
  rw [hk]
  simp only [vcs, tbl, crs, List.map, reduceIte, Nat.reduceLT, Nat.reduceLeDiff, Nat.reduceEqDiff, Nat.reduceAdd, Nat.reduceMul, Nat.reduceSub, List.all_cons, List.all_nil, Bool.and_true, Bool.and_self, ne_eq, reduceCtorEq, not_false_eq_true, and_self, decide_true, Bool.not_true, Bool.not_false, true_implies, false_implies, and_true, true_and, Bool.true_eq_false, Bool.false_eq_true]
  refine ⟨fun h0 => ?_, fun h0 => ?_⟩
  · refine ⟨Grow.refl _, ?_⟩
    rw [notV, if_pos h0]; rfl
  · have e0 : decide (a.kind = 3) = true := by simp; omega
    refine ⟨fun _ => ?_, fun h => absurd (by omega) h⟩
    refine (implBool_c _ _).mono ?_
    rintro r m2 ⟨rfl, rfl⟩
    simp only [vcs, tbl, crs, List.map, reduceIte, Nat.reduceLT, Nat.reduceLeDiff, Nat.reduceEqDiff, Nat.reduceAdd, Nat.reduceMul, Nat.reduceSub, List.all_cons, List.all_nil, Bool.and_true, Bool.and_self, ne_eq, reduceCtorEq, not_false_eq_true, and_self, e0, decide_true, Bool.not_true, Bool.not_false, true_implies, false_implies, and_true, true_and, Bool.true_eq_false, Bool.false_eq_true]
    refine ⟨Grow.refl _, ?_⟩
    rw [notV, if_neg h0]

end Go.Proofs.Ytklligemdfnimaa