/-
  Against is an involution and negates comparisons, for all arguments: FnAgainst holds.
  Conditions: none.
-/
import Derived.Test.YtklligemdfnimaaACalc
import Derived.Test.YtklligemdfnimaaRows
import Derived.ProofKit
import Derived.OpenShut
set_option linter.unusedVariables false
set_option linter.unusedSimpArgs false
set_option linter.unusedVariables false
set_option linter.unusedSimpArgs false
set_option maxRecDepth 4000
namespace Go.Proofs.Ytklligemdfnimaa
open Go Go.Vc
section
variable {P : Program} {n : Nat} {d : Option Nat} {K : K0} {f : Regs} {L : Lst} {m : World}
theorem pure_ext0 {a : Value} {l : List Value} : vcPure P n d (Instr.extract (.tuple (a :: l).toArray) 0) K f L m = K (put n f d (.c (.v a))) L m := vcPure_of fun w => by simp [Instr.extract]
theorem pure_ext1 {a b : Value} {l : List Value} : vcPure P n d (Instr.extract (.tuple (a :: b :: l).toArray) 1) K f L m = K (put n f d (.c (.v b))) L m := vcPure_of fun w => by simp [Instr.extract]
theorem pure_ext2 {a b c : Value} {l : List Value} : vcPure P n d (Instr.extract (.tuple (a :: b :: c :: l).toArray) 2) K f L m = K (put n f d (.c (.v c))) L m := vcPure_of fun w => by simp [Instr.extract]
end
theorem against_zero (o : Int) : against o = 0 ↔ (o < 1 ∨ 8 < o) := by
  unfold against; repeat' split
  all_goals omega
theorem against_twice (o : Int) (h : against o ≠ 0) : against (against o) = o := by
  have : o = 1 ∨ o = 2 ∨ o = 3 ∨ o = 4 ∨ o = 5 ∨ o = 6 ∨ o = 7 ∨ o = 8 := by have := mt (against_zero o).2 h; omega
  rcases this with rfl | rfl | rfl | rfl | rfl | rfl | rfl | rfl <;> rfl
theorem calc_against (o : Int) (h3 : 3 ≤ o) (h8 : o ≤ 8) (a b : Val) : (calcV o a b).2 = (calcV (against o) a b).2 ∧ okB (calcV o a b).1 = true ∧ ((calcV o a b).1.kind = 0 ∨ (calcV o a b).1.kind = 3) ∧ ((calcV o a b).2 ≠ 0 ∨ notV (calcV o a b).1 = (calcV (against o) a b).1) := by
  have hc : ∀ n, cmpB (against o) n = !cmpB o n := by
    intro n
    rcases (by omega : o = 3 ∨ o = 4 ∨ o = 5 ∨ o = 6 ∨ o = 7 ∨ o = 8) with rfl | rfl | rfl | rfl | rfl | rfl
    · rfl
    · exact (Bool.not_not _).symm
    · show decide (0 ≤ n) = !decide (n < 0)
      by_cases h : n < 0 <;> simp [h] <;> omega
    · show decide (0 < n) = !decide (n ≤ 0)
      by_cases h : n ≤ 0 <;> simp [h] <;> omega
    · show decide (n ≤ 0) = !decide (0 < n)
      by_cases h : 0 < n <;> simp [h] <;> omega
    · show decide (n < 0) = !decide (0 ≤ n)
      by_cases h : 0 ≤ n <;> simp [h] <;> omega
  unfold calcV
  split
  · exact ⟨rfl, by decide, .inl rfl, .inl (by show (1 : Int) ≠ 0; decide)⟩
  · split
    · exact ⟨rfl, by decide, .inl rfl, .inr rfl⟩
    · split
      · exact ⟨rfl, by decide, .inl rfl, .inl (by show (1 : Int) ≠ 0; decide)⟩
      · refine ⟨rfl, ?_, .inr rfl, .inr ?_⟩
        · show okB (bv _) = true
          generalize cmpB o (ordV a b) = c
          cases c <;> decide
        · show notV (bv _) = bv _
          rw [hc]
          generalize cmpB o (ordV a b) = c
          cases c <;> rfl
set_option maxHeartbeats 2000000 in
theorem lawAgainst_c (bs : List Int) (m : World) (v : Value) (F : List Nat) (h : CellF m (.sl bs.length (bs.flatMap brow)) v F) :
   FCalls Try.prog 5 #[v] m fun r m' => Grow m m' ∧ r = .bool true := by
  obtain ⟨a, cap, rfl, hcap, hmax, hz⟩ := h.slice
  refine fcalls_of_vc (args := [_]) follows_mixed Try.func5 rfl (by kernel_rfl) (by simp [Try.f5]) ?_
  simp only [Try.f5, vcs, tbl, crs, List.map, reduceIte, Nat.reduceLT, Nat.reduceLeDiff, Nat.reduceEqDiff, Nat.reduceAdd, Nat.reduceMul, Nat.reduceSub, List.all_cons, List.all_nil, Bool.and_true, Bool.and_self, ne_eq, reduceCtorEq, not_false_eq_true, and_self]
  refine (big_c bs.length bs rfl m _ F h).mono ?_
  rintro r m1 ⟨rfl, rfl⟩
  simp only [vcs, tbl, crs, List.map, reduceIte, Nat.reduceLT, Nat.reduceLeDiff, Nat.reduceEqDiff, Nat.reduceAdd, Nat.reduceMul, Nat.reduceSub, List.all_cons, List.all_nil, Bool.and_true, Bool.and_self, ne_eq, reduceCtorEq, not_false_eq_true, and_self]
  refine ⟨fun _ => Grow.refl _, fun hb => ?_⟩
  refine (DrawCalc_c bs _ _ F h).mono ?_
  rintro r m2 ⟨g2, op, ⟨ak, an, at'⟩, ⟨bk, bn, bt⟩, rfl, o0, o17, ha, hb2⟩
  simp only [vcs, tbl, crs, List.map, reduceIte, Nat.reduceLT, Nat.reduceLeDiff, Nat.reduceEqDiff, Nat.reduceAdd, Nat.reduceMul, Nat.reduceSub, List.all_cons, List.all_nil, Bool.and_true, Bool.and_self, ne_eq, reduceCtorEq, not_false_eq_true, and_self, pure_ext0, pure_ext1, pure_ext2]
  refine (implAgainst_c op _).mono ?_
  rintro r m3 ⟨g3, rfl⟩
  simp only [vcs, tbl, crs, List.map, reduceIte, Nat.reduceLT, Nat.reduceLeDiff, Nat.reduceEqDiff, Nat.reduceAdd, Nat.reduceMul, Nat.reduceSub, List.all_cons, List.all_nil, Bool.and_true, Bool.and_self, ne_eq, reduceCtorEq, not_false_eq_true, and_self]
  refine (specAgainst_c op _).mono ?_
  rintro r m4 ⟨g4, rfl⟩
  simp only [vcs, tbl, crs, List.map, reduceIte, Nat.reduceLT, Nat.reduceLeDiff, Nat.reduceEqDiff, Nat.reduceAdd, Nat.reduceMul, Nat.reduceSub, List.all_cons, List.all_nil, Bool.and_true, Bool.and_self, ne_eq, reduceCtorEq, not_false_eq_true, and_self, true_implies, false_implies, and_true, true_and, Bool.true_eq_false, Bool.false_eq_true, Bool.not_true, Bool.not_false, decide_true, decide_false]
  have g24 := (g2.trans g3).trans g4
  refine ⟨fun hx => ?_, fun hx => ?_⟩
  · have hr := (against_zero op).1 hx
    refine ⟨fun h1 => ?_, fun h1 => ?_⟩
    · simp only [vcs, tbl, crs, List.map, reduceIte, Nat.reduceLT, Nat.reduceLeDiff, Nat.reduceEqDiff, Nat.reduceAdd, Nat.reduceMul, Nat.reduceSub, List.all_cons, List.all_nil, Bool.and_true, Bool.and_self, ne_eq, reduceCtorEq, not_false_eq_true, and_self, h1, true_implies, false_implies, and_true, true_and, Bool.true_eq_false, Bool.false_eq_true, Bool.not_true, Bool.not_false, decide_true, decide_false]
      exact g24
    · simp only [vcs, tbl, crs, List.map, reduceIte, Nat.reduceLT, Nat.reduceLeDiff, Nat.reduceEqDiff, Nat.reduceAdd, Nat.reduceMul, Nat.reduceSub, List.all_cons, List.all_nil, Bool.and_true, Bool.and_self, ne_eq, reduceCtorEq, not_false_eq_true, and_self, h1, true_implies, false_implies, and_true, true_and, Bool.true_eq_false, Bool.false_eq_true, Bool.not_true, Bool.not_false, decide_true, decide_false]
      have h1 : ¬ op < 1 := by simpa using h1
      exact ⟨g24, by simp; omega⟩
  · have hr : 1 ≤ op ∧ op ≤ 8 := by have := mt (against_zero op).2 hx; omega
    refine (implAgainst_c _ _).mono ?_
    rintro r m5 ⟨g5, rfl⟩
    rw [against_twice op hx]
    have g25 := g24.trans g5
    simp only [vcs, tbl, crs, List.map, reduceIte, Nat.reduceLT, Nat.reduceLeDiff, Nat.reduceEqDiff, Nat.reduceAdd, Nat.reduceMul, Nat.reduceSub, List.all_cons, List.all_nil, Bool.and_true, Bool.and_self, ne_eq, reduceCtorEq, not_false_eq_true, and_self, true_implies, false_implies, and_true, true_and, Bool.true_eq_false, Bool.false_eq_true, Bool.not_true, Bool.not_false, decide_true, decide_false]
    refine ⟨fun h2 => ?_, fun h2 => ?_⟩
    · refine (implAgainst_c _ _).mono ?_
      rintro r m6 ⟨g6, rfl⟩
      rw [against_twice op hx]
      simp only [vcs, tbl, crs, List.map, reduceIte, Nat.reduceLT, Nat.reduceLeDiff, Nat.reduceEqDiff, Nat.reduceAdd, Nat.reduceMul, Nat.reduceSub, List.all_cons, List.all_nil, Bool.and_true, Bool.and_self, ne_eq, reduceCtorEq, not_false_eq_true, and_self, true_implies, false_implies, and_true, true_and, Bool.true_eq_false, Bool.false_eq_true, Bool.not_true, Bool.not_false, decide_true, decide_false]
      exact g25.trans g6
    · have k3 : 3 ≤ against op := by
        rcases (by omega : op = 3 ∨ op = 4 ∨ op = 5 ∨ op = 6 ∨ op = 7 ∨ op = 8) with rfl | rfl | rfl | rfl | rfl | rfl <;> decide
      have k8 : against op ≤ 8 := by
        rcases (by omega : op = 3 ∨ op = 4 ∨ op = 5 ∨ op = 6 ∨ op = 7 ∨ op = 8) with rfl | rfl | rfl | rfl | rfl | rfl <;> decide
      refine (Calc_c op (by omega) hr.2 ⟨ak, an, at'⟩ ⟨bk, bn, bt⟩ _).mono ?_
      rintro r m6 ⟨g6, rfl⟩
      simp only [vcs, tbl, crs, List.map, reduceIte, Nat.reduceLT, Nat.reduceLeDiff, Nat.reduceEqDiff, Nat.reduceAdd, Nat.reduceMul, Nat.reduceSub, List.all_cons, List.all_nil, Bool.and_true, Bool.and_self, ne_eq, reduceCtorEq, not_false_eq_true, and_self, pure_ext0, pure_ext1, pure_ext2, true_implies, false_implies, and_true, true_and, Bool.true_eq_false, Bool.false_eq_true, Bool.not_true, Bool.not_false, decide_true, decide_false]
      refine (Calc_c (against op) k3 k8 ⟨ak, an, at'⟩ ⟨bk, bn, bt⟩ _).mono ?_
      rintro r m7 ⟨g7, rfl⟩
      obtain ⟨c1, c2, c3, c4⟩ := calc_against op (by omega) hr.2 ⟨ak, an, at'⟩ ⟨bk, bn, bt⟩
      generalize calcV op ⟨ak, an, at'⟩ ⟨bk, bn, bt⟩ = p at c1 c2 c3 c4
      generalize calcV (against op) ⟨ak, an, at'⟩ ⟨bk, bn, bt⟩ = q at c1 c2 c3 c4
      simp only [vcs, tbl, crs, List.map, reduceIte, Nat.reduceLT, Nat.reduceLeDiff, Nat.reduceEqDiff, Nat.reduceAdd, Nat.reduceMul, Nat.reduceSub, List.all_cons, List.all_nil, Bool.and_true, Bool.and_self, ne_eq, reduceCtorEq, not_false_eq_true, and_self, pure_ext0, pure_ext1, pure_ext2, c1, true_implies, false_implies, and_true, true_and, Bool.true_eq_false, Bool.false_eq_true, Bool.not_true, Bool.not_false, decide_true, decide_false]
      refine (Unary_c p.1 c2 c3 _).mono ?_
      rintro r m8 ⟨g8, rfl⟩
      simp only [vcs, tbl, crs, List.map, reduceIte, Nat.reduceLT, Nat.reduceLeDiff, Nat.reduceEqDiff, Nat.reduceAdd, Nat.reduceMul, Nat.reduceSub, List.all_cons, List.all_nil, Bool.and_true, Bool.and_self, ne_eq, reduceCtorEq, not_false_eq_true, and_self, pure_ext0, pure_ext1, pure_ext2, c1, true_implies, false_implies, and_true, true_and, Bool.true_eq_false, Bool.false_eq_true, Bool.not_true, Bool.not_false, decide_true, decide_false]
      have g28 := ((g25.trans g6).trans g7).trans g8
      refine ⟨fun h => ?_, fun h => ?_⟩
      · simp only [vcs, tbl, crs, List.map, reduceIte, Nat.reduceLT, Nat.reduceLeDiff, Nat.reduceEqDiff, Nat.reduceAdd, Nat.reduceMul, Nat.reduceSub, List.all_cons, List.all_nil, Bool.and_true, Bool.and_self, ne_eq, reduceCtorEq, not_false_eq_true, and_self, h, true_implies, false_implies, and_true, true_and, Bool.true_eq_false, Bool.false_eq_true, Bool.not_true, Bool.not_false, decide_true, decide_false]
        exact g28
      · simp only [vcs, tbl, crs, List.map, reduceIte, Nat.reduceLT, Nat.reduceLeDiff, Nat.reduceEqDiff, Nat.reduceAdd, Nat.reduceMul, Nat.reduceSub, List.all_cons, List.all_nil, Bool.and_true, Bool.and_self, ne_eq, reduceCtorEq, not_false_eq_true, and_self, h, true_implies, false_implies, and_true, true_and, Bool.true_eq_false, Bool.false_eq_true, Bool.not_true, Bool.not_false, decide_true, decide_false]
        have h : q.2 = 0 := by simpa using h
        have e : notV p.1 = q.1 := c4.resolve_left fun hn => hn (c1.trans h)
        rw [pure_eqagg (by kernel_rfl) (eq40 (notV p.1) q.1)]
        simp only [vcs, tbl, crs, List.map, reduceIte, Nat.reduceLT, Nat.reduceLeDiff, Nat.reduceEqDiff, Nat.reduceAdd, Nat.reduceMul, Nat.reduceSub, List.all_cons, List.all_nil, Bool.and_true, Bool.and_self, ne_eq, reduceCtorEq, not_false_eq_true, and_self, true_implies, false_implies, and_true, true_and, Bool.true_eq_false, Bool.false_eq_true, Bool.not_true, Bool.not_false, decide_true, decide_false]
        exact ⟨g28, by simp [e]⟩

end Go.Proofs.Ytklligemdfnimaa
set_option linter.unusedVariables false
set_option linter.unusedSimpArgs false
namespace Go.Proofs.Ytklligemdfnimaa
open Go Go.Vc
theorem single_eq {a b : Value} (h : [a] = [b]) : a = b := by injection h
end Go.Proofs.Ytklligemdfnimaa

set_option linter.unusedVariables false
set_option linter.unusedSimpArgs false
namespace Go.Proofs.Ytklligemdfnimaa.fnAgainst
open Go Go.Vc Go.ChangeShapes Go.WideShapes Go.ChangeAt Go.RowKit
theorem read_bytes {H : Type} {enc : TypeId × Value → H} {W : World} {base : Nat} {sp : Nat → Bool} {held : Bool} {n : Nat} {a : Option Addr} {l c : Nat} {x : DataW H × List MemPlace} (h : DataW.trod enc Try.prog W base sp held n 37 [.slice a l c] = some x) :
    ∃ (ys : List Int) (F : List Nat), CellF W (.sl ys.length (ys.flatMap brow)) (.slice a l c) F := by
  obtain ⟨ys, v, F, hv, hc⟩ := read_slice (row := brow) (sz := 1) Try.underlying37 (by kernel_rfl) (by decide) brow_len (fun n cs x _ h => by
    obtain ⟨n0, rfl, _⟩ := DataW.trod_int Try.underlying5 h
    exact ⟨n0, [], valsF_mk (ValsF.nil_nil _) trivial⟩) h
  obtain rfl := single_eq hv
  exact ⟨ys, F, hc⟩
theorem own : ownKnob Try.prog.godebug = none := by kernel_rfl
theorem laid : laidOutB Try.prog = true := by kernel_rfl
set_option maxRecDepth 100000 in
theorem lifted (os : Os) (started : os.Started) (H : Type) (enc : TypeId × Value → H) :
    ReturnsInHanded {} Try.checked os 5 .any (Rows.fnAgainstSpec.pre6 enc Try.prog Try.f5 Rows.fnAgainstRow.domain false) (Rows.fnAgainstSpec.post enc Try.prog Try.f5 false true false false) := by
  refine returnsInHanded_of_change (C := Try.checked) own started (by kernel_rfl) Try.func5
    (ChangeSpec.witness6 (enc := enc) (C := Try.checked) false ⟨#[], #[.slice none 0 0], []⟩ 8 (by kernel_rfl) (by kernel_rfl) (by kernel_rfl) (by kernel_rfl)) ?_
  intro W base args ds gs before hval0 hW hcnd _
  have hval : ∀ (j : Nat) t v, Try.f5.params[j]? = some t → args[j]? = some v → Value.okWide Try.prog W .any base t v := hval0
  have hW' := hW
  obtain ⟨p, q, hA0, hV, rfl, hfz, hnd⟩ := hW
  have hA : DataW.TrodAll enc Try.prog W 0 (fun _ => true) true Try.f5.params.toList args.toList ds p := hA0
  rw [Try.params5] at hA hval
  obtain ⟨v0, vs0, d0, ds0, p0, q0, hargs0, rfl, rfl, h0, r0⟩ := trodAll_cons hA
  obtain ⟨rfl, rfl, rfl⟩ := trodAll_nil r0
  obtain rfl : args = #[v0] := by cases args; simp_all
  obtain ⟨rfl, rfl⟩ := trodVars_none hV
  obtain ⟨a0, l0, c0, rfl⟩ := okWide_slice Try.underlying37 (hval 0 37 v0 rfl rfl)
  obtain ⟨n0, t0⟩ := h0
  obtain ⟨x0, F0, hx0⟩ := read_bytes t0
  clear hA0 hval0
  simp only [List.append_nil] at hW'
  have hlt : ∀ p ∈ p0, p.block < W.heap.size := fun p hp => hW'.lt p hp
  have hcall := (lawAgainst_c x0 W _ F0 hx0).top fun v m' h => h.1
  refine hcall.mono fun e W' ⟨v, m', he, hb, hf, _, _, hv⟩ => ?_
  subst he hv
  exact ⟨_, rfl, post_of_same (pa := p0 ++ []) (pv := []) hW' (fun _ _ _ => (trodAll_cons_mk (shut_bool Try.underlying4 _) trodAll_mk0))
    (fun sp hsp => (trodAll_cons_mk (WideElems.Trod_stays (t := 37) laid (by kernel_rfl) (of_decide_eq_true (by kernel_rfl)) ⟨n0, t0⟩ (fun p hp => hb.same (hlt p (by simp [hp]))) (fun p hp => hsp p (by simp [hp])))
        trodAll_mk0))
    (fun _ _ => rfl) (by simp)
    (hb.frame _) hf (ok_one (by kernel_rfl) rfl (okWide_bool_mk Try.underlying4 _))⟩

theorem over : Rows.fnAgainstRow.holds Try.pinned (OpenSpec.ofChange Rows.fnAgainstSpec) :=
  OpenClaim.holds_of_wide 5 Try.f5 rfl rfl rfl rfl rfl rfl rfl ⟨rfl, rfl, rfl, rfl, rfl⟩ rfl rfl rfl rfl rfl (by kernel_rfl) Try.func5 (by kernel_rfl)
    (of_decide_eq_true (by kernel_rfl)) (by unfold Func.isWrapper; first | (rw [if_pos (by decide +kernel)]; kernel_rfl) | (rw [if_neg (by decide +kernel)]; exact ⟨rfl, rfl⟩))
    (fun os started H enc _ => lifted os started H enc)

/--  THE STATEMENT  -/
theorem proved : Rows.FnAgainstSaid :=
  over
#print axioms proved
end Go.Proofs.Ytklligemdfnimaa.fnAgainst
