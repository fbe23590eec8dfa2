/-
  The texts of values and rows.
  Conditions: none.
-/
import Derived.Test.YtlbbflchkkcdhaaDoorTextA
set_option linter.unusedVariables false
set_option linter.unusedSimpArgs false
set_option linter.unusedVariables false
set_option linter.unusedSimpArgs false
set_option maxRecDepth 8000
namespace Go.Proofs.YtlbbflchkkcdhaaDoor
open Go Go.Dv
open Go.Vc (D shrI xorI andI and255)

def partB (b : Int) : Bool := letB b || decide (48 ≤ b ∧ b ≤ 57)
def plainN (s : ByteArray) : Bool := decide (1 ≤ s.size ∧ s.size ≤ 20) && (!decide (48 ≤ ((s.data.toList.headD 0).toNat : Int) ∧ ((s.data.toList.headD 0).toNat : Int) ≤ 57) && (decide (key s = 0) && s.data.toList.all fun b => partB b.toNat))
theorem get_list (s : ByteArray) (i : Nat) (h : i < s.size) : s[i] = s.data.toList[i]'(by rw [size_toList]; exact h) := by
  rw [Array.getElem_toList]; rfl
theorem pu_at {n : Nat} {d : Option Nat} {K : K0} {f : Rg} {L : Ob} {p : Po} {k : IntKind} {s : ByteArray} {i : Nat} {l : List UInt8} (hl : l = s.data.toList) (hi : i < l.length) :
    dPure Tryd.prog n d (Instr.index 9 (.string s) (.int k (i : Int))) K f L p = K (put n f d (.c (.v (.int .u8 (l[i].toNat : Int))))) L p := by
  subst hl
  have hi' : i < s.size := by rw [← size_toList]; exact hi
  rw [pu_index (by kernel_rfl) (by omega) (by omega)]
  congr 6
theorem pu_at0 {n : Nat} {d : Option Nat} {K : K0} {f : Rg} {L : Ob} {p : Po} {k : IntKind} {s : ByteArray} {l : List UInt8} (hl : l = s.data.toList) (hi : 0 < l.length) :
    dPure Tryd.prog n d (Instr.index 9 (.string s) (.int k 0)) K f L p = K (put n f d (.c (.v (.int .u8 (l[0].toNat : Int))))) L p := pu_at (i := 0) hl hi
theorem key_ge (s : ByteArray) : 0 ≤ key s := by unfold key ixOf; split <;> omega
theorem PlainName_d (s : ByteArray) (hs : s.size ≤ 1048576) : Cl Tryd.prog 34 [vs s] [] fun r _ => r = vb (plainN s) := by
  obtain ⟨l, hl⟩ : ∃ l, l = s.data.toList := ⟨_, rfl⟩
  have hll : l.length = s.size := by rw [hl]; exact size_toList s
  refine cl_of_d follows_mixed false Tryd.func34 rfl (by kernel_rfl) ?_
  simp only [Tryd.f34, z0, z1, z2, z3, z4, z5, z6, z7, z8, z9, z10, z11, z12, z13, z14, z15, z16, z17, z18, t0, t1, t2, t3, t4, t5, t6, dcrs, rngs, reduceIte, Nat.reduceLT, Nat.reduceLeDiff, Nat.reduceEqDiff, Nat.reduceAdd, Nat.reduceMul, Nat.reduceSub, Nat.reduceMod, Nat.reduceDiv, Int.reduceLE, Int.reduceLT, Int.reduceEq, Int.reduceNe, Nat.reduceBEq, ne_eq, reduceCtorEq, not_false_eq_true, implies_true]
  refine call0 (NameOk_d s) ?_ ?_ ?_
  · decide
  · simp only [z0, z1, z2, z3, z4, z5, z6, z7, z8, z9, z10, z11, z12, z13, z14, z15, z16, z17, z18, t0, t1, t2, t3, t4, t5, t6, dcrs, rngs, reduceIte, Nat.reduceLT, Nat.reduceLeDiff, Nat.reduceEqDiff, Nat.reduceAdd, Nat.reduceMul, Nat.reduceSub, Nat.reduceMod, Nat.reduceDiv, Int.reduceLE, Int.reduceLT, Int.reduceEq, Int.reduceNe, Nat.reduceBEq, ne_eq, reduceCtorEq, not_false_eq_true, implies_true]
  rintro r rfl
  simp only [z0, z1, z2, z3, z4, z5, z6, z7, z8, z9, z10, z11, z12, z13, z14, z15, z16, z17, z18, t0, t1, t2, t3, t4, t5, t6, dcrs, rngs, reduceIte, Nat.reduceLT, Nat.reduceLeDiff, Nat.reduceEqDiff, Nat.reduceAdd, Nat.reduceMul, Nat.reduceSub, Nat.reduceMod, Nat.reduceDiv, Int.reduceLE, Int.reduceLT, Int.reduceEq, Int.reduceNe, Nat.reduceBEq, ne_eq, reduceCtorEq, not_false_eq_true, implies_true]
  cases hN : decide (1 ≤ s.size ∧ s.size ≤ 20) with
  | false =>
    simp only [z0, z1, z2, z3, z4, z5, z6, z7, z8, z9, z10, z11, z12, z13, z14, z15, z16, z17, z18, t0, t1, t2, t3, t4, t5, t6, dcrs, rngs, reduceIte, Nat.reduceLT, Nat.reduceLeDiff, Nat.reduceEqDiff, Nat.reduceAdd, Nat.reduceMul, Nat.reduceSub, Nat.reduceMod, Nat.reduceDiv, Int.reduceLE, Int.reduceLT, Int.reduceEq, Int.reduceNe, Nat.reduceBEq, ne_eq, reduceCtorEq, not_false_eq_true, implies_true, hN]
    exact ⟨_, _, vbE (by rw [plainN, hN]; rfl), end0 rfl⟩
  | true =>
    have hN' := of_decide_eq_true hN
    have hp : (0 : Int) < (s.size : Int) := by omega
    have hlp : 0 < l.length := by omega
    simp only [z0, z1, z2, z3, z4, z5, z6, z7, z8, z9, z10, z11, z12, z13, z14, z15, z16, z17, z18, t0, t1, t2, t3, t4, t5, t6, dcrs, rngs, reduceIte, Nat.reduceLT, Nat.reduceLeDiff, Nat.reduceEqDiff, Nat.reduceAdd, Nat.reduceMul, Nat.reduceSub, Nat.reduceMod, Nat.reduceDiv, Int.reduceLE, Int.reduceLT, Int.reduceEq, Int.reduceNe, Nat.reduceBEq, ne_eq, reduceCtorEq, not_false_eq_true, implies_true, hN, hp]
    rw [pu_at0 hl (by omega)]
    simp only [z0, z1, z2, z3, z4, z5, z6, z7, z8, z9, z10, z11, z12, z13, z14, z15, z16, z17, z18, t0, t1, t2, t3, t4, t5, t6, dcrs, rngs, reduceIte, Nat.reduceLT, Nat.reduceLeDiff, Nat.reduceEqDiff, Nat.reduceAdd, Nat.reduceMul, Nat.reduceSub, Nat.reduceMod, Nat.reduceDiv, Int.reduceLE, Int.reduceLT, Int.reduceEq, Int.reduceNe, Nat.reduceBEq, ne_eq, reduceCtorEq, not_false_eq_true, implies_true]
    refine call0 (l2Figure_d l[0].toNat) ?_ ?_ ?_
    · decide
    · simp only [z0, z1, z2, z3, z4, z5, z6, z7, z8, z9, z10, z11, z12, z13, z14, z15, z16, z17, z18, t0, t1, t2, t3, t4, t5, t6, dcrs, rngs, reduceIte, Nat.reduceLT, Nat.reduceLeDiff, Nat.reduceEqDiff, Nat.reduceAdd, Nat.reduceMul, Nat.reduceSub, Nat.reduceMod, Nat.reduceDiv, Int.reduceLE, Int.reduceLT, Int.reduceEq, Int.reduceNe, Nat.reduceBEq, ne_eq, reduceCtorEq, not_false_eq_true, implies_true]
    rintro r rfl
    simp only [z0, z1, z2, z3, z4, z5, z6, z7, z8, z9, z10, z11, z12, z13, z14, z15, z16, z17, z18, t0, t1, t2, t3, t4, t5, t6, dcrs, rngs, reduceIte, Nat.reduceLT, Nat.reduceLeDiff, Nat.reduceEqDiff, Nat.reduceAdd, Nat.reduceMul, Nat.reduceSub, Nat.reduceMod, Nat.reduceDiv, Int.reduceLE, Int.reduceLT, Int.reduceEq, Int.reduceNe, Nat.reduceBEq, ne_eq, reduceCtorEq, not_false_eq_true, implies_true]
    have hh : s.data.toList.headD 0 = l[0] := by rw [← hl]; cases l with | nil => exact absurd hlp (Nat.lt_irrefl _) | cons x r => rfl
    cases hF : decide ((48 : Int) ≤ (l[0].toNat : Int) ∧ (l[0].toNat : Int) ≤ 57) with
    | true =>
      simp only [z0, z1, z2, z3, z4, z5, z6, z7, z8, z9, z10, z11, z12, z13, z14, z15, z16, z17, z18, t0, t1, t2, t3, t4, t5, t6, dcrs, rngs, reduceIte, Nat.reduceLT, Nat.reduceLeDiff, Nat.reduceEqDiff, Nat.reduceAdd, Nat.reduceMul, Nat.reduceSub, Nat.reduceMod, Nat.reduceDiv, Int.reduceLE, Int.reduceLT, Int.reduceEq, Int.reduceNe, Nat.reduceBEq, ne_eq, reduceCtorEq, not_false_eq_true, implies_true, hF]
      exact ⟨_, _, vbE (by rw [plainN, hN, hh, hF]; rfl), end0 rfl⟩
    | false =>
      simp only [z0, z1, z2, z3, z4, z5, z6, z7, z8, z9, z10, z11, z12, z13, z14, z15, z16, z17, z18, t0, t1, t2, t3, t4, t5, t6, dcrs, rngs, reduceIte, Nat.reduceLT, Nat.reduceLeDiff, Nat.reduceEqDiff, Nat.reduceAdd, Nat.reduceMul, Nat.reduceSub, Nat.reduceMod, Nat.reduceDiv, Int.reduceLE, Int.reduceLT, Int.reduceEq, Int.reduceNe, Nat.reduceBEq, ne_eq, reduceCtorEq, not_false_eq_true, implies_true, hF]
      refine call0 (KeyOf_d s hs) ?_ ?_ ?_
      · decide
      · simp only [z0, z1, z2, z3, z4, z5, z6, z7, z8, z9, z10, z11, z12, z13, z14, z15, z16, z17, z18, t0, t1, t2, t3, t4, t5, t6, dcrs, rngs, reduceIte, Nat.reduceLT, Nat.reduceLeDiff, Nat.reduceEqDiff, Nat.reduceAdd, Nat.reduceMul, Nat.reduceSub, Nat.reduceMod, Nat.reduceDiv, Int.reduceLE, Int.reduceLT, Int.reduceEq, Int.reduceNe, Nat.reduceBEq, ne_eq, reduceCtorEq, not_false_eq_true, implies_true]
      rintro r rfl
      simp only [z0, z1, z2, z3, z4, z5, z6, z7, z8, z9, z10, z11, z12, z13, z14, z15, z16, z17, z18, t0, t1, t2, t3, t4, t5, t6, dcrs, rngs, reduceIte, Nat.reduceLT, Nat.reduceLeDiff, Nat.reduceEqDiff, Nat.reduceAdd, Nat.reduceMul, Nat.reduceSub, Nat.reduceMod, Nat.reduceDiv, Int.reduceLE, Int.reduceLT, Int.reduceEq, Int.reduceNe, Nat.reduceBEq, ne_eq, reduceCtorEq, not_false_eq_true, implies_true]
      have hk := key_ge s
      refine And.intro (fun h => ?_) (fun h => ?_)
      · exact ⟨_, _, vbE (by rw [plainN, hN, hh, hF, decide_eq_false (show ¬ key s = 0 by omega)]; rfl), end0 rfl⟩
      · have hpn : plainN s = l.all fun b => partB b.toNat := by rw [plainN, hN, hh, hF, decide_eq_true (show key s = 0 by omega), ← hl]; rfl
        rw [hpn]
        refine dLoop.intro (fun f' L p => ∃ i : Nat, f' 3 = vi i ∧ i ≤ s.size ∧ (∀ j (hj : j < l.length), j < i → partB l[j].toNat = true) ∧ L = [] ∧ p = none) (fun f' _ _ => (s.size - ixS (f' 3)).toNat) [] none ⟨SubO.nil _, PoSub.none _, ?_⟩ ?_
        · simp only [z0, z1, z2, z3, z4, z5, z6, z7, z8, z9, z10, z11, z12, z13, z14, z15, z16, z17, z18, t0, t1, t2, t3, t4, t5, t6, dcrs, rngs, reduceIte, Nat.reduceLT, Nat.reduceLeDiff, Nat.reduceEqDiff, Nat.reduceAdd, Nat.reduceMul, Nat.reduceSub, Nat.reduceMod, Nat.reduceDiv, Int.reduceLE, Int.reduceLT, Int.reduceEq, Int.reduceNe, Nat.reduceBEq, ne_eq, reduceCtorEq, not_false_eq_true, implies_true]
          exact ⟨0, rfl, by omega, fun j _ h => absurd h (Nat.not_lt_zero _)⟩
        · rintro g L p ⟨i, h3, hi, hn, rfl, rfl⟩
          simp only [z0, z1, z2, z3, z4, z5, z6, z7, z8, z9, z10, z11, z12, z13, z14, z15, z16, z17, z18, t0, t1, t2, t3, t4, t5, t6, dcrs, rngs, reduceIte, Nat.reduceLT, Nat.reduceLeDiff, Nat.reduceEqDiff, Nat.reduceAdd, Nat.reduceMul, Nat.reduceSub, Nat.reduceMod, Nat.reduceDiv, Int.reduceLE, Int.reduceLT, Int.reduceEq, Int.reduceNe, Nat.reduceBEq, ne_eq, reduceCtorEq, not_false_eq_true, implies_true] at h3
          simp only [z0, z1, z2, z3, z4, z5, z6, z7, z8, z9, z10, z11, z12, z13, z14, z15, z16, z17, z18, t0, t1, t2, t3, t4, t5, t6, dcrs, rngs, reduceIte, Nat.reduceLT, Nat.reduceLeDiff, Nat.reduceEqDiff, Nat.reduceAdd, Nat.reduceMul, Nat.reduceSub, Nat.reduceMod, Nat.reduceDiv, Int.reduceLE, Int.reduceLT, Int.reduceEq, Int.reduceNe, Nat.reduceBEq, ne_eq, reduceCtorEq, not_false_eq_true, implies_true, h3, Int.ofNat_lt]
          refine fun _ => And.intro (fun hlt => ?_) (fun hge => ?_)
          · have hil : i < l.length := by omega
            rw [pu_at hl hil]
            simp only [z0, z1, z2, z3, z4, z5, z6, z7, z8, z9, z10, z11, z12, z13, z14, z15, z16, z17, z18, t0, t1, t2, t3, t4, t5, t6, dcrs, rngs, reduceIte, Nat.reduceLT, Nat.reduceLeDiff, Nat.reduceEqDiff, Nat.reduceAdd, Nat.reduceMul, Nat.reduceSub, Nat.reduceMod, Nat.reduceDiv, Int.reduceLE, Int.reduceLT, Int.reduceEq, Int.reduceNe, Nat.reduceBEq, ne_eq, reduceCtorEq, not_false_eq_true, implies_true, h3]
            refine call0 (l2Letter_d l[i].toNat) ?_ ?_ ?_
            · decide
            · simp only [z0, z1, z2, z3, z4, z5, z6, z7, z8, z9, z10, z11, z12, z13, z14, z15, z16, z17, z18, t0, t1, t2, t3, t4, t5, t6, dcrs, rngs, reduceIte, Nat.reduceLT, Nat.reduceLeDiff, Nat.reduceEqDiff, Nat.reduceAdd, Nat.reduceMul, Nat.reduceSub, Nat.reduceMod, Nat.reduceDiv, Int.reduceLE, Int.reduceLT, Int.reduceEq, Int.reduceNe, Nat.reduceBEq, ne_eq, reduceCtorEq, not_false_eq_true, implies_true, h3]
            rintro r rfl
            simp only [z0, z1, z2, z3, z4, z5, z6, z7, z8, z9, z10, z11, z12, z13, z14, z15, z16, z17, z18, t0, t1, t2, t3, t4, t5, t6, dcrs, rngs, reduceIte, Nat.reduceLT, Nat.reduceLeDiff, Nat.reduceEqDiff, Nat.reduceAdd, Nat.reduceMul, Nat.reduceSub, Nat.reduceMod, Nat.reduceDiv, Int.reduceLE, Int.reduceLT, Int.reduceEq, Int.reduceNe, Nat.reduceBEq, ne_eq, reduceCtorEq, not_false_eq_true, implies_true, h3]
            cases hL : letB l[i].toNat with
            | true =>
              simp only [z0, z1, z2, z3, z4, z5, z6, z7, z8, z9, z10, z11, z12, z13, z14, z15, z16, z17, z18, t0, t1, t2, t3, t4, t5, t6, dcrs, rngs, reduceIte, Nat.reduceLT, Nat.reduceLeDiff, Nat.reduceEqDiff, Nat.reduceAdd, Nat.reduceMul, Nat.reduceSub, Nat.reduceMod, Nat.reduceDiv, Int.reduceLE, Int.reduceLT, Int.reduceEq, Int.reduceNe, Nat.reduceBEq, ne_eq, reduceCtorEq, not_false_eq_true, implies_true, h3, hL]
              rw [wrap_id (n := (i : Int) + 1) (by omega) (by omega)]
              exact ⟨[], none, SubO.nil _, PoSub.none _, ⟨i + 1, rfl, by omega, fun j hj hji => by
                by_cases e : j = i
                · subst e; rw [partB, hL]; rfl
                · exact hn j hj (by omega), rfl, rfl⟩, by simp only [ixS]; omega⟩
            | false =>
              simp only [z0, z1, z2, z3, z4, z5, z6, z7, z8, z9, z10, z11, z12, z13, z14, z15, z16, z17, z18, t0, t1, t2, t3, t4, t5, t6, dcrs, rngs, reduceIte, Nat.reduceLT, Nat.reduceLeDiff, Nat.reduceEqDiff, Nat.reduceAdd, Nat.reduceMul, Nat.reduceSub, Nat.reduceMod, Nat.reduceDiv, Int.reduceLE, Int.reduceLT, Int.reduceEq, Int.reduceNe, Nat.reduceBEq, ne_eq, reduceCtorEq, not_false_eq_true, implies_true, h3, hL]
              rw [pu_at hl hil]
              simp only [z0, z1, z2, z3, z4, z5, z6, z7, z8, z9, z10, z11, z12, z13, z14, z15, z16, z17, z18, t0, t1, t2, t3, t4, t5, t6, dcrs, rngs, reduceIte, Nat.reduceLT, Nat.reduceLeDiff, Nat.reduceEqDiff, Nat.reduceAdd, Nat.reduceMul, Nat.reduceSub, Nat.reduceMod, Nat.reduceDiv, Int.reduceLE, Int.reduceLT, Int.reduceEq, Int.reduceNe, Nat.reduceBEq, ne_eq, reduceCtorEq, not_false_eq_true, implies_true, h3]
              refine call0 (l2Figure_d l[i].toNat) ?_ ?_ ?_
              · decide
              · simp only [z0, z1, z2, z3, z4, z5, z6, z7, z8, z9, z10, z11, z12, z13, z14, z15, z16, z17, z18, t0, t1, t2, t3, t4, t5, t6, dcrs, rngs, reduceIte, Nat.reduceLT, Nat.reduceLeDiff, Nat.reduceEqDiff, Nat.reduceAdd, Nat.reduceMul, Nat.reduceSub, Nat.reduceMod, Nat.reduceDiv, Int.reduceLE, Int.reduceLT, Int.reduceEq, Int.reduceNe, Nat.reduceBEq, ne_eq, reduceCtorEq, not_false_eq_true, implies_true, h3]
              rintro r rfl
              simp only [z0, z1, z2, z3, z4, z5, z6, z7, z8, z9, z10, z11, z12, z13, z14, z15, z16, z17, z18, t0, t1, t2, t3, t4, t5, t6, dcrs, rngs, reduceIte, Nat.reduceLT, Nat.reduceLeDiff, Nat.reduceEqDiff, Nat.reduceAdd, Nat.reduceMul, Nat.reduceSub, Nat.reduceMod, Nat.reduceDiv, Int.reduceLE, Int.reduceLT, Int.reduceEq, Int.reduceNe, Nat.reduceBEq, ne_eq, reduceCtorEq, not_false_eq_true, implies_true, h3]
              refine And.intro (fun h => ?_) (fun h => ?_)
              · simp only [Bool.not_eq_true', decide_eq_false_iff_not] at h
                refine ⟨_, _, vbE ?_, end0 rfl⟩
                refine (Bool.eq_false_iff.2 fun e => ?_).symm
                have := List.all_eq_true.1 e _ (List.getElem_mem hil)
                rw [partB, hL, Bool.false_or, decide_eq_true_eq] at this
                exact h this
              · simp only [Bool.not_eq_false', decide_eq_true_eq] at h
                rw [wrap_id (n := (i : Int) + 1) (by omega) (by omega)]
                exact ⟨[], none, SubO.nil _, PoSub.none _, ⟨i + 1, rfl, by omega, fun j hj hji => by
                  by_cases e : j = i
                  · subst e; rw [partB, hL, Bool.false_or, decide_eq_true_eq]; omega
                  · exact hn j hj (by omega), rfl, rfl⟩, by simp only [ixS]; omega⟩
          · refine ⟨_, _, vbE ?_, end0 rfl⟩
            refine (List.all_eq_true.2 fun x hx => ?_).symm
            obtain ⟨j, hj, rfl⟩ := List.mem_iff_getElem.1 hx
            exact hn j hj (by omega)
theorem iPlainName_d (s : ByteArray) (hs : s.size ≤ 1048576) : Cl Tryd.prog 40 [vs s] [] fun r _ => r = vb (plainN s) := by
  obtain ⟨l, hl⟩ : ∃ l, l = s.data.toList := ⟨_, rfl⟩
  have hll : l.length = s.size := by rw [hl]; exact size_toList s
  refine cl_of_d follows_mixed false Tryd.func40 rfl (by kernel_rfl) ?_
  simp only [Tryd.f40, z0, z1, z2, z3, z4, z5, z6, z7, z8, z9, z10, z11, z12, z13, z14, z15, z16, z17, z18, t0, t1, t2, t3, t4, t5, t6, dcrs, rngs, reduceIte, Nat.reduceLT, Nat.reduceLeDiff, Nat.reduceEqDiff, Nat.reduceAdd, Nat.reduceMul, Nat.reduceSub, Nat.reduceMod, Nat.reduceDiv, Int.reduceLE, Int.reduceLT, Int.reduceEq, Int.reduceNe, Nat.reduceBEq, ne_eq, reduceCtorEq, not_false_eq_true, implies_true]
  refine call0 (iNameOk_d s) ?_ ?_ ?_
  · decide
  · simp only [z0, z1, z2, z3, z4, z5, z6, z7, z8, z9, z10, z11, z12, z13, z14, z15, z16, z17, z18, t0, t1, t2, t3, t4, t5, t6, dcrs, rngs, reduceIte, Nat.reduceLT, Nat.reduceLeDiff, Nat.reduceEqDiff, Nat.reduceAdd, Nat.reduceMul, Nat.reduceSub, Nat.reduceMod, Nat.reduceDiv, Int.reduceLE, Int.reduceLT, Int.reduceEq, Int.reduceNe, Nat.reduceBEq, ne_eq, reduceCtorEq, not_false_eq_true, implies_true]
  rintro r rfl
  simp only [z0, z1, z2, z3, z4, z5, z6, z7, z8, z9, z10, z11, z12, z13, z14, z15, z16, z17, z18, t0, t1, t2, t3, t4, t5, t6, dcrs, rngs, reduceIte, Nat.reduceLT, Nat.reduceLeDiff, Nat.reduceEqDiff, Nat.reduceAdd, Nat.reduceMul, Nat.reduceSub, Nat.reduceMod, Nat.reduceDiv, Int.reduceLE, Int.reduceLT, Int.reduceEq, Int.reduceNe, Nat.reduceBEq, ne_eq, reduceCtorEq, not_false_eq_true, implies_true]
  cases hN : decide (1 ≤ s.size ∧ s.size ≤ 20) with
  | false =>
    simp only [z0, z1, z2, z3, z4, z5, z6, z7, z8, z9, z10, z11, z12, z13, z14, z15, z16, z17, z18, t0, t1, t2, t3, t4, t5, t6, dcrs, rngs, reduceIte, Nat.reduceLT, Nat.reduceLeDiff, Nat.reduceEqDiff, Nat.reduceAdd, Nat.reduceMul, Nat.reduceSub, Nat.reduceMod, Nat.reduceDiv, Int.reduceLE, Int.reduceLT, Int.reduceEq, Int.reduceNe, Nat.reduceBEq, ne_eq, reduceCtorEq, not_false_eq_true, implies_true, hN]
    exact ⟨_, _, vbE (by rw [plainN, hN]; rfl), end0 rfl⟩
  | true =>
    have hN' := of_decide_eq_true hN
    have hp : (0 : Int) < (s.size : Int) := by omega
    have hlp : 0 < l.length := by omega
    simp only [z0, z1, z2, z3, z4, z5, z6, z7, z8, z9, z10, z11, z12, z13, z14, z15, z16, z17, z18, t0, t1, t2, t3, t4, t5, t6, dcrs, rngs, reduceIte, Nat.reduceLT, Nat.reduceLeDiff, Nat.reduceEqDiff, Nat.reduceAdd, Nat.reduceMul, Nat.reduceSub, Nat.reduceMod, Nat.reduceDiv, Int.reduceLE, Int.reduceLT, Int.reduceEq, Int.reduceNe, Nat.reduceBEq, ne_eq, reduceCtorEq, not_false_eq_true, implies_true, hN, hp]
    rw [pu_at0 hl (by omega)]
    simp only [z0, z1, z2, z3, z4, z5, z6, z7, z8, z9, z10, z11, z12, z13, z14, z15, z16, z17, z18, t0, t1, t2, t3, t4, t5, t6, dcrs, rngs, reduceIte, Nat.reduceLT, Nat.reduceLeDiff, Nat.reduceEqDiff, Nat.reduceAdd, Nat.reduceMul, Nat.reduceSub, Nat.reduceMod, Nat.reduceDiv, Int.reduceLE, Int.reduceLT, Int.reduceEq, Int.reduceNe, Nat.reduceBEq, ne_eq, reduceCtorEq, not_false_eq_true, implies_true]
    refine call0 (isDigit_d l[0].toNat) ?_ ?_ ?_
    · decide
    · simp only [z0, z1, z2, z3, z4, z5, z6, z7, z8, z9, z10, z11, z12, z13, z14, z15, z16, z17, z18, t0, t1, t2, t3, t4, t5, t6, dcrs, rngs, reduceIte, Nat.reduceLT, Nat.reduceLeDiff, Nat.reduceEqDiff, Nat.reduceAdd, Nat.reduceMul, Nat.reduceSub, Nat.reduceMod, Nat.reduceDiv, Int.reduceLE, Int.reduceLT, Int.reduceEq, Int.reduceNe, Nat.reduceBEq, ne_eq, reduceCtorEq, not_false_eq_true, implies_true]
    rintro r rfl
    simp only [z0, z1, z2, z3, z4, z5, z6, z7, z8, z9, z10, z11, z12, z13, z14, z15, z16, z17, z18, t0, t1, t2, t3, t4, t5, t6, dcrs, rngs, reduceIte, Nat.reduceLT, Nat.reduceLeDiff, Nat.reduceEqDiff, Nat.reduceAdd, Nat.reduceMul, Nat.reduceSub, Nat.reduceMod, Nat.reduceDiv, Int.reduceLE, Int.reduceLT, Int.reduceEq, Int.reduceNe, Nat.reduceBEq, ne_eq, reduceCtorEq, not_false_eq_true, implies_true]
    have hh : s.data.toList.headD 0 = l[0] := by rw [← hl]; cases l with | nil => exact absurd hlp (Nat.lt_irrefl _) | cons x r => rfl
    have hsp : 0 < s.size := by omega
    cases hF : decide ((48 : Int) ≤ (l[0].toNat : Int) ∧ (l[0].toNat : Int) ≤ 57) with
    | true =>
      simp only [z0, z1, z2, z3, z4, z5, z6, z7, z8, z9, z10, z11, z12, z13, z14, z15, z16, z17, z18, t0, t1, t2, t3, t4, t5, t6, dcrs, rngs, reduceIte, Nat.reduceLT, Nat.reduceLeDiff, Nat.reduceEqDiff, Nat.reduceAdd, Nat.reduceMul, Nat.reduceSub, Nat.reduceMod, Nat.reduceDiv, Int.reduceLE, Int.reduceLT, Int.reduceEq, Int.reduceNe, Nat.reduceBEq, ne_eq, reduceCtorEq, not_false_eq_true, implies_true, hF]
      exact ⟨_, _, vbE (by rw [plainN, hN, hh, hF]; rfl), end0 rfl⟩
    | false =>
      simp only [z0, z1, z2, z3, z4, z5, z6, z7, z8, z9, z10, z11, z12, z13, z14, z15, z16, z17, z18, t0, t1, t2, t3, t4, t5, t6, dcrs, rngs, reduceIte, Nat.reduceLT, Nat.reduceLeDiff, Nat.reduceEqDiff, Nat.reduceAdd, Nat.reduceMul, Nat.reduceSub, Nat.reduceMod, Nat.reduceDiv, Int.reduceLE, Int.reduceLT, Int.reduceEq, Int.reduceNe, Nat.reduceBEq, ne_eq, reduceCtorEq, not_false_eq_true, implies_true, hF]
      refine call0 (iKeyOf_d s hs) ?_ ?_ ?_
      · decide
      · simp only [z0, z1, z2, z3, z4, z5, z6, z7, z8, z9, z10, z11, z12, z13, z14, z15, z16, z17, z18, t0, t1, t2, t3, t4, t5, t6, dcrs, rngs, reduceIte, Nat.reduceLT, Nat.reduceLeDiff, Nat.reduceEqDiff, Nat.reduceAdd, Nat.reduceMul, Nat.reduceSub, Nat.reduceMod, Nat.reduceDiv, Int.reduceLE, Int.reduceLT, Int.reduceEq, Int.reduceNe, Nat.reduceBEq, ne_eq, reduceCtorEq, not_false_eq_true, implies_true]
      rintro r rfl
      simp only [z0, z1, z2, z3, z4, z5, z6, z7, z8, z9, z10, z11, z12, z13, z14, z15, z16, z17, z18, t0, t1, t2, t3, t4, t5, t6, dcrs, rngs, reduceIte, Nat.reduceLT, Nat.reduceLeDiff, Nat.reduceEqDiff, Nat.reduceAdd, Nat.reduceMul, Nat.reduceSub, Nat.reduceMod, Nat.reduceDiv, Int.reduceLE, Int.reduceLT, Int.reduceEq, Int.reduceNe, Nat.reduceBEq, ne_eq, reduceCtorEq, not_false_eq_true, implies_true]
      have hk := key_ge s
      refine And.intro (fun h => ?_) (fun h => ?_)
      · exact ⟨_, _, vbE (by rw [plainN, hN, hh, hF, decide_eq_false (show ¬ key s = 0 from by simpa using h)]; rfl), end0 rfl⟩
      · have hpn : plainN s = l.all fun b => partB b.toNat := by rw [plainN, hN, hh, hF, decide_eq_true (show key s = 0 from by simpa using h), ← hl]; rfl
        rw [hpn]
        refine fun _ => ?_
        refine dLoop.intro (fun f' L p => ∃ i : Nat, f' 19 = vi i ∧ i ≤ s.size ∧ (∀ j (hj : j < l.length), j < i → partB l[j].toNat = true) ∧ L = [] ∧ p = none) (fun f' _ _ => (s.size - ixS (f' 19)).toNat) [] none ⟨SubO.nil _, PoSub.none _, ?_⟩ ?_
        · simp only [z0, z1, z2, z3, z4, z5, z6, z7, z8, z9, z10, z11, z12, z13, z14, z15, z16, z17, z18, t0, t1, t2, t3, t4, t5, t6, dcrs, rngs, reduceIte, Nat.reduceLT, Nat.reduceLeDiff, Nat.reduceEqDiff, Nat.reduceAdd, Nat.reduceMul, Nat.reduceSub, Nat.reduceMod, Nat.reduceDiv, Int.reduceLE, Int.reduceLT, Int.reduceEq, Int.reduceNe, Nat.reduceBEq, ne_eq, reduceCtorEq, not_false_eq_true, implies_true]
          exact ⟨0, rfl, by omega, fun j _ h => absurd h (Nat.not_lt_zero _)⟩
        · rintro g L p ⟨i, h3, hi, hn, rfl, rfl⟩
          simp only [z0, z1, z2, z3, z4, z5, z6, z7, z8, z9, z10, z11, z12, z13, z14, z15, z16, z17, z18, t0, t1, t2, t3, t4, t5, t6, dcrs, rngs, reduceIte, Nat.reduceLT, Nat.reduceLeDiff, Nat.reduceEqDiff, Nat.reduceAdd, Nat.reduceMul, Nat.reduceSub, Nat.reduceMod, Nat.reduceDiv, Int.reduceLE, Int.reduceLT, Int.reduceEq, Int.reduceNe, Nat.reduceBEq, ne_eq, reduceCtorEq, not_false_eq_true, implies_true] at h3
          simp only [z0, z1, z2, z3, z4, z5, z6, z7, z8, z9, z10, z11, z12, z13, z14, z15, z16, z17, z18, t0, t1, t2, t3, t4, t5, t6, dcrs, rngs, reduceIte, Nat.reduceLT, Nat.reduceLeDiff, Nat.reduceEqDiff, Nat.reduceAdd, Nat.reduceMul, Nat.reduceSub, Nat.reduceMod, Nat.reduceDiv, Int.reduceLE, Int.reduceLT, Int.reduceEq, Int.reduceNe, Nat.reduceBEq, ne_eq, reduceCtorEq, not_false_eq_true, implies_true, h3, Int.ofNat_lt]
          refine And.intro (fun hlt => ?_) (fun hge => ?_)
          · have hil : i < l.length := by omega
            rw [pu_at hl hil]
            simp only [z0, z1, z2, z3, z4, z5, z6, z7, z8, z9, z10, z11, z12, z13, z14, z15, z16, z17, z18, t0, t1, t2, t3, t4, t5, t6, dcrs, rngs, reduceIte, Nat.reduceLT, Nat.reduceLeDiff, Nat.reduceEqDiff, Nat.reduceAdd, Nat.reduceMul, Nat.reduceSub, Nat.reduceMod, Nat.reduceDiv, Int.reduceLE, Int.reduceLT, Int.reduceEq, Int.reduceNe, Nat.reduceBEq, ne_eq, reduceCtorEq, not_false_eq_true, implies_true, h3]
            refine call0 (isPart_d l[i].toNat) ?_ ?_ ?_
            · decide
            · simp only [z0, z1, z2, z3, z4, z5, z6, z7, z8, z9, z10, z11, z12, z13, z14, z15, z16, z17, z18, t0, t1, t2, t3, t4, t5, t6, dcrs, rngs, reduceIte, Nat.reduceLT, Nat.reduceLeDiff, Nat.reduceEqDiff, Nat.reduceAdd, Nat.reduceMul, Nat.reduceSub, Nat.reduceMod, Nat.reduceDiv, Int.reduceLE, Int.reduceLT, Int.reduceEq, Int.reduceNe, Nat.reduceBEq, ne_eq, reduceCtorEq, not_false_eq_true, implies_true, h3]
            rintro r rfl
            simp only [z0, z1, z2, z3, z4, z5, z6, z7, z8, z9, z10, z11, z12, z13, z14, z15, z16, z17, z18, t0, t1, t2, t3, t4, t5, t6, dcrs, rngs, reduceIte, Nat.reduceLT, Nat.reduceLeDiff, Nat.reduceEqDiff, Nat.reduceAdd, Nat.reduceMul, Nat.reduceSub, Nat.reduceMod, Nat.reduceDiv, Int.reduceLE, Int.reduceLT, Int.reduceEq, Int.reduceNe, Nat.reduceBEq, ne_eq, reduceCtorEq, not_false_eq_true, implies_true, h3]
            refine And.intro (fun h => ?_) (fun h => ?_)
            · refine ⟨_, _, vbE ?_, end0 rfl⟩
              refine (Bool.eq_false_iff.2 fun e => ?_).symm
              have := List.all_eq_true.1 e _ (List.getElem_mem hil)
              rw [partB] at this
              rw [this] at h; cases h
            · rw [wrap_id (n := (i : Int) + 1) (by omega) (by omega)]
              exact ⟨[], none, SubO.nil _, PoSub.none _, ⟨i + 1, rfl, by omega, fun j hj hji => by
                by_cases e : j = i
                · subst e; rw [partB]; simpa only [Bool.not_eq_false'] using h
                · exact hn j hj (by omega), rfl, rfl⟩, by simp only [ixS]; omega⟩
          · refine ⟨_, _, vbE ?_, end0 rfl⟩
            refine (List.all_eq_true.2 fun x hx => ?_).symm
            obtain ⟨j, hj, rfl⟩ := List.mem_iff_getElem.1 hx
            exact hn j hj (by omega)

end Go.Proofs.YtlbbflchkkcdhaaDoor

set_option linter.unusedVariables false
set_option linter.unusedSimpArgs false
set_option maxRecDepth 8000
namespace Go.Proofs.YtlbbflchkkcdhaaDoor
open Go Go.Dv
open Go.Vc (D shrI xorI andI and255)

def quoteL (c : UInt8) (l : List UInt8) : List UInt8 := l.flatMap fun b => if b = c then [c, c] else [b]
def quoteB (c : UInt8) (s : ByteArray) : ByteArray := ⟨(c :: (quoteL c s.data.toList ++ [c])).toArray⟩
theorem quoteL_len (c : UInt8) (l : List UInt8) : (quoteL c l).length ≤ 2 * l.length := by
  induction l with
  | nil => simp [quoteL]
  | cons b r ih =>
    unfold quoteL at *
    rw [List.flatMap_cons, List.length_append, List.length_cons]
    split <;> simp only [List.length_cons, List.length_nil] <;> omega
theorem quoteL_step {c : UInt8} {l : List UInt8} {i : Nat} (h : i < l.length) : quoteL c (l.take (i + 1)) = quoteL c (l.take i) ++ (if l[i] = c then [c, c] else [l[i]]) := by
  unfold quoteL
  rw [List.take_succ_eq_append_getElem h, List.flatMap_append, List.flatMap_cons, List.flatMap_nil, List.append_nil]
theorem bytesD_snoc (l : List UInt8) (b : UInt8) : bytesD l ++ [D.lit (.int .u8 (b.toNat : Int))] = bytesD (l ++ [b]) := by simp [bytesD]
theorem l2Quote_d (s : ByteArray) (c : UInt8) (hs : s.size ≤ 1048576) : Cl Tryd.prog 35 [vs s, vu (c.toNat : Int)] [] fun r _ => r = vs (quoteB c s) := by
  obtain ⟨l, hl⟩ : ∃ l, l = s.data.toList := ⟨_, rfl⟩
  have hll : l.length = s.size := by rw [hl]; exact size_toList s
  refine cl_of_d follows_mixed false Tryd.func35 rfl (by kernel_rfl) ?_
  simp only [Tryd.f35, z0, z1, z2, z3, z4, z5, z6, z7, z8, z9, z10, z11, z12, z13, z14, z15, z16, z17, z18, t0, t1, t2, t3, t4, t5, t6, dcrs, rngs, reduceIte, Nat.reduceLT, Nat.reduceLeDiff, Nat.reduceEqDiff, Nat.reduceAdd, Nat.reduceMul, Nat.reduceSub, Nat.reduceMod, Nat.reduceDiv, Int.reduceLE, Int.reduceLT, Int.reduceEq, Int.reduceNe, Nat.reduceBEq, ne_eq, reduceCtorEq, not_false_eq_true, implies_true]
  refine dLoop.gh [.ren 8 29] ⟨by decide, by decide, ?_⟩
  refine dLoop0.intro (fun f L p => ∃ (i : Nat) (bs : List UInt8), f 6 = vi i ∧ f 5 = .c (.s 29 bs.length) ∧ i ≤ s.size ∧ bs = c :: quoteL c (l.take i) ∧ L = [(29, .arr 5 bs.length (bytesD bs) none)] ∧ p = none) (fun f _ _ => (s.size - ixS (f 6)).toNat) [(29, .arr 5 1 (bytesD [c]) none)] none ⟨SubO.cons rfl (SubO.nil _), PoSub.none _, ?_⟩ ?_
  · simp only [z0, z1, z2, z3, z4, z5, z6, z7, z8, z9, z10, z11, z12, z13, z14, z15, z16, z17, z18, t0, t1, t2, t3, t4, t5, t6, dcrs, rngs, reduceIte, Nat.reduceLT, Nat.reduceLeDiff, Nat.reduceEqDiff, Nat.reduceAdd, Nat.reduceMul, Nat.reduceSub, Nat.reduceMod, Nat.reduceDiv, Int.reduceLE, Int.reduceLT, Int.reduceEq, Int.reduceNe, Nat.reduceBEq, ne_eq, reduceCtorEq, not_false_eq_true, implies_true]
    exact ⟨0, [c], rfl, rfl, by omega, rfl, rfl⟩
  · rintro g L p ⟨i, bs, h6, h5, hi, hbs, rfl, rfl⟩
    simp only [z0, z1, z2, z3, z4, z5, z6, z7, z8, z9, z10, z11, z12, z13, z14, z15, z16, z17, z18, t0, t1, t2, t3, t4, t5, t6, dcrs, rngs, reduceIte, Nat.reduceLT, Nat.reduceLeDiff, Nat.reduceEqDiff, Nat.reduceAdd, Nat.reduceMul, Nat.reduceSub, Nat.reduceMod, Nat.reduceDiv, Int.reduceLE, Int.reduceLT, Int.reduceEq, Int.reduceNe, Nat.reduceBEq, ne_eq, reduceCtorEq, not_false_eq_true, implies_true] at h6 h5
    have hbl : bs.length ≤ 1 + 2 * i := by
      have := quoteL_len c (l.take i)
      rw [hbs, List.length_cons]
      rw [List.length_take] at this; omega
    simp only [z0, z1, z2, z3, z4, z5, z6, z7, z8, z9, z10, z11, z12, z13, z14, z15, z16, z17, z18, t0, t1, t2, t3, t4, t5, t6, dcrs, rngs, reduceIte, Nat.reduceLT, Nat.reduceLeDiff, Nat.reduceEqDiff, Nat.reduceAdd, Nat.reduceMul, Nat.reduceSub, Nat.reduceMod, Nat.reduceDiv, Int.reduceLE, Int.reduceLT, Int.reduceEq, Int.reduceNe, Nat.reduceBEq, ne_eq, reduceCtorEq, not_false_eq_true, implies_true, h6, h5, Int.ofNat_lt]
    refine fun _ => And.intro (fun hlt => ?_) (fun hge => ?_)
    · have hil : i < l.length := by omega
      rw [pu_at hl hil]
      simp only [z0, z1, z2, z3, z4, z5, z6, z7, z8, z9, z10, z11, z12, z13, z14, z15, z16, z17, z18, t0, t1, t2, t3, t4, t5, t6, dcrs, rngs, reduceIte, Nat.reduceLT, Nat.reduceLeDiff, Nat.reduceEqDiff, Nat.reduceAdd, Nat.reduceMul, Nat.reduceSub, Nat.reduceMod, Nat.reduceDiv, Int.reduceLE, Int.reduceLT, Int.reduceEq, Int.reduceNe, Nat.reduceBEq, ne_eq, reduceCtorEq, not_false_eq_true, implies_true, h6, h5]
      refine And.intro (fun heq => ?_) (fun hne => ?_)
      · have hc : l[i] = c := UInt8.toNat_inj.1 (by omega)
        refine ⟨by kernel_rfl, ⟨by simp only [maxLen]; omega, by omega⟩, ?_⟩
        rw [pu_at hl hil, bytesD_snoc]
        simp only [z0, z1, z2, z3, z4, z5, z6, z7, z8, z9, z10, z11, z12, z13, z14, z15, z16, z17, z18, t0, t1, t2, t3, t4, t5, t6, dcrs, rngs, reduceIte, Nat.reduceLT, Nat.reduceLeDiff, Nat.reduceEqDiff, Nat.reduceAdd, Nat.reduceMul, Nat.reduceSub, Nat.reduceMod, Nat.reduceDiv, Int.reduceLE, Int.reduceLT, Int.reduceEq, Int.reduceNe, Nat.reduceBEq, ne_eq, reduceCtorEq, not_false_eq_true, implies_true, h6, h5]
        refine ⟨by kernel_rfl, ⟨by simp only [maxLen]; omega, by omega⟩, ?_⟩
        rw [bytesD_snoc, wrap_id (n := (i : Int) + 1) (by omega) (by omega)]
        refine ⟨[(29, .arr 5 (bs ++ [c] ++ [l[i]]).length (bytesD (bs ++ [c] ++ [l[i]])) none)], none, SubO.cons (by simp [Go.Dv.look, Nat.add_assoc]) (SubO.nil _), PoSub.none _, ⟨i + 1, bs ++ [c] ++ [l[i]], rfl, by simp, by omega, ?_, rfl, rfl⟩, by simp only [ixS]; omega⟩
        rw [quoteL_step hil, if_pos hc, hbs, hc]; simp
      · have hc : ¬ l[i] = c := fun e => hne (by rw [e])
        rw [pu_at hl hil]
        simp only [z0, z1, z2, z3, z4, z5, z6, z7, z8, z9, z10, z11, z12, z13, z14, z15, z16, z17, z18, t0, t1, t2, t3, t4, t5, t6, dcrs, rngs, reduceIte, Nat.reduceLT, Nat.reduceLeDiff, Nat.reduceEqDiff, Nat.reduceAdd, Nat.reduceMul, Nat.reduceSub, Nat.reduceMod, Nat.reduceDiv, Int.reduceLE, Int.reduceLT, Int.reduceEq, Int.reduceNe, Nat.reduceBEq, ne_eq, reduceCtorEq, not_false_eq_true, implies_true, h6, h5]
        refine ⟨by kernel_rfl, ⟨by simp only [maxLen]; omega, by omega⟩, ?_⟩
        rw [bytesD_snoc, wrap_id (n := (i : Int) + 1) (by omega) (by omega)]
        refine ⟨[(29, .arr 5 (bs ++ [l[i]]).length (bytesD (bs ++ [l[i]])) none)], none, SubO.cons (by simp [Go.Dv.look, Nat.add_assoc]) (SubO.nil _), PoSub.none _, ⟨i + 1, bs ++ [l[i]], rfl, by simp, by omega, ?_, rfl, rfl⟩, by simp only [ixS]; omega⟩
        rw [quoteL_step hil, if_neg hc, hbs]; simp
    · have : i = s.size := by omega
      subst this
      refine ⟨by kernel_rfl, ⟨by simp only [maxLen]; omega, by omega⟩, ?_⟩
      rw [bytesD_snoc]
      refine ⟨by kernel_rfl, by simp only [maxLen]; omega, bs ++ [c], by simp, rfl, ?_⟩
      simp only [z0, z1, z2, z3, z4, z5, z6, z7, z8, z9, z10, z11, z12, z13, z14, z15, z16, z17, z18, t0, t1, t2, t3, t4, t5, t6, dcrs, rngs, reduceIte, Nat.reduceLT, Nat.reduceLeDiff, Nat.reduceEqDiff, Nat.reduceAdd, Nat.reduceMul, Nat.reduceSub, Nat.reduceMod, Nat.reduceDiv, Int.reduceLE, Int.reduceLT, Int.reduceEq, Int.reduceNe, Nat.reduceBEq, ne_eq, reduceCtorEq, not_false_eq_true, implies_true]
      refine ⟨_, _, vsE ?_, end0 rfl⟩
      rw [hbs, ← hll, List.take_length, hl]; rfl

end Go.Proofs.YtlbbflchkkcdhaaDoor

set_option linter.unusedVariables false
set_option linter.unusedSimpArgs false
set_option maxRecDepth 8000
namespace Go.Proofs.YtlbbflchkkcdhaaDoor
open Go Go.Dv
open Go.Vc (D shrI xorI andI and255)
open Go.RowKit (Below)
open Go.Vc (okV)
theorem index_none1 (c : UInt8) : ∀ l : List UInt8, c ∉ l → Lib.index l [c] = -1
  | [], _ => rfl
  | b :: l, h => by
    simp only [List.mem_cons, not_or] at h
    have ih := index_none1 c l h.2
    have hb : ([c] : List UInt8).isPrefixOf (b :: l) = false := by simp [List.isPrefixOf, h.1]
    simp [Lib.index, hb, ih]
theorem index_at1 (c : UInt8) : ∀ a r : List UInt8, c ∉ a → Lib.index (a ++ c :: r) [c] = a.length
  | [], r, _ => by simp [Lib.index, List.isPrefixOf]
  | b :: a, r, h => by
    simp only [List.mem_cons, not_or] at h
    have ih := index_at1 c a r h.2
    have hb : ([c] : List UInt8).isPrefixOf (b :: (a ++ c :: r)) = false := by simp [List.isPrefixOf, h.1]
    have hne : ¬ ((a.length : Int) = -1) := by omega
    simp [Lib.index, hb, ih, hne]
theorem quoteL_none {c : UInt8} : ∀ {l : List UInt8}, c ∉ l → quoteL c l = l
  | [], _ => rfl
  | b :: l, h => by
    simp only [List.mem_cons, not_or] at h
    have ih := quoteL_none h.2
    unfold quoteL at *
    rw [List.flatMap_cons, ih, if_neg (fun e => h.1 e.symm)]; rfl
theorem replaceK_one (c : UInt8) : ∀ (n : Nat) (l : List UInt8), l.length ≤ n → Lib.replaceK [c] [c, c] (Lib.count l [c]) l = quoteL c l := by
  intro n
  induction n with
  | zero =>
    intro l h
    have : l = [] := List.eq_nil_of_length_eq_zero (by omega)
    subst this
    rw [Lib.count_miss (index_none1 c [] (by simp))]; rfl
  | succ n ih =>
    intro l h
    by_cases hc : c ∈ l
    · obtain ⟨a, r, rfl, ha⟩ := List.eq_append_cons_of_mem hc
      have hi := index_at1 c a r ha
      have hdrop : (a ++ c :: r).drop (a.length + [c].length) = r := by
        rw [show a ++ c :: r = (a ++ [c]) ++ r by simp, List.drop_left' (by simp)]
      rw [Lib.count_hit (by simp) hi, Nat.add_comm, Lib.replaceK_hit _ _ _ _ _ hi, hdrop, ih r (by simp at h; omega), List.take_left' rfl]
      unfold quoteL
      rw [List.flatMap_append, List.flatMap_cons, if_pos rfl]
      have := quoteL_none ha
      unfold quoteL at this
      rw [this]; simp
    · rw [Lib.count_miss (index_none1 c l hc), quoteL_none hc]; rfl
theorem replaceAll_one (c : UInt8) (l : List UInt8) : Lib.replaceAll l [c] [c, c] = quoteL c l := by
  have hne : ([c] == [c, c]) = false := by simp
  unfold Lib.replaceAll Lib.replace Lib.replaceNum
  rw [hne, if_neg (by simp), if_pos (by simp)]
  exact replaceK_one c l.length l (Nat.le_refl _)
theorem data_append (a b : ByteArray) : (a ++ b).data.toList = a.data.toList ++ b.data.toList := by rw [ByteArray.data_append, Array.toList_append]
def one (c : UInt8) : ByteArray := ⟨#[c]⟩
theorem two_list (c : UInt8) : (one c ++ one c).data.toList = [c, c] := by rw [data_append]; rfl
theorem ReplaceAll_d (s : ByteArray) (c : UInt8) (hs : s.size ≤ 1048576) : Cl Tryd.prog 53 [vs s, vs (one c), vs (one c ++ one c)] [] fun r _ => r = vs ⟨(quoteL c s.data.toList).toArray⟩ :=
  Cl.ofVals (by kernel_rfl) [.string s, .string (one c), .string (one c ++ one c)] fun w hg => by
    obtain ⟨m, hm⟩ := gl_max hg
    have h2 : (one c ++ one c).size = 2 := by rw [← size_toList, two_list]; rfl
    have hcnt : Lib.countB s (one c) ≤ s.size := Lib.countB_le (one c) (Nat.le_refl 1) s.size s (Nat.le_refl _)
    refine (Any.strings_ReplaceAll Tryd.lays155 Tryd.Builder_Extra_155 s (one c) (one c ++ one c) m w (by omega) hm (Nat.le_refl 1) (by rw [h2]; omega)).mono ?_
    rintro e w' ⟨rfl, hb⟩
    rw [two_list, show (one c).data.toList = [c] from rfl, replaceAll_one]
    refine ⟨_, rfl, ?_, rfl, hb⟩
    show (List.toArray _).size ≤ maxLen
    have := quoteL_len c s.data.toList
    rw [size_toList] at this
    simp only [List.size_toArray, maxLen]; omega
theorem ba_ext {a b : ByteArray} (h : a.data.toList = b.data.toList) : a = b := by
  obtain ⟨⟨x⟩⟩ := a; obtain ⟨⟨y⟩⟩ := b
  simp only at h; rw [h]
theorem size_app (a b : ByteArray) : (a ++ b).size = a.size + b.size := by rw [← size_toList, data_append, List.length_append, size_toList, size_toList]
theorem quoted_d (s : ByteArray) (c : UInt8) (hs : s.size ≤ 1048576) : Cl Tryd.prog 41 [vs s, vs (one c)] [] fun r _ => r = vs (quoteB c s) := by
  have h1 : (one c).size = 1 := rfl
  refine cl_of_d follows_mixed false Tryd.func41 rfl (by kernel_rfl) ?_
  simp only [Tryd.f41, z0, z1, z2, z3, z4, z5, z6, z7, z8, z9, z10, z11, z12, z13, z14, z15, z16, z17, z18, t0, t1, t2, t3, t4, t5, t6, dcrs, rngs, reduceIte, Nat.reduceLT, Nat.reduceLeDiff, Nat.reduceEqDiff, Nat.reduceAdd, Nat.reduceMul, Nat.reduceSub, Nat.reduceMod, Nat.reduceDiv, Int.reduceLE, Int.reduceLT, Int.reduceEq, Int.reduceNe, Nat.reduceBEq, ne_eq, reduceCtorEq, not_false_eq_true, implies_true]
  rw [pu_sadd (by omega)]
  refine call0 (ReplaceAll_d s c hs) ?_ ?_ ?_
  · decide
  · simp only [z0, z1, z2, z3, z4, z5, z6, z7, z8, z9, z10, z11, z12, z13, z14, z15, z16, z17, z18, t0, t1, t2, t3, t4, t5, t6, dcrs, rngs, reduceIte, Nat.reduceLT, Nat.reduceLeDiff, Nat.reduceEqDiff, Nat.reduceAdd, Nat.reduceMul, Nat.reduceSub, Nat.reduceMod, Nat.reduceDiv, Int.reduceLE, Int.reduceLT, Int.reduceEq, Int.reduceNe, Nat.reduceBEq, ne_eq, reduceCtorEq, not_false_eq_true, implies_true]
  rintro r rfl
  simp only [z0, z1, z2, z3, z4, z5, z6, z7, z8, z9, z10, z11, z12, z13, z14, z15, z16, z17, z18, t0, t1, t2, t3, t4, t5, t6, dcrs, rngs, reduceIte, Nat.reduceLT, Nat.reduceLeDiff, Nat.reduceEqDiff, Nat.reduceAdd, Nat.reduceMul, Nat.reduceSub, Nat.reduceMod, Nat.reduceDiv, Int.reduceLE, Int.reduceLT, Int.reduceEq, Int.reduceNe, Nat.reduceBEq, ne_eq, reduceCtorEq, not_false_eq_true, implies_true]
  have hq : (⟨(quoteL c s.data.toList).toArray⟩ : ByteArray).size ≤ 2 * s.size := by
    have := quoteL_len c s.data.toList
    rw [size_toList] at this
    show (List.toArray _).size ≤ _
    simpa using this
  rw [pu_sadd (by omega)]
  simp only [z0, z1, z2, z3, z4, z5, z6, z7, z8, z9, z10, z11, z12, z13, z14, z15, z16, z17, z18, t0, t1, t2, t3, t4, t5, t6, dcrs, rngs, reduceIte, Nat.reduceLT, Nat.reduceLeDiff, Nat.reduceEqDiff, Nat.reduceAdd, Nat.reduceMul, Nat.reduceSub, Nat.reduceMod, Nat.reduceDiv, Int.reduceLE, Int.reduceLT, Int.reduceEq, Int.reduceNe, Nat.reduceBEq, ne_eq, reduceCtorEq, not_false_eq_true, implies_true]
  rw [pu_sadd (by rw [size_app]; omega)]
  simp only [z0, z1, z2, z3, z4, z5, z6, z7, z8, z9, z10, z11, z12, z13, z14, z15, z16, z17, z18, t0, t1, t2, t3, t4, t5, t6, dcrs, rngs, reduceIte, Nat.reduceLT, Nat.reduceLeDiff, Nat.reduceEqDiff, Nat.reduceAdd, Nat.reduceMul, Nat.reduceSub, Nat.reduceMod, Nat.reduceDiv, Int.reduceLE, Int.reduceLT, Int.reduceEq, Int.reduceNe, Nat.reduceBEq, ne_eq, reduceCtorEq, not_false_eq_true, implies_true]
  exact ⟨_, _, vsE (ba_ext (by rw [data_append, data_append]; simp [one, quoteB])), end0 rfl⟩
theorem t39 : (((39 : UInt8).toNat : Nat) : Int) = 39 := rfl
theorem t34 : (((34 : UInt8).toNat : Nat) : Int) = 34 := rfl
def nameT (s : ByteArray) : ByteArray := if 1 ≤ s.size ∧ s.size ≤ 20 then (if plainN s = true then s else quoteB 34 s) else ⟨#[]⟩
theorem QuoteText_d (s : ByteArray) (hs : s.size ≤ 1048576) : Cl Tryd.prog 37 [vs s] [] fun r _ => r = vs (quoteB 39 s) := by
  refine cl_of_d follows_mixed false Tryd.func37 rfl (by kernel_rfl) ?_
  simp only [Tryd.f37, z0, z1, z2, z3, z4, z5, z6, z7, z8, z9, z10, z11, z12, z13, z14, z15, z16, z17, z18, t0, t1, t2, t3, t4, t5, t6, dcrs, rngs, reduceIte, Nat.reduceLT, Nat.reduceLeDiff, Nat.reduceEqDiff, Nat.reduceAdd, Nat.reduceMul, Nat.reduceSub, Nat.reduceMod, Nat.reduceDiv, Int.reduceLE, Int.reduceLT, Int.reduceEq, Int.reduceNe, Nat.reduceBEq, ne_eq, reduceCtorEq, not_false_eq_true, implies_true]
  refine call0 (l2Quote_d s 39 hs) ?_ ?_ ?_
  · decide
  · simp only [z0, z1, z2, z3, z4, z5, z6, z7, z8, z9, z10, z11, z12, z13, z14, z15, z16, z17, z18, t0, t1, t2, t3, t4, t5, t6, dcrs, rngs, reduceIte, Nat.reduceLT, Nat.reduceLeDiff, Nat.reduceEqDiff, Nat.reduceAdd, Nat.reduceMul, Nat.reduceSub, Nat.reduceMod, Nat.reduceDiv, Int.reduceLE, Int.reduceLT, Int.reduceEq, Int.reduceNe, Nat.reduceBEq, ne_eq, reduceCtorEq, not_false_eq_true, implies_true, t39]
  rintro r rfl
  simp only [z0, z1, z2, z3, z4, z5, z6, z7, z8, z9, z10, z11, z12, z13, z14, z15, z16, z17, z18, t0, t1, t2, t3, t4, t5, t6, dcrs, rngs, reduceIte, Nat.reduceLT, Nat.reduceLeDiff, Nat.reduceEqDiff, Nat.reduceAdd, Nat.reduceMul, Nat.reduceSub, Nat.reduceMod, Nat.reduceDiv, Int.reduceLE, Int.reduceLT, Int.reduceEq, Int.reduceNe, Nat.reduceBEq, ne_eq, reduceCtorEq, not_false_eq_true, implies_true, t39]
  exact ⟨_, _, rfl, end0 rfl⟩
theorem iQuoteText_d (s : ByteArray) (hs : s.size ≤ 1048576) : Cl Tryd.prog 45 [vs s] [] fun r _ => r = vs (quoteB 39 s) := by
  refine cl_of_d follows_mixed false Tryd.func45 rfl (by kernel_rfl) ?_
  simp only [Tryd.f45, z0, z1, z2, z3, z4, z5, z6, z7, z8, z9, z10, z11, z12, z13, z14, z15, z16, z17, z18, t0, t1, t2, t3, t4, t5, t6, dcrs, rngs, reduceIte, Nat.reduceLT, Nat.reduceLeDiff, Nat.reduceEqDiff, Nat.reduceAdd, Nat.reduceMul, Nat.reduceSub, Nat.reduceMod, Nat.reduceDiv, Int.reduceLE, Int.reduceLT, Int.reduceEq, Int.reduceNe, Nat.reduceBEq, ne_eq, reduceCtorEq, not_false_eq_true, implies_true]
  refine call0 (quoted_d s 39 hs) ?_ ?_ ?_
  · decide
  · simp only [z0, z1, z2, z3, z4, z5, z6, z7, z8, z9, z10, z11, z12, z13, z14, z15, z16, z17, z18, t0, t1, t2, t3, t4, t5, t6, dcrs, rngs, reduceIte, Nat.reduceLT, Nat.reduceLeDiff, Nat.reduceEqDiff, Nat.reduceAdd, Nat.reduceMul, Nat.reduceSub, Nat.reduceMod, Nat.reduceDiv, Int.reduceLE, Int.reduceLT, Int.reduceEq, Int.reduceNe, Nat.reduceBEq, ne_eq, reduceCtorEq, not_false_eq_true, implies_true, one]
  rintro r rfl
  simp only [z0, z1, z2, z3, z4, z5, z6, z7, z8, z9, z10, z11, z12, z13, z14, z15, z16, z17, z18, t0, t1, t2, t3, t4, t5, t6, dcrs, rngs, reduceIte, Nat.reduceLT, Nat.reduceLeDiff, Nat.reduceEqDiff, Nat.reduceAdd, Nat.reduceMul, Nat.reduceSub, Nat.reduceMod, Nat.reduceDiv, Int.reduceLE, Int.reduceLT, Int.reduceEq, Int.reduceNe, Nat.reduceBEq, ne_eq, reduceCtorEq, not_false_eq_true, implies_true, one]
  exact ⟨_, _, rfl, end0 rfl⟩
theorem NameText_d (s : ByteArray) (hs : s.size ≤ 1048576) : Cl Tryd.prog 23 [vs s] [] fun r _ => r = vs (nameT s) := by
  refine cl_of_d follows_mixed false Tryd.func23 rfl (by kernel_rfl) ?_
  simp only [Tryd.f23, z0, z1, z2, z3, z4, z5, z6, z7, z8, z9, z10, z11, z12, z13, z14, z15, z16, z17, z18, t0, t1, t2, t3, t4, t5, t6, dcrs, rngs, reduceIte, Nat.reduceLT, Nat.reduceLeDiff, Nat.reduceEqDiff, Nat.reduceAdd, Nat.reduceMul, Nat.reduceSub, Nat.reduceMod, Nat.reduceDiv, Int.reduceLE, Int.reduceLT, Int.reduceEq, Int.reduceNe, Nat.reduceBEq, ne_eq, reduceCtorEq, not_false_eq_true, implies_true]
  refine call0 (NameOk_d s) ?_ ?_ ?_
  · decide
  · simp only [z0, z1, z2, z3, z4, z5, z6, z7, z8, z9, z10, z11, z12, z13, z14, z15, z16, z17, z18, t0, t1, t2, t3, t4, t5, t6, dcrs, rngs, reduceIte, Nat.reduceLT, Nat.reduceLeDiff, Nat.reduceEqDiff, Nat.reduceAdd, Nat.reduceMul, Nat.reduceSub, Nat.reduceMod, Nat.reduceDiv, Int.reduceLE, Int.reduceLT, Int.reduceEq, Int.reduceNe, Nat.reduceBEq, ne_eq, reduceCtorEq, not_false_eq_true, implies_true]
  rintro r rfl
  simp only [z0, z1, z2, z3, z4, z5, z6, z7, z8, z9, z10, z11, z12, z13, z14, z15, z16, z17, z18, t0, t1, t2, t3, t4, t5, t6, dcrs, rngs, reduceIte, Nat.reduceLT, Nat.reduceLeDiff, Nat.reduceEqDiff, Nat.reduceAdd, Nat.reduceMul, Nat.reduceSub, Nat.reduceMod, Nat.reduceDiv, Int.reduceLE, Int.reduceLT, Int.reduceEq, Int.reduceNe, Nat.reduceBEq, ne_eq, reduceCtorEq, not_false_eq_true, implies_true]
  refine And.intro (fun h => ?_) (fun h => ?_)
  · exact ⟨_, _, vsE (by rw [nameT, if_neg (by simpa only [Bool.not_eq_true', decide_eq_false_iff_not] using h)]), end0 rfl⟩
  · skip
    refine call0 (PlainName_d s hs) ?_ ?_ ?_
    · decide
    · simp only [z0, z1, z2, z3, z4, z5, z6, z7, z8, z9, z10, z11, z12, z13, z14, z15, z16, z17, z18, t0, t1, t2, t3, t4, t5, t6, dcrs, rngs, reduceIte, Nat.reduceLT, Nat.reduceLeDiff, Nat.reduceEqDiff, Nat.reduceAdd, Nat.reduceMul, Nat.reduceSub, Nat.reduceMod, Nat.reduceDiv, Int.reduceLE, Int.reduceLT, Int.reduceEq, Int.reduceNe, Nat.reduceBEq, ne_eq, reduceCtorEq, not_false_eq_true, implies_true]
    rintro r rfl
    simp only [z0, z1, z2, z3, z4, z5, z6, z7, z8, z9, z10, z11, z12, z13, z14, z15, z16, z17, z18, t0, t1, t2, t3, t4, t5, t6, dcrs, rngs, reduceIte, Nat.reduceLT, Nat.reduceLeDiff, Nat.reduceEqDiff, Nat.reduceAdd, Nat.reduceMul, Nat.reduceSub, Nat.reduceMod, Nat.reduceDiv, Int.reduceLE, Int.reduceLT, Int.reduceEq, Int.reduceNe, Nat.reduceBEq, ne_eq, reduceCtorEq, not_false_eq_true, implies_true]
    have h' : 1 ≤ s.size ∧ s.size ≤ 20 := by simpa only [Bool.not_eq_false', decide_eq_true_eq] using h
    refine And.intro (fun hp => ?_) (fun hp => ?_)
    · exact ⟨_, _, vsE (by rw [nameT, if_pos h', if_pos hp]), end0 rfl⟩
    · skip
      refine call0 (l2Quote_d s 34 hs) ?_ ?_ ?_
      · decide
      · simp only [z0, z1, z2, z3, z4, z5, z6, z7, z8, z9, z10, z11, z12, z13, z14, z15, z16, z17, z18, t0, t1, t2, t3, t4, t5, t6, dcrs, rngs, reduceIte, Nat.reduceLT, Nat.reduceLeDiff, Nat.reduceEqDiff, Nat.reduceAdd, Nat.reduceMul, Nat.reduceSub, Nat.reduceMod, Nat.reduceDiv, Int.reduceLE, Int.reduceLT, Int.reduceEq, Int.reduceNe, Nat.reduceBEq, ne_eq, reduceCtorEq, not_false_eq_true, implies_true, t34]
      rintro r rfl
      simp only [z0, z1, z2, z3, z4, z5, z6, z7, z8, z9, z10, z11, z12, z13, z14, z15, z16, z17, z18, t0, t1, t2, t3, t4, t5, t6, dcrs, rngs, reduceIte, Nat.reduceLT, Nat.reduceLeDiff, Nat.reduceEqDiff, Nat.reduceAdd, Nat.reduceMul, Nat.reduceSub, Nat.reduceMod, Nat.reduceDiv, Int.reduceLE, Int.reduceLT, Int.reduceEq, Int.reduceNe, Nat.reduceBEq, ne_eq, reduceCtorEq, not_false_eq_true, implies_true, t34]
      exact ⟨_, _, vsE (by rw [nameT, if_pos h', if_neg (by rw [hp]; simp)]), end0 rfl⟩
theorem iNameText_d (s : ByteArray) (hs : s.size ≤ 1048576) : Cl Tryd.prog 26 [vs s] [] fun r _ => r = vs (nameT s) := by
  refine cl_of_d follows_mixed false Tryd.func26 rfl (by kernel_rfl) ?_
  simp only [Tryd.f26, z0, z1, z2, z3, z4, z5, z6, z7, z8, z9, z10, z11, z12, z13, z14, z15, z16, z17, z18, t0, t1, t2, t3, t4, t5, t6, dcrs, rngs, reduceIte, Nat.reduceLT, Nat.reduceLeDiff, Nat.reduceEqDiff, Nat.reduceAdd, Nat.reduceMul, Nat.reduceSub, Nat.reduceMod, Nat.reduceDiv, Int.reduceLE, Int.reduceLT, Int.reduceEq, Int.reduceNe, Nat.reduceBEq, ne_eq, reduceCtorEq, not_false_eq_true, implies_true]
  refine call0 (iNameOk_d s) ?_ ?_ ?_
  · decide
  · simp only [z0, z1, z2, z3, z4, z5, z6, z7, z8, z9, z10, z11, z12, z13, z14, z15, z16, z17, z18, t0, t1, t2, t3, t4, t5, t6, dcrs, rngs, reduceIte, Nat.reduceLT, Nat.reduceLeDiff, Nat.reduceEqDiff, Nat.reduceAdd, Nat.reduceMul, Nat.reduceSub, Nat.reduceMod, Nat.reduceDiv, Int.reduceLE, Int.reduceLT, Int.reduceEq, Int.reduceNe, Nat.reduceBEq, ne_eq, reduceCtorEq, not_false_eq_true, implies_true]
  rintro r rfl
  simp only [z0, z1, z2, z3, z4, z5, z6, z7, z8, z9, z10, z11, z12, z13, z14, z15, z16, z17, z18, t0, t1, t2, t3, t4, t5, t6, dcrs, rngs, reduceIte, Nat.reduceLT, Nat.reduceLeDiff, Nat.reduceEqDiff, Nat.reduceAdd, Nat.reduceMul, Nat.reduceSub, Nat.reduceMod, Nat.reduceDiv, Int.reduceLE, Int.reduceLT, Int.reduceEq, Int.reduceNe, Nat.reduceBEq, ne_eq, reduceCtorEq, not_false_eq_true, implies_true]
  refine And.intro (fun h => ?_) (fun h => ?_)
  · exact ⟨_, _, vsE (by rw [nameT, if_neg (by simpa only [Bool.not_eq_true', decide_eq_false_iff_not] using h)]), end0 rfl⟩
  · skip
    refine call0 (iPlainName_d s hs) ?_ ?_ ?_
    · decide
    · simp only [z0, z1, z2, z3, z4, z5, z6, z7, z8, z9, z10, z11, z12, z13, z14, z15, z16, z17, z18, t0, t1, t2, t3, t4, t5, t6, dcrs, rngs, reduceIte, Nat.reduceLT, Nat.reduceLeDiff, Nat.reduceEqDiff, Nat.reduceAdd, Nat.reduceMul, Nat.reduceSub, Nat.reduceMod, Nat.reduceDiv, Int.reduceLE, Int.reduceLT, Int.reduceEq, Int.reduceNe, Nat.reduceBEq, ne_eq, reduceCtorEq, not_false_eq_true, implies_true]
    rintro r rfl
    simp only [z0, z1, z2, z3, z4, z5, z6, z7, z8, z9, z10, z11, z12, z13, z14, z15, z16, z17, z18, t0, t1, t2, t3, t4, t5, t6, dcrs, rngs, reduceIte, Nat.reduceLT, Nat.reduceLeDiff, Nat.reduceEqDiff, Nat.reduceAdd, Nat.reduceMul, Nat.reduceSub, Nat.reduceMod, Nat.reduceDiv, Int.reduceLE, Int.reduceLT, Int.reduceEq, Int.reduceNe, Nat.reduceBEq, ne_eq, reduceCtorEq, not_false_eq_true, implies_true]
    have h' : 1 ≤ s.size ∧ s.size ≤ 20 := by simpa only [Bool.not_eq_false', decide_eq_true_eq] using h
    refine And.intro (fun hp => ?_) (fun hp => ?_)
    · exact ⟨_, _, vsE (by rw [nameT, if_pos h', if_pos hp]), end0 rfl⟩
    · skip
      refine call0 (quoted_d s 34 hs) ?_ ?_ ?_
      · decide
      · simp only [z0, z1, z2, z3, z4, z5, z6, z7, z8, z9, z10, z11, z12, z13, z14, z15, z16, z17, z18, t0, t1, t2, t3, t4, t5, t6, dcrs, rngs, reduceIte, Nat.reduceLT, Nat.reduceLeDiff, Nat.reduceEqDiff, Nat.reduceAdd, Nat.reduceMul, Nat.reduceSub, Nat.reduceMod, Nat.reduceDiv, Int.reduceLE, Int.reduceLT, Int.reduceEq, Int.reduceNe, Nat.reduceBEq, ne_eq, reduceCtorEq, not_false_eq_true, implies_true, one]
      rintro r rfl
      simp only [z0, z1, z2, z3, z4, z5, z6, z7, z8, z9, z10, z11, z12, z13, z14, z15, z16, z17, z18, t0, t1, t2, t3, t4, t5, t6, dcrs, rngs, reduceIte, Nat.reduceLT, Nat.reduceLeDiff, Nat.reduceEqDiff, Nat.reduceAdd, Nat.reduceMul, Nat.reduceSub, Nat.reduceMod, Nat.reduceDiv, Int.reduceLE, Int.reduceLT, Int.reduceEq, Int.reduceNe, Nat.reduceBEq, ne_eq, reduceCtorEq, not_false_eq_true, implies_true, one]
      exact ⟨_, _, vsE (by rw [nameT, if_pos h', if_neg (by rw [hp]; simp)]), end0 rfl⟩

end Go.Proofs.YtlbbflchkkcdhaaDoor

set_option linter.unusedVariables false
set_option linter.unusedSimpArgs false
set_option maxRecDepth 8000
namespace Go.Proofs.YtlbbflchkkcdhaaDoor
open Go Go.Dv
open Go.Vc (D shrI xorI andI and255)

def valOk (v : Val) : Bool :=
  if v.kind = 0 then decide (v.num = 0) && decide (v.text = ⟨#[]⟩) else if v.kind = 1 then decide (v.text = ⟨#[]⟩)
  else if v.kind = 2 then decide (v.num = 0) && decide ((v.text.size : Int) ≤ 200) else if v.kind = 3 then decide (0 ≤ v.num ∧ v.num ≤ 1) && decide (v.text = ⟨#[]⟩) else false
theorem ValueOk_d (v : Val) : Cl Tryd.prog 36 [.ag (csOf v.row)] [] fun r _ => r = vb (valOk v) := by
  rw [Val.row]
  refine cl_of_d follows_mixed false Tryd.func36 rfl (by kernel_rfl) ?_
  simp only [Tryd.f36, z0, z1, z2, z3, z4, z5, z6, z7, z8, z9, z10, z11, z12, z13, z14, z15, z16, z17, z18, t0, t1, t2, t3, t4, t5, t6, dcrs, rngs, reduceIte, Nat.reduceLT, Nat.reduceLeDiff, Nat.reduceEqDiff, Nat.reduceAdd, Nat.reduceMul, Nat.reduceSub, Nat.reduceMod, Nat.reduceDiv, Int.reduceLE, Int.reduceLT, Int.reduceEq, Int.reduceNe, Nat.reduceBEq, ne_eq, reduceCtorEq, not_false_eq_true, implies_true]
  refine And.intro (fun h0 => ?_) (fun h0 => ?_)
  · refine And.intro (fun h => ?_) (fun h => ?_) <;> simp only [z0, z1, z2, z3, z4, z5, z6, z7, z8, z9, z10, z11, z12, z13, z14, z15, z16, z17, z18, t0, t1, t2, t3, t4, t5, t6, dcrs, rngs, reduceIte, Nat.reduceLT, Nat.reduceLeDiff, Nat.reduceEqDiff, Nat.reduceAdd, Nat.reduceMul, Nat.reduceSub, Nat.reduceMod, Nat.reduceDiv, Int.reduceLE, Int.reduceLT, Int.reduceEq, Int.reduceNe, Nat.reduceBEq, ne_eq, reduceCtorEq, not_false_eq_true, implies_true]
    · exact ⟨_, _, vbE (by rw [valOk, if_pos h0, h]; rfl), end0 rfl⟩
    · exact ⟨_, _, vbE (by rw [valOk, if_pos h0, h]; rfl), end0 rfl⟩
  · try simp only [z0, z1, z2, z3, z4, z5, z6, z7, z8, z9, z10, z11, z12, z13, z14, z15, z16, z17, z18, t0, t1, t2, t3, t4, t5, t6, dcrs, rngs, reduceIte, Nat.reduceLT, Nat.reduceLeDiff, Nat.reduceEqDiff, Nat.reduceAdd, Nat.reduceMul, Nat.reduceSub, Nat.reduceMod, Nat.reduceDiv, Int.reduceLE, Int.reduceLT, Int.reduceEq, Int.reduceNe, Nat.reduceBEq, ne_eq, reduceCtorEq, not_false_eq_true, implies_true]
    refine And.intro (fun h1 => ?_) (fun h1 => ?_)
    · exact ⟨_, _, vbE (by rw [valOk, if_neg h0, if_pos h1]), end0 rfl⟩
    · try simp only [z0, z1, z2, z3, z4, z5, z6, z7, z8, z9, z10, z11, z12, z13, z14, z15, z16, z17, z18, t0, t1, t2, t3, t4, t5, t6, dcrs, rngs, reduceIte, Nat.reduceLT, Nat.reduceLeDiff, Nat.reduceEqDiff, Nat.reduceAdd, Nat.reduceMul, Nat.reduceSub, Nat.reduceMod, Nat.reduceDiv, Int.reduceLE, Int.reduceLT, Int.reduceEq, Int.reduceNe, Nat.reduceBEq, ne_eq, reduceCtorEq, not_false_eq_true, implies_true]
      refine And.intro (fun h2 => ?_) (fun h2 => ?_)
      · refine And.intro (fun h => ?_) (fun h => ?_) <;> simp only [z0, z1, z2, z3, z4, z5, z6, z7, z8, z9, z10, z11, z12, z13, z14, z15, z16, z17, z18, t0, t1, t2, t3, t4, t5, t6, dcrs, rngs, reduceIte, Nat.reduceLT, Nat.reduceLeDiff, Nat.reduceEqDiff, Nat.reduceAdd, Nat.reduceMul, Nat.reduceSub, Nat.reduceMod, Nat.reduceDiv, Int.reduceLE, Int.reduceLT, Int.reduceEq, Int.reduceNe, Nat.reduceBEq, ne_eq, reduceCtorEq, not_false_eq_true, implies_true]
        · exact fun _ => ⟨_, _, vbE (by rw [valOk, if_neg h0, if_neg h1, if_pos h2, h]; rfl), end0 rfl⟩
        · exact ⟨_, _, vbE (by rw [valOk, if_neg h0, if_neg h1, if_pos h2, h]; rfl), end0 rfl⟩
      · try simp only [z0, z1, z2, z3, z4, z5, z6, z7, z8, z9, z10, z11, z12, z13, z14, z15, z16, z17, z18, t0, t1, t2, t3, t4, t5, t6, dcrs, rngs, reduceIte, Nat.reduceLT, Nat.reduceLeDiff, Nat.reduceEqDiff, Nat.reduceAdd, Nat.reduceMul, Nat.reduceSub, Nat.reduceMod, Nat.reduceDiv, Int.reduceLE, Int.reduceLT, Int.reduceEq, Int.reduceNe, Nat.reduceBEq, ne_eq, reduceCtorEq, not_false_eq_true, implies_true]
        refine And.intro (fun h3 => ?_) (fun h3 => ?_)
        · try simp only [z0, z1, z2, z3, z4, z5, z6, z7, z8, z9, z10, z11, z12, z13, z14, z15, z16, z17, z18, t0, t1, t2, t3, t4, t5, t6, dcrs, rngs, reduceIte, Nat.reduceLT, Nat.reduceLeDiff, Nat.reduceEqDiff, Nat.reduceAdd, Nat.reduceMul, Nat.reduceSub, Nat.reduceMod, Nat.reduceDiv, Int.reduceLE, Int.reduceLT, Int.reduceEq, Int.reduceNe, Nat.reduceBEq, ne_eq, reduceCtorEq, not_false_eq_true, implies_true]
          refine call0 (l1In_d v.num 0 1) ?_ ?_ ?_
          · decide
          · simp only [z0, z1, z2, z3, z4, z5, z6, z7, z8, z9, z10, z11, z12, z13, z14, z15, z16, z17, z18, t0, t1, t2, t3, t4, t5, t6, dcrs, rngs, reduceIte, Nat.reduceLT, Nat.reduceLeDiff, Nat.reduceEqDiff, Nat.reduceAdd, Nat.reduceMul, Nat.reduceSub, Nat.reduceMod, Nat.reduceDiv, Int.reduceLE, Int.reduceLT, Int.reduceEq, Int.reduceNe, Nat.reduceBEq, ne_eq, reduceCtorEq, not_false_eq_true, implies_true]
          rintro r rfl
          simp only [z0, z1, z2, z3, z4, z5, z6, z7, z8, z9, z10, z11, z12, z13, z14, z15, z16, z17, z18, t0, t1, t2, t3, t4, t5, t6, dcrs, rngs, reduceIte, Nat.reduceLT, Nat.reduceLeDiff, Nat.reduceEqDiff, Nat.reduceAdd, Nat.reduceMul, Nat.reduceSub, Nat.reduceMod, Nat.reduceDiv, Int.reduceLE, Int.reduceLT, Int.reduceEq, Int.reduceNe, Nat.reduceBEq, ne_eq, reduceCtorEq, not_false_eq_true, implies_true]
          cases hn : decide ((0 : Int) ≤ v.num ∧ v.num ≤ 1) <;> simp only [z0, z1, z2, z3, z4, z5, z6, z7, z8, z9, z10, z11, z12, z13, z14, z15, z16, z17, z18, t0, t1, t2, t3, t4, t5, t6, dcrs, rngs, reduceIte, Nat.reduceLT, Nat.reduceLeDiff, Nat.reduceEqDiff, Nat.reduceAdd, Nat.reduceMul, Nat.reduceSub, Nat.reduceMod, Nat.reduceDiv, Int.reduceLE, Int.reduceLT, Int.reduceEq, Int.reduceNe, Nat.reduceBEq, ne_eq, reduceCtorEq, not_false_eq_true, implies_true, hn]
          · exact ⟨_, _, vbE (by rw [valOk, if_neg h0, if_neg h1, if_neg h2, if_pos h3, hn]; rfl), end0 rfl⟩
          · exact ⟨_, _, vbE (by rw [valOk, if_neg h0, if_neg h1, if_neg h2, if_pos h3, hn]; rfl), end0 rfl⟩
        · exact ⟨_, _, vbE (by rw [valOk, if_neg h0, if_neg h1, if_neg h2, if_neg h3]), end0 rfl⟩
theorem iValueOk_d (v : Val) : Cl Tryd.prog 44 [.ag (csOf v.row)] [] fun r _ => r = vb (valOk v) := by
  rw [Val.row]
  refine cl_of_d follows_mixed false Tryd.func44 rfl (by kernel_rfl) ?_
  simp only [Tryd.f44, z0, z1, z2, z3, z4, z5, z6, z7, z8, z9, z10, z11, z12, z13, z14, z15, z16, z17, z18, t0, t1, t2, t3, t4, t5, t6, dcrs, rngs, reduceIte, Nat.reduceLT, Nat.reduceLeDiff, Nat.reduceEqDiff, Nat.reduceAdd, Nat.reduceMul, Nat.reduceSub, Nat.reduceMod, Nat.reduceDiv, Int.reduceLE, Int.reduceLT, Int.reduceEq, Int.reduceNe, Nat.reduceBEq, ne_eq, reduceCtorEq, not_false_eq_true, implies_true]
  refine And.intro (fun h0 => ?_) (fun h0 => ?_)
  · refine And.intro (fun h => ?_) (fun h => ?_) <;> simp only [z0, z1, z2, z3, z4, z5, z6, z7, z8, z9, z10, z11, z12, z13, z14, z15, z16, z17, z18, t0, t1, t2, t3, t4, t5, t6, dcrs, rngs, reduceIte, Nat.reduceLT, Nat.reduceLeDiff, Nat.reduceEqDiff, Nat.reduceAdd, Nat.reduceMul, Nat.reduceSub, Nat.reduceMod, Nat.reduceDiv, Int.reduceLE, Int.reduceLT, Int.reduceEq, Int.reduceNe, Nat.reduceBEq, ne_eq, reduceCtorEq, not_false_eq_true, implies_true]
    · exact ⟨_, _, vbE (by rw [valOk, if_pos h0, h]; rfl), end0 rfl⟩
    · exact ⟨_, _, vbE (by rw [valOk, if_pos h0, h]; rfl), end0 rfl⟩
  · try simp only [z0, z1, z2, z3, z4, z5, z6, z7, z8, z9, z10, z11, z12, z13, z14, z15, z16, z17, z18, t0, t1, t2, t3, t4, t5, t6, dcrs, rngs, reduceIte, Nat.reduceLT, Nat.reduceLeDiff, Nat.reduceEqDiff, Nat.reduceAdd, Nat.reduceMul, Nat.reduceSub, Nat.reduceMod, Nat.reduceDiv, Int.reduceLE, Int.reduceLT, Int.reduceEq, Int.reduceNe, Nat.reduceBEq, ne_eq, reduceCtorEq, not_false_eq_true, implies_true]
    refine And.intro (fun h1 => ?_) (fun h1 => ?_)
    · exact ⟨_, _, vbE (by rw [valOk, if_neg h0, if_pos h1]), end0 rfl⟩
    · try simp only [z0, z1, z2, z3, z4, z5, z6, z7, z8, z9, z10, z11, z12, z13, z14, z15, z16, z17, z18, t0, t1, t2, t3, t4, t5, t6, dcrs, rngs, reduceIte, Nat.reduceLT, Nat.reduceLeDiff, Nat.reduceEqDiff, Nat.reduceAdd, Nat.reduceMul, Nat.reduceSub, Nat.reduceMod, Nat.reduceDiv, Int.reduceLE, Int.reduceLT, Int.reduceEq, Int.reduceNe, Nat.reduceBEq, ne_eq, reduceCtorEq, not_false_eq_true, implies_true]
      refine And.intro (fun h2 => ?_) (fun h2 => ?_)
      · refine And.intro (fun h => ?_) (fun h => ?_) <;> simp only [z0, z1, z2, z3, z4, z5, z6, z7, z8, z9, z10, z11, z12, z13, z14, z15, z16, z17, z18, t0, t1, t2, t3, t4, t5, t6, dcrs, rngs, reduceIte, Nat.reduceLT, Nat.reduceLeDiff, Nat.reduceEqDiff, Nat.reduceAdd, Nat.reduceMul, Nat.reduceSub, Nat.reduceMod, Nat.reduceDiv, Int.reduceLE, Int.reduceLT, Int.reduceEq, Int.reduceNe, Nat.reduceBEq, ne_eq, reduceCtorEq, not_false_eq_true, implies_true]
        · exact fun _ => ⟨_, _, vbE (by rw [valOk, if_neg h0, if_neg h1, if_pos h2, h]; rfl), end0 rfl⟩
        · exact ⟨_, _, vbE (by rw [valOk, if_neg h0, if_neg h1, if_pos h2, h]; rfl), end0 rfl⟩
      · try simp only [z0, z1, z2, z3, z4, z5, z6, z7, z8, z9, z10, z11, z12, z13, z14, z15, z16, z17, z18, t0, t1, t2, t3, t4, t5, t6, dcrs, rngs, reduceIte, Nat.reduceLT, Nat.reduceLeDiff, Nat.reduceEqDiff, Nat.reduceAdd, Nat.reduceMul, Nat.reduceSub, Nat.reduceMod, Nat.reduceDiv, Int.reduceLE, Int.reduceLT, Int.reduceEq, Int.reduceNe, Nat.reduceBEq, ne_eq, reduceCtorEq, not_false_eq_true, implies_true]
        refine And.intro (fun h3 => ?_) (fun h3 => ?_)
        · have fin : ∀ b : Bool, decide ((0 : Int) ≤ v.num ∧ v.num ≤ 1) = b → valOk v = (b && decide (v.text = ⟨#[]⟩)) := fun b hb => by rw [valOk, if_neg h0, if_neg h1, if_neg h2, if_pos h3, hb]
          by_cases hz : v.num = 0
          · simp only [z0, z1, z2, z3, z4, z5, z6, z7, z8, z9, z10, z11, z12, z13, z14, z15, z16, z17, z18, t0, t1, t2, t3, t4, t5, t6, dcrs, rngs, reduceIte, Nat.reduceLT, Nat.reduceLeDiff, Nat.reduceEqDiff, Nat.reduceAdd, Nat.reduceMul, Nat.reduceSub, Nat.reduceMod, Nat.reduceDiv, Int.reduceLE, Int.reduceLT, Int.reduceEq, Int.reduceNe, Nat.reduceBEq, ne_eq, reduceCtorEq, not_false_eq_true, implies_true, decide_eq_true hz]
            exact ⟨_, _, vbE (by rw [fin true (decide_eq_true (by omega))]; rfl), end0 rfl⟩
          · simp only [z0, z1, z2, z3, z4, z5, z6, z7, z8, z9, z10, z11, z12, z13, z14, z15, z16, z17, z18, t0, t1, t2, t3, t4, t5, t6, dcrs, rngs, reduceIte, Nat.reduceLT, Nat.reduceLeDiff, Nat.reduceEqDiff, Nat.reduceAdd, Nat.reduceMul, Nat.reduceSub, Nat.reduceMod, Nat.reduceDiv, Int.reduceLE, Int.reduceLT, Int.reduceEq, Int.reduceNe, Nat.reduceBEq, ne_eq, reduceCtorEq, not_false_eq_true, implies_true, decide_eq_false hz]
            by_cases ho : v.num = 1
            · simp only [z0, z1, z2, z3, z4, z5, z6, z7, z8, z9, z10, z11, z12, z13, z14, z15, z16, z17, z18, t0, t1, t2, t3, t4, t5, t6, dcrs, rngs, reduceIte, Nat.reduceLT, Nat.reduceLeDiff, Nat.reduceEqDiff, Nat.reduceAdd, Nat.reduceMul, Nat.reduceSub, Nat.reduceMod, Nat.reduceDiv, Int.reduceLE, Int.reduceLT, Int.reduceEq, Int.reduceNe, Nat.reduceBEq, ne_eq, reduceCtorEq, not_false_eq_true, implies_true, decide_eq_true ho]
              exact ⟨_, _, vbE (by rw [fin true (decide_eq_true (by omega))]; rfl), end0 rfl⟩
            · simp only [z0, z1, z2, z3, z4, z5, z6, z7, z8, z9, z10, z11, z12, z13, z14, z15, z16, z17, z18, t0, t1, t2, t3, t4, t5, t6, dcrs, rngs, reduceIte, Nat.reduceLT, Nat.reduceLeDiff, Nat.reduceEqDiff, Nat.reduceAdd, Nat.reduceMul, Nat.reduceSub, Nat.reduceMod, Nat.reduceDiv, Int.reduceLE, Int.reduceLT, Int.reduceEq, Int.reduceNe, Nat.reduceBEq, ne_eq, reduceCtorEq, not_false_eq_true, implies_true, decide_eq_false ho]
              exact ⟨_, _, vbE (by rw [fin false (decide_eq_false (by omega))]; rfl), end0 rfl⟩
        · exact ⟨_, _, vbE (by rw [valOk, if_neg h0, if_neg h1, if_neg h2, if_neg h3]), end0 rfl⟩
def valT (v : Val) : ByteArray :=
  if valOk v = false then ⟨#[63]⟩ else if v.kind = 1 then itoaB v.num else if v.kind = 2 then quoteB 39 v.text else if v.kind = 3 then (if v.num = 1 then ⟨#[84, 82, 85, 69]⟩ else ⟨#[70, 65, 76, 83, 69]⟩) else ⟨#[78, 85, 76, 76]⟩
theorem iDigits_d (n : Int) (h0 : -9223372036854775808 ≤ n) (h1 : n ≤ 9223372036854775807) : Cl Tryd.prog 17 [vi n] [] fun r _ => r = vs (itoaB n) := by
  refine cl_of_d follows_mixed false Tryd.func17 rfl (by kernel_rfl) ?_
  simp only [Tryd.f17, z0, z1, z2, z3, z4, z5, z6, z7, z8, z9, z10, z11, z12, z13, z14, z15, z16, z17, z18, t0, t1, t2, t3, t4, t5, t6, dcrs, rngs, reduceIte, Nat.reduceLT, Nat.reduceLeDiff, Nat.reduceEqDiff, Nat.reduceAdd, Nat.reduceMul, Nat.reduceSub, Nat.reduceMod, Nat.reduceDiv, Int.reduceLE, Int.reduceLT, Int.reduceEq, Int.reduceNe, Nat.reduceBEq, ne_eq, reduceCtorEq, not_false_eq_true, implies_true]
  refine call0 (Itoa_d n h0 h1) ?_ ?_ ?_
  · decide
  · simp only [z0, z1, z2, z3, z4, z5, z6, z7, z8, z9, z10, z11, z12, z13, z14, z15, z16, z17, z18, t0, t1, t2, t3, t4, t5, t6, dcrs, rngs, reduceIte, Nat.reduceLT, Nat.reduceLeDiff, Nat.reduceEqDiff, Nat.reduceAdd, Nat.reduceMul, Nat.reduceSub, Nat.reduceMod, Nat.reduceDiv, Int.reduceLE, Int.reduceLT, Int.reduceEq, Int.reduceNe, Nat.reduceBEq, ne_eq, reduceCtorEq, not_false_eq_true, implies_true]
  rintro r rfl
  simp only [z0, z1, z2, z3, z4, z5, z6, z7, z8, z9, z10, z11, z12, z13, z14, z15, z16, z17, z18, t0, t1, t2, t3, t4, t5, t6, dcrs, rngs, reduceIte, Nat.reduceLT, Nat.reduceLeDiff, Nat.reduceEqDiff, Nat.reduceAdd, Nat.reduceMul, Nat.reduceSub, Nat.reduceMod, Nat.reduceDiv, Int.reduceLE, Int.reduceLT, Int.reduceEq, Int.reduceNe, Nat.reduceBEq, ne_eq, reduceCtorEq, not_false_eq_true, implies_true]
  exact ⟨_, _, rfl, end0 rfl⟩

end Go.Proofs.YtlbbflchkkcdhaaDoor

set_option linter.unusedVariables false
set_option linter.unusedSimpArgs false
set_option maxRecDepth 8000
namespace Go.Proofs.YtlbbflchkkcdhaaDoor
open Go Go.Dv
open Go.Vc (D shrI xorI andI and255)

def sg (b : Bool) (k : Nat) : Int := if b = true then -(k : Int) else k
theorem sg_mod (b : Bool) (k : Nat) : (sg b k).tmod 10 = sg b (k % 10) := by
  unfold sg; split
  · rw [Int.neg_tmod]; rfl
  · rfl
theorem sg_div (b : Bool) (k : Nat) : (sg b k).tdiv 10 = sg b (k / 10) := by
  unfold sg; split
  · rw [Int.neg_tdiv]; rfl
  · rfl
theorem sg_zero (b : Bool) (k : Nat) : sg b k = 0 ↔ k = 0 := by unfold sg; split <;> omega
def digC (k : Nat) : UInt8 := UInt8.ofNat (48 + k % 10)
theorem digC_val (k : Nat) : ((digC k).toNat : Int) = 48 + (k % 10 : Nat) := by
  unfold digC
  rw [UInt8.toNat_ofNat']
  omega
theorem decDigits_step {k : Nat} (h : k / 10 ≠ 0) : Lib.decDigits k = Lib.decDigits (k / 10) ++ [digC k] := by
  rw [Lib.decDigits, dif_neg (by omega)]; rfl
theorem decDigits_small {k : Nat} (h : k / 10 = 0) : Lib.decDigits k = [digC k] := by
  have : k % 10 = k := by omega
  rw [Lib.decDigits, dif_pos (by omega), digC, this]
theorem Digits_d (n : Int) (h0 : -9223372036854775808 ≤ n) (h1 : n ≤ 9223372036854775807) : Cl Tryd.prog 12 [vi n] [] fun r _ => r = vs (itoaB n) := by
  obtain ⟨b, hb⟩ : ∃ b, b = decide (n < 0) := ⟨_, rfl⟩
  refine cl_of_d follows_mixed false Tryd.func12 rfl (by kernel_rfl) ?_
  simp only [Tryd.f12, z0, z1, z2, z3, z4, z5, z6, z7, z8, z9, z10, z11, z12, z13, z14, z15, z16, z17, z18, t0, t1, t2, t3, t4, t5, t6, dcrs, rngs, reduceIte, Nat.reduceLT, Nat.reduceLeDiff, Nat.reduceEqDiff, Nat.reduceAdd, Nat.reduceMul, Nat.reduceSub, Nat.reduceMod, Nat.reduceDiv, Int.reduceLE, Int.reduceLT, Int.reduceEq, Int.reduceNe, Nat.reduceBEq, ne_eq, reduceCtorEq, not_false_eq_true, implies_true]
  refine And.intro (fun hz => ?_) (fun hz => ?_)
  · subst hz
    exact ⟨_, _, vsE (show (⟨#[48]⟩ : ByteArray) = itoaB 0 by unfold itoaB Lib.itoa; rw [if_neg (by omega), Lib.decDigits, dif_pos (by decide)]; rfl), end0 rfl⟩
  · rw [← hb]
    refine dLoop.intro (fun f L p => ∃ (k : Nat) (o : List UInt8), f 0 = vi (sg b k) ∧ f 4 = vs ⟨o.toArray⟩ ∧ k ≤ n.natAbs ∧ Lib.decDigits n.natAbs = (if k = 0 then o else Lib.decDigits k ++ o) ∧ L = [] ∧ p = none) (fun f _ _ => (ixS (f 0)).natAbs) [] none ⟨SubO.nil _, PoSub.none _, ?_⟩ ?_
    · simp only [z0, z1, z2, z3, z4, z5, z6, z7, z8, z9, z10, z11, z12, z13, z14, z15, z16, z17, z18, t0, t1, t2, t3, t4, t5, t6, dcrs, rngs, reduceIte, Nat.reduceLT, Nat.reduceLeDiff, Nat.reduceEqDiff, Nat.reduceAdd, Nat.reduceMul, Nat.reduceSub, Nat.reduceMod, Nat.reduceDiv, Int.reduceLE, Int.reduceLT, Int.reduceEq, Int.reduceNe, Nat.reduceBEq, ne_eq, reduceCtorEq, not_false_eq_true, implies_true]
      refine ⟨n.natAbs, [], viE ?_, rfl, Nat.le_refl _, ?_⟩
      · rw [sg, hb]; simp only [decide_eq_true_eq]; split <;> omega
      · rw [if_neg (by omega), List.append_nil]
    · rintro g L p ⟨k, o, hk, ho, hkn, hd, rfl, rfl⟩
      simp only [z0, z1, z2, z3, z4, z5, z6, z7, z8, z9, z10, z11, z12, z13, z14, z15, z16, z17, z18, t0, t1, t2, t3, t4, t5, t6, dcrs, rngs, reduceIte, Nat.reduceLT, Nat.reduceLeDiff, Nat.reduceEqDiff, Nat.reduceAdd, Nat.reduceMul, Nat.reduceSub, Nat.reduceMod, Nat.reduceDiv, Int.reduceLE, Int.reduceLT, Int.reduceEq, Int.reduceNe, Nat.reduceBEq, ne_eq, reduceCtorEq, not_false_eq_true, implies_true] at hk ho
      have hol : o.length ≤ 20 := by
        have h2 := itoa_len h0 h1
        have h3 : (Lib.decDigits n.natAbs).length ≤ 20 := decDigits_len n.natAbs 19 (by omega)
        rw [hd] at h3
        split at h3
        · exact h3
        · rw [List.length_append] at h3; omega
      simp only [z0, z1, z2, z3, z4, z5, z6, z7, z8, z9, z10, z11, z12, z13, z14, z15, z16, z17, z18, t0, t1, t2, t3, t4, t5, t6, dcrs, rngs, reduceIte, Nat.reduceLT, Nat.reduceLeDiff, Nat.reduceEqDiff, Nat.reduceAdd, Nat.reduceMul, Nat.reduceSub, Nat.reduceMod, Nat.reduceDiv, Int.reduceLE, Int.reduceLT, Int.reduceEq, Int.reduceNe, Nat.reduceBEq, ne_eq, reduceCtorEq, not_false_eq_true, implies_true, hk, ho, sg_mod, sg_div]
      refine And.intro (fun hne => ?_) (fun heq => ?_)
      · have hk0 : k ≠ 0 := by
          simp only [Bool.not_eq_true', decide_eq_false_iff_not, sg_zero] at hne; exact hne
        have hdv := digC_val k
        refine And.intro (fun hneg => ?_) (fun hpos => ?_)
        · have hs : sg b (k % 10) = -((k % 10 : Nat) : Int) := by
            unfold sg at hneg ⊢
            split at hneg
            · rename_i h; rw [if_pos h]
            · omega
          have hval : IntKind.u8.wrap (IntKind.i64.wrap (48 + IntKind.i64.wrap (0 - sg b (k % 10)))) = ((digC k).toNat : Int) := by
            rw [hs, wrap_id (n := 0 - -((k % 10 : Nat) : Int)) (by omega) (by omega), wrap_id (by omega) (by omega), IntWalk.u8_in _ (by omega), hdv]; omega
          refine ⟨by kernel_rfl, by decide, [digC k], rfl, by rw [hval]; rfl, ?_⟩
          simp only [z0, z1, z2, z3, z4, z5, z6, z7, z8, z9, z10, z11, z12, z13, z14, z15, z16, z17, z18, t0, t1, t2, t3, t4, t5, t6, dcrs, rngs, reduceIte, Nat.reduceLT, Nat.reduceLeDiff, Nat.reduceEqDiff, Nat.reduceAdd, Nat.reduceMul, Nat.reduceSub, Nat.reduceMod, Nat.reduceDiv, Int.reduceLE, Int.reduceLT, Int.reduceEq, Int.reduceNe, Nat.reduceBEq, ne_eq, reduceCtorEq, not_false_eq_true, implies_true, hk, ho, sg_div]
          have hsz : (⟨[digC k].toArray⟩ : ByteArray).size + (⟨o.toArray⟩ : ByteArray).size = 1 + o.length := by show (List.toArray _).size + (List.toArray _).size = _; simp
          rw [pu_sadd (by rw [hsz]; omega)]
          simp only [z0, z1, z2, z3, z4, z5, z6, z7, z8, z9, z10, z11, z12, z13, z14, z15, z16, z17, z18, t0, t1, t2, t3, t4, t5, t6, dcrs, rngs, reduceIte, Nat.reduceLT, Nat.reduceLeDiff, Nat.reduceEqDiff, Nat.reduceAdd, Nat.reduceMul, Nat.reduceSub, Nat.reduceMod, Nat.reduceDiv, Int.reduceLE, Int.reduceLT, Int.reduceEq, Int.reduceNe, Nat.reduceBEq, ne_eq, reduceCtorEq, not_false_eq_true, implies_true, hk, ho, sg_div]
          rw [wrap_id (n := sg b (k / 10)) (by rw [sg]; split <;> omega) (by rw [sg]; split <;> omega)]
          refine ⟨[], none, SubO.nil _, PoSub.none _, ⟨k / 10, digC k :: o, rfl, vsE (ba_ext (by rw [data_append]; simp)), by omega, ?_, rfl, rfl⟩, ?_⟩
          · rw [hd, if_neg hk0]
            split
            · rename_i h; rw [decDigits_small h]; rfl
            · rename_i h; rw [decDigits_step h]; simp
          · simp only [ixS, sg]; split <;> omega
        · have hs : sg b (k % 10) = ((k % 10 : Nat) : Int) := by
            unfold sg at hpos ⊢
            split at hpos
            · rename_i h; rw [if_pos h]; omega
            · rename_i h; rw [if_neg h]
          have hval : IntKind.u8.wrap (IntKind.i64.wrap (48 + sg b (k % 10))) = ((digC k).toNat : Int) := by
            rw [hs, wrap_id (by omega) (by omega), IntWalk.u8_in _ (by omega), hdv]
          refine ⟨by kernel_rfl, by decide, [digC k], rfl, by rw [hval]; rfl, ?_⟩
          simp only [z0, z1, z2, z3, z4, z5, z6, z7, z8, z9, z10, z11, z12, z13, z14, z15, z16, z17, z18, t0, t1, t2, t3, t4, t5, t6, dcrs, rngs, reduceIte, Nat.reduceLT, Nat.reduceLeDiff, Nat.reduceEqDiff, Nat.reduceAdd, Nat.reduceMul, Nat.reduceSub, Nat.reduceMod, Nat.reduceDiv, Int.reduceLE, Int.reduceLT, Int.reduceEq, Int.reduceNe, Nat.reduceBEq, ne_eq, reduceCtorEq, not_false_eq_true, implies_true, hk, ho, sg_div]
          have hsz : (⟨[digC k].toArray⟩ : ByteArray).size + (⟨o.toArray⟩ : ByteArray).size = 1 + o.length := by show (List.toArray _).size + (List.toArray _).size = _; simp
          rw [pu_sadd (by rw [hsz]; omega)]
          simp only [z0, z1, z2, z3, z4, z5, z6, z7, z8, z9, z10, z11, z12, z13, z14, z15, z16, z17, z18, t0, t1, t2, t3, t4, t5, t6, dcrs, rngs, reduceIte, Nat.reduceLT, Nat.reduceLeDiff, Nat.reduceEqDiff, Nat.reduceAdd, Nat.reduceMul, Nat.reduceSub, Nat.reduceMod, Nat.reduceDiv, Int.reduceLE, Int.reduceLT, Int.reduceEq, Int.reduceNe, Nat.reduceBEq, ne_eq, reduceCtorEq, not_false_eq_true, implies_true, hk, ho, sg_div]
          rw [wrap_id (n := sg b (k / 10)) (by rw [sg]; split <;> omega) (by rw [sg]; split <;> omega)]
          refine ⟨[], none, SubO.nil _, PoSub.none _, ⟨k / 10, digC k :: o, rfl, vsE (ba_ext (by rw [data_append]; simp)), by omega, ?_, rfl, rfl⟩, ?_⟩
          · rw [hd, if_neg hk0]
            split
            · rename_i h; rw [decDigits_small h]; rfl
            · rename_i h; rw [decDigits_step h]; simp
          · simp only [ixS, sg]; split <;> omega
      · have hk0 : k = 0 := by
          simp only [Bool.not_eq_false', decide_eq_true_eq, sg_zero] at heq; exact heq
        subst hk0
        rw [if_pos rfl] at hd
        refine And.intro (fun hb1 => ?_) (fun hb0 => ?_)
        · have hn : n < 0 := by rw [hb] at hb1; exact of_decide_eq_true hb1
          have hsz : (⟨#[45]⟩ : ByteArray).size + (⟨o.toArray⟩ : ByteArray).size = 1 + o.length := by show 1 + (List.toArray _).size = _; simp
          rw [pu_sadd (by rw [hsz]; omega)]
          simp only [z0, z1, z2, z3, z4, z5, z6, z7, z8, z9, z10, z11, z12, z13, z14, z15, z16, z17, z18, t0, t1, t2, t3, t4, t5, t6, dcrs, rngs, reduceIte, Nat.reduceLT, Nat.reduceLeDiff, Nat.reduceEqDiff, Nat.reduceAdd, Nat.reduceMul, Nat.reduceSub, Nat.reduceMod, Nat.reduceDiv, Int.reduceLE, Int.reduceLT, Int.reduceEq, Int.reduceNe, Nat.reduceBEq, ne_eq, reduceCtorEq, not_false_eq_true, implies_true]
          exact ⟨_, _, vsE (ba_ext (by rw [data_append]; simp [itoaB, Lib.itoa, hn, hd])), end0 rfl⟩
        · have hn : ¬ n < 0 := by rw [hb] at hb0; exact of_decide_eq_false hb0
          have e : n.toNat = n.natAbs := by omega
          exact ⟨_, _, vsE (ba_ext (by simp [itoaB, Lib.itoa, hn, e, hd])), end0 rfl⟩

end Go.Proofs.YtlbbflchkkcdhaaDoor

set_option linter.unusedVariables false
set_option linter.unusedSimpArgs false
set_option maxRecDepth 8000
namespace Go.Proofs.YtlbbflchkkcdhaaDoor
open Go Go.Dv
open Go.Vc (D shrI xorI andI and255)
theorem ValueText_d (v : Val) (h0 : -9223372036854775808 ≤ v.num) (h1 : v.num ≤ 9223372036854775807) (hs : v.text.size ≤ 1048576) : Cl Tryd.prog 24 [.ag (csOf v.row)] [] fun r _ => r = vs (valT v) := by
  rw [Val.row]
  refine cl_of_d follows_mixed false Tryd.func24 rfl (by kernel_rfl) ?_
  simp only [Tryd.f24, z0, z1, z2, z3, z4, z5, z6, z7, z8, z9, z10, z11, z12, z13, z14, z15, z16, z17, z18, t0, t1, t2, t3, t4, t5, t6, dcrs, rngs, reduceIte, Nat.reduceLT, Nat.reduceLeDiff, Nat.reduceEqDiff, Nat.reduceAdd, Nat.reduceMul, Nat.reduceSub, Nat.reduceMod, Nat.reduceDiv, Int.reduceLE, Int.reduceLT, Int.reduceEq, Int.reduceNe, Nat.reduceBEq, ne_eq, reduceCtorEq, not_false_eq_true, implies_true]
  refine call0 (ValueOk_d v) ?_ ?_ ?_
  · decide
  · simp only [z0, z1, z2, z3, z4, z5, z6, z7, z8, z9, z10, z11, z12, z13, z14, z15, z16, z17, z18, t0, t1, t2, t3, t4, t5, t6, dcrs, rngs, reduceIte, Nat.reduceLT, Nat.reduceLeDiff, Nat.reduceEqDiff, Nat.reduceAdd, Nat.reduceMul, Nat.reduceSub, Nat.reduceMod, Nat.reduceDiv, Int.reduceLE, Int.reduceLT, Int.reduceEq, Int.reduceNe, Nat.reduceBEq, ne_eq, reduceCtorEq, not_false_eq_true, implies_true, Val.row]
  rintro r rfl
  simp only [z0, z1, z2, z3, z4, z5, z6, z7, z8, z9, z10, z11, z12, z13, z14, z15, z16, z17, z18, t0, t1, t2, t3, t4, t5, t6, dcrs, rngs, reduceIte, Nat.reduceLT, Nat.reduceLeDiff, Nat.reduceEqDiff, Nat.reduceAdd, Nat.reduceMul, Nat.reduceSub, Nat.reduceMod, Nat.reduceDiv, Int.reduceLE, Int.reduceLT, Int.reduceEq, Int.reduceNe, Nat.reduceBEq, ne_eq, reduceCtorEq, not_false_eq_true, implies_true, Val.row]
  refine And.intro (fun hk => ?_) (fun hk => ?_)
  · exact ⟨_, _, vsE (by rw [valT, if_pos (by simpa only [Bool.not_eq_true'] using hk)]), end0 rfl⟩
  · have hk' : ¬ valOk v = false := by simpa only [Bool.not_eq_false', Bool.not_eq_false] using hk
    refine And.intro (fun k1 => ?_) (fun k1 => ?_)
    · skip
      refine call0 (Digits_d v.num h0 h1) ?_ ?_ ?_
      · decide
      · simp only [z0, z1, z2, z3, z4, z5, z6, z7, z8, z9, z10, z11, z12, z13, z14, z15, z16, z17, z18, t0, t1, t2, t3, t4, t5, t6, dcrs, rngs, reduceIte, Nat.reduceLT, Nat.reduceLeDiff, Nat.reduceEqDiff, Nat.reduceAdd, Nat.reduceMul, Nat.reduceSub, Nat.reduceMod, Nat.reduceDiv, Int.reduceLE, Int.reduceLT, Int.reduceEq, Int.reduceNe, Nat.reduceBEq, ne_eq, reduceCtorEq, not_false_eq_true, implies_true, Val.row]
      rintro r rfl
      simp only [z0, z1, z2, z3, z4, z5, z6, z7, z8, z9, z10, z11, z12, z13, z14, z15, z16, z17, z18, t0, t1, t2, t3, t4, t5, t6, dcrs, rngs, reduceIte, Nat.reduceLT, Nat.reduceLeDiff, Nat.reduceEqDiff, Nat.reduceAdd, Nat.reduceMul, Nat.reduceSub, Nat.reduceMod, Nat.reduceDiv, Int.reduceLE, Int.reduceLT, Int.reduceEq, Int.reduceNe, Nat.reduceBEq, ne_eq, reduceCtorEq, not_false_eq_true, implies_true, Val.row]
      exact ⟨_, _, vsE (by rw [valT, if_neg hk', if_pos k1]), end0 rfl⟩
    · try simp only [z0, z1, z2, z3, z4, z5, z6, z7, z8, z9, z10, z11, z12, z13, z14, z15, z16, z17, z18, t0, t1, t2, t3, t4, t5, t6, dcrs, rngs, reduceIte, Nat.reduceLT, Nat.reduceLeDiff, Nat.reduceEqDiff, Nat.reduceAdd, Nat.reduceMul, Nat.reduceSub, Nat.reduceMod, Nat.reduceDiv, Int.reduceLE, Int.reduceLT, Int.reduceEq, Int.reduceNe, Nat.reduceBEq, ne_eq, reduceCtorEq, not_false_eq_true, implies_true]
      refine And.intro (fun k2 => ?_) (fun k2 => ?_)
      · skip
        refine call0 (QuoteText_d v.text hs) ?_ ?_ ?_
        · decide
        · simp only [z0, z1, z2, z3, z4, z5, z6, z7, z8, z9, z10, z11, z12, z13, z14, z15, z16, z17, z18, t0, t1, t2, t3, t4, t5, t6, dcrs, rngs, reduceIte, Nat.reduceLT, Nat.reduceLeDiff, Nat.reduceEqDiff, Nat.reduceAdd, Nat.reduceMul, Nat.reduceSub, Nat.reduceMod, Nat.reduceDiv, Int.reduceLE, Int.reduceLT, Int.reduceEq, Int.reduceNe, Nat.reduceBEq, ne_eq, reduceCtorEq, not_false_eq_true, implies_true, Val.row]
        rintro r rfl
        simp only [z0, z1, z2, z3, z4, z5, z6, z7, z8, z9, z10, z11, z12, z13, z14, z15, z16, z17, z18, t0, t1, t2, t3, t4, t5, t6, dcrs, rngs, reduceIte, Nat.reduceLT, Nat.reduceLeDiff, Nat.reduceEqDiff, Nat.reduceAdd, Nat.reduceMul, Nat.reduceSub, Nat.reduceMod, Nat.reduceDiv, Int.reduceLE, Int.reduceLT, Int.reduceEq, Int.reduceNe, Nat.reduceBEq, ne_eq, reduceCtorEq, not_false_eq_true, implies_true, Val.row]
        exact ⟨_, _, vsE (by rw [valT, if_neg hk', if_neg k1, if_pos k2]), end0 rfl⟩
      · try simp only [z0, z1, z2, z3, z4, z5, z6, z7, z8, z9, z10, z11, z12, z13, z14, z15, z16, z17, z18, t0, t1, t2, t3, t4, t5, t6, dcrs, rngs, reduceIte, Nat.reduceLT, Nat.reduceLeDiff, Nat.reduceEqDiff, Nat.reduceAdd, Nat.reduceMul, Nat.reduceSub, Nat.reduceMod, Nat.reduceDiv, Int.reduceLE, Int.reduceLT, Int.reduceEq, Int.reduceNe, Nat.reduceBEq, ne_eq, reduceCtorEq, not_false_eq_true, implies_true]
        refine And.intro (fun k3 => ?_) (fun k3 => ?_)
        · try simp only [z0, z1, z2, z3, z4, z5, z6, z7, z8, z9, z10, z11, z12, z13, z14, z15, z16, z17, z18, t0, t1, t2, t3, t4, t5, t6, dcrs, rngs, reduceIte, Nat.reduceLT, Nat.reduceLeDiff, Nat.reduceEqDiff, Nat.reduceAdd, Nat.reduceMul, Nat.reduceSub, Nat.reduceMod, Nat.reduceDiv, Int.reduceLE, Int.reduceLT, Int.reduceEq, Int.reduceNe, Nat.reduceBEq, ne_eq, reduceCtorEq, not_false_eq_true, implies_true]
          refine And.intro (fun k4 => ?_) (fun k4 => ?_)
          · exact ⟨_, _, vsE (by rw [valT, if_neg hk', if_neg k1, if_neg k2, if_pos k3, if_pos k4]), end0 rfl⟩
          · exact ⟨_, _, vsE (by rw [valT, if_neg hk', if_neg k1, if_neg k2, if_pos k3, if_neg k4]), end0 rfl⟩
        · exact ⟨_, _, vsE (by rw [valT, if_neg hk', if_neg k1, if_neg k2, if_neg k3]), end0 rfl⟩
theorem iValueText_d (v : Val) (h0 : -9223372036854775808 ≤ v.num) (h1 : v.num ≤ 9223372036854775807) (hs : v.text.size ≤ 1048576) : Cl Tryd.prog 29 [.ag (csOf v.row)] [] fun r _ => r = vs (valT v) := by
  rw [Val.row]
  refine cl_of_d follows_mixed false Tryd.func29 rfl (by kernel_rfl) ?_
  simp only [Tryd.f29, z0, z1, z2, z3, z4, z5, z6, z7, z8, z9, z10, z11, z12, z13, z14, z15, z16, z17, z18, t0, t1, t2, t3, t4, t5, t6, dcrs, rngs, reduceIte, Nat.reduceLT, Nat.reduceLeDiff, Nat.reduceEqDiff, Nat.reduceAdd, Nat.reduceMul, Nat.reduceSub, Nat.reduceMod, Nat.reduceDiv, Int.reduceLE, Int.reduceLT, Int.reduceEq, Int.reduceNe, Nat.reduceBEq, ne_eq, reduceCtorEq, not_false_eq_true, implies_true]
  refine call0 (iValueOk_d v) ?_ ?_ ?_
  · decide
  · simp only [z0, z1, z2, z3, z4, z5, z6, z7, z8, z9, z10, z11, z12, z13, z14, z15, z16, z17, z18, t0, t1, t2, t3, t4, t5, t6, dcrs, rngs, reduceIte, Nat.reduceLT, Nat.reduceLeDiff, Nat.reduceEqDiff, Nat.reduceAdd, Nat.reduceMul, Nat.reduceSub, Nat.reduceMod, Nat.reduceDiv, Int.reduceLE, Int.reduceLT, Int.reduceEq, Int.reduceNe, Nat.reduceBEq, ne_eq, reduceCtorEq, not_false_eq_true, implies_true, Val.row]
  rintro r rfl
  simp only [z0, z1, z2, z3, z4, z5, z6, z7, z8, z9, z10, z11, z12, z13, z14, z15, z16, z17, z18, t0, t1, t2, t3, t4, t5, t6, dcrs, rngs, reduceIte, Nat.reduceLT, Nat.reduceLeDiff, Nat.reduceEqDiff, Nat.reduceAdd, Nat.reduceMul, Nat.reduceSub, Nat.reduceMod, Nat.reduceDiv, Int.reduceLE, Int.reduceLT, Int.reduceEq, Int.reduceNe, Nat.reduceBEq, ne_eq, reduceCtorEq, not_false_eq_true, implies_true, Val.row]
  refine And.intro (fun hk => ?_) (fun hk => ?_)
  · exact ⟨_, _, vsE (by rw [valT, if_pos (by simpa only [Bool.not_eq_true'] using hk)]), end0 rfl⟩
  · have hk' : ¬ valOk v = false := by simpa only [Bool.not_eq_false', Bool.not_eq_false] using hk
    refine And.intro (fun k1 => ?_) (fun k1 => ?_)
    · skip
      refine call0 (iDigits_d v.num h0 h1) ?_ ?_ ?_
      · decide
      · simp only [z0, z1, z2, z3, z4, z5, z6, z7, z8, z9, z10, z11, z12, z13, z14, z15, z16, z17, z18, t0, t1, t2, t3, t4, t5, t6, dcrs, rngs, reduceIte, Nat.reduceLT, Nat.reduceLeDiff, Nat.reduceEqDiff, Nat.reduceAdd, Nat.reduceMul, Nat.reduceSub, Nat.reduceMod, Nat.reduceDiv, Int.reduceLE, Int.reduceLT, Int.reduceEq, Int.reduceNe, Nat.reduceBEq, ne_eq, reduceCtorEq, not_false_eq_true, implies_true, Val.row]
      rintro r rfl
      simp only [z0, z1, z2, z3, z4, z5, z6, z7, z8, z9, z10, z11, z12, z13, z14, z15, z16, z17, z18, t0, t1, t2, t3, t4, t5, t6, dcrs, rngs, reduceIte, Nat.reduceLT, Nat.reduceLeDiff, Nat.reduceEqDiff, Nat.reduceAdd, Nat.reduceMul, Nat.reduceSub, Nat.reduceMod, Nat.reduceDiv, Int.reduceLE, Int.reduceLT, Int.reduceEq, Int.reduceNe, Nat.reduceBEq, ne_eq, reduceCtorEq, not_false_eq_true, implies_true, Val.row]
      exact ⟨_, _, vsE (by rw [valT, if_neg hk', if_pos k1]), end0 rfl⟩
    · try simp only [z0, z1, z2, z3, z4, z5, z6, z7, z8, z9, z10, z11, z12, z13, z14, z15, z16, z17, z18, t0, t1, t2, t3, t4, t5, t6, dcrs, rngs, reduceIte, Nat.reduceLT, Nat.reduceLeDiff, Nat.reduceEqDiff, Nat.reduceAdd, Nat.reduceMul, Nat.reduceSub, Nat.reduceMod, Nat.reduceDiv, Int.reduceLE, Int.reduceLT, Int.reduceEq, Int.reduceNe, Nat.reduceBEq, ne_eq, reduceCtorEq, not_false_eq_true, implies_true]
      refine And.intro (fun k2 => ?_) (fun k2 => ?_)
      · skip
        refine call0 (iQuoteText_d v.text hs) ?_ ?_ ?_
        · decide
        · simp only [z0, z1, z2, z3, z4, z5, z6, z7, z8, z9, z10, z11, z12, z13, z14, z15, z16, z17, z18, t0, t1, t2, t3, t4, t5, t6, dcrs, rngs, reduceIte, Nat.reduceLT, Nat.reduceLeDiff, Nat.reduceEqDiff, Nat.reduceAdd, Nat.reduceMul, Nat.reduceSub, Nat.reduceMod, Nat.reduceDiv, Int.reduceLE, Int.reduceLT, Int.reduceEq, Int.reduceNe, Nat.reduceBEq, ne_eq, reduceCtorEq, not_false_eq_true, implies_true, Val.row]
        rintro r rfl
        simp only [z0, z1, z2, z3, z4, z5, z6, z7, z8, z9, z10, z11, z12, z13, z14, z15, z16, z17, z18, t0, t1, t2, t3, t4, t5, t6, dcrs, rngs, reduceIte, Nat.reduceLT, Nat.reduceLeDiff, Nat.reduceEqDiff, Nat.reduceAdd, Nat.reduceMul, Nat.reduceSub, Nat.reduceMod, Nat.reduceDiv, Int.reduceLE, Int.reduceLT, Int.reduceEq, Int.reduceNe, Nat.reduceBEq, ne_eq, reduceCtorEq, not_false_eq_true, implies_true, Val.row]
        exact ⟨_, _, vsE (by rw [valT, if_neg hk', if_neg k1, if_pos k2]), end0 rfl⟩
      · try simp only [z0, z1, z2, z3, z4, z5, z6, z7, z8, z9, z10, z11, z12, z13, z14, z15, z16, z17, z18, t0, t1, t2, t3, t4, t5, t6, dcrs, rngs, reduceIte, Nat.reduceLT, Nat.reduceLeDiff, Nat.reduceEqDiff, Nat.reduceAdd, Nat.reduceMul, Nat.reduceSub, Nat.reduceMod, Nat.reduceDiv, Int.reduceLE, Int.reduceLT, Int.reduceEq, Int.reduceNe, Nat.reduceBEq, ne_eq, reduceCtorEq, not_false_eq_true, implies_true]
        refine And.intro (fun k3 => ?_) (fun k3 => ?_)
        · try simp only [z0, z1, z2, z3, z4, z5, z6, z7, z8, z9, z10, z11, z12, z13, z14, z15, z16, z17, z18, t0, t1, t2, t3, t4, t5, t6, dcrs, rngs, reduceIte, Nat.reduceLT, Nat.reduceLeDiff, Nat.reduceEqDiff, Nat.reduceAdd, Nat.reduceMul, Nat.reduceSub, Nat.reduceMod, Nat.reduceDiv, Int.reduceLE, Int.reduceLT, Int.reduceEq, Int.reduceNe, Nat.reduceBEq, ne_eq, reduceCtorEq, not_false_eq_true, implies_true]
          refine And.intro (fun k4 => ?_) (fun k4 => ?_)
          · exact ⟨_, _, vsE (by rw [valT, if_neg hk', if_neg k1, if_neg k2, if_pos k3, if_pos k4]), end0 rfl⟩
          · exact ⟨_, _, vsE (by rw [valT, if_neg hk', if_neg k1, if_neg k2, if_pos k3, if_neg k4]), end0 rfl⟩
        · exact ⟨_, _, vsE (by rw [valT, if_neg hk', if_neg k1, if_neg k2, if_neg k3]), end0 rfl⟩

def fw : List ByteArray := [⟨#[111, 107]⟩, ⟨#[116, 97, 98, 108, 101]⟩, ⟨#[97, 108, 105, 97, 115]⟩, ⟨#[110, 97, 109, 101]⟩, ⟨#[109, 97, 110, 121]⟩, ⟨#[116, 121, 112, 101]⟩, ⟨#[99, 111, 117, 110, 116]⟩, ⟨#[115, 116, 97, 114]⟩, ⟨#[119, 105, 100, 101]⟩, ⟨#[102, 111, 114, 109]⟩]
theorem fw_row : ([D.lit (.string ⟨#[111, 107]⟩), D.lit (.string ⟨#[116, 97, 98, 108, 101]⟩), D.lit (.string ⟨#[97, 108, 105, 97, 115]⟩), D.lit (.string ⟨#[110, 97, 109, 101]⟩), D.lit (.string ⟨#[109, 97, 110, 121]⟩), D.lit (.string ⟨#[116, 121, 112, 101]⟩), D.lit (.string ⟨#[99, 111, 117, 110, 116]⟩), D.lit (.string ⟨#[115, 116, 97, 114]⟩), D.lit (.string ⟨#[119, 105, 100, 101]⟩), D.lit (.string ⟨#[102, 111, 114, 109]⟩)] : List D) = fw.flatMap srow := rfl
def fcode (c : Int) : ByteArray := if 0 ≤ c ∧ c ≤ 9 then fw.getD c.toNat ⟨#[]⟩ else ⟨#[63]⟩
def faT (f : Fa) : ByteArray := if f.name = ⟨#[]⟩ then fcode f.code else fcode f.code ++ ⟨#[32]⟩ ++ nameT f.name
theorem fcode_size (c : Int) : (fcode c).size ≤ 5 := by
  unfold fcode
  split
  · have : ∀ i, (fw.getD i ⟨#[]⟩).size ≤ 5 := fun i => by
      by_cases h : i < 10
      · have : ∀ i : Fin 10, (fw.getD i.1 ⟨#[]⟩).size ≤ 5 := by decide
        exact this ⟨i, h⟩
      · rw [List.getD_eq_getElem?_getD, List.getElem?_eq_none (by show 10 ≤ i; omega)]; decide
    exact this _
  · decide
theorem nameT_size (s : ByteArray) : (nameT s).size ≤ 42 := by
  unfold nameT
  split
  · rename_i h
    split
    · omega
    · have := quoteL_len 34 s.data.toList
      rw [size_toList] at this
      show (List.toArray _).size ≤ 42
      simp only [List.size_toArray, List.length_cons, List.length_append, List.length_nil]; omega
  · decide
theorem fcode_in {c : Int} (h : 0 ≤ c ∧ c ≤ 9) (hlt : c.toNat < fw.length) : fcode c = fw[c.toNat] := by
  rw [fcode, if_pos h, List.getD_eq_getElem?_getD, List.getElem?_eq_getElem hlt]; rfl
theorem fcode_out {c : Int} (h : ¬ (0 ≤ c ∧ c ≤ 9)) : fcode c = ⟨#[63]⟩ := if_neg h
theorem sp_size : (⟨#[32]⟩ : ByteArray).size = 1 := rfl
theorem RFaultText_d (f : Fa) (hs : f.name.size ≤ 1048576) : Cl Tryd.prog 11 [.ag (csOf f.row)] [] fun r _ => r = vs (faT f) := by
  rw [Fa.row]
  have hcs := fcode_size f.code
  have hns := nameT_size f.name
  refine cl_of_d follows_mixed false Tryd.func11 rfl (by kernel_rfl) ?_
  simp only [Tryd.f11, z0, z1, z2, z3, z4, z5, z6, z7, z8, z9, z10, z11, z12, z13, z14, z15, z16, z17, z18, t0, t1, t2, t3, t4, t5, t6, dcrs, rngs, reduceIte, Nat.reduceLT, Nat.reduceLeDiff, Nat.reduceEqDiff, Nat.reduceAdd, Nat.reduceMul, Nat.reduceSub, Nat.reduceMod, Nat.reduceDiv, Int.reduceLE, Int.reduceLT, Int.reduceEq, Int.reduceNe, Nat.reduceBEq, ne_eq, reduceCtorEq, not_false_eq_true, implies_true]
  refine call0 (l1In_d f.code 0 9) ?_ ?_ ?_
  · decide
  · simp only [z0, z1, z2, z3, z4, z5, z6, z7, z8, z9, z10, z11, z12, z13, z14, z15, z16, z17, z18, t0, t1, t2, t3, t4, t5, t6, dcrs, rngs, reduceIte, Nat.reduceLT, Nat.reduceLeDiff, Nat.reduceEqDiff, Nat.reduceAdd, Nat.reduceMul, Nat.reduceSub, Nat.reduceMod, Nat.reduceDiv, Int.reduceLE, Int.reduceLT, Int.reduceEq, Int.reduceNe, Nat.reduceBEq, ne_eq, reduceCtorEq, not_false_eq_true, implies_true, Fa.row]
  rintro r rfl
  simp only [z0, z1, z2, z3, z4, z5, z6, z7, z8, z9, z10, z11, z12, z13, z14, z15, z16, z17, z18, t0, t1, t2, t3, t4, t5, t6, dcrs, rngs, reduceIte, Nat.reduceLT, Nat.reduceLeDiff, Nat.reduceEqDiff, Nat.reduceAdd, Nat.reduceMul, Nat.reduceSub, Nat.reduceMod, Nat.reduceDiv, Int.reduceLE, Int.reduceLT, Int.reduceEq, Int.reduceNe, Nat.reduceBEq, ne_eq, reduceCtorEq, not_false_eq_true, implies_true, Fa.row]
  refine And.intro (fun hc => ?_) (fun hc => ?_)
  · have hlt : f.code.toNat < fw.length := by show _ < 10; omega
    refine ⟨by omega, by omega, ?_⟩
    rw [fw_row, drop_row srow_len (List.getElem?_eq_getElem hlt)]
    simp only [z0, z1, z2, z3, z4, z5, z6, z7, z8, z9, z10, z11, z12, z13, z14, z15, z16, z17, z18, t0, t1, t2, t3, t4, t5, t6, dcrs, rngs, reduceIte, Nat.reduceLT, Nat.reduceLeDiff, Nat.reduceEqDiff, Nat.reduceAdd, Nat.reduceMul, Nat.reduceSub, Nat.reduceMod, Nat.reduceDiv, Int.reduceLE, Int.reduceLT, Int.reduceEq, Int.reduceNe, Nat.reduceBEq, ne_eq, reduceCtorEq, not_false_eq_true, implies_true, srow_tk, srow]
    refine And.intro (fun hne => ?_) (fun heq => ?_)
    · have hne' : ¬ f.name = ⟨#[]⟩ := by simpa only [Bool.not_eq_true', decide_eq_false_iff_not] using hne
      rw [pu_sadd (by rw [sp_size, ← fcode_in hc hlt]; omega)]
      simp only [z0, z1, z2, z3, z4, z5, z6, z7, z8, z9, z10, z11, z12, z13, z14, z15, z16, z17, z18, t0, t1, t2, t3, t4, t5, t6, dcrs, rngs, reduceIte, Nat.reduceLT, Nat.reduceLeDiff, Nat.reduceEqDiff, Nat.reduceAdd, Nat.reduceMul, Nat.reduceSub, Nat.reduceMod, Nat.reduceDiv, Int.reduceLE, Int.reduceLT, Int.reduceEq, Int.reduceNe, Nat.reduceBEq, ne_eq, reduceCtorEq, not_false_eq_true, implies_true]
      refine call0 (NameText_d f.name hs) ?_ ?_ ?_
      · decide
      · simp only [z0, z1, z2, z3, z4, z5, z6, z7, z8, z9, z10, z11, z12, z13, z14, z15, z16, z17, z18, t0, t1, t2, t3, t4, t5, t6, dcrs, rngs, reduceIte, Nat.reduceLT, Nat.reduceLeDiff, Nat.reduceEqDiff, Nat.reduceAdd, Nat.reduceMul, Nat.reduceSub, Nat.reduceMod, Nat.reduceDiv, Int.reduceLE, Int.reduceLT, Int.reduceEq, Int.reduceNe, Nat.reduceBEq, ne_eq, reduceCtorEq, not_false_eq_true, implies_true, Fa.row]
      rintro r rfl
      simp only [z0, z1, z2, z3, z4, z5, z6, z7, z8, z9, z10, z11, z12, z13, z14, z15, z16, z17, z18, t0, t1, t2, t3, t4, t5, t6, dcrs, rngs, reduceIte, Nat.reduceLT, Nat.reduceLeDiff, Nat.reduceEqDiff, Nat.reduceAdd, Nat.reduceMul, Nat.reduceSub, Nat.reduceMod, Nat.reduceDiv, Int.reduceLE, Int.reduceLT, Int.reduceEq, Int.reduceNe, Nat.reduceBEq, ne_eq, reduceCtorEq, not_false_eq_true, implies_true, Fa.row]
      rw [pu_sadd (by rw [size_app, sp_size, ← fcode_in hc hlt]; omega)]
      simp only [z0, z1, z2, z3, z4, z5, z6, z7, z8, z9, z10, z11, z12, z13, z14, z15, z16, z17, z18, t0, t1, t2, t3, t4, t5, t6, dcrs, rngs, reduceIte, Nat.reduceLT, Nat.reduceLeDiff, Nat.reduceEqDiff, Nat.reduceAdd, Nat.reduceMul, Nat.reduceSub, Nat.reduceMod, Nat.reduceDiv, Int.reduceLE, Int.reduceLT, Int.reduceEq, Int.reduceNe, Nat.reduceBEq, ne_eq, reduceCtorEq, not_false_eq_true, implies_true]
      exact ⟨_, _, vsE (by rw [faT, if_neg hne', fcode_in hc hlt]), end0 rfl⟩
    · have heq' : f.name = ⟨#[]⟩ := by simpa only [Bool.not_eq_false', decide_eq_true_eq] using heq
      exact ⟨_, _, vsE (by rw [faT, if_pos heq', fcode_in hc hlt]), end0 rfl⟩
  · try simp only [z0, z1, z2, z3, z4, z5, z6, z7, z8, z9, z10, z11, z12, z13, z14, z15, z16, z17, z18, t0, t1, t2, t3, t4, t5, t6, dcrs, rngs, reduceIte, Nat.reduceLT, Nat.reduceLeDiff, Nat.reduceEqDiff, Nat.reduceAdd, Nat.reduceMul, Nat.reduceSub, Nat.reduceMod, Nat.reduceDiv, Int.reduceLE, Int.reduceLT, Int.reduceEq, Int.reduceNe, Nat.reduceBEq, ne_eq, reduceCtorEq, not_false_eq_true, implies_true]
    refine And.intro (fun hne => ?_) (fun heq => ?_)
    · have hne' : ¬ f.name = ⟨#[]⟩ := by simpa only [Bool.not_eq_true', decide_eq_false_iff_not] using hne
      rw [pu_sadd (by rw [sp_size, ← fcode_out hc]; omega)]
      simp only [z0, z1, z2, z3, z4, z5, z6, z7, z8, z9, z10, z11, z12, z13, z14, z15, z16, z17, z18, t0, t1, t2, t3, t4, t5, t6, dcrs, rngs, reduceIte, Nat.reduceLT, Nat.reduceLeDiff, Nat.reduceEqDiff, Nat.reduceAdd, Nat.reduceMul, Nat.reduceSub, Nat.reduceMod, Nat.reduceDiv, Int.reduceLE, Int.reduceLT, Int.reduceEq, Int.reduceNe, Nat.reduceBEq, ne_eq, reduceCtorEq, not_false_eq_true, implies_true]
      refine call0 (NameText_d f.name hs) ?_ ?_ ?_
      · decide
      · simp only [z0, z1, z2, z3, z4, z5, z6, z7, z8, z9, z10, z11, z12, z13, z14, z15, z16, z17, z18, t0, t1, t2, t3, t4, t5, t6, dcrs, rngs, reduceIte, Nat.reduceLT, Nat.reduceLeDiff, Nat.reduceEqDiff, Nat.reduceAdd, Nat.reduceMul, Nat.reduceSub, Nat.reduceMod, Nat.reduceDiv, Int.reduceLE, Int.reduceLT, Int.reduceEq, Int.reduceNe, Nat.reduceBEq, ne_eq, reduceCtorEq, not_false_eq_true, implies_true, Fa.row]
      rintro r rfl
      simp only [z0, z1, z2, z3, z4, z5, z6, z7, z8, z9, z10, z11, z12, z13, z14, z15, z16, z17, z18, t0, t1, t2, t3, t4, t5, t6, dcrs, rngs, reduceIte, Nat.reduceLT, Nat.reduceLeDiff, Nat.reduceEqDiff, Nat.reduceAdd, Nat.reduceMul, Nat.reduceSub, Nat.reduceMod, Nat.reduceDiv, Int.reduceLE, Int.reduceLT, Int.reduceEq, Int.reduceNe, Nat.reduceBEq, ne_eq, reduceCtorEq, not_false_eq_true, implies_true, Fa.row]
      rw [pu_sadd (by rw [size_app, sp_size, ← fcode_out hc]; omega)]
      simp only [z0, z1, z2, z3, z4, z5, z6, z7, z8, z9, z10, z11, z12, z13, z14, z15, z16, z17, z18, t0, t1, t2, t3, t4, t5, t6, dcrs, rngs, reduceIte, Nat.reduceLT, Nat.reduceLeDiff, Nat.reduceEqDiff, Nat.reduceAdd, Nat.reduceMul, Nat.reduceSub, Nat.reduceMod, Nat.reduceDiv, Int.reduceLE, Int.reduceLT, Int.reduceEq, Int.reduceNe, Nat.reduceBEq, ne_eq, reduceCtorEq, not_false_eq_true, implies_true]
      exact ⟨_, _, vsE (by rw [faT, if_neg hne', fcode_out hc]), end0 rfl⟩
    · have heq' : f.name = ⟨#[]⟩ := by simpa only [Bool.not_eq_false', decide_eq_true_eq] using heq
      exact ⟨_, _, vsE (by rw [faT, if_pos heq', fcode_out hc]), end0 rfl⟩

theorem iRFaultText_d (f : Fa) (hs : f.name.size ≤ 1048576) : Cl Tryd.prog 16 [.ag (csOf f.row)] [] fun r _ => r = vs (faT f) := by
  rw [Fa.row]
  have hcs := fcode_size f.code
  have hns := nameT_size f.name
  refine cl_of_d follows_mixed false Tryd.func16 rfl (by kernel_rfl) ?_
  simp only [Tryd.f16, z0, z1, z2, z3, z4, z5, z6, z7, z8, z9, z10, z11, z12, z13, z14, z15, z16, z17, z18, t0, t1, t2, t3, t4, t5, t6, dcrs, rngs, reduceIte, Nat.reduceLT, Nat.reduceLeDiff, Nat.reduceEqDiff, Nat.reduceAdd, Nat.reduceMul, Nat.reduceSub, Nat.reduceMod, Nat.reduceDiv, Int.reduceLE, Int.reduceLT, Int.reduceEq, Int.reduceNe, Nat.reduceBEq, ne_eq, reduceCtorEq, not_false_eq_true, implies_true]
  by_cases hc0 : 0 ≤ f.code
  · simp only [z0, z1, z2, z3, z4, z5, z6, z7, z8, z9, z10, z11, z12, z13, z14, z15, z16, z17, z18, t0, t1, t2, t3, t4, t5, t6, dcrs, rngs, reduceIte, Nat.reduceLT, Nat.reduceLeDiff, Nat.reduceEqDiff, Nat.reduceAdd, Nat.reduceMul, Nat.reduceSub, Nat.reduceMod, Nat.reduceDiv, Int.reduceLE, Int.reduceLT, Int.reduceEq, Int.reduceNe, Nat.reduceBEq, ne_eq, reduceCtorEq, not_false_eq_true, implies_true, decide_eq_true hc0]
    refine And.intro (fun hc9 => ?_) (fun hc9 => ?_)
    · skip
      have hc : 0 ≤ f.code ∧ f.code ≤ 9 := by omega
      have hlt : f.code.toNat < fw.length := by show _ < 10; omega
      refine ⟨hc0, hc9, ?_⟩
      rw [fw_row, drop_row srow_len (List.getElem?_eq_getElem hlt)]
      simp only [z0, z1, z2, z3, z4, z5, z6, z7, z8, z9, z10, z11, z12, z13, z14, z15, z16, z17, z18, t0, t1, t2, t3, t4, t5, t6, dcrs, rngs, reduceIte, Nat.reduceLT, Nat.reduceLeDiff, Nat.reduceEqDiff, Nat.reduceAdd, Nat.reduceMul, Nat.reduceSub, Nat.reduceMod, Nat.reduceDiv, Int.reduceLE, Int.reduceLT, Int.reduceEq, Int.reduceNe, Nat.reduceBEq, ne_eq, reduceCtorEq, not_false_eq_true, implies_true, srow_tk, srow]
      refine And.intro (fun heq => ?_) (fun hne => ?_)
      · exact ⟨_, _, vsE (by rw [faT, if_pos heq, fcode_in hc hlt]), end0 rfl⟩
      · try simp only [z0, z1, z2, z3, z4, z5, z6, z7, z8, z9, z10, z11, z12, z13, z14, z15, z16, z17, z18, t0, t1, t2, t3, t4, t5, t6, dcrs, rngs, reduceIte, Nat.reduceLT, Nat.reduceLeDiff, Nat.reduceEqDiff, Nat.reduceAdd, Nat.reduceMul, Nat.reduceSub, Nat.reduceMod, Nat.reduceDiv, Int.reduceLE, Int.reduceLT, Int.reduceEq, Int.reduceNe, Nat.reduceBEq, ne_eq, reduceCtorEq, not_false_eq_true, implies_true]
        rw [pu_sadd (by rw [sp_size, ← fcode_in hc hlt]; omega)]
        try simp only [z0, z1, z2, z3, z4, z5, z6, z7, z8, z9, z10, z11, z12, z13, z14, z15, z16, z17, z18, t0, t1, t2, t3, t4, t5, t6, dcrs, rngs, reduceIte, Nat.reduceLT, Nat.reduceLeDiff, Nat.reduceEqDiff, Nat.reduceAdd, Nat.reduceMul, Nat.reduceSub, Nat.reduceMod, Nat.reduceDiv, Int.reduceLE, Int.reduceLT, Int.reduceEq, Int.reduceNe, Nat.reduceBEq, ne_eq, reduceCtorEq, not_false_eq_true, implies_true]
        refine call0 (iNameText_d f.name hs) ?_ ?_ ?_
        · decide
        · simp only [z0, z1, z2, z3, z4, z5, z6, z7, z8, z9, z10, z11, z12, z13, z14, z15, z16, z17, z18, t0, t1, t2, t3, t4, t5, t6, dcrs, rngs, reduceIte, Nat.reduceLT, Nat.reduceLeDiff, Nat.reduceEqDiff, Nat.reduceAdd, Nat.reduceMul, Nat.reduceSub, Nat.reduceMod, Nat.reduceDiv, Int.reduceLE, Int.reduceLT, Int.reduceEq, Int.reduceNe, Nat.reduceBEq, ne_eq, reduceCtorEq, not_false_eq_true, implies_true, Fa.row]
        rintro r rfl
        simp only [z0, z1, z2, z3, z4, z5, z6, z7, z8, z9, z10, z11, z12, z13, z14, z15, z16, z17, z18, t0, t1, t2, t3, t4, t5, t6, dcrs, rngs, reduceIte, Nat.reduceLT, Nat.reduceLeDiff, Nat.reduceEqDiff, Nat.reduceAdd, Nat.reduceMul, Nat.reduceSub, Nat.reduceMod, Nat.reduceDiv, Int.reduceLE, Int.reduceLT, Int.reduceEq, Int.reduceNe, Nat.reduceBEq, ne_eq, reduceCtorEq, not_false_eq_true, implies_true, Fa.row]
        rw [pu_sadd (by rw [size_app, sp_size, ← fcode_in hc hlt]; omega)]
        try simp only [z0, z1, z2, z3, z4, z5, z6, z7, z8, z9, z10, z11, z12, z13, z14, z15, z16, z17, z18, t0, t1, t2, t3, t4, t5, t6, dcrs, rngs, reduceIte, Nat.reduceLT, Nat.reduceLeDiff, Nat.reduceEqDiff, Nat.reduceAdd, Nat.reduceMul, Nat.reduceSub, Nat.reduceMod, Nat.reduceDiv, Int.reduceLE, Int.reduceLT, Int.reduceEq, Int.reduceNe, Nat.reduceBEq, ne_eq, reduceCtorEq, not_false_eq_true, implies_true]
        exact ⟨_, _, vsE (by rw [faT, if_neg hne, fcode_in hc hlt]), end0 rfl⟩
    · try simp only [z0, z1, z2, z3, z4, z5, z6, z7, z8, z9, z10, z11, z12, z13, z14, z15, z16, z17, z18, t0, t1, t2, t3, t4, t5, t6, dcrs, rngs, reduceIte, Nat.reduceLT, Nat.reduceLeDiff, Nat.reduceEqDiff, Nat.reduceAdd, Nat.reduceMul, Nat.reduceSub, Nat.reduceMod, Nat.reduceDiv, Int.reduceLE, Int.reduceLT, Int.reduceEq, Int.reduceNe, Nat.reduceBEq, ne_eq, reduceCtorEq, not_false_eq_true, implies_true]
      have hc : ¬ (0 ≤ f.code ∧ f.code ≤ 9) := by omega
      refine And.intro (fun heq => ?_) (fun hne => ?_)
      · exact ⟨_, _, vsE (by rw [faT, if_pos heq, fcode_out hc]), end0 rfl⟩
      · try simp only [z0, z1, z2, z3, z4, z5, z6, z7, z8, z9, z10, z11, z12, z13, z14, z15, z16, z17, z18, t0, t1, t2, t3, t4, t5, t6, dcrs, rngs, reduceIte, Nat.reduceLT, Nat.reduceLeDiff, Nat.reduceEqDiff, Nat.reduceAdd, Nat.reduceMul, Nat.reduceSub, Nat.reduceMod, Nat.reduceDiv, Int.reduceLE, Int.reduceLT, Int.reduceEq, Int.reduceNe, Nat.reduceBEq, ne_eq, reduceCtorEq, not_false_eq_true, implies_true]
        rw [pu_sadd (by rw [sp_size, ← fcode_out hc]; omega)]
        try simp only [z0, z1, z2, z3, z4, z5, z6, z7, z8, z9, z10, z11, z12, z13, z14, z15, z16, z17, z18, t0, t1, t2, t3, t4, t5, t6, dcrs, rngs, reduceIte, Nat.reduceLT, Nat.reduceLeDiff, Nat.reduceEqDiff, Nat.reduceAdd, Nat.reduceMul, Nat.reduceSub, Nat.reduceMod, Nat.reduceDiv, Int.reduceLE, Int.reduceLT, Int.reduceEq, Int.reduceNe, Nat.reduceBEq, ne_eq, reduceCtorEq, not_false_eq_true, implies_true]
        refine call0 (iNameText_d f.name hs) ?_ ?_ ?_
        · decide
        · simp only [z0, z1, z2, z3, z4, z5, z6, z7, z8, z9, z10, z11, z12, z13, z14, z15, z16, z17, z18, t0, t1, t2, t3, t4, t5, t6, dcrs, rngs, reduceIte, Nat.reduceLT, Nat.reduceLeDiff, Nat.reduceEqDiff, Nat.reduceAdd, Nat.reduceMul, Nat.reduceSub, Nat.reduceMod, Nat.reduceDiv, Int.reduceLE, Int.reduceLT, Int.reduceEq, Int.reduceNe, Nat.reduceBEq, ne_eq, reduceCtorEq, not_false_eq_true, implies_true, Fa.row]
        rintro r rfl
        simp only [z0, z1, z2, z3, z4, z5, z6, z7, z8, z9, z10, z11, z12, z13, z14, z15, z16, z17, z18, t0, t1, t2, t3, t4, t5, t6, dcrs, rngs, reduceIte, Nat.reduceLT, Nat.reduceLeDiff, Nat.reduceEqDiff, Nat.reduceAdd, Nat.reduceMul, Nat.reduceSub, Nat.reduceMod, Nat.reduceDiv, Int.reduceLE, Int.reduceLT, Int.reduceEq, Int.reduceNe, Nat.reduceBEq, ne_eq, reduceCtorEq, not_false_eq_true, implies_true, Fa.row]
        rw [pu_sadd (by rw [size_app, sp_size, ← fcode_out hc]; omega)]
        try simp only [z0, z1, z2, z3, z4, z5, z6, z7, z8, z9, z10, z11, z12, z13, z14, z15, z16, z17, z18, t0, t1, t2, t3, t4, t5, t6, dcrs, rngs, reduceIte, Nat.reduceLT, Nat.reduceLeDiff, Nat.reduceEqDiff, Nat.reduceAdd, Nat.reduceMul, Nat.reduceSub, Nat.reduceMod, Nat.reduceDiv, Int.reduceLE, Int.reduceLT, Int.reduceEq, Int.reduceNe, Nat.reduceBEq, ne_eq, reduceCtorEq, not_false_eq_true, implies_true]
        exact ⟨_, _, vsE (by rw [faT, if_neg hne, fcode_out hc]), end0 rfl⟩
  · simp only [z0, z1, z2, z3, z4, z5, z6, z7, z8, z9, z10, z11, z12, z13, z14, z15, z16, z17, z18, t0, t1, t2, t3, t4, t5, t6, dcrs, rngs, reduceIte, Nat.reduceLT, Nat.reduceLeDiff, Nat.reduceEqDiff, Nat.reduceAdd, Nat.reduceMul, Nat.reduceSub, Nat.reduceMod, Nat.reduceDiv, Int.reduceLE, Int.reduceLT, Int.reduceEq, Int.reduceNe, Nat.reduceBEq, ne_eq, reduceCtorEq, not_false_eq_true, implies_true, decide_eq_false hc0]
    have hc : ¬ (0 ≤ f.code ∧ f.code ≤ 9) := by omega
    refine And.intro (fun heq => ?_) (fun hne => ?_)
    · exact ⟨_, _, vsE (by rw [faT, if_pos heq, fcode_out hc]), end0 rfl⟩
    · try simp only [z0, z1, z2, z3, z4, z5, z6, z7, z8, z9, z10, z11, z12, z13, z14, z15, z16, z17, z18, t0, t1, t2, t3, t4, t5, t6, dcrs, rngs, reduceIte, Nat.reduceLT, Nat.reduceLeDiff, Nat.reduceEqDiff, Nat.reduceAdd, Nat.reduceMul, Nat.reduceSub, Nat.reduceMod, Nat.reduceDiv, Int.reduceLE, Int.reduceLT, Int.reduceEq, Int.reduceNe, Nat.reduceBEq, ne_eq, reduceCtorEq, not_false_eq_true, implies_true]
      rw [pu_sadd (by rw [sp_size, ← fcode_out hc]; omega)]
      try simp only [z0, z1, z2, z3, z4, z5, z6, z7, z8, z9, z10, z11, z12, z13, z14, z15, z16, z17, z18, t0, t1, t2, t3, t4, t5, t6, dcrs, rngs, reduceIte, Nat.reduceLT, Nat.reduceLeDiff, Nat.reduceEqDiff, Nat.reduceAdd, Nat.reduceMul, Nat.reduceSub, Nat.reduceMod, Nat.reduceDiv, Int.reduceLE, Int.reduceLT, Int.reduceEq, Int.reduceNe, Nat.reduceBEq, ne_eq, reduceCtorEq, not_false_eq_true, implies_true]
      refine call0 (iNameText_d f.name hs) ?_ ?_ ?_
      · decide
      · simp only [z0, z1, z2, z3, z4, z5, z6, z7, z8, z9, z10, z11, z12, z13, z14, z15, z16, z17, z18, t0, t1, t2, t3, t4, t5, t6, dcrs, rngs, reduceIte, Nat.reduceLT, Nat.reduceLeDiff, Nat.reduceEqDiff, Nat.reduceAdd, Nat.reduceMul, Nat.reduceSub, Nat.reduceMod, Nat.reduceDiv, Int.reduceLE, Int.reduceLT, Int.reduceEq, Int.reduceNe, Nat.reduceBEq, ne_eq, reduceCtorEq, not_false_eq_true, implies_true, Fa.row]
      rintro r rfl
      simp only [z0, z1, z2, z3, z4, z5, z6, z7, z8, z9, z10, z11, z12, z13, z14, z15, z16, z17, z18, t0, t1, t2, t3, t4, t5, t6, dcrs, rngs, reduceIte, Nat.reduceLT, Nat.reduceLeDiff, Nat.reduceEqDiff, Nat.reduceAdd, Nat.reduceMul, Nat.reduceSub, Nat.reduceMod, Nat.reduceDiv, Int.reduceLE, Int.reduceLT, Int.reduceEq, Int.reduceNe, Nat.reduceBEq, ne_eq, reduceCtorEq, not_false_eq_true, implies_true, Fa.row]
      rw [pu_sadd (by rw [size_app, sp_size, ← fcode_out hc]; omega)]
      try simp only [z0, z1, z2, z3, z4, z5, z6, z7, z8, z9, z10, z11, z12, z13, z14, z15, z16, z17, z18, t0, t1, t2, t3, t4, t5, t6, dcrs, rngs, reduceIte, Nat.reduceLT, Nat.reduceLeDiff, Nat.reduceEqDiff, Nat.reduceAdd, Nat.reduceMul, Nat.reduceSub, Nat.reduceMod, Nat.reduceDiv, Int.reduceLE, Int.reduceLT, Int.reduceEq, Int.reduceNe, Nat.reduceBEq, ne_eq, reduceCtorEq, not_false_eq_true, implies_true]
      exact ⟨_, _, vsE (by rw [faT, if_neg hne, fcode_out hc]), end0 rfl⟩


end Go.Proofs.YtlbbflchkkcdhaaDoor

set_option linter.unusedVariables false
set_option linter.unusedSimpArgs false
set_option maxRecDepth 8000
namespace Go.Proofs.YtlbbflchkkcdhaaDoor
open Go Go.Dv
open Go.Vc (D shrI xorI andI and255)

def rowL (l : List Val) : List UInt8 := l.zipIdx.flatMap fun p => (if 0 < p.2 then [124] else []) ++ (valT p.1).data.toList
def rowsL (l : List (List Val)) : List UInt8 := l.flatMap fun r => rowL r ++ [10]
def rowsB (l : List (List Val)) : ByteArray := ⟨(rowsL l).toArray⟩
theorem rowL_step {l : List Val} {i : Nat} (h : i < l.length) : rowL (l.take (i + 1)) = rowL (l.take i) ++ (if 0 < i then [124] else []) ++ (valT l[i]).data.toList := by
  unfold rowL
  rw [List.take_succ_eq_append_getElem h, List.zipIdx_append, List.flatMap_append, List.length_take, Nat.min_eq_left (by omega)]
  simp
theorem rowsL_step {l : List (List Val)} {i : Nat} (h : i < l.length) : rowsL (l.take (i + 1)) = rowsL (l.take i) ++ rowL l[i] ++ [10] := by
  unfold rowsL
  rw [List.take_succ_eq_append_getElem h, List.flatMap_append]; simp
theorem valT_size {v : Val} (h0 : -9223372036854775808 ≤ v.num) (h1 : v.num ≤ 9223372036854775807) : (valT v).size ≤ 2 * v.text.size + 20 := by
  have hi := itoaB_size h0 h1
  have hq : (quoteB 39 v.text).size ≤ 2 * v.text.size + 2 := by
    have := quoteL_len 39 v.text.data.toList
    rw [size_toList] at this
    show (List.toArray _).size ≤ _
    simp only [List.size_toArray, List.length_cons, List.length_append, List.length_nil]; omega
  unfold valT
  split
  · show 1 ≤ _; omega
  · split
    · omega
    · split
      · omega
      · split
        · split
          · show 4 ≤ _; omega
          · show 5 ≤ _; omega
        · show 4 ≤ _; omega
def okVal (v : Val) : Prop := -9223372036854775808 ≤ v.num ∧ v.num ≤ 9223372036854775807
def okRow (l : List Val) : Prop := ∀ v ∈ l, okVal v
def okRows (l : List (List Val)) : Prop := ∀ r ∈ l, okRow r
theorem rowL_len {l : List Val} (h : okRow l) : ∀ i, i ≤ l.length → (rowL (l.take i)).length ≤ 21 * szVals (l.take i) := by
  intro i
  induction i with
  | zero => intro _; simp [rowL]
  | succ i ih =>
    intro hi
    have hil : i < l.length := by omega
    have ih := ih (by omega)
    have hv := h _ (List.getElem_mem hil)
    have hs := valT_size hv.1 hv.2
    have ht := take_succ_sum szVal hil
    have hsz : szVals (l.take (i + 1)) = szVals (l.take i) + 1 + szVal l[i] := by
      unfold szVals
      rw [ht, List.length_take, List.length_take]; omega
    have hvs : szVal l[i] = l[i].text.size := rfl
    rw [rowL_step hil, hsz, List.length_append, List.length_append, size_toList]
    split <;> simp only [List.length_cons, List.length_nil] <;> omega
theorem szVals_take (l : List Val) (i : Nat) : szVals (l.take i) ≤ szVals l := by
  obtain ⟨r, hr⟩ := take_sum_le szVal l i
  unfold szVals
  rw [List.length_take]; omega
theorem rowsL_len {l : List (List Val)} (h : okRows l) : ∀ i, i ≤ l.length → (rowsL (l.take i)).length ≤ 21 * szRows (l.take i) := by
  intro i
  induction i with
  | zero => intro _; simp [rowsL]
  | succ i ih =>
    intro hi
    have hil : i < l.length := by omega
    have ih := ih (by omega)
    have hr := rowL_len (h _ (List.getElem_mem hil)) l[i].length (Nat.le_refl _)
    rw [List.take_length] at hr
    have ht := take_succ_sum szVals hil
    have hsz : szRows (l.take (i + 1)) = szRows (l.take i) + 1 + szVals l[i] := by
      unfold szRows
      rw [ht, List.length_take, List.length_take]; omega
    rw [rowsL_step hil, hsz, List.length_append, List.length_append]
    simp only [List.length_cons, List.length_nil]; omega
theorem szRows_take (l : List (List Val)) (i : Nat) : szRows (l.take i) ≤ szRows l := by
  obtain ⟨r, hr⟩ := take_sum_le szVals l i
  unfold szRows
  rw [List.length_take]; omega
theorem sum_mem {α : Type} (g : α → Nat) : ∀ {l : List α} {x : α}, x ∈ l → g x ≤ (l.map g).sum
  | y :: r, x, h => by
    rcases List.mem_cons.1 h with rfl | h
    · simp
    · have := sum_mem g h; simp; omega
theorem szVals_mem {l : List Val} {v : Val} (h : v ∈ l) : v.text.size ≤ szVals l := by
  have := sum_mem szVal h
  unfold szVals; unfold szVal at this; unfold szVal; omega
theorem szRows_mem {l : List (List Val)} {r : List Val} (h : r ∈ l) : szVals r ≤ szRows l := by
  have := sum_mem szVals h
  unfold szRows; omega
theorem bytesD_app (a b : List UInt8) : bytesD a ++ bytesD b = bytesD (a ++ b) := by simp [bytesD]
theorem bytesD_124 (l : List UInt8) : bytesD l ++ [D.lit (.int .u8 124)] = bytesD (l ++ [124]) := bytesD_snoc l 124
theorem bytesD_10 (l : List UInt8) : bytesD l ++ [D.lit (.int .u8 10)] = bytesD (l ++ [10]) := bytesD_snoc l 10
theorem RowsText_d (rows : List (List Val)) (hok : okRows rows) (hsz : szRows rows ≤ 1048576) : Cl Tryd.prog 13 [.c (.sl rows.length (rows.flatMap vrow) none)] [] fun r _ => r = vs (rowsB rows) := by
  refine cl_of_d follows_mixed false Tryd.func13 rfl (by kernel_rfl) ?_
  simp only [Tryd.f13, z0, z1, z2, z3, z4, z5, z6, z7, z8, z9, z10, z11, z12, z13, z14, z15, z16, z17, z18, t0, t1, t2, t3, t4, t5, t6, dcrs, rngs, reduceIte, Nat.reduceLT, Nat.reduceLeDiff, Nat.reduceEqDiff, Nat.reduceAdd, Nat.reduceMul, Nat.reduceSub, Nat.reduceMod, Nat.reduceDiv, Int.reduceLE, Int.reduceLT, Int.reduceEq, Int.reduceNe, Nat.reduceBEq, ne_eq, reduceCtorEq, not_false_eq_true, implies_true]
  refine dLoop.gh [.ren 6 39] ⟨by decide, by decide, ?_⟩
  refine dLoop0.intro (fun f L p => ∃ (i : Nat) (bs : List UInt8), f 4 = vi i ∧ f 3 = .c (.s 39 bs.length) ∧ i ≤ rows.length ∧ bs = rowsL (rows.take i) ∧ L = [(39, .arr 5 bs.length (bytesD bs) none)] ∧ p = none) (fun f _ _ => (rows.length - ixS (f 4)).toNat) [(39, .arr 5 0 (bytesD []) none)] none ⟨SubO.cons rfl (SubO.nil _), PoSub.none _, ?_⟩ ?_
  · simp only [z0, z1, z2, z3, z4, z5, z6, z7, z8, z9, z10, z11, z12, z13, z14, z15, z16, z17, z18, t0, t1, t2, t3, t4, t5, t6, dcrs, rngs, reduceIte, Nat.reduceLT, Nat.reduceLeDiff, Nat.reduceEqDiff, Nat.reduceAdd, Nat.reduceMul, Nat.reduceSub, Nat.reduceMod, Nat.reduceDiv, Int.reduceLE, Int.reduceLT, Int.reduceEq, Int.reduceNe, Nat.reduceBEq, ne_eq, reduceCtorEq, not_false_eq_true, implies_true]
    exact ⟨0, [], rfl, rfl, by omega, rfl, rfl⟩
  · rintro g L p ⟨i, bs, h4, h3, hi, hbs, rfl, rfl⟩
    simp only [z0, z1, z2, z3, z4, z5, z6, z7, z8, z9, z10, z11, z12, z13, z14, z15, z16, z17, z18, t0, t1, t2, t3, t4, t5, t6, dcrs, rngs, reduceIte, Nat.reduceLT, Nat.reduceLeDiff, Nat.reduceEqDiff, Nat.reduceAdd, Nat.reduceMul, Nat.reduceSub, Nat.reduceMod, Nat.reduceDiv, Int.reduceLE, Int.reduceLT, Int.reduceEq, Int.reduceNe, Nat.reduceBEq, ne_eq, reduceCtorEq, not_false_eq_true, implies_true] at h4 h3
    have hbl : bs.length ≤ 21 * szRows (rows.take i) := by rw [hbs]; exact rowsL_len hok i hi
    simp only [z0, z1, z2, z3, z4, z5, z6, z7, z8, z9, z10, z11, z12, z13, z14, z15, z16, z17, z18, t0, t1, t2, t3, t4, t5, t6, dcrs, rngs, reduceIte, Nat.reduceLT, Nat.reduceLeDiff, Nat.reduceEqDiff, Nat.reduceAdd, Nat.reduceMul, Nat.reduceSub, Nat.reduceMod, Nat.reduceDiv, Int.reduceLE, Int.reduceLT, Int.reduceEq, Int.reduceNe, Nat.reduceBEq, ne_eq, reduceCtorEq, not_false_eq_true, implies_true, h4, h3, Int.ofNat_lt]
    refine fun hrl => And.intro (fun hlt => ?_) (fun hge => ?_)
    · refine dLoop.gh [.ren 39 36] ⟨by decide, by decide, ?_⟩
      refine dLoop0.intro (fun f L p => ∃ (k : Nat) (cs : List UInt8), f 5 = vi k ∧ f 3 = .c (.s 36 cs.length) ∧ k ≤ rows[i].length ∧ cs = bs ++ rowL (rows[i].take k) ∧ L = [(36, .arr 5 cs.length (bytesD cs) none)] ∧ p = none) (fun f _ _ => (rows[i].length - ixS (f 5)).toNat) [(36, .arr 5 bs.length (bytesD bs) none)] none ⟨SubO.cons rfl (SubO.nil _), PoSub.none _, ?_⟩ ?_
      · simp only [z0, z1, z2, z3, z4, z5, z6, z7, z8, z9, z10, z11, z12, z13, z14, z15, z16, z17, z18, t0, t1, t2, t3, t4, t5, t6, dcrs, rngs, reduceIte, Nat.reduceLT, Nat.reduceLeDiff, Nat.reduceEqDiff, Nat.reduceAdd, Nat.reduceMul, Nat.reduceSub, Nat.reduceMod, Nat.reduceDiv, Int.reduceLE, Int.reduceLT, Int.reduceEq, Int.reduceNe, Nat.reduceBEq, ne_eq, reduceCtorEq, not_false_eq_true, implies_true, h4, h3]
        exact ⟨0, bs, rfl, rfl, by omega, by simp [rowL], rfl⟩
      · rintro g' L p ⟨k, cs, h5, h3', hk, hcs, rfl, rfl⟩
        simp only [z0, z1, z2, z3, z4, z5, z6, z7, z8, z9, z10, z11, z12, z13, z14, z15, z16, z17, z18, t0, t1, t2, t3, t4, t5, t6, dcrs, rngs, reduceIte, Nat.reduceLT, Nat.reduceLeDiff, Nat.reduceEqDiff, Nat.reduceAdd, Nat.reduceMul, Nat.reduceSub, Nat.reduceMod, Nat.reduceDiv, Int.reduceLE, Int.reduceLT, Int.reduceEq, Int.reduceNe, Nat.reduceBEq, ne_eq, reduceCtorEq, not_false_eq_true, implies_true] at h5 h3'
        simp only [z0, z1, z2, z3, z4, z5, z6, z7, z8, z9, z10, z11, z12, z13, z14, z15, z16, z17, z18, t0, t1, t2, t3, t4, t5, t6, dcrs, rngs, reduceIte, Nat.reduceLT, Nat.reduceLeDiff, Nat.reduceEqDiff, Nat.reduceAdd, Nat.reduceMul, Nat.reduceSub, Nat.reduceMod, Nat.reduceDiv, Int.reduceLE, Int.reduceLT, Int.reduceEq, Int.reduceNe, Nat.reduceBEq, ne_eq, reduceCtorEq, not_false_eq_true, implies_true, h4, h5, h3', Int.ofNat_lt]
        refine ⟨by omega, hlt, _, drop_row vrow_len (List.getElem?_eq_getElem hlt), vrow_ne _ _, ?_⟩
        simp only [z0, z1, z2, z3, z4, z5, z6, z7, z8, z9, z10, z11, z12, z13, z14, z15, z16, z17, z18, t0, t1, t2, t3, t4, t5, t6, dcrs, rngs, reduceIte, Nat.reduceLT, Nat.reduceLeDiff, Nat.reduceEqDiff, Nat.reduceAdd, Nat.reduceMul, Nat.reduceSub, Nat.reduceMod, Nat.reduceDiv, Int.reduceLE, Int.reduceLT, Int.reduceEq, Int.reduceNe, Nat.reduceBEq, ne_eq, reduceCtorEq, not_false_eq_true, implies_true, h4, h5, h3', vrow_tk, vrow, Int.ofNat_lt]
        refine fun hkl => And.intro (fun hklt => ?_) (fun hkge => ?_)
        · have hrow := hok _ (List.getElem_mem hlt)
          have hv := hrow _ (List.getElem_mem hklt)
          have hrs := szRows_mem (List.getElem_mem hlt)
          have hvs := szVals_mem (List.getElem_mem hklt)
          have hvt := valT_size hv.1 hv.2
          have hrl' := rowL_len hrow k hk
          have hst := szVals_take rows[i] k
          have hrt := szRows_take rows i
          have hcl : cs.length = bs.length + (rowL (rows[i].take k)).length := by rw [hcs, List.length_append]
          refine And.intro (fun hk0 => ?_) (fun hk0 => ?_)
          · refine ⟨by kernel_rfl, ⟨by simp only [maxLen]; omega, by omega⟩, ?_⟩
            rw [bytesD_124]
            refine ⟨by omega, hlt, _, drop_row vrow_len (List.getElem?_eq_getElem hlt), vrow_ne _ _, ?_⟩
            simp only [z0, z1, z2, z3, z4, z5, z6, z7, z8, z9, z10, z11, z12, z13, z14, z15, z16, z17, z18, t0, t1, t2, t3, t4, t5, t6, dcrs, rngs, reduceIte, Nat.reduceLT, Nat.reduceLeDiff, Nat.reduceEqDiff, Nat.reduceAdd, Nat.reduceMul, Nat.reduceSub, Nat.reduceMod, Nat.reduceDiv, Int.reduceLE, Int.reduceLT, Int.reduceEq, Int.reduceNe, Nat.reduceBEq, ne_eq, reduceCtorEq, not_false_eq_true, implies_true, h4, h5, h3', vrow_tk, vrow, Int.ofNat_lt]
            refine ⟨by omega, hklt, _, drop_row Val.row_len (List.getElem?_eq_getElem hklt), Val.ne _ _, ?_⟩
            simp only [z0, z1, z2, z3, z4, z5, z6, z7, z8, z9, z10, z11, z12, z13, z14, z15, z16, z17, z18, t0, t1, t2, t3, t4, t5, t6, dcrs, rngs, reduceIte, Nat.reduceLT, Nat.reduceLeDiff, Nat.reduceEqDiff, Nat.reduceAdd, Nat.reduceMul, Nat.reduceSub, Nat.reduceMod, Nat.reduceDiv, Int.reduceLE, Int.reduceLT, Int.reduceEq, Int.reduceNe, Nat.reduceBEq, ne_eq, reduceCtorEq, not_false_eq_true, implies_true, h4, h5, h3', Val.tk]
            refine call0 (ValueText_d rows[i][k] hv.1 hv.2 (by omega)) ?_ ?_ ?_
            · decide
            · simp only [z0, z1, z2, z3, z4, z5, z6, z7, z8, z9, z10, z11, z12, z13, z14, z15, z16, z17, z18, t0, t1, t2, t3, t4, t5, t6, dcrs, rngs, reduceIte, Nat.reduceLT, Nat.reduceLeDiff, Nat.reduceEqDiff, Nat.reduceAdd, Nat.reduceMul, Nat.reduceSub, Nat.reduceMod, Nat.reduceDiv, Int.reduceLE, Int.reduceLT, Int.reduceEq, Int.reduceNe, Nat.reduceBEq, ne_eq, reduceCtorEq, not_false_eq_true, implies_true, h4, h5, h3', Val.row]
            rintro r rfl
            simp only [z0, z1, z2, z3, z4, z5, z6, z7, z8, z9, z10, z11, z12, z13, z14, z15, z16, z17, z18, t0, t1, t2, t3, t4, t5, t6, dcrs, rngs, reduceIte, Nat.reduceLT, Nat.reduceLeDiff, Nat.reduceEqDiff, Nat.reduceAdd, Nat.reduceMul, Nat.reduceSub, Nat.reduceMod, Nat.reduceDiv, Int.reduceLE, Int.reduceLT, Int.reduceEq, Int.reduceNe, Nat.reduceBEq, ne_eq, reduceCtorEq, not_false_eq_true, implies_true, h4, h5, h3', Val.row]
            refine ⟨by kernel_rfl, by rw [bytesD_len, size_toList, Nat.mul_one], ⟨by simp only [maxLen]; omega, by omega⟩, ?_⟩
            have e : ((cs ++ [124]) ++ (valT rows[i][k]).data.toList).length = cs.length + 1 + (valT rows[i][k]).size := by rw [List.length_append, size_toList]; simp
            rw [bytesD_app, ← e, wrap_id (n := (k : Int) + 1) (by omega) (by omega)]
            exact ⟨_, none, SubO.cons rfl (SubO.nil _), PoSub.none _, ⟨k + 1, _, rfl, rfl, by omega, by rw [rowL_step hklt, hcs, if_pos (by omega)]; simp, rfl, rfl⟩, by simp only [ixS]; omega⟩
          · try simp only [z0, z1, z2, z3, z4, z5, z6, z7, z8, z9, z10, z11, z12, z13, z14, z15, z16, z17, z18, t0, t1, t2, t3, t4, t5, t6, dcrs, rngs, reduceIte, Nat.reduceLT, Nat.reduceLeDiff, Nat.reduceEqDiff, Nat.reduceAdd, Nat.reduceMul, Nat.reduceSub, Nat.reduceMod, Nat.reduceDiv, Int.reduceLE, Int.reduceLT, Int.reduceEq, Int.reduceNe, Nat.reduceBEq, ne_eq, reduceCtorEq, not_false_eq_true, implies_true, h4, h5, h3', vrow_tk, vrow, Int.ofNat_lt]
            refine ⟨by omega, hlt, _, drop_row vrow_len (List.getElem?_eq_getElem hlt), vrow_ne _ _, ?_⟩
            simp only [z0, z1, z2, z3, z4, z5, z6, z7, z8, z9, z10, z11, z12, z13, z14, z15, z16, z17, z18, t0, t1, t2, t3, t4, t5, t6, dcrs, rngs, reduceIte, Nat.reduceLT, Nat.reduceLeDiff, Nat.reduceEqDiff, Nat.reduceAdd, Nat.reduceMul, Nat.reduceSub, Nat.reduceMod, Nat.reduceDiv, Int.reduceLE, Int.reduceLT, Int.reduceEq, Int.reduceNe, Nat.reduceBEq, ne_eq, reduceCtorEq, not_false_eq_true, implies_true, h4, h5, h3', vrow_tk, vrow, Int.ofNat_lt]
            refine ⟨by omega, hklt, _, drop_row Val.row_len (List.getElem?_eq_getElem hklt), Val.ne _ _, ?_⟩
            simp only [z0, z1, z2, z3, z4, z5, z6, z7, z8, z9, z10, z11, z12, z13, z14, z15, z16, z17, z18, t0, t1, t2, t3, t4, t5, t6, dcrs, rngs, reduceIte, Nat.reduceLT, Nat.reduceLeDiff, Nat.reduceEqDiff, Nat.reduceAdd, Nat.reduceMul, Nat.reduceSub, Nat.reduceMod, Nat.reduceDiv, Int.reduceLE, Int.reduceLT, Int.reduceEq, Int.reduceNe, Nat.reduceBEq, ne_eq, reduceCtorEq, not_false_eq_true, implies_true, h4, h5, h3', Val.tk]
            refine call0 (ValueText_d rows[i][k] hv.1 hv.2 (by omega)) ?_ ?_ ?_
            · decide
            · simp only [z0, z1, z2, z3, z4, z5, z6, z7, z8, z9, z10, z11, z12, z13, z14, z15, z16, z17, z18, t0, t1, t2, t3, t4, t5, t6, dcrs, rngs, reduceIte, Nat.reduceLT, Nat.reduceLeDiff, Nat.reduceEqDiff, Nat.reduceAdd, Nat.reduceMul, Nat.reduceSub, Nat.reduceMod, Nat.reduceDiv, Int.reduceLE, Int.reduceLT, Int.reduceEq, Int.reduceNe, Nat.reduceBEq, ne_eq, reduceCtorEq, not_false_eq_true, implies_true, h4, h5, h3', Val.row]
            rintro r rfl
            simp only [z0, z1, z2, z3, z4, z5, z6, z7, z8, z9, z10, z11, z12, z13, z14, z15, z16, z17, z18, t0, t1, t2, t3, t4, t5, t6, dcrs, rngs, reduceIte, Nat.reduceLT, Nat.reduceLeDiff, Nat.reduceEqDiff, Nat.reduceAdd, Nat.reduceMul, Nat.reduceSub, Nat.reduceMod, Nat.reduceDiv, Int.reduceLE, Int.reduceLT, Int.reduceEq, Int.reduceNe, Nat.reduceBEq, ne_eq, reduceCtorEq, not_false_eq_true, implies_true, h4, h5, h3', Val.row]
            refine ⟨by kernel_rfl, by rw [bytesD_len, size_toList, Nat.mul_one], ⟨by simp only [maxLen]; omega, by omega⟩, ?_⟩
            have e : (cs ++ (valT rows[i][k]).data.toList).length = cs.length + (valT rows[i][k]).size := by rw [List.length_append, size_toList]
            rw [bytesD_app, ← e, wrap_id (n := (k : Int) + 1) (by omega) (by omega)]
            exact ⟨_, none, SubO.cons rfl (SubO.nil _), PoSub.none _, ⟨k + 1, _, rfl, rfl, by omega, by rw [rowL_step hklt, hcs, if_neg (by omega)]; simp, rfl, rfl⟩, by simp only [ixS]; omega⟩
        · have hke : k = rows[i].length := by omega
          subst hke
          rw [List.take_length] at hcs
          have hrow := hok _ (List.getElem_mem hlt)
          have hrl' := rowL_len hrow rows[i].length (Nat.le_refl _)
          rw [List.take_length] at hrl'
          have hrs := szRows_mem (List.getElem_mem hlt)
          have hrt := szRows_take rows i
          have hcl : cs.length = bs.length + (rowL rows[i]).length := by rw [hcs, List.length_append]
          refine ⟨by kernel_rfl, ⟨by simp only [maxLen]; omega, by omega⟩, ?_⟩
          have e : (cs ++ [10]).length = cs.length + 1 := by simp
          rw [bytesD_10, ← e, wrap_id (n := (i : Int) + 1) (by omega) (by omega)]
          exact ⟨_, none, SubO.cons rfl (SubO.nil _), PoSub.none _, ⟨i + 1, _, rfl, rfl, by omega, by rw [rowsL_step hlt, hcs, hbs], rfl, rfl⟩, by simp only [ixS]; omega⟩
    · have hie : i = rows.length := by omega
      subst hie
      rw [List.take_length] at hbs hbl
      refine ⟨by kernel_rfl, by simp only [maxLen]; omega, bs, rfl, rfl, ?_⟩
      simp only [z0, z1, z2, z3, z4, z5, z6, z7, z8, z9, z10, z11, z12, z13, z14, z15, z16, z17, z18, t0, t1, t2, t3, t4, t5, t6, dcrs, rngs, reduceIte, Nat.reduceLT, Nat.reduceLeDiff, Nat.reduceEqDiff, Nat.reduceAdd, Nat.reduceMul, Nat.reduceSub, Nat.reduceMod, Nat.reduceDiv, Int.reduceLE, Int.reduceLT, Int.reduceEq, Int.reduceNe, Nat.reduceBEq, ne_eq, reduceCtorEq, not_false_eq_true, implies_true]
      exact ⟨_, _, vsE (by rw [hbs]; rfl), end0 rfl⟩

end Go.Proofs.YtlbbflchkkcdhaaDoor
