/-
  The reference and the program print values alike: words, figures, quotes.
  Conditions: none.
-/
import Derived.Test.YtlbbflchkkcdhaaDoorTypes
import Derived.Shelf.Strings.BuilderF
import Derived.Shelf.LaysM
import Derived.Shelf.Strconv.Itoa3
import Derived.Shelf.Strings.Split
import Derived.Shelf.Strings.Replace
import Derived.Test.YtlbbflchkkcdhaaDoorProg
set_option linter.unusedVariables false
set_option linter.unusedSimpArgs false
set_option linter.unusedVariables false
set_option linter.unusedSimpArgs false
set_option maxRecDepth 8000
namespace Go.Proofs.YtlbbflchkkcdhaaDoor
open Go Go.Dv
open Go.Vc (D shrI xorI andI and255)

abbrev int (n : Int) : D := .lit (.int .i64 n)
abbrev bool (b : Bool) : D := .lit (.bool b)
abbrev str (s : ByteArray) : D := .lit (.string s)
abbrev vi (n : Int) : S := .c (.v (.int .i64 n))
abbrev vb (b : Bool) : S := .c (.v (.bool b))
abbrev vs (s : ByteArray) : S := .c (.v (.string s))
structure Val where
  kind : Int
  num : Int
  text : ByteArray
def Val.row (v : Val) : List D := [int v.kind, int v.num, str v.text]
theorem Val.row_len (v : Val) : v.row.length = 3 := rfl
theorem Val.tk (v : Val) (r : List D) : takeD 3 (v.row ++ r) = some v.row := takeD_row rfl
theorem Val.ne (v : Val) (r : List D) : v.row ++ r ≠ [] := fun h => by cases h
def vrow (l : List Val) : List D := [.sl l.length (l.flatMap Val.row)]
theorem vrow_len (v : List Val) : (vrow v).length = 1 := rfl
theorem vrow_tk (v : List Val) (r : List D) : takeD 1 (vrow v ++ r) = some (vrow v) := takeD_row rfl
theorem vrow_ne (v : List Val) (r : List D) : vrow v ++ r ≠ [] := fun h => by cases h
structure Fa where
  code : Int
  name : ByteArray
def Fa.row (v : Fa) : List D := [int v.code, str v.name]
structure Res where
  f : Fa
  err : Int
  rows : List (List Val)
  count : Int
def Res.row (v : Res) : List D := [int v.f.code, str v.f.name, int v.err, .sl v.rows.length (v.rows.flatMap vrow), int v.count]
def subL (l : Int) (s : Nat) : Int := if (s : Int) ≤ l then l - s else -1
def szVal (v : Val) : Nat := v.text.size
def szVals (l : List Val) : Nat := l.length + (l.map szVal).sum
def szRows (l : List (List Val)) : Nat := l.length + (l.map szVals).sum
def szRes (r : Res) : Nat := r.f.name.size + szRows r.rows
theorem subL_le {l : Int} {s : Nat} (h : (s : Int) ≤ l) : subL l s = l - s := if_pos h
theorem subL_gt {l : Int} {s : Nat} (h : l < s) : subL l s = -1 := if_neg (by omega)
theorem subL_bounds {l : Int} {s : Nat} (h0 : 0 ≤ l) : -1 ≤ subL l s ∧ subL l s ≤ l := by unfold subL; split <;> omega
theorem subL_add {l : Int} {a b : Nat} (h : 0 ≤ subL l a) : subL l (a + b) = subL (subL l a) b := by
  unfold subL at *
  split at h
  · rename_i h1
    rw [if_pos h1]
    by_cases h2 : ((a + b : Nat) : Int) ≤ l
    · rw [if_pos h2, if_pos (by omega)]; omega
    · rw [if_neg h2, if_neg (by omega)]
  · omega
theorem subL_neg {l : Int} {a b : Nat} (h : subL l a < 0) (h0 : 0 ≤ l) : subL l (a + b) = -1 := by
  unfold subL at *
  split at h
  · omega
  · exact if_neg (by omega)
theorem viE {a b : Int} (h : a = b) : vi a = vi b := by rw [h]
theorem vsE {a b : ByteArray} (h : a = b) : vs a = vs b := by rw [h]
theorem vbE {a b : Bool} (h : a = b) : vb a = vb b := by rw [h]
theorem take_succ_sum {α : Type} (g : α → Nat) {l : List α} {i : Nat} (h : i < l.length) : ((l.take (i + 1)).map g).sum = ((l.take i).map g).sum + g l[i] := by
  rw [List.take_succ_eq_append_getElem h, List.map_append, List.sum_append]; simp only [List.map_cons, List.map_nil, List.sum_cons, List.sum_nil, Nat.add_zero]
theorem take_sum_le {α : Type} (g : α → Nat) (l : List α) (i : Nat) : ∃ r, (l.map g).sum = ((l.take i).map g).sum + r := ⟨((l.drop i).map g).sum, by
  conv => lhs; rw [← List.take_append_drop i l]
  rw [List.map_append, List.sum_append]⟩
theorem szValue_d (v : Val) (l : Int) (h0 : 0 ≤ l) (h1 : l ≤ 1048576) : Cl Tryd.prog 32 [.ag (csOf v.row), vi l] [] fun r _ => r = vi (subL l (szVal v)) := by
  rw [Val.row]
  refine cl_of_d follows_mixed false Tryd.func32 rfl (by kernel_rfl) ?_
  simp only [Tryd.f32, z0, z1, z2, z3, z4, z5, z6, z7, z8, z9, z10, z11, z12, z13, z14, z15, z16, z17, z18, t0, t1, t2, t3, t4, t5, t6, dcrs, rngs, reduceIte, Nat.reduceLT, Nat.reduceLeDiff, Nat.reduceEqDiff, Nat.reduceAdd, Nat.reduceMul, Nat.reduceSub, Nat.reduceMod, Nat.reduceDiv, Int.reduceLE, Int.reduceLT, Int.reduceEq, Int.reduceNe, Nat.reduceBEq, ne_eq, reduceCtorEq, not_false_eq_true]
  refine fun hs => ?_
  rw [wrap_id (n := l - v.text.size) (by omega) (by omega)]
  refine And.intro (fun h => ?_) (fun h => ?_)
  · exact ⟨_, _, by rw [szVal, subL_gt (by omega)], end0 rfl⟩
  · exact ⟨_, _, by rw [szVal, subL_le (by omega)], end0 rfl⟩
theorem szRFault_d (v : Fa) (l : Int) (h0 : 0 ≤ l) (h1 : l ≤ 1048576) : Cl Tryd.prog 9 [.ag (csOf v.row), vi l] [] fun r _ => r = vi (subL l v.name.size) := by
  rw [Fa.row]
  refine cl_of_d follows_mixed false Tryd.func9 rfl (by kernel_rfl) ?_
  simp only [Tryd.f9, z0, z1, z2, z3, z4, z5, z6, z7, z8, z9, z10, z11, z12, z13, z14, z15, z16, z17, z18, t0, t1, t2, t3, t4, t5, t6, dcrs, rngs, reduceIte, Nat.reduceLT, Nat.reduceLeDiff, Nat.reduceEqDiff, Nat.reduceAdd, Nat.reduceMul, Nat.reduceSub, Nat.reduceMod, Nat.reduceDiv, Int.reduceLE, Int.reduceLT, Int.reduceEq, Int.reduceNe, Nat.reduceBEq, ne_eq, reduceCtorEq, not_false_eq_true]
  refine fun hs => ?_
  rw [wrap_id (n := l - v.name.size) (by omega) (by omega)]
  refine And.intro (fun h => ?_) (fun h => ?_)
  · exact ⟨_, _, by rw [subL_gt (by omega)], end0 rfl⟩
  · exact ⟨_, _, by rw [subL_le (by omega)], end0 rfl⟩

theorem szValueS_d (a : List Val) (l : Int) (h0 : 0 ≤ l) (h1 : l ≤ 1048576) : Cl Tryd.prog 21 [.c (.sl a.length (a.flatMap Val.row) none), vi l] [] fun r _ => r = vi (subL l (szVals a)) := by
  refine cl_of_d follows_mixed false Tryd.func21 rfl (by kernel_rfl) ?_
  simp only [Tryd.f21, z0, z1, z2, z3, z4, z5, z6, z7, z8, z9, z10, z11, z12, z13, z14, z15, z16, z17, z18, t0, t1, t2, t3, t4, t5, t6, dcrs, rngs, reduceIte, Nat.reduceLT, Nat.reduceLeDiff, Nat.reduceEqDiff, Nat.reduceAdd, Nat.reduceMul, Nat.reduceSub, Nat.reduceMod, Nat.reduceDiv, Int.reduceLE, Int.reduceLT, Int.reduceEq, Int.reduceNe, Nat.reduceBEq, ne_eq, reduceCtorEq, not_false_eq_true]
  refine fun hs => ?_
  rw [wrap_id (n := l - a.length) (by omega) (by omega)]
  obtain ⟨tot, htot⟩ : ∃ tot, tot = (a.map szVal).sum := ⟨_, rfl⟩
  refine And.intro (fun h => ?_) (fun h => ?_)
  · exact ⟨_, _, by rw [szVals, subL_gt (by omega)], end0 rfl⟩
  · refine dLoop.intro (fun f L p => ∃ i : Nat, f 5 = vi i ∧ i ≤ a.length ∧ f 1 = vi (l - a.length - ((a.take i).map szVal).sum) ∧ 0 ≤ l - a.length - (((a.take i).map szVal).sum : Nat) ∧ L = [] ∧ p = none) (fun f _ _ => (a.length - ixS (f 5)).toNat) [] none ⟨SubO.nil _, PoSub.none _, ?_⟩ ?_
    · simp only [z0, z1, z2, z3, z4, z5, z6, z7, z8, z9, z10, z11, z12, z13, z14, z15, z16, z17, z18, t0, t1, t2, t3, t4, t5, t6, dcrs, rngs, reduceIte, Nat.reduceLT, Nat.reduceLeDiff, Nat.reduceEqDiff, Nat.reduceAdd, Nat.reduceMul, Nat.reduceSub, Nat.reduceMod, Nat.reduceDiv, Int.reduceLE, Int.reduceLT, Int.reduceEq, Int.reduceNe, Nat.reduceBEq, ne_eq, reduceCtorEq, not_false_eq_true]
      exact ⟨0, rfl, by omega, by simp, by simp; omega⟩
    · rintro g L p ⟨i, h5, hi, h1', hp, rfl, rfl⟩
      simp only [z0, z1, z2, z3, z4, z5, z6, z7, z8, z9, z10, z11, z12, z13, z14, z15, z16, z17, z18, t0, t1, t2, t3, t4, t5, t6, dcrs, rngs, reduceIte, Nat.reduceLT, Nat.reduceLeDiff, Nat.reduceEqDiff, Nat.reduceAdd, Nat.reduceMul, Nat.reduceSub, Nat.reduceMod, Nat.reduceDiv, Int.reduceLE, Int.reduceLT, Int.reduceEq, Int.reduceNe, Nat.reduceBEq, ne_eq, reduceCtorEq, not_false_eq_true] at h5 h1'
      obtain ⟨rst, hr⟩ := take_sum_le szVal a i
      simp only [z0, z1, z2, z3, z4, z5, z6, z7, z8, z9, z10, z11, z12, z13, z14, z15, z16, z17, z18, t0, t1, t2, t3, t4, t5, t6, dcrs, rngs, reduceIte, Nat.reduceLT, Nat.reduceLeDiff, Nat.reduceEqDiff, Nat.reduceAdd, Nat.reduceMul, Nat.reduceSub, Nat.reduceMod, Nat.reduceDiv, Int.reduceLE, Int.reduceLT, Int.reduceEq, Int.reduceNe, Nat.reduceBEq, ne_eq, reduceCtorEq, not_false_eq_true, h5, h1', Int.ofNat_lt]
      refine fun _ => And.intro (fun hlt => ?_) (fun hge => ?_)
      · have hlt : i < a.length := by omega
        refine ⟨by omega, by omega, _, drop_row Val.row_len (List.getElem?_eq_getElem hlt), Val.ne _ _, ?_⟩
        have hts := take_succ_sum szVal hlt
        obtain ⟨rst', hr'⟩ := take_sum_le szVal a (i + 1)
        simp only [z0, z1, z2, z3, z4, z5, z6, z7, z8, z9, z10, z11, z12, z13, z14, z15, z16, z17, z18, t0, t1, t2, t3, t4, t5, t6, dcrs, rngs, reduceIte, Nat.reduceLT, Nat.reduceLeDiff, Nat.reduceEqDiff, Nat.reduceAdd, Nat.reduceMul, Nat.reduceSub, Nat.reduceMod, Nat.reduceDiv, Int.reduceLE, Int.reduceLT, Int.reduceEq, Int.reduceNe, Nat.reduceBEq, ne_eq, reduceCtorEq, not_false_eq_true, h5, h1', Val.tk]
        refine call0 (szValue_d a[i] _ hp (by omega)) ?_ ?_ ?_
        · decide
        · simp only [z0, z1, z2, z3, z4, z5, z6, z7, z8, z9, z10, z11, z12, z13, z14, z15, z16, z17, z18, t0, t1, t2, t3, t4, t5, t6, dcrs, rngs, reduceIte, Nat.reduceLT, Nat.reduceLeDiff, Nat.reduceEqDiff, Nat.reduceAdd, Nat.reduceMul, Nat.reduceSub, Nat.reduceMod, Nat.reduceDiv, Int.reduceLE, Int.reduceLT, Int.reduceEq, Int.reduceNe, Nat.reduceBEq, ne_eq, reduceCtorEq, not_false_eq_true, Val.row]
        rintro r rfl
        simp only [z0, z1, z2, z3, z4, z5, z6, z7, z8, z9, z10, z11, z12, z13, z14, z15, z16, z17, z18, t0, t1, t2, t3, t4, t5, t6, dcrs, rngs, reduceIte, Nat.reduceLT, Nat.reduceLeDiff, Nat.reduceEqDiff, Nat.reduceAdd, Nat.reduceMul, Nat.reduceSub, Nat.reduceMod, Nat.reduceDiv, Int.reduceLE, Int.reduceLT, Int.reduceEq, Int.reduceNe, Nat.reduceBEq, ne_eq, reduceCtorEq, not_false_eq_true, h5, h1']
        refine And.intro (fun hneg => ?_) (fun hpos => ?_)
        · refine ⟨_, _, ?_, end0 rfl⟩
          rw [szVals, subL_gt]
          have : ¬ ((szVal a[i] : Int) ≤ l - a.length - ((a.take i).map szVal).sum) := fun h => by rw [subL_le h] at hneg; omega
          omega
        · have hle : ((szVal a[i] : Int) ≤ l - a.length - ((a.take i).map szVal).sum) := Int.not_lt.1 fun h => by rw [subL_gt h] at hpos; omega
          rw [subL_le hle, wrap_id (n := (i : Int) + 1) (by omega) (by omega)]
          exact ⟨[], none, SubO.nil _, PoSub.none _, ⟨i + 1, by simp, by omega, viE (by rw [hts]; omega), by rw [hts]; omega, rfl, rfl⟩, by simp only [ixS]; omega⟩
      · have : i = a.length := by omega
        subst this
        refine ⟨_, _, ?_, end0 rfl⟩
        rw [List.take_length] at hp
        rw [szVals, List.take_length, subL_le (by omega)]
        exact viE (by omega)

theorem szValueSS_d (a : List (List Val)) (l : Int) (h0 : 0 ≤ l) (h1 : l ≤ 1048576) : Cl Tryd.prog 10 [.c (.sl a.length (a.flatMap vrow) none), vi l] [] fun r _ => r = vi (subL l (szRows a)) := by
  refine cl_of_d follows_mixed false Tryd.func10 rfl (by kernel_rfl) ?_
  simp only [Tryd.f10, z0, z1, z2, z3, z4, z5, z6, z7, z8, z9, z10, z11, z12, z13, z14, z15, z16, z17, z18, t0, t1, t2, t3, t4, t5, t6, dcrs, rngs, reduceIte, Nat.reduceLT, Nat.reduceLeDiff, Nat.reduceEqDiff, Nat.reduceAdd, Nat.reduceMul, Nat.reduceSub, Nat.reduceMod, Nat.reduceDiv, Int.reduceLE, Int.reduceLT, Int.reduceEq, Int.reduceNe, Nat.reduceBEq, ne_eq, reduceCtorEq, not_false_eq_true]
  refine fun hs => ?_
  rw [wrap_id (n := l - a.length) (by omega) (by omega)]
  obtain ⟨tot, htot⟩ : ∃ tot, tot = (a.map szVals).sum := ⟨_, rfl⟩
  refine And.intro (fun h => ?_) (fun h => ?_)
  · exact ⟨_, _, by rw [szRows, subL_gt (by omega)], end0 rfl⟩
  · refine dLoop.intro (fun f L p => ∃ i : Nat, f 5 = vi i ∧ i ≤ a.length ∧ f 1 = vi (l - a.length - ((a.take i).map szVals).sum) ∧ 0 ≤ l - a.length - (((a.take i).map szVals).sum : Nat) ∧ L = [] ∧ p = none) (fun f _ _ => (a.length - ixS (f 5)).toNat) [] none ⟨SubO.nil _, PoSub.none _, ?_⟩ ?_
    · simp only [z0, z1, z2, z3, z4, z5, z6, z7, z8, z9, z10, z11, z12, z13, z14, z15, z16, z17, z18, t0, t1, t2, t3, t4, t5, t6, dcrs, rngs, reduceIte, Nat.reduceLT, Nat.reduceLeDiff, Nat.reduceEqDiff, Nat.reduceAdd, Nat.reduceMul, Nat.reduceSub, Nat.reduceMod, Nat.reduceDiv, Int.reduceLE, Int.reduceLT, Int.reduceEq, Int.reduceNe, Nat.reduceBEq, ne_eq, reduceCtorEq, not_false_eq_true]
      exact ⟨0, rfl, by omega, by simp, by simp; omega⟩
    · rintro g L p ⟨i, h5, hi, h1', hp, rfl, rfl⟩
      simp only [z0, z1, z2, z3, z4, z5, z6, z7, z8, z9, z10, z11, z12, z13, z14, z15, z16, z17, z18, t0, t1, t2, t3, t4, t5, t6, dcrs, rngs, reduceIte, Nat.reduceLT, Nat.reduceLeDiff, Nat.reduceEqDiff, Nat.reduceAdd, Nat.reduceMul, Nat.reduceSub, Nat.reduceMod, Nat.reduceDiv, Int.reduceLE, Int.reduceLT, Int.reduceEq, Int.reduceNe, Nat.reduceBEq, ne_eq, reduceCtorEq, not_false_eq_true] at h5 h1'
      obtain ⟨rst, hr⟩ := take_sum_le szVals a i
      simp only [z0, z1, z2, z3, z4, z5, z6, z7, z8, z9, z10, z11, z12, z13, z14, z15, z16, z17, z18, t0, t1, t2, t3, t4, t5, t6, dcrs, rngs, reduceIte, Nat.reduceLT, Nat.reduceLeDiff, Nat.reduceEqDiff, Nat.reduceAdd, Nat.reduceMul, Nat.reduceSub, Nat.reduceMod, Nat.reduceDiv, Int.reduceLE, Int.reduceLT, Int.reduceEq, Int.reduceNe, Nat.reduceBEq, ne_eq, reduceCtorEq, not_false_eq_true, h5, h1', Int.ofNat_lt]
      refine fun _ => And.intro (fun hlt => ?_) (fun hge => ?_)
      · have hlt : i < a.length := by omega
        refine ⟨by omega, by omega, _, drop_row vrow_len (List.getElem?_eq_getElem hlt), vrow_ne _ _, ?_⟩
        have hts := take_succ_sum szVals hlt
        obtain ⟨rst', hr'⟩ := take_sum_le szVals a (i + 1)
        simp only [z0, z1, z2, z3, z4, z5, z6, z7, z8, z9, z10, z11, z12, z13, z14, z15, z16, z17, z18, t0, t1, t2, t3, t4, t5, t6, dcrs, rngs, reduceIte, Nat.reduceLT, Nat.reduceLeDiff, Nat.reduceEqDiff, Nat.reduceAdd, Nat.reduceMul, Nat.reduceSub, Nat.reduceMod, Nat.reduceDiv, Int.reduceLE, Int.reduceLT, Int.reduceEq, Int.reduceNe, Nat.reduceBEq, ne_eq, reduceCtorEq, not_false_eq_true, h5, h1', vrow_tk]
        refine call0 (szValueS_d a[i] _ hp (by omega)) ?_ ?_ ?_
        · decide
        · simp only [z0, z1, z2, z3, z4, z5, z6, z7, z8, z9, z10, z11, z12, z13, z14, z15, z16, z17, z18, t0, t1, t2, t3, t4, t5, t6, dcrs, rngs, reduceIte, Nat.reduceLT, Nat.reduceLeDiff, Nat.reduceEqDiff, Nat.reduceAdd, Nat.reduceMul, Nat.reduceSub, Nat.reduceMod, Nat.reduceDiv, Int.reduceLE, Int.reduceLT, Int.reduceEq, Int.reduceNe, Nat.reduceBEq, ne_eq, reduceCtorEq, not_false_eq_true, vrow]
        rintro r rfl
        simp only [z0, z1, z2, z3, z4, z5, z6, z7, z8, z9, z10, z11, z12, z13, z14, z15, z16, z17, z18, t0, t1, t2, t3, t4, t5, t6, dcrs, rngs, reduceIte, Nat.reduceLT, Nat.reduceLeDiff, Nat.reduceEqDiff, Nat.reduceAdd, Nat.reduceMul, Nat.reduceSub, Nat.reduceMod, Nat.reduceDiv, Int.reduceLE, Int.reduceLT, Int.reduceEq, Int.reduceNe, Nat.reduceBEq, ne_eq, reduceCtorEq, not_false_eq_true, h5, h1']
        refine And.intro (fun hneg => ?_) (fun hpos => ?_)
        · refine ⟨_, _, ?_, end0 rfl⟩
          rw [szRows, subL_gt]
          have : ¬ ((szVals a[i] : Int) ≤ l - a.length - ((a.take i).map szVals).sum) := fun h => by rw [subL_le h] at hneg; omega
          omega
        · have hle : ((szVals a[i] : Int) ≤ l - a.length - ((a.take i).map szVals).sum) := Int.not_lt.1 fun h => by rw [subL_gt h] at hpos; omega
          rw [subL_le hle, wrap_id (n := (i : Int) + 1) (by omega) (by omega)]
          exact ⟨[], none, SubO.nil _, PoSub.none _, ⟨i + 1, by simp, by omega, viE (by rw [hts]; omega), by rw [hts]; omega, rfl, rfl⟩, by simp only [ixS]; omega⟩
      · have : i = a.length := by omega
        subst this
        refine ⟨_, _, ?_, end0 rfl⟩
        rw [List.take_length] at hp
        rw [szRows, List.take_length, subL_le (by omega)]
        exact viE (by omega)

end Go.Proofs.YtlbbflchkkcdhaaDoor

set_option linter.unusedVariables false
set_option linter.unusedSimpArgs false
set_option maxRecDepth 8000
namespace Go.Proofs.YtlbbflchkkcdhaaDoor
open Go Go.Dv
open Go.Vc (D shrI xorI andI and255)

theorem szResult_d (a : Res) (l : Int) (h0 : 0 ≤ l) (h1 : l ≤ 1048576) : Cl Tryd.prog 4 [.ag (csOf a.row), vi l] [] fun r _ => r = vi (subL l (szRes a)) := by
  rw [Res.row]
  refine cl_of_d follows_mixed false Tryd.func4 rfl (by kernel_rfl) ?_
  simp only [Tryd.f4, z0, z1, z2, z3, z4, z5, z6, z7, z8, z9, z10, z11, z12, z13, z14, z15, z16, z17, z18, t0, t1, t2, t3, t4, t5, t6, dcrs, rngs, reduceIte, Nat.reduceLT, Nat.reduceLeDiff, Nat.reduceEqDiff, Nat.reduceAdd, Nat.reduceMul, Nat.reduceSub, Nat.reduceMod, Nat.reduceDiv, Int.reduceLE, Int.reduceLT, Int.reduceEq, Int.reduceNe, Nat.reduceBEq, ne_eq, reduceCtorEq, not_false_eq_true, implies_true]
  refine call0 (szRFault_d a.f l h0 h1) ?_ ?_ ?_
  · decide
  · simp only [z0, z1, z2, z3, z4, z5, z6, z7, z8, z9, z10, z11, z12, z13, z14, z15, z16, z17, z18, t0, t1, t2, t3, t4, t5, t6, dcrs, rngs, reduceIte, Nat.reduceLT, Nat.reduceLeDiff, Nat.reduceEqDiff, Nat.reduceAdd, Nat.reduceMul, Nat.reduceSub, Nat.reduceMod, Nat.reduceDiv, Int.reduceLE, Int.reduceLT, Int.reduceEq, Int.reduceNe, Nat.reduceBEq, ne_eq, reduceCtorEq, not_false_eq_true, implies_true, Fa.row]
  rintro r rfl
  simp only [z0, z1, z2, z3, z4, z5, z6, z7, z8, z9, z10, z11, z12, z13, z14, z15, z16, z17, z18, t0, t1, t2, t3, t4, t5, t6, dcrs, rngs, reduceIte, Nat.reduceLT, Nat.reduceLeDiff, Nat.reduceEqDiff, Nat.reduceAdd, Nat.reduceMul, Nat.reduceSub, Nat.reduceMod, Nat.reduceDiv, Int.reduceLE, Int.reduceLT, Int.reduceEq, Int.reduceNe, Nat.reduceBEq, ne_eq, reduceCtorEq, not_false_eq_true, implies_true, Fa.row]
  have hb := subL_bounds (s := a.f.name.size) h0
  refine And.intro (fun h => ?_) (fun h => ?_)
  · exact ⟨_, _, viE (by rw [szRes, subL_neg h h0]), end0 rfl⟩
  · skip
    refine call0 (szValueSS_d a.rows (subL l a.f.name.size) (by omega) (by omega)) ?_ ?_ ?_
    · decide
    · simp only [z0, z1, z2, z3, z4, z5, z6, z7, z8, z9, z10, z11, z12, z13, z14, z15, z16, z17, z18, t0, t1, t2, t3, t4, t5, t6, dcrs, rngs, reduceIte, Nat.reduceLT, Nat.reduceLeDiff, Nat.reduceEqDiff, Nat.reduceAdd, Nat.reduceMul, Nat.reduceSub, Nat.reduceMod, Nat.reduceDiv, Int.reduceLE, Int.reduceLT, Int.reduceEq, Int.reduceNe, Nat.reduceBEq, ne_eq, reduceCtorEq, not_false_eq_true, implies_true, Fa.row]
    rintro r rfl
    simp only [z0, z1, z2, z3, z4, z5, z6, z7, z8, z9, z10, z11, z12, z13, z14, z15, z16, z17, z18, t0, t1, t2, t3, t4, t5, t6, dcrs, rngs, reduceIte, Nat.reduceLT, Nat.reduceLeDiff, Nat.reduceEqDiff, Nat.reduceAdd, Nat.reduceMul, Nat.reduceSub, Nat.reduceMod, Nat.reduceDiv, Int.reduceLE, Int.reduceLT, Int.reduceEq, Int.reduceNe, Nat.reduceBEq, ne_eq, reduceCtorEq, not_false_eq_true, implies_true, Fa.row]
    have hb := subL_bounds (s := szRows a.rows) (l := subL l a.f.name.size) (by omega)
    rw [szRes, subL_add (by omega)]
    refine And.intro (fun h => ?_) (fun h => ?_)
    · exact ⟨_, _, viE (by omega), end0 rfl⟩
    · exact ⟨_, _, rfl, end0 rfl⟩
theorem toRFault_d (v : Fa) : Cl Tryd.prog 14 [.ag (csOf v.row)] [] fun r _ => r = .ag (csOf v.row) := by
  rw [Fa.row]
  refine cl_of_d follows_mixed false Tryd.func14 rfl (by kernel_rfl) ?_
  simp only [Tryd.f14, z0, z1, z2, z3, z4, z5, z6, z7, z8, z9, z10, z11, z12, z13, z14, z15, z16, z17, z18, t0, t1, t2, t3, t4, t5, t6, dcrs, rngs, reduceIte, Nat.reduceLT, Nat.reduceLeDiff, Nat.reduceEqDiff, Nat.reduceAdd, Nat.reduceMul, Nat.reduceSub, Nat.reduceMod, Nat.reduceDiv, Int.reduceLE, Int.reduceLT, Int.reduceEq, Int.reduceNe, Nat.reduceBEq, ne_eq, reduceCtorEq, not_false_eq_true, implies_true]
  exact ⟨_, _, rfl, end0 rfl⟩
theorem toValue_d (v : Val) : Cl Tryd.prog 38 [.ag (csOf v.row)] [] fun r _ => r = .ag (csOf v.row) := by
  rw [Val.row]
  refine cl_of_d follows_mixed false Tryd.func38 rfl (by kernel_rfl) ?_
  simp only [Tryd.f38, z0, z1, z2, z3, z4, z5, z6, z7, z8, z9, z10, z11, z12, z13, z14, z15, z16, z17, z18, t0, t1, t2, t3, t4, t5, t6, dcrs, rngs, reduceIte, Nat.reduceLT, Nat.reduceLeDiff, Nat.reduceEqDiff, Nat.reduceAdd, Nat.reduceMul, Nat.reduceSub, Nat.reduceMod, Nat.reduceDiv, Int.reduceLE, Int.reduceLT, Int.reduceEq, Int.reduceNe, Nat.reduceBEq, ne_eq, reduceCtorEq, not_false_eq_true, implies_true]
  exact ⟨_, _, rfl, end0 rfl⟩
theorem fillLen {α : Type} {row : α → List D} {sz : Nat} (hsz : ∀ e, (row e).length = sz) {z : List D} (hz : z.length = sz) (l : List α) {i : Nat} (h : i ≤ l.length) :
    ((l.take i).flatMap row ++ (List.replicate (l.length - i) z).flatten).length = l.length * sz := by
  rw [List.length_append, flatMap_len hsz, List.length_flatten, List.map_replicate, List.sum_replicate_nat, hz, List.length_take, Nat.min_eq_left h, ← Nat.add_mul]
  congr 1; omega
theorem fillRow {α : Type} {row : α → List D} {sz : Nat} (hsz : ∀ e, (row e).length = sz) {z : List D} (hz : z.length = sz) {l : List α} {i : Nat} (h : i < l.length) :
    List.take (i * sz) ((l.take i).flatMap row ++ (List.replicate (l.length - i) z).flatten) ++ (row l[i] ++ List.drop (i * sz + sz) ((l.take i).flatMap row ++ (List.replicate (l.length - i) z).flatten)) =
      (l.take (i + 1)).flatMap row ++ (List.replicate (l.length - (i + 1)) z).flatten := by
  have hd : ((l.take i).flatMap row).length = i * sz := by rw [flatMap_len hsz, List.length_take, Nat.min_eq_left (by omega)]
  rw [List.take_left' hd, show l.length - i = l.length - (i + 1) + 1 by omega, List.replicate_succ, List.flatten_cons, ← List.append_assoc _ z, List.drop_left' (by simp [hd, hz]), List.take_succ_eq_append_getElem h, List.flatMap_append]
  simp only [List.flatMap_cons, List.flatMap_nil, List.append_nil, List.append_assoc]
theorem fillLast {α : Type} {row : α → List D} (z : List D) (l : List α) : (l.take l.length).flatMap row ++ (List.replicate (l.length - l.length) z).flatten = l.flatMap row := by simp
theorem toValueS_d (a : List Val) (hl : a.length ≤ 1048576) : Cl Tryd.prog 25 [.c (.sl a.length (a.flatMap Val.row) none)] [] fun r _ => r = .c (.sl a.length (a.flatMap Val.row) none) := by
  refine cl_of_d follows_mixed false Tryd.func25 rfl (by kernel_rfl) ?_
  simp only [Tryd.f25, z0, z1, z2, z3, z4, z5, z6, z7, z8, z9, z10, z11, z12, z13, z14, z15, z16, z17, z18, t0, t1, t2, t3, t4, t5, t6, dcrs, rngs, reduceIte, Nat.reduceLT, Nat.reduceLeDiff, Nat.reduceEqDiff, Nat.reduceAdd, Nat.reduceMul, Nat.reduceSub, Nat.reduceMod, Nat.reduceDiv, Int.reduceLE, Int.reduceLT, Int.reduceEq, Int.reduceNe, Nat.reduceBEq, ne_eq, reduceCtorEq, not_false_eq_true, implies_true]
  refine fun _ => ⟨by omega, by omega, by omega, ?_⟩
  refine dLoop.intro (fun f L p => ∃ i : Nat, f 4 = vi i ∧ i ≤ a.length ∧ L = [(7, .arr 54 a.length ((a.take i).flatMap Val.row ++ (List.replicate (a.length - i) [int 0, int 0, str ByteArray.empty]).flatten) none)] ∧ p = none) (fun f _ _ => (a.length - ixS (f 4)).toNat) [(7, .arr 54 a.length (List.replicate a.length [int 0, int 0, str ByteArray.empty]).flatten none)] none ⟨SubO.cons rfl (SubO.nil _), PoSub.none _, ?_⟩ ?_
  · simp only [z0, z1, z2, z3, z4, z5, z6, z7, z8, z9, z10, z11, z12, z13, z14, z15, z16, z17, z18, t0, t1, t2, t3, t4, t5, t6, dcrs, rngs, reduceIte, Nat.reduceLT, Nat.reduceLeDiff, Nat.reduceEqDiff, Nat.reduceAdd, Nat.reduceMul, Nat.reduceSub, Nat.reduceMod, Nat.reduceDiv, Int.reduceLE, Int.reduceLT, Int.reduceEq, Int.reduceNe, Nat.reduceBEq, ne_eq, reduceCtorEq, not_false_eq_true, implies_true]
    exact ⟨0, rfl, by omega, by simp⟩
  · rintro g L p ⟨i, h4, hi, rfl, rfl⟩
    simp only [z0, z1, z2, z3, z4, z5, z6, z7, z8, z9, z10, z11, z12, z13, z14, z15, z16, z17, z18, t0, t1, t2, t3, t4, t5, t6, dcrs, rngs, reduceIte, Nat.reduceLT, Nat.reduceLeDiff, Nat.reduceEqDiff, Nat.reduceAdd, Nat.reduceMul, Nat.reduceSub, Nat.reduceMod, Nat.reduceDiv, Int.reduceLE, Int.reduceLT, Int.reduceEq, Int.reduceNe, Nat.reduceBEq, ne_eq, reduceCtorEq, not_false_eq_true, implies_true] at h4
    simp only [z0, z1, z2, z3, z4, z5, z6, z7, z8, z9, z10, z11, z12, z13, z14, z15, z16, z17, z18, t0, t1, t2, t3, t4, t5, t6, dcrs, rngs, reduceIte, Nat.reduceLT, Nat.reduceLeDiff, Nat.reduceEqDiff, Nat.reduceAdd, Nat.reduceMul, Nat.reduceSub, Nat.reduceMod, Nat.reduceDiv, Int.reduceLE, Int.reduceLT, Int.reduceEq, Int.reduceNe, Nat.reduceBEq, ne_eq, reduceCtorEq, not_false_eq_true, implies_true, h4, Int.ofNat_lt]
    refine fun _ => And.intro (fun hlt => ?_) (fun hge => ?_)
    · refine ⟨by omega, by omega, _, drop_row Val.row_len (List.getElem?_eq_getElem hlt), Val.ne _ _, ?_⟩
      simp only [z0, z1, z2, z3, z4, z5, z6, z7, z8, z9, z10, z11, z12, z13, z14, z15, z16, z17, z18, t0, t1, t2, t3, t4, t5, t6, dcrs, rngs, reduceIte, Nat.reduceLT, Nat.reduceLeDiff, Nat.reduceEqDiff, Nat.reduceAdd, Nat.reduceMul, Nat.reduceSub, Nat.reduceMod, Nat.reduceDiv, Int.reduceLE, Int.reduceLT, Int.reduceEq, Int.reduceNe, Nat.reduceBEq, ne_eq, reduceCtorEq, not_false_eq_true, implies_true, h4, Val.tk]
      refine call0 (toValue_d a[i]) ?_ ?_ ?_
      · decide
      · simp only [z0, z1, z2, z3, z4, z5, z6, z7, z8, z9, z10, z11, z12, z13, z14, z15, z16, z17, z18, t0, t1, t2, t3, t4, t5, t6, dcrs, rngs, reduceIte, Nat.reduceLT, Nat.reduceLeDiff, Nat.reduceEqDiff, Nat.reduceAdd, Nat.reduceMul, Nat.reduceSub, Nat.reduceMod, Nat.reduceDiv, Int.reduceLE, Int.reduceLT, Int.reduceEq, Int.reduceNe, Nat.reduceBEq, ne_eq, reduceCtorEq, not_false_eq_true, implies_true, Val.row]
      rintro r rfl
      simp only [z0, z1, z2, z3, z4, z5, z6, z7, z8, z9, z10, z11, z12, z13, z14, z15, z16, z17, z18, t0, t1, t2, t3, t4, t5, t6, dcrs, rngs, reduceIte, Nat.reduceLT, Nat.reduceLeDiff, Nat.reduceEqDiff, Nat.reduceAdd, Nat.reduceMul, Nat.reduceSub, Nat.reduceMod, Nat.reduceDiv, Int.reduceLE, Int.reduceLT, Int.reduceEq, Int.reduceNe, Nat.reduceBEq, ne_eq, reduceCtorEq, not_false_eq_true, implies_true, h4, Val.row]
      refine ⟨by omega, by omega, by rw [fillLen Val.row_len rfl a (by omega)]; omega, ?_⟩
      rw [wrap_id (n := (i : Int) + 1) (by omega) (by omega)]
      exact ⟨_, none, SubO.cons rfl (SubO.nil _), PoSub.none _, ⟨i + 1, rfl, by omega, congrArg (fun x => [(7, O.arr 54 a.length x none)]) (fillRow Val.row_len rfl hlt), rfl⟩, by simp only [ixS]; omega⟩
    · have : i = a.length := by omega
      subst this
      rw [fillLast]
      refine ⟨_, [], rfl, endOk ?_⟩
      simp only [z0, z1, z2, z3, z4, z5, z6, z7, z8, z9, z10, z11, z12, z13, z14, z15, z16, z17, z18, t0, t1, t2, t3, t4, t5, t6, dcrs, rngs, reduceIte, Nat.reduceLT, Nat.reduceLeDiff, Nat.reduceEqDiff, Nat.reduceAdd, Nat.reduceMul, Nat.reduceSub, Nat.reduceMod, Nat.reduceDiv, Int.reduceLE, Int.reduceLT, Int.reduceEq, Int.reduceNe, Nat.reduceBEq, ne_eq, reduceCtorEq, not_false_eq_true, implies_true]
theorem toValueSS_d (a : List (List Val)) (hl : a.length ≤ 1048576) (hll : ∀ l ∈ a, l.length ≤ 1048576) : Cl Tryd.prog 15 [.c (.sl a.length (a.flatMap vrow) none)] [] fun r _ => r = .c (.sl a.length (a.flatMap vrow) none) := by
  refine cl_of_d follows_mixed false Tryd.func15 rfl (by kernel_rfl) ?_
  simp only [Tryd.f15, z0, z1, z2, z3, z4, z5, z6, z7, z8, z9, z10, z11, z12, z13, z14, z15, z16, z17, z18, t0, t1, t2, t3, t4, t5, t6, dcrs, rngs, reduceIte, Nat.reduceLT, Nat.reduceLeDiff, Nat.reduceEqDiff, Nat.reduceAdd, Nat.reduceMul, Nat.reduceSub, Nat.reduceMod, Nat.reduceDiv, Int.reduceLE, Int.reduceLT, Int.reduceEq, Int.reduceNe, Nat.reduceBEq, ne_eq, reduceCtorEq, not_false_eq_true, implies_true]
  refine fun _ => ⟨by omega, by omega, by omega, ?_⟩
  refine dLoop.intro (fun f L p => ∃ i : Nat, f 4 = vi i ∧ i ≤ a.length ∧ L = [(7, .arr 51 a.length ((a.take i).flatMap vrow ++ (List.replicate (a.length - i) [.sl 0 []]).flatten) none)] ∧ p = none) (fun f _ _ => (a.length - ixS (f 4)).toNat) [(7, .arr 51 a.length (List.replicate a.length [.sl 0 []]).flatten none)] none ⟨SubO.cons rfl (SubO.nil _), PoSub.none _, ?_⟩ ?_
  · simp only [z0, z1, z2, z3, z4, z5, z6, z7, z8, z9, z10, z11, z12, z13, z14, z15, z16, z17, z18, t0, t1, t2, t3, t4, t5, t6, dcrs, rngs, reduceIte, Nat.reduceLT, Nat.reduceLeDiff, Nat.reduceEqDiff, Nat.reduceAdd, Nat.reduceMul, Nat.reduceSub, Nat.reduceMod, Nat.reduceDiv, Int.reduceLE, Int.reduceLT, Int.reduceEq, Int.reduceNe, Nat.reduceBEq, ne_eq, reduceCtorEq, not_false_eq_true, implies_true]
    exact ⟨0, rfl, by omega, by simp⟩
  · rintro g L p ⟨i, h4, hi, rfl, rfl⟩
    simp only [z0, z1, z2, z3, z4, z5, z6, z7, z8, z9, z10, z11, z12, z13, z14, z15, z16, z17, z18, t0, t1, t2, t3, t4, t5, t6, dcrs, rngs, reduceIte, Nat.reduceLT, Nat.reduceLeDiff, Nat.reduceEqDiff, Nat.reduceAdd, Nat.reduceMul, Nat.reduceSub, Nat.reduceMod, Nat.reduceDiv, Int.reduceLE, Int.reduceLT, Int.reduceEq, Int.reduceNe, Nat.reduceBEq, ne_eq, reduceCtorEq, not_false_eq_true, implies_true] at h4
    simp only [z0, z1, z2, z3, z4, z5, z6, z7, z8, z9, z10, z11, z12, z13, z14, z15, z16, z17, z18, t0, t1, t2, t3, t4, t5, t6, dcrs, rngs, reduceIte, Nat.reduceLT, Nat.reduceLeDiff, Nat.reduceEqDiff, Nat.reduceAdd, Nat.reduceMul, Nat.reduceSub, Nat.reduceMod, Nat.reduceDiv, Int.reduceLE, Int.reduceLT, Int.reduceEq, Int.reduceNe, Nat.reduceBEq, ne_eq, reduceCtorEq, not_false_eq_true, implies_true, h4, Int.ofNat_lt]
    refine fun _ => And.intro (fun hlt => ?_) (fun hge => ?_)
    · refine ⟨by omega, by omega, _, drop_row vrow_len (List.getElem?_eq_getElem hlt), vrow_ne _ _, ?_⟩
      simp only [z0, z1, z2, z3, z4, z5, z6, z7, z8, z9, z10, z11, z12, z13, z14, z15, z16, z17, z18, t0, t1, t2, t3, t4, t5, t6, dcrs, rngs, reduceIte, Nat.reduceLT, Nat.reduceLeDiff, Nat.reduceEqDiff, Nat.reduceAdd, Nat.reduceMul, Nat.reduceSub, Nat.reduceMod, Nat.reduceDiv, Int.reduceLE, Int.reduceLT, Int.reduceEq, Int.reduceNe, Nat.reduceBEq, ne_eq, reduceCtorEq, not_false_eq_true, implies_true, h4, vrow_tk]
      refine call0 (toValueS_d a[i] (hll _ (List.getElem_mem hlt))) ?_ ?_ ?_
      · decide
      · simp only [z0, z1, z2, z3, z4, z5, z6, z7, z8, z9, z10, z11, z12, z13, z14, z15, z16, z17, z18, t0, t1, t2, t3, t4, t5, t6, dcrs, rngs, reduceIte, Nat.reduceLT, Nat.reduceLeDiff, Nat.reduceEqDiff, Nat.reduceAdd, Nat.reduceMul, Nat.reduceSub, Nat.reduceMod, Nat.reduceDiv, Int.reduceLE, Int.reduceLT, Int.reduceEq, Int.reduceNe, Nat.reduceBEq, ne_eq, reduceCtorEq, not_false_eq_true, implies_true, vrow]
      rintro r rfl
      simp only [z0, z1, z2, z3, z4, z5, z6, z7, z8, z9, z10, z11, z12, z13, z14, z15, z16, z17, z18, t0, t1, t2, t3, t4, t5, t6, dcrs, rngs, reduceIte, Nat.reduceLT, Nat.reduceLeDiff, Nat.reduceEqDiff, Nat.reduceAdd, Nat.reduceMul, Nat.reduceSub, Nat.reduceMod, Nat.reduceDiv, Int.reduceLE, Int.reduceLT, Int.reduceEq, Int.reduceNe, Nat.reduceBEq, ne_eq, reduceCtorEq, not_false_eq_true, implies_true, h4, vrow]
      refine ⟨by omega, by omega, by have := fillLen vrow_len (z := [.sl 0 []]) rfl a (i := i) (by omega); simp only [Nat.mul_one] at this; omega, ?_⟩
      rw [wrap_id (n := (i : Int) + 1) (by omega) (by omega)]
      exact ⟨_, none, SubO.cons rfl (SubO.nil _), PoSub.none _, ⟨i + 1, rfl, by omega, congrArg (fun x => [(7, O.arr 51 a.length x none)]) (by have := fillRow vrow_len (z := [.sl 0 []]) rfl hlt; simpa only [Nat.mul_one, vrow, List.cons_append, List.nil_append] using this), rfl⟩, by simp only [ixS]; omega⟩
    · have : i = a.length := by omega
      subst this
      rw [fillLast]
      refine ⟨_, [], rfl, endOk ?_⟩
      simp only [z0, z1, z2, z3, z4, z5, z6, z7, z8, z9, z10, z11, z12, z13, z14, z15, z16, z17, z18, t0, t1, t2, t3, t4, t5, t6, dcrs, rngs, reduceIte, Nat.reduceLT, Nat.reduceLeDiff, Nat.reduceEqDiff, Nat.reduceAdd, Nat.reduceMul, Nat.reduceSub, Nat.reduceMod, Nat.reduceDiv, Int.reduceLE, Int.reduceLT, Int.reduceEq, Int.reduceNe, Nat.reduceBEq, ne_eq, reduceCtorEq, not_false_eq_true, implies_true]
theorem toResult_d (a : Res) (hl : a.rows.length ≤ 1048576) (hll : ∀ l ∈ a.rows, l.length ≤ 1048576) : Cl Tryd.prog 6 [.ag (csOf a.row)] [] fun r _ => r = .ag (csOf a.row) := by
  rw [Res.row]
  refine cl_of_d follows_mixed false Tryd.func6 rfl (by kernel_rfl) ?_
  simp only [Tryd.f6, z0, z1, z2, z3, z4, z5, z6, z7, z8, z9, z10, z11, z12, z13, z14, z15, z16, z17, z18, t0, t1, t2, t3, t4, t5, t6, dcrs, rngs, reduceIte, Nat.reduceLT, Nat.reduceLeDiff, Nat.reduceEqDiff, Nat.reduceAdd, Nat.reduceMul, Nat.reduceSub, Nat.reduceMod, Nat.reduceDiv, Int.reduceLE, Int.reduceLT, Int.reduceEq, Int.reduceNe, Nat.reduceBEq, ne_eq, reduceCtorEq, not_false_eq_true, implies_true]
  refine call0 (toRFault_d a.f) ?_ ?_ ?_
  · decide
  · simp only [z0, z1, z2, z3, z4, z5, z6, z7, z8, z9, z10, z11, z12, z13, z14, z15, z16, z17, z18, t0, t1, t2, t3, t4, t5, t6, dcrs, rngs, reduceIte, Nat.reduceLT, Nat.reduceLeDiff, Nat.reduceEqDiff, Nat.reduceAdd, Nat.reduceMul, Nat.reduceSub, Nat.reduceMod, Nat.reduceDiv, Int.reduceLE, Int.reduceLT, Int.reduceEq, Int.reduceNe, Nat.reduceBEq, ne_eq, reduceCtorEq, not_false_eq_true, implies_true, Fa.row]
  rintro r rfl
  simp only [z0, z1, z2, z3, z4, z5, z6, z7, z8, z9, z10, z11, z12, z13, z14, z15, z16, z17, z18, t0, t1, t2, t3, t4, t5, t6, dcrs, rngs, reduceIte, Nat.reduceLT, Nat.reduceLeDiff, Nat.reduceEqDiff, Nat.reduceAdd, Nat.reduceMul, Nat.reduceSub, Nat.reduceMod, Nat.reduceDiv, Int.reduceLE, Int.reduceLT, Int.reduceEq, Int.reduceNe, Nat.reduceBEq, ne_eq, reduceCtorEq, not_false_eq_true, implies_true, Fa.row]
  refine call0 (toValueSS_d a.rows hl hll) ?_ ?_ ?_
  · decide
  · simp only [z0, z1, z2, z3, z4, z5, z6, z7, z8, z9, z10, z11, z12, z13, z14, z15, z16, z17, z18, t0, t1, t2, t3, t4, t5, t6, dcrs, rngs, reduceIte, Nat.reduceLT, Nat.reduceLeDiff, Nat.reduceEqDiff, Nat.reduceAdd, Nat.reduceMul, Nat.reduceSub, Nat.reduceMod, Nat.reduceDiv, Int.reduceLE, Int.reduceLT, Int.reduceEq, Int.reduceNe, Nat.reduceBEq, ne_eq, reduceCtorEq, not_false_eq_true, implies_true, Fa.row]
  rintro r rfl
  simp only [z0, z1, z2, z3, z4, z5, z6, z7, z8, z9, z10, z11, z12, z13, z14, z15, z16, z17, z18, t0, t1, t2, t3, t4, t5, t6, dcrs, rngs, reduceIte, Nat.reduceLT, Nat.reduceLeDiff, Nat.reduceEqDiff, Nat.reduceAdd, Nat.reduceMul, Nat.reduceSub, Nat.reduceMod, Nat.reduceDiv, Int.reduceLE, Int.reduceLT, Int.reduceEq, Int.reduceNe, Nat.reduceBEq, ne_eq, reduceCtorEq, not_false_eq_true, implies_true, Fa.row]
  exact ⟨_, _, rfl, end0 rfl⟩
theorem eqRFault_d (v : Fa) : Cl Tryd.prog 19 [.ag (csOf v.row), .ag (csOf v.row)] [] fun r _ => r = vb true := by
  rw [Fa.row]
  refine cl_of_d follows_mixed false Tryd.func19 rfl (by kernel_rfl) ?_
  simp only [Tryd.f19, z0, z1, z2, z3, z4, z5, z6, z7, z8, z9, z10, z11, z12, z13, z14, z15, z16, z17, z18, t0, t1, t2, t3, t4, t5, t6, dcrs, rngs, reduceIte, Nat.reduceLT, Nat.reduceLeDiff, Nat.reduceEqDiff, Nat.reduceAdd, Nat.reduceMul, Nat.reduceSub, Nat.reduceMod, Nat.reduceDiv, Int.reduceLE, Int.reduceLT, Int.reduceEq, Int.reduceNe, Nat.reduceBEq, ne_eq, reduceCtorEq, not_false_eq_true, implies_true]
  exact ⟨_, _, rfl, end0 rfl⟩
theorem eqValue_d (v : Val) : Cl Tryd.prog 46 [.ag (csOf v.row), .ag (csOf v.row)] [] fun r _ => r = vb true := by
  rw [Val.row]
  refine cl_of_d follows_mixed false Tryd.func46 rfl (by kernel_rfl) ?_
  simp only [Tryd.f46, z0, z1, z2, z3, z4, z5, z6, z7, z8, z9, z10, z11, z12, z13, z14, z15, z16, z17, z18, t0, t1, t2, t3, t4, t5, t6, dcrs, rngs, reduceIte, Nat.reduceLT, Nat.reduceLeDiff, Nat.reduceEqDiff, Nat.reduceAdd, Nat.reduceMul, Nat.reduceSub, Nat.reduceMod, Nat.reduceDiv, Int.reduceLE, Int.reduceLT, Int.reduceEq, Int.reduceNe, Nat.reduceBEq, ne_eq, reduceCtorEq, not_false_eq_true, implies_true]
  exact ⟨_, _, rfl, end0 rfl⟩
theorem eqValueS_d (a : List Val) : Cl Tryd.prog 31 [.c (.sl a.length (a.flatMap Val.row) none), .c (.sl a.length (a.flatMap Val.row) none)] [] fun r _ => r = vb true := by
  refine cl_of_d follows_mixed false Tryd.func31 rfl (by kernel_rfl) ?_
  simp only [Tryd.f31, z0, z1, z2, z3, z4, z5, z6, z7, z8, z9, z10, z11, z12, z13, z14, z15, z16, z17, z18, t0, t1, t2, t3, t4, t5, t6, dcrs, rngs, reduceIte, Nat.reduceLT, Nat.reduceLeDiff, Nat.reduceEqDiff, Nat.reduceAdd, Nat.reduceMul, Nat.reduceSub, Nat.reduceMod, Nat.reduceDiv, Int.reduceLE, Int.reduceLT, Int.reduceEq, Int.reduceNe, Nat.reduceBEq, ne_eq, reduceCtorEq, not_false_eq_true, implies_true]
  refine fun _ _ => ?_
  refine dLoop.intro (fun f L p => ∃ i : Nat, f 5 = vi i ∧ i ≤ a.length ∧ L = [] ∧ p = none) (fun f _ _ => (a.length - ixS (f 5)).toNat) [] none ⟨SubO.nil _, PoSub.none _, ?_⟩ ?_
  · simp only [z0, z1, z2, z3, z4, z5, z6, z7, z8, z9, z10, z11, z12, z13, z14, z15, z16, z17, z18, t0, t1, t2, t3, t4, t5, t6, dcrs, rngs, reduceIte, Nat.reduceLT, Nat.reduceLeDiff, Nat.reduceEqDiff, Nat.reduceAdd, Nat.reduceMul, Nat.reduceSub, Nat.reduceMod, Nat.reduceDiv, Int.reduceLE, Int.reduceLT, Int.reduceEq, Int.reduceNe, Nat.reduceBEq, ne_eq, reduceCtorEq, not_false_eq_true, implies_true]
    exact ⟨0, rfl, by omega⟩
  · rintro g L p ⟨i, h5, hi, rfl, rfl⟩
    simp only [z0, z1, z2, z3, z4, z5, z6, z7, z8, z9, z10, z11, z12, z13, z14, z15, z16, z17, z18, t0, t1, t2, t3, t4, t5, t6, dcrs, rngs, reduceIte, Nat.reduceLT, Nat.reduceLeDiff, Nat.reduceEqDiff, Nat.reduceAdd, Nat.reduceMul, Nat.reduceSub, Nat.reduceMod, Nat.reduceDiv, Int.reduceLE, Int.reduceLT, Int.reduceEq, Int.reduceNe, Nat.reduceBEq, ne_eq, reduceCtorEq, not_false_eq_true, implies_true] at h5
    simp only [z0, z1, z2, z3, z4, z5, z6, z7, z8, z9, z10, z11, z12, z13, z14, z15, z16, z17, z18, t0, t1, t2, t3, t4, t5, t6, dcrs, rngs, reduceIte, Nat.reduceLT, Nat.reduceLeDiff, Nat.reduceEqDiff, Nat.reduceAdd, Nat.reduceMul, Nat.reduceSub, Nat.reduceMod, Nat.reduceDiv, Int.reduceLE, Int.reduceLT, Int.reduceEq, Int.reduceNe, Nat.reduceBEq, ne_eq, reduceCtorEq, not_false_eq_true, implies_true, h5, Int.ofNat_lt]
    refine fun _ => And.intro (fun hlt => ?_) (fun hge => ?_)
    · skip
      refine dDrawn.intro [] (pln [0, 2, 4, 6, 8, 10, 12, 14, 17, 18]) (by kernel_rfl) ?_
      simp only [z0, z1, z2, z3, z4, z5, z6, z7, z8, z9, z10, z11, z12, z13, z14, z15, z16, z17, z18, t0, t1, t2, t3, t4, t5, t6, dcrs, rngs, reduceIte, Nat.reduceLT, Nat.reduceLeDiff, Nat.reduceEqDiff, Nat.reduceAdd, Nat.reduceMul, Nat.reduceSub, Nat.reduceMod, Nat.reduceDiv, Int.reduceLE, Int.reduceLT, Int.reduceEq, Int.reduceNe, Nat.reduceBEq, ne_eq, reduceCtorEq, not_false_eq_true, implies_true]
      simp only [z0, z1, z2, z3, z4, z5, z6, z7, z8, z9, z10, z11, z12, z13, z14, z15, z16, z17, z18, t0, t1, t2, t3, t4, t5, t6, dcrs, rngs, reduceIte, Nat.reduceLT, Nat.reduceLeDiff, Nat.reduceEqDiff, Nat.reduceAdd, Nat.reduceMul, Nat.reduceSub, Nat.reduceMod, Nat.reduceDiv, Int.reduceLE, Int.reduceLT, Int.reduceEq, Int.reduceNe, Nat.reduceBEq, ne_eq, reduceCtorEq, not_false_eq_true, implies_true, h5]
      refine ⟨by omega, by omega, _, drop_row Val.row_len (List.getElem?_eq_getElem hlt), Val.ne _ _, ?_⟩
      simp only [z0, z1, z2, z3, z4, z5, z6, z7, z8, z9, z10, z11, z12, z13, z14, z15, z16, z17, z18, t0, t1, t2, t3, t4, t5, t6, dcrs, rngs, reduceIte, Nat.reduceLT, Nat.reduceLeDiff, Nat.reduceEqDiff, Nat.reduceAdd, Nat.reduceMul, Nat.reduceSub, Nat.reduceMod, Nat.reduceDiv, Int.reduceLE, Int.reduceLT, Int.reduceEq, Int.reduceNe, Nat.reduceBEq, ne_eq, reduceCtorEq, not_false_eq_true, implies_true, h5, Val.tk]
      refine ⟨by omega, by omega, _, drop_row Val.row_len (List.getElem?_eq_getElem hlt), Val.ne _ _, ?_⟩
      simp only [z0, z1, z2, z3, z4, z5, z6, z7, z8, z9, z10, z11, z12, z13, z14, z15, z16, z17, z18, t0, t1, t2, t3, t4, t5, t6, dcrs, rngs, reduceIte, Nat.reduceLT, Nat.reduceLeDiff, Nat.reduceEqDiff, Nat.reduceAdd, Nat.reduceMul, Nat.reduceSub, Nat.reduceMod, Nat.reduceDiv, Int.reduceLE, Int.reduceLT, Int.reduceEq, Int.reduceNe, Nat.reduceBEq, ne_eq, reduceCtorEq, not_false_eq_true, implies_true, h5, Val.tk]
      refine call0 (eqValue_d a[i]) ?_ ?_ ?_
      · decide
      · simp only [z0, z1, z2, z3, z4, z5, z6, z7, z8, z9, z10, z11, z12, z13, z14, z15, z16, z17, z18, t0, t1, t2, t3, t4, t5, t6, dcrs, rngs, reduceIte, Nat.reduceLT, Nat.reduceLeDiff, Nat.reduceEqDiff, Nat.reduceAdd, Nat.reduceMul, Nat.reduceSub, Nat.reduceMod, Nat.reduceDiv, Int.reduceLE, Int.reduceLT, Int.reduceEq, Int.reduceNe, Nat.reduceBEq, ne_eq, reduceCtorEq, not_false_eq_true, implies_true, Val.row]
      rintro r rfl
      simp only [z0, z1, z2, z3, z4, z5, z6, z7, z8, z9, z10, z11, z12, z13, z14, z15, z16, z17, z18, t0, t1, t2, t3, t4, t5, t6, dcrs, rngs, reduceIte, Nat.reduceLT, Nat.reduceLeDiff, Nat.reduceEqDiff, Nat.reduceAdd, Nat.reduceMul, Nat.reduceSub, Nat.reduceMod, Nat.reduceDiv, Int.reduceLE, Int.reduceLT, Int.reduceEq, Int.reduceNe, Nat.reduceBEq, ne_eq, reduceCtorEq, not_false_eq_true, implies_true, h5]
      rw [wrap_id (n := (i : Int) + 1) (by omega) (by omega)]
      exact ⟨[], none, SubO.nil _, PoSub.none _, ⟨i + 1, rfl, by omega, rfl, rfl⟩, by simp only [ixS]; omega⟩
    · exact ⟨_, _, rfl, end0 rfl⟩
theorem eqValueSS_d (a : List (List Val)) : Cl Tryd.prog 20 [.c (.sl a.length (a.flatMap vrow) none), .c (.sl a.length (a.flatMap vrow) none)] [] fun r _ => r = vb true := by
  refine cl_of_d follows_mixed false Tryd.func20 rfl (by kernel_rfl) ?_
  simp only [Tryd.f20, z0, z1, z2, z3, z4, z5, z6, z7, z8, z9, z10, z11, z12, z13, z14, z15, z16, z17, z18, t0, t1, t2, t3, t4, t5, t6, dcrs, rngs, reduceIte, Nat.reduceLT, Nat.reduceLeDiff, Nat.reduceEqDiff, Nat.reduceAdd, Nat.reduceMul, Nat.reduceSub, Nat.reduceMod, Nat.reduceDiv, Int.reduceLE, Int.reduceLT, Int.reduceEq, Int.reduceNe, Nat.reduceBEq, ne_eq, reduceCtorEq, not_false_eq_true, implies_true]
  refine fun _ _ => ?_
  refine dLoop.intro (fun f L p => ∃ i : Nat, f 5 = vi i ∧ i ≤ a.length ∧ L = [] ∧ p = none) (fun f _ _ => (a.length - ixS (f 5)).toNat) [] none ⟨SubO.nil _, PoSub.none _, ?_⟩ ?_
  · simp only [z0, z1, z2, z3, z4, z5, z6, z7, z8, z9, z10, z11, z12, z13, z14, z15, z16, z17, z18, t0, t1, t2, t3, t4, t5, t6, dcrs, rngs, reduceIte, Nat.reduceLT, Nat.reduceLeDiff, Nat.reduceEqDiff, Nat.reduceAdd, Nat.reduceMul, Nat.reduceSub, Nat.reduceMod, Nat.reduceDiv, Int.reduceLE, Int.reduceLT, Int.reduceEq, Int.reduceNe, Nat.reduceBEq, ne_eq, reduceCtorEq, not_false_eq_true, implies_true]
    exact ⟨0, rfl, by omega⟩
  · rintro g L p ⟨i, h5, hi, rfl, rfl⟩
    simp only [z0, z1, z2, z3, z4, z5, z6, z7, z8, z9, z10, z11, z12, z13, z14, z15, z16, z17, z18, t0, t1, t2, t3, t4, t5, t6, dcrs, rngs, reduceIte, Nat.reduceLT, Nat.reduceLeDiff, Nat.reduceEqDiff, Nat.reduceAdd, Nat.reduceMul, Nat.reduceSub, Nat.reduceMod, Nat.reduceDiv, Int.reduceLE, Int.reduceLT, Int.reduceEq, Int.reduceNe, Nat.reduceBEq, ne_eq, reduceCtorEq, not_false_eq_true, implies_true] at h5
    simp only [z0, z1, z2, z3, z4, z5, z6, z7, z8, z9, z10, z11, z12, z13, z14, z15, z16, z17, z18, t0, t1, t2, t3, t4, t5, t6, dcrs, rngs, reduceIte, Nat.reduceLT, Nat.reduceLeDiff, Nat.reduceEqDiff, Nat.reduceAdd, Nat.reduceMul, Nat.reduceSub, Nat.reduceMod, Nat.reduceDiv, Int.reduceLE, Int.reduceLT, Int.reduceEq, Int.reduceNe, Nat.reduceBEq, ne_eq, reduceCtorEq, not_false_eq_true, implies_true, h5, Int.ofNat_lt]
    refine fun _ => And.intro (fun hlt => ?_) (fun hge => ?_)
    · skip
      refine dDrawn.intro [] (pln [0, 2, 4, 6, 8, 10, 12, 14, 17, 18]) (by kernel_rfl) ?_
      simp only [z0, z1, z2, z3, z4, z5, z6, z7, z8, z9, z10, z11, z12, z13, z14, z15, z16, z17, z18, t0, t1, t2, t3, t4, t5, t6, dcrs, rngs, reduceIte, Nat.reduceLT, Nat.reduceLeDiff, Nat.reduceEqDiff, Nat.reduceAdd, Nat.reduceMul, Nat.reduceSub, Nat.reduceMod, Nat.reduceDiv, Int.reduceLE, Int.reduceLT, Int.reduceEq, Int.reduceNe, Nat.reduceBEq, ne_eq, reduceCtorEq, not_false_eq_true, implies_true]
      simp only [z0, z1, z2, z3, z4, z5, z6, z7, z8, z9, z10, z11, z12, z13, z14, z15, z16, z17, z18, t0, t1, t2, t3, t4, t5, t6, dcrs, rngs, reduceIte, Nat.reduceLT, Nat.reduceLeDiff, Nat.reduceEqDiff, Nat.reduceAdd, Nat.reduceMul, Nat.reduceSub, Nat.reduceMod, Nat.reduceDiv, Int.reduceLE, Int.reduceLT, Int.reduceEq, Int.reduceNe, Nat.reduceBEq, ne_eq, reduceCtorEq, not_false_eq_true, implies_true, h5]
      refine ⟨by omega, by omega, _, drop_row vrow_len (List.getElem?_eq_getElem hlt), vrow_ne _ _, ?_⟩
      simp only [z0, z1, z2, z3, z4, z5, z6, z7, z8, z9, z10, z11, z12, z13, z14, z15, z16, z17, z18, t0, t1, t2, t3, t4, t5, t6, dcrs, rngs, reduceIte, Nat.reduceLT, Nat.reduceLeDiff, Nat.reduceEqDiff, Nat.reduceAdd, Nat.reduceMul, Nat.reduceSub, Nat.reduceMod, Nat.reduceDiv, Int.reduceLE, Int.reduceLT, Int.reduceEq, Int.reduceNe, Nat.reduceBEq, ne_eq, reduceCtorEq, not_false_eq_true, implies_true, h5, vrow_tk]
      refine ⟨by omega, by omega, _, drop_row vrow_len (List.getElem?_eq_getElem hlt), vrow_ne _ _, ?_⟩
      simp only [z0, z1, z2, z3, z4, z5, z6, z7, z8, z9, z10, z11, z12, z13, z14, z15, z16, z17, z18, t0, t1, t2, t3, t4, t5, t6, dcrs, rngs, reduceIte, Nat.reduceLT, Nat.reduceLeDiff, Nat.reduceEqDiff, Nat.reduceAdd, Nat.reduceMul, Nat.reduceSub, Nat.reduceMod, Nat.reduceDiv, Int.reduceLE, Int.reduceLT, Int.reduceEq, Int.reduceNe, Nat.reduceBEq, ne_eq, reduceCtorEq, not_false_eq_true, implies_true, h5, vrow_tk]
      refine call0 (eqValueS_d a[i]) ?_ ?_ ?_
      · decide
      · simp only [z0, z1, z2, z3, z4, z5, z6, z7, z8, z9, z10, z11, z12, z13, z14, z15, z16, z17, z18, t0, t1, t2, t3, t4, t5, t6, dcrs, rngs, reduceIte, Nat.reduceLT, Nat.reduceLeDiff, Nat.reduceEqDiff, Nat.reduceAdd, Nat.reduceMul, Nat.reduceSub, Nat.reduceMod, Nat.reduceDiv, Int.reduceLE, Int.reduceLT, Int.reduceEq, Int.reduceNe, Nat.reduceBEq, ne_eq, reduceCtorEq, not_false_eq_true, implies_true, vrow]
      rintro r rfl
      simp only [z0, z1, z2, z3, z4, z5, z6, z7, z8, z9, z10, z11, z12, z13, z14, z15, z16, z17, z18, t0, t1, t2, t3, t4, t5, t6, dcrs, rngs, reduceIte, Nat.reduceLT, Nat.reduceLeDiff, Nat.reduceEqDiff, Nat.reduceAdd, Nat.reduceMul, Nat.reduceSub, Nat.reduceMod, Nat.reduceDiv, Int.reduceLE, Int.reduceLT, Int.reduceEq, Int.reduceNe, Nat.reduceBEq, ne_eq, reduceCtorEq, not_false_eq_true, implies_true, h5]
      rw [wrap_id (n := (i : Int) + 1) (by omega) (by omega)]
      exact ⟨[], none, SubO.nil _, PoSub.none _, ⟨i + 1, rfl, by omega, rfl, rfl⟩, by simp only [ixS]; omega⟩
    · exact ⟨_, _, rfl, end0 rfl⟩
theorem eqResult_d (a : Res) : Cl Tryd.prog 8 [.ag (csOf a.row), .ag (csOf a.row)] [] fun r _ => r = vb true := by
  rw [Res.row]
  refine cl_of_d follows_mixed false Tryd.func8 rfl (by kernel_rfl) ?_
  simp only [Tryd.f8, z0, z1, z2, z3, z4, z5, z6, z7, z8, z9, z10, z11, z12, z13, z14, z15, z16, z17, z18, t0, t1, t2, t3, t4, t5, t6, dcrs, rngs, reduceIte, Nat.reduceLT, Nat.reduceLeDiff, Nat.reduceEqDiff, Nat.reduceAdd, Nat.reduceMul, Nat.reduceSub, Nat.reduceMod, Nat.reduceDiv, Int.reduceLE, Int.reduceLT, Int.reduceEq, Int.reduceNe, Nat.reduceBEq, ne_eq, reduceCtorEq, not_false_eq_true, implies_true]
  refine call0 (eqRFault_d a.f) ?_ ?_ ?_
  · decide
  · simp only [z0, z1, z2, z3, z4, z5, z6, z7, z8, z9, z10, z11, z12, z13, z14, z15, z16, z17, z18, t0, t1, t2, t3, t4, t5, t6, dcrs, rngs, reduceIte, Nat.reduceLT, Nat.reduceLeDiff, Nat.reduceEqDiff, Nat.reduceAdd, Nat.reduceMul, Nat.reduceSub, Nat.reduceMod, Nat.reduceDiv, Int.reduceLE, Int.reduceLT, Int.reduceEq, Int.reduceNe, Nat.reduceBEq, ne_eq, reduceCtorEq, not_false_eq_true, implies_true, Fa.row]
  rintro r rfl
  simp only [z0, z1, z2, z3, z4, z5, z6, z7, z8, z9, z10, z11, z12, z13, z14, z15, z16, z17, z18, t0, t1, t2, t3, t4, t5, t6, dcrs, rngs, reduceIte, Nat.reduceLT, Nat.reduceLeDiff, Nat.reduceEqDiff, Nat.reduceAdd, Nat.reduceMul, Nat.reduceSub, Nat.reduceMod, Nat.reduceDiv, Int.reduceLE, Int.reduceLT, Int.reduceEq, Int.reduceNe, Nat.reduceBEq, ne_eq, reduceCtorEq, not_false_eq_true, implies_true, Fa.row]
  refine call0 (eqValueSS_d a.rows) ?_ ?_ ?_
  · decide
  · simp only [z0, z1, z2, z3, z4, z5, z6, z7, z8, z9, z10, z11, z12, z13, z14, z15, z16, z17, z18, t0, t1, t2, t3, t4, t5, t6, dcrs, rngs, reduceIte, Nat.reduceLT, Nat.reduceLeDiff, Nat.reduceEqDiff, Nat.reduceAdd, Nat.reduceMul, Nat.reduceSub, Nat.reduceMod, Nat.reduceDiv, Int.reduceLE, Int.reduceLT, Int.reduceEq, Int.reduceNe, Nat.reduceBEq, ne_eq, reduceCtorEq, not_false_eq_true, implies_true, Fa.row]
  rintro r rfl
  simp only [z0, z1, z2, z3, z4, z5, z6, z7, z8, z9, z10, z11, z12, z13, z14, z15, z16, z17, z18, t0, t1, t2, t3, t4, t5, t6, dcrs, rngs, reduceIte, Nat.reduceLT, Nat.reduceLeDiff, Nat.reduceEqDiff, Nat.reduceAdd, Nat.reduceMul, Nat.reduceSub, Nat.reduceMod, Nat.reduceDiv, Int.reduceLE, Int.reduceLT, Int.reduceEq, Int.reduceNe, Nat.reduceBEq, ne_eq, reduceCtorEq, not_false_eq_true, implies_true, Fa.row]
  exact ⟨_, _, rfl, end0 rfl⟩

end Go.Proofs.YtlbbflchkkcdhaaDoor

set_option linter.unusedVariables false
set_option linter.unusedSimpArgs false
set_option maxRecDepth 8000
namespace Go.Proofs.YtlbbflchkkcdhaaDoor
open Go Go.Dv
open Go.Vc (D shrI xorI andI and255)

abbrev vu (b : Int) : S := .c (.v (.int .u8 b))
theorem l1In_d (a l h : Int) : Cl Tryd.prog 22 [vi a, vi l, vi h] [] fun r _ => r = vb (decide (l ≤ a ∧ a ≤ h)) := by
  refine cl_of_d follows_mixed false Tryd.func22 rfl (by kernel_rfl) ?_
  simp only [Tryd.f22, z0, z1, z2, z3, z4, z5, z6, z7, z8, z9, z10, z11, z12, z13, z14, z15, z16, z17, z18, t0, t1, t2, t3, t4, t5, t6, dcrs, rngs, reduceIte, Nat.reduceLT, Nat.reduceLeDiff, Nat.reduceEqDiff, Nat.reduceAdd, Nat.reduceMul, Nat.reduceSub, Nat.reduceMod, Nat.reduceDiv, Int.reduceLE, Int.reduceLT, Int.reduceEq, Int.reduceNe, Nat.reduceBEq, ne_eq, reduceCtorEq, not_false_eq_true, implies_true]
  all_goals repeat' first | (refine And.intro (fun h => ?_) (fun h => ?_) <;> try simp only [z0, z1, z2, z3, z4, z5, z6, z7, z8, z9, z10, z11, z12, z13, z14, z15, z16, z17, z18, t0, t1, t2, t3, t4, t5, t6, dcrs, rngs, reduceIte, Nat.reduceLT, Nat.reduceLeDiff, Nat.reduceEqDiff, Nat.reduceAdd, Nat.reduceMul, Nat.reduceSub, Nat.reduceMod, Nat.reduceDiv, Int.reduceLE, Int.reduceLT, Int.reduceEq, Int.reduceNe, Nat.reduceBEq, ne_eq, reduceCtorEq, not_false_eq_true, implies_true]) | (intro _; try simp only [z0, z1, z2, z3, z4, z5, z6, z7, z8, z9, z10, z11, z12, z13, z14, z15, z16, z17, z18, t0, t1, t2, t3, t4, t5, t6, dcrs, rngs, reduceIte, Nat.reduceLT, Nat.reduceLeDiff, Nat.reduceEqDiff, Nat.reduceAdd, Nat.reduceMul, Nat.reduceSub, Nat.reduceMod, Nat.reduceDiv, Int.reduceLE, Int.reduceLT, Int.reduceEq, Int.reduceNe, Nat.reduceBEq, ne_eq, reduceCtorEq, not_false_eq_true, implies_true])
  all_goals (refine ⟨_, [], vbE (Bool.eq_iff_iff.2 ?_), end0 rfl⟩)
  all_goals (simp only [decide_eq_true_eq, decide_eq_false_iff_not, Bool.or_eq_true, Bool.and_eq_true, Bool.false_eq_true, Bool.not_eq_true', Bool.not_eq_false', Bool.not_eq_true, true_iff, false_iff] at *)
  all_goals omega
theorem l2Figure_d (a : Int) : Cl Tryd.prog 47 [vu a] [] fun r _ => r = vb (decide (48 ≤ a ∧ a ≤ 57)) := by
  refine cl_of_d follows_mixed false Tryd.func47 rfl (by kernel_rfl) ?_
  simp only [Tryd.f47, z0, z1, z2, z3, z4, z5, z6, z7, z8, z9, z10, z11, z12, z13, z14, z15, z16, z17, z18, t0, t1, t2, t3, t4, t5, t6, dcrs, rngs, reduceIte, Nat.reduceLT, Nat.reduceLeDiff, Nat.reduceEqDiff, Nat.reduceAdd, Nat.reduceMul, Nat.reduceSub, Nat.reduceMod, Nat.reduceDiv, Int.reduceLE, Int.reduceLT, Int.reduceEq, Int.reduceNe, Nat.reduceBEq, ne_eq, reduceCtorEq, not_false_eq_true, implies_true]
  all_goals repeat' first | (refine And.intro (fun h => ?_) (fun h => ?_) <;> try simp only [z0, z1, z2, z3, z4, z5, z6, z7, z8, z9, z10, z11, z12, z13, z14, z15, z16, z17, z18, t0, t1, t2, t3, t4, t5, t6, dcrs, rngs, reduceIte, Nat.reduceLT, Nat.reduceLeDiff, Nat.reduceEqDiff, Nat.reduceAdd, Nat.reduceMul, Nat.reduceSub, Nat.reduceMod, Nat.reduceDiv, Int.reduceLE, Int.reduceLT, Int.reduceEq, Int.reduceNe, Nat.reduceBEq, ne_eq, reduceCtorEq, not_false_eq_true, implies_true]) | (intro _; try simp only [z0, z1, z2, z3, z4, z5, z6, z7, z8, z9, z10, z11, z12, z13, z14, z15, z16, z17, z18, t0, t1, t2, t3, t4, t5, t6, dcrs, rngs, reduceIte, Nat.reduceLT, Nat.reduceLeDiff, Nat.reduceEqDiff, Nat.reduceAdd, Nat.reduceMul, Nat.reduceSub, Nat.reduceMod, Nat.reduceDiv, Int.reduceLE, Int.reduceLT, Int.reduceEq, Int.reduceNe, Nat.reduceBEq, ne_eq, reduceCtorEq, not_false_eq_true, implies_true])
  all_goals (refine ⟨_, [], vbE (Bool.eq_iff_iff.2 ?_), end0 rfl⟩)
  all_goals (simp only [decide_eq_true_eq, decide_eq_false_iff_not, Bool.or_eq_true, Bool.and_eq_true, Bool.false_eq_true, Bool.not_eq_true', Bool.not_eq_false', Bool.not_eq_true, true_iff, false_iff] at *)
  all_goals omega
theorem isDigit_d (a : Int) : Cl Tryd.prog 50 [vu a] [] fun r _ => r = vb (decide (48 ≤ a ∧ a ≤ 57)) := by
  refine cl_of_d follows_mixed false Tryd.func50 rfl (by kernel_rfl) ?_
  simp only [Tryd.f50, z0, z1, z2, z3, z4, z5, z6, z7, z8, z9, z10, z11, z12, z13, z14, z15, z16, z17, z18, t0, t1, t2, t3, t4, t5, t6, dcrs, rngs, reduceIte, Nat.reduceLT, Nat.reduceLeDiff, Nat.reduceEqDiff, Nat.reduceAdd, Nat.reduceMul, Nat.reduceSub, Nat.reduceMod, Nat.reduceDiv, Int.reduceLE, Int.reduceLT, Int.reduceEq, Int.reduceNe, Nat.reduceBEq, ne_eq, reduceCtorEq, not_false_eq_true, implies_true]
  all_goals repeat' first | (refine And.intro (fun h => ?_) (fun h => ?_) <;> try simp only [z0, z1, z2, z3, z4, z5, z6, z7, z8, z9, z10, z11, z12, z13, z14, z15, z16, z17, z18, t0, t1, t2, t3, t4, t5, t6, dcrs, rngs, reduceIte, Nat.reduceLT, Nat.reduceLeDiff, Nat.reduceEqDiff, Nat.reduceAdd, Nat.reduceMul, Nat.reduceSub, Nat.reduceMod, Nat.reduceDiv, Int.reduceLE, Int.reduceLT, Int.reduceEq, Int.reduceNe, Nat.reduceBEq, ne_eq, reduceCtorEq, not_false_eq_true, implies_true]) | (intro _; try simp only [z0, z1, z2, z3, z4, z5, z6, z7, z8, z9, z10, z11, z12, z13, z14, z15, z16, z17, z18, t0, t1, t2, t3, t4, t5, t6, dcrs, rngs, reduceIte, Nat.reduceLT, Nat.reduceLeDiff, Nat.reduceEqDiff, Nat.reduceAdd, Nat.reduceMul, Nat.reduceSub, Nat.reduceMod, Nat.reduceDiv, Int.reduceLE, Int.reduceLT, Int.reduceEq, Int.reduceNe, Nat.reduceBEq, ne_eq, reduceCtorEq, not_false_eq_true, implies_true])
  all_goals (refine ⟨_, [], vbE (Bool.eq_iff_iff.2 ?_), end0 rfl⟩)
  all_goals (simp only [decide_eq_true_eq, decide_eq_false_iff_not, Bool.or_eq_true, Bool.and_eq_true, Bool.false_eq_true, Bool.not_eq_true', Bool.not_eq_false', Bool.not_eq_true, true_iff, false_iff] at *)
  all_goals omega
def letB (a : Int) : Bool := decide (97 ≤ a ∧ a ≤ 122) || decide (65 ≤ a ∧ a ≤ 90) || decide (a = 95)
theorem l2Letter_d (a : Int) : Cl Tryd.prog 49 [vu a] [] fun r _ => r = vb (letB a) := by
  refine cl_of_d follows_mixed false Tryd.func49 rfl (by kernel_rfl) ?_
  simp only [Tryd.f49, z0, z1, z2, z3, z4, z5, z6, z7, z8, z9, z10, z11, z12, z13, z14, z15, z16, z17, z18, t0, t1, t2, t3, t4, t5, t6, dcrs, rngs, reduceIte, Nat.reduceLT, Nat.reduceLeDiff, Nat.reduceEqDiff, Nat.reduceAdd, Nat.reduceMul, Nat.reduceSub, Nat.reduceMod, Nat.reduceDiv, Int.reduceLE, Int.reduceLT, Int.reduceEq, Int.reduceNe, Nat.reduceBEq, ne_eq, reduceCtorEq, not_false_eq_true, implies_true]
  all_goals repeat' first | (refine And.intro (fun h => ?_) (fun h => ?_) <;> try simp only [z0, z1, z2, z3, z4, z5, z6, z7, z8, z9, z10, z11, z12, z13, z14, z15, z16, z17, z18, t0, t1, t2, t3, t4, t5, t6, dcrs, rngs, reduceIte, Nat.reduceLT, Nat.reduceLeDiff, Nat.reduceEqDiff, Nat.reduceAdd, Nat.reduceMul, Nat.reduceSub, Nat.reduceMod, Nat.reduceDiv, Int.reduceLE, Int.reduceLT, Int.reduceEq, Int.reduceNe, Nat.reduceBEq, ne_eq, reduceCtorEq, not_false_eq_true, implies_true]) | (intro _; try simp only [z0, z1, z2, z3, z4, z5, z6, z7, z8, z9, z10, z11, z12, z13, z14, z15, z16, z17, z18, t0, t1, t2, t3, t4, t5, t6, dcrs, rngs, reduceIte, Nat.reduceLT, Nat.reduceLeDiff, Nat.reduceEqDiff, Nat.reduceAdd, Nat.reduceMul, Nat.reduceSub, Nat.reduceMod, Nat.reduceDiv, Int.reduceLE, Int.reduceLT, Int.reduceEq, Int.reduceNe, Nat.reduceBEq, ne_eq, reduceCtorEq, not_false_eq_true, implies_true])
  all_goals (refine ⟨_, [], vbE (Bool.eq_iff_iff.2 ?_), end0 rfl⟩)
  all_goals (simp only [decide_eq_true_eq, decide_eq_false_iff_not, Bool.or_eq_true, Bool.and_eq_true, Bool.false_eq_true, Bool.not_eq_true', Bool.not_eq_false', Bool.not_eq_true, true_iff, false_iff, letB] at *)
  all_goals omega
theorem isStart_d (a : Int) : Cl Tryd.prog 61 [vu a] [] fun r _ => r = vb (letB a) := by
  refine cl_of_d follows_mixed false Tryd.func61 rfl (by kernel_rfl) ?_
  simp only [Tryd.f61, z0, z1, z2, z3, z4, z5, z6, z7, z8, z9, z10, z11, z12, z13, z14, z15, z16, z17, z18, t0, t1, t2, t3, t4, t5, t6, dcrs, rngs, reduceIte, Nat.reduceLT, Nat.reduceLeDiff, Nat.reduceEqDiff, Nat.reduceAdd, Nat.reduceMul, Nat.reduceSub, Nat.reduceMod, Nat.reduceDiv, Int.reduceLE, Int.reduceLT, Int.reduceEq, Int.reduceNe, Nat.reduceBEq, ne_eq, reduceCtorEq, not_false_eq_true, implies_true]
  all_goals repeat' first | (refine And.intro (fun h => ?_) (fun h => ?_) <;> try simp only [z0, z1, z2, z3, z4, z5, z6, z7, z8, z9, z10, z11, z12, z13, z14, z15, z16, z17, z18, t0, t1, t2, t3, t4, t5, t6, dcrs, rngs, reduceIte, Nat.reduceLT, Nat.reduceLeDiff, Nat.reduceEqDiff, Nat.reduceAdd, Nat.reduceMul, Nat.reduceSub, Nat.reduceMod, Nat.reduceDiv, Int.reduceLE, Int.reduceLT, Int.reduceEq, Int.reduceNe, Nat.reduceBEq, ne_eq, reduceCtorEq, not_false_eq_true, implies_true]) | (intro _; try simp only [z0, z1, z2, z3, z4, z5, z6, z7, z8, z9, z10, z11, z12, z13, z14, z15, z16, z17, z18, t0, t1, t2, t3, t4, t5, t6, dcrs, rngs, reduceIte, Nat.reduceLT, Nat.reduceLeDiff, Nat.reduceEqDiff, Nat.reduceAdd, Nat.reduceMul, Nat.reduceSub, Nat.reduceMod, Nat.reduceDiv, Int.reduceLE, Int.reduceLT, Int.reduceEq, Int.reduceNe, Nat.reduceBEq, ne_eq, reduceCtorEq, not_false_eq_true, implies_true])
  all_goals (refine ⟨_, [], vbE (Bool.eq_iff_iff.2 ?_), end0 rfl⟩)
  all_goals (simp only [decide_eq_true_eq, decide_eq_false_iff_not, Bool.or_eq_true, Bool.and_eq_true, Bool.false_eq_true, Bool.not_eq_true', Bool.not_eq_false', Bool.not_eq_true, true_iff, false_iff, letB] at *)
  all_goals omega
theorem NameOk_d (s : ByteArray) : Cl Tryd.prog 33 [vs s] [] fun r _ => r = vb (decide (1 ≤ s.size ∧ s.size ≤ 20)) := by
  refine cl_of_d follows_mixed false Tryd.func33 rfl (by kernel_rfl) ?_
  simp only [Tryd.f33, z0, z1, z2, z3, z4, z5, z6, z7, z8, z9, z10, z11, z12, z13, z14, z15, z16, z17, z18, t0, t1, t2, t3, t4, t5, t6, dcrs, rngs, reduceIte, Nat.reduceLT, Nat.reduceLeDiff, Nat.reduceEqDiff, Nat.reduceAdd, Nat.reduceMul, Nat.reduceSub, Nat.reduceMod, Nat.reduceDiv, Int.reduceLE, Int.reduceLT, Int.reduceEq, Int.reduceNe, Nat.reduceBEq, ne_eq, reduceCtorEq, not_false_eq_true, implies_true]
  refine fun hs => ?_
  refine call0 (l1In_d s.size 1 20) ?_ ?_ ?_
  · decide
  · simp only [z0, z1, z2, z3, z4, z5, z6, z7, z8, z9, z10, z11, z12, z13, z14, z15, z16, z17, z18, t0, t1, t2, t3, t4, t5, t6, dcrs, rngs, reduceIte, Nat.reduceLT, Nat.reduceLeDiff, Nat.reduceEqDiff, Nat.reduceAdd, Nat.reduceMul, Nat.reduceSub, Nat.reduceMod, Nat.reduceDiv, Int.reduceLE, Int.reduceLT, Int.reduceEq, Int.reduceNe, Nat.reduceBEq, ne_eq, reduceCtorEq, not_false_eq_true, implies_true]
  rintro r rfl
  simp only [z0, z1, z2, z3, z4, z5, z6, z7, z8, z9, z10, z11, z12, z13, z14, z15, z16, z17, z18, t0, t1, t2, t3, t4, t5, t6, dcrs, rngs, reduceIte, Nat.reduceLT, Nat.reduceLeDiff, Nat.reduceEqDiff, Nat.reduceAdd, Nat.reduceMul, Nat.reduceSub, Nat.reduceMod, Nat.reduceDiv, Int.reduceLE, Int.reduceLT, Int.reduceEq, Int.reduceNe, Nat.reduceBEq, ne_eq, reduceCtorEq, not_false_eq_true, implies_true]
  exact ⟨_, _, vbE (by simp only [decide_eq_decide]; omega), end0 rfl⟩
theorem iNameOk_d (s : ByteArray) : Cl Tryd.prog 39 [vs s] [] fun r _ => r = vb (decide (1 ≤ s.size ∧ s.size ≤ 20)) := by
  refine cl_of_d follows_mixed false Tryd.func39 rfl (by kernel_rfl) ?_
  simp only [Tryd.f39, z0, z1, z2, z3, z4, z5, z6, z7, z8, z9, z10, z11, z12, z13, z14, z15, z16, z17, z18, t0, t1, t2, t3, t4, t5, t6, dcrs, rngs, reduceIte, Nat.reduceLT, Nat.reduceLeDiff, Nat.reduceEqDiff, Nat.reduceAdd, Nat.reduceMul, Nat.reduceSub, Nat.reduceMod, Nat.reduceDiv, Int.reduceLE, Int.reduceLT, Int.reduceEq, Int.reduceNe, Nat.reduceBEq, ne_eq, reduceCtorEq, not_false_eq_true, implies_true]
  refine fun hs => ?_
  all_goals repeat' first | (refine And.intro (fun h => ?_) (fun h => ?_) <;> try simp only [z0, z1, z2, z3, z4, z5, z6, z7, z8, z9, z10, z11, z12, z13, z14, z15, z16, z17, z18, t0, t1, t2, t3, t4, t5, t6, dcrs, rngs, reduceIte, Nat.reduceLT, Nat.reduceLeDiff, Nat.reduceEqDiff, Nat.reduceAdd, Nat.reduceMul, Nat.reduceSub, Nat.reduceMod, Nat.reduceDiv, Int.reduceLE, Int.reduceLT, Int.reduceEq, Int.reduceNe, Nat.reduceBEq, ne_eq, reduceCtorEq, not_false_eq_true, implies_true]) | (intro _; try simp only [z0, z1, z2, z3, z4, z5, z6, z7, z8, z9, z10, z11, z12, z13, z14, z15, z16, z17, z18, t0, t1, t2, t3, t4, t5, t6, dcrs, rngs, reduceIte, Nat.reduceLT, Nat.reduceLeDiff, Nat.reduceEqDiff, Nat.reduceAdd, Nat.reduceMul, Nat.reduceSub, Nat.reduceMod, Nat.reduceDiv, Int.reduceLE, Int.reduceLT, Int.reduceEq, Int.reduceNe, Nat.reduceBEq, ne_eq, reduceCtorEq, not_false_eq_true, implies_true])
  all_goals (refine ⟨_, [], vbE (Bool.eq_iff_iff.2 ?_), end0 rfl⟩)
  all_goals (simp only [decide_eq_true_eq, decide_eq_false_iff_not, Bool.or_eq_true, Bool.and_eq_true, Bool.false_eq_true, Bool.not_eq_true', Bool.not_eq_false', Bool.not_eq_true, true_iff, false_iff] at *)
  all_goals omega
theorem isPart_d (a : Int) : Cl Tryd.prog 52 [vu a] [] fun r _ => r = vb (letB a || decide (48 ≤ a ∧ a ≤ 57)) := by
  refine cl_of_d follows_mixed false Tryd.func52 rfl (by kernel_rfl) ?_
  simp only [Tryd.f52, z0, z1, z2, z3, z4, z5, z6, z7, z8, z9, z10, z11, z12, z13, z14, z15, z16, z17, z18, t0, t1, t2, t3, t4, t5, t6, dcrs, rngs, reduceIte, Nat.reduceLT, Nat.reduceLeDiff, Nat.reduceEqDiff, Nat.reduceAdd, Nat.reduceMul, Nat.reduceSub, Nat.reduceMod, Nat.reduceDiv, Int.reduceLE, Int.reduceLT, Int.reduceEq, Int.reduceNe, Nat.reduceBEq, ne_eq, reduceCtorEq, not_false_eq_true, implies_true]
  refine call0 (isStart_d a) ?_ ?_ ?_
  · decide
  · simp only [z0, z1, z2, z3, z4, z5, z6, z7, z8, z9, z10, z11, z12, z13, z14, z15, z16, z17, z18, t0, t1, t2, t3, t4, t5, t6, dcrs, rngs, reduceIte, Nat.reduceLT, Nat.reduceLeDiff, Nat.reduceEqDiff, Nat.reduceAdd, Nat.reduceMul, Nat.reduceSub, Nat.reduceMod, Nat.reduceDiv, Int.reduceLE, Int.reduceLT, Int.reduceEq, Int.reduceNe, Nat.reduceBEq, ne_eq, reduceCtorEq, not_false_eq_true, implies_true]
  rintro r rfl
  simp only [z0, z1, z2, z3, z4, z5, z6, z7, z8, z9, z10, z11, z12, z13, z14, z15, z16, z17, z18, t0, t1, t2, t3, t4, t5, t6, dcrs, rngs, reduceIte, Nat.reduceLT, Nat.reduceLeDiff, Nat.reduceEqDiff, Nat.reduceAdd, Nat.reduceMul, Nat.reduceSub, Nat.reduceMod, Nat.reduceDiv, Int.reduceLE, Int.reduceLT, Int.reduceEq, Int.reduceNe, Nat.reduceBEq, ne_eq, reduceCtorEq, not_false_eq_true, implies_true]
  refine And.intro (fun h => ?_) (fun h => ?_)
  · simp only [z0, z1, z2, z3, z4, z5, z6, z7, z8, z9, z10, z11, z12, z13, z14, z15, z16, z17, z18, t0, t1, t2, t3, t4, t5, t6, dcrs, rngs, reduceIte, Nat.reduceLT, Nat.reduceLeDiff, Nat.reduceEqDiff, Nat.reduceAdd, Nat.reduceMul, Nat.reduceSub, Nat.reduceMod, Nat.reduceDiv, Int.reduceLE, Int.reduceLT, Int.reduceEq, Int.reduceNe, Nat.reduceBEq, ne_eq, reduceCtorEq, not_false_eq_true, implies_true]
    exact ⟨_, _, vbE (by rw [h]; rfl), end0 rfl⟩
  · simp only [z0, z1, z2, z3, z4, z5, z6, z7, z8, z9, z10, z11, z12, z13, z14, z15, z16, z17, z18, t0, t1, t2, t3, t4, t5, t6, dcrs, rngs, reduceIte, Nat.reduceLT, Nat.reduceLeDiff, Nat.reduceEqDiff, Nat.reduceAdd, Nat.reduceMul, Nat.reduceSub, Nat.reduceMod, Nat.reduceDiv, Int.reduceLE, Int.reduceLT, Int.reduceEq, Int.reduceNe, Nat.reduceBEq, ne_eq, reduceCtorEq, not_false_eq_true, implies_true]
    refine call0 (isDigit_d a) ?_ ?_ ?_
    · decide
    · simp only [z0, z1, z2, z3, z4, z5, z6, z7, z8, z9, z10, z11, z12, z13, z14, z15, z16, z17, z18, t0, t1, t2, t3, t4, t5, t6, dcrs, rngs, reduceIte, Nat.reduceLT, Nat.reduceLeDiff, Nat.reduceEqDiff, Nat.reduceAdd, Nat.reduceMul, Nat.reduceSub, Nat.reduceMod, Nat.reduceDiv, Int.reduceLE, Int.reduceLT, Int.reduceEq, Int.reduceNe, Nat.reduceBEq, ne_eq, reduceCtorEq, not_false_eq_true, implies_true]
    rintro r rfl
    simp only [z0, z1, z2, z3, z4, z5, z6, z7, z8, z9, z10, z11, z12, z13, z14, z15, z16, z17, z18, t0, t1, t2, t3, t4, t5, t6, dcrs, rngs, reduceIte, Nat.reduceLT, Nat.reduceLeDiff, Nat.reduceEqDiff, Nat.reduceAdd, Nat.reduceMul, Nat.reduceSub, Nat.reduceMod, Nat.reduceDiv, Int.reduceLE, Int.reduceLT, Int.reduceEq, Int.reduceNe, Nat.reduceBEq, ne_eq, reduceCtorEq, not_false_eq_true, implies_true]
    exact ⟨_, _, vbE (by rw [h]; rfl), end0 rfl⟩
def up8 (b : UInt8) : UInt8 := if 97 ≤ b.toNat ∧ b.toNat ≤ 122 then b - 32 else b
def foldB (s : ByteArray) : ByteArray := ⟨(s.data.toList.map up8).toArray⟩
theorem bytesD_len (l : List UInt8) : (bytesD l).length = l.length := by simp [bytesD]
theorem bytesD_drop {l : List UInt8} {i : Nat} (h : i < l.length) : (bytesD l).drop i = D.lit (.int .u8 (l[i].toNat : Int)) :: (bytesD l).drop (i + 1) := by
  unfold bytesD
  rw [← List.map_drop, ← List.map_drop, List.drop_eq_getElem_cons h]; rfl
theorem bytesD_set {l : List UInt8} {i : Nat} {b : UInt8} (h : i < l.length) : (bytesD l).take i ++ (D.lit (.int .u8 (b.toNat : Int)) :: (bytesD l).drop (i + 1)) = bytesD (l.set i b) := by
  unfold bytesD
  rw [List.set_eq_take_append_cons_drop, if_pos h, List.map_append, List.map_cons, List.map_take, List.map_drop]
theorem bytesD_ne {l : List UInt8} (h : l ≠ []) : bytesD l ≠ [] := by unfold bytesD; simpa using h
theorem size_toList (s : ByteArray) : s.data.toList.length = s.size := by simp
def upI (l : List UInt8) (i : Nat) : List UInt8 := (l.take i).map up8 ++ l.drop i
theorem upI_len (l : List UInt8) (i : Nat) : (upI l i).length = l.length := by rw [upI, List.length_append, List.length_map, ← List.length_append, List.take_append_drop]
theorem upI_get {l : List UInt8} {i : Nat} (h : i < l.length) : (upI l i)[i]'(by rw [upI_len]; exact h) = l[i] := by
  have hl : ((l.take i).map up8).length = i := by simp; omega
  have : (upI l i)[i]? = some l[i] := by
    rw [upI, List.getElem?_append_right (by omega), hl, Nat.sub_self, List.drop_eq_getElem_cons h]; rfl
  rw [List.getElem?_eq_getElem (by rw [upI_len]; exact h)] at this
  exact Option.some.inj this
theorem upI_step {l : List UInt8} {i : Nat} (h : i < l.length) : (upI l i).set i (up8 l[i]) = upI l (i + 1) := by
  have hl : ((l.take i).map up8).length = i := by simp; omega
  unfold upI
  rw [List.set_append_right _ _ (by omega), hl, Nat.sub_self, List.drop_eq_getElem_cons h, List.set_cons_zero, List.take_succ_eq_append_getElem h, List.map_append]
  simp
theorem upI_same {l : List UInt8} {i : Nat} (h : i < l.length) (hu : up8 l[i] = l[i]) : upI l i = upI l (i + 1) := by
  rw [← upI_step h, hu]
  conv => rhs; rw [← upI_get h]
  rw [List.set_getElem_self]
theorem upI_all (l : List UInt8) : upI l l.length = l.map up8 := by simp [upI]
theorem up8_id {b : UInt8} (h : ¬ (97 ≤ b.toNat ∧ b.toNat ≤ 122)) : up8 b = b := if_neg h
theorem up8_low {b : UInt8} (h : 97 ≤ b.toNat) (h' : b.toNat ≤ 122) : ((up8 b).toNat : Int) = b.toNat - 32 := by
  unfold up8
  rw [if_pos ⟨h, h'⟩, UInt8.toNat_sub_of_le _ _ (by rw [UInt8.le_iff_toNat_le]; show 32 ≤ _; omega)]
  show ((b.toNat - 32 : Nat) : Int) = _
  omega
theorem Fold_d (s : ByteArray) (hs : s.size ≤ 1048576) : Cl Tryd.prog 56 [vs s] [] fun r _ => r = vs (foldB s) := by
  obtain ⟨l, hl⟩ : ∃ l, l = s.data.toList := ⟨_, rfl⟩
  have hll : l.length = s.size := by rw [hl]; exact size_toList s
  refine cl_of_d follows_mixed false Tryd.func56 rfl (by kernel_rfl) ?_
  simp only [Tryd.f56, z0, z1, z2, z3, z4, z5, z6, z7, z8, z9, z10, z11, z12, z13, z14, z15, z16, z17, z18, t0, t1, t2, t3, t4, t5, t6, dcrs, rngs, reduceIte, Nat.reduceLT, Nat.reduceLeDiff, Nat.reduceEqDiff, Nat.reduceAdd, Nat.reduceMul, Nat.reduceSub, Nat.reduceMod, Nat.reduceDiv, Int.reduceLE, Int.reduceLT, Int.reduceEq, Int.reduceNe, Nat.reduceBEq, ne_eq, reduceCtorEq, not_false_eq_true, implies_true]
  rw [← hl]
  refine dLoop.intro (fun f L p => ∃ i : Nat, f 4 = vi i ∧ i ≤ s.size ∧ L = [(6, .arr 5 s.size (bytesD (upI l i)) none)] ∧ p = none) (fun f _ _ => (s.size - ixS (f 4)).toNat) [(6, .arr 5 s.size (bytesD l) none)] none ⟨SubO.cons rfl (SubO.nil _), PoSub.none _, ?_⟩ ?_
  · simp only [z0, z1, z2, z3, z4, z5, z6, z7, z8, z9, z10, z11, z12, z13, z14, z15, z16, z17, z18, t0, t1, t2, t3, t4, t5, t6, dcrs, rngs, reduceIte, Nat.reduceLT, Nat.reduceLeDiff, Nat.reduceEqDiff, Nat.reduceAdd, Nat.reduceMul, Nat.reduceSub, Nat.reduceMod, Nat.reduceDiv, Int.reduceLE, Int.reduceLT, Int.reduceEq, Int.reduceNe, Nat.reduceBEq, ne_eq, reduceCtorEq, not_false_eq_true, implies_true]
    exact ⟨0, rfl, by omega, by simp [upI]⟩
  · rintro g L p ⟨i, h4, hi, rfl, rfl⟩
    simp only [z0, z1, z2, z3, z4, z5, z6, z7, z8, z9, z10, z11, z12, z13, z14, z15, z16, z17, z18, t0, t1, t2, t3, t4, t5, t6, dcrs, rngs, reduceIte, Nat.reduceLT, Nat.reduceLeDiff, Nat.reduceEqDiff, Nat.reduceAdd, Nat.reduceMul, Nat.reduceSub, Nat.reduceMod, Nat.reduceDiv, Int.reduceLE, Int.reduceLT, Int.reduceEq, Int.reduceNe, Nat.reduceBEq, ne_eq, reduceCtorEq, not_false_eq_true, implies_true] at h4
    simp only [z0, z1, z2, z3, z4, z5, z6, z7, z8, z9, z10, z11, z12, z13, z14, z15, z16, z17, z18, t0, t1, t2, t3, t4, t5, t6, dcrs, rngs, reduceIte, Nat.reduceLT, Nat.reduceLeDiff, Nat.reduceEqDiff, Nat.reduceAdd, Nat.reduceMul, Nat.reduceSub, Nat.reduceMod, Nat.reduceDiv, Int.reduceLE, Int.reduceLT, Int.reduceEq, Int.reduceNe, Nat.reduceBEq, ne_eq, reduceCtorEq, not_false_eq_true, implies_true, h4, Int.ofNat_lt]
    refine fun _ => And.intro (fun hlt => ?_) (fun hge => ?_)
    · have hlt' : i < (upI l i).length := by rw [upI_len]; omega
      have hd := bytesD_drop hlt'
      rw [upI_get (by omega)] at hd
      have hi0 : (0 : Int) ≤ (i : Int) := Int.natCast_nonneg i
      have hlI : (i : Int) < (s.size : Int) := by omega
      simp only [z0, z1, z2, z3, z4, z5, z6, z7, z8, z9, z10, z11, z12, z13, z14, z15, z16, z17, z18, t0, t1, t2, t3, t4, t5, t6, dcrs, rngs, reduceIte, Nat.reduceLT, Nat.reduceLeDiff, Nat.reduceEqDiff, Nat.reduceAdd, Nat.reduceMul, Nat.reduceSub, Nat.reduceMod, Nat.reduceDiv, Int.reduceLE, Int.reduceLT, Int.reduceEq, Int.reduceNe, Nat.reduceBEq, ne_eq, reduceCtorEq, not_false_eq_true, implies_true, h4, hd, Nat.mul_one, hlt, hi0, hlI]
      refine And.intro (fun h => ?_) (fun h => ?_)
      · simp only [z0, z1, z2, z3, z4, z5, z6, z7, z8, z9, z10, z11, z12, z13, z14, z15, z16, z17, z18, t0, t1, t2, t3, t4, t5, t6, dcrs, rngs, reduceIte, Nat.reduceLT, Nat.reduceLeDiff, Nat.reduceEqDiff, Nat.reduceAdd, Nat.reduceMul, Nat.reduceSub, Nat.reduceMod, Nat.reduceDiv, Int.reduceLE, Int.reduceLT, Int.reduceEq, Int.reduceNe, Nat.reduceBEq, ne_eq, reduceCtorEq, not_false_eq_true, implies_true, h4, hd, Nat.mul_one, hlt, hi0, hlI]
        simp only [decide_eq_true_eq] at h
        refine And.intro (fun h' => ?_) (fun h' => ?_)
        · rw [wrap_id (n := (i : Int) + 1) (by omega) (by omega), IntWalk.u8_in _ ⟨by omega, by omega⟩, ← up8_low (by omega) (by omega), bytesD_set hlt', upI_step (by omega)]
          exact ⟨by rw [bytesD_len, upI_len]; omega, _, none, SubO.cons rfl (SubO.nil _), PoSub.none _, ⟨i + 1, rfl, by omega, rfl, rfl⟩, by simp only [ixS]; omega⟩
        · rw [wrap_id (n := (i : Int) + 1) (by omega) (by omega)]
          have hsame := upI_same (l := l) (i := i) (by omega) (up8_id fun h1 => by omega)
          exact ⟨_, none, SubO.cons rfl (SubO.nil _), PoSub.none _, ⟨i + 1, rfl, by omega, congrArg (fun x => [(6, O.arr 5 s.size (bytesD x) none)]) hsame, rfl⟩, by simp only [ixS]; omega⟩
      · simp only [z0, z1, z2, z3, z4, z5, z6, z7, z8, z9, z10, z11, z12, z13, z14, z15, z16, z17, z18, t0, t1, t2, t3, t4, t5, t6, dcrs, rngs, reduceIte, Nat.reduceLT, Nat.reduceLeDiff, Nat.reduceEqDiff, Nat.reduceAdd, Nat.reduceMul, Nat.reduceSub, Nat.reduceMod, Nat.reduceDiv, Int.reduceLE, Int.reduceLT, Int.reduceEq, Int.reduceNe, Nat.reduceBEq, ne_eq, reduceCtorEq, not_false_eq_true, implies_true, h4, hd, Nat.mul_one, hlt, hi0, hlI]
        rw [wrap_id (n := (i : Int) + 1) (by omega) (by omega)]
        have hsame := upI_same (l := l) (i := i) (by omega) (up8_id fun h1 => by simp only [decide_eq_false_iff_not] at h; omega)
        exact ⟨_, none, SubO.cons rfl (SubO.nil _), PoSub.none _, ⟨i + 1, rfl, by omega, congrArg (fun x => [(6, O.arr 5 s.size (bytesD x) none)]) hsame, rfl⟩, by simp only [ixS]; omega⟩
    · have : i = s.size := by omega
      subst this
      refine ⟨by kernel_rfl, by simp only [maxLen]; omega, upI l s.size, by rw [upI_len]; exact hll, rfl, ?_⟩
      simp only [z0, z1, z2, z3, z4, z5, z6, z7, z8, z9, z10, z11, z12, z13, z14, z15, z16, z17, z18, t0, t1, t2, t3, t4, t5, t6, dcrs, rngs, reduceIte, Nat.reduceLT, Nat.reduceLeDiff, Nat.reduceEqDiff, Nat.reduceAdd, Nat.reduceMul, Nat.reduceSub, Nat.reduceMod, Nat.reduceDiv, Int.reduceLE, Int.reduceLT, Int.reduceEq, Int.reduceNe, Nat.reduceBEq, ne_eq, reduceCtorEq, not_false_eq_true, implies_true]
      exact ⟨_, _, vsE (by rw [← hll, upI_all, hl]; rfl), end0 rfl⟩
theorem iFold_d (s : ByteArray) (hs : s.size ≤ 1048576) : Cl Tryd.prog 60 [vs s] [] fun r _ => r = vs (foldB s) := by
  obtain ⟨l, hl⟩ : ∃ l, l = s.data.toList := ⟨_, rfl⟩
  have hll : l.length = s.size := by rw [hl]; exact size_toList s
  refine cl_of_d follows_mixed false Tryd.func60 rfl (by kernel_rfl) ?_
  simp only [Tryd.f60, z0, z1, z2, z3, z4, z5, z6, z7, z8, z9, z10, z11, z12, z13, z14, z15, z16, z17, z18, t0, t1, t2, t3, t4, t5, t6, dcrs, rngs, reduceIte, Nat.reduceLT, Nat.reduceLeDiff, Nat.reduceEqDiff, Nat.reduceAdd, Nat.reduceMul, Nat.reduceSub, Nat.reduceMod, Nat.reduceDiv, Int.reduceLE, Int.reduceLT, Int.reduceEq, Int.reduceNe, Nat.reduceBEq, ne_eq, reduceCtorEq, not_false_eq_true, implies_true]
  rw [← hl]
  refine fun _ => ?_
  refine dLoop.intro (fun f L p => ∃ i : Nat, f 10 = vi i ∧ i ≤ s.size ∧ L = [(7, .arr 5 s.size (bytesD (upI l i)) none)] ∧ p = none) (fun f _ _ => (s.size - ixS (f 10)).toNat) [(7, .arr 5 s.size (bytesD l) none)] none ⟨SubO.cons rfl (SubO.nil _), PoSub.none _, ?_⟩ ?_
  · simp only [z0, z1, z2, z3, z4, z5, z6, z7, z8, z9, z10, z11, z12, z13, z14, z15, z16, z17, z18, t0, t1, t2, t3, t4, t5, t6, dcrs, rngs, reduceIte, Nat.reduceLT, Nat.reduceLeDiff, Nat.reduceEqDiff, Nat.reduceAdd, Nat.reduceMul, Nat.reduceSub, Nat.reduceMod, Nat.reduceDiv, Int.reduceLE, Int.reduceLT, Int.reduceEq, Int.reduceNe, Nat.reduceBEq, ne_eq, reduceCtorEq, not_false_eq_true, implies_true]
    exact ⟨0, rfl, by omega, by simp [upI]⟩
  · rintro g L p ⟨i, h4, hi, rfl, rfl⟩
    simp only [z0, z1, z2, z3, z4, z5, z6, z7, z8, z9, z10, z11, z12, z13, z14, z15, z16, z17, z18, t0, t1, t2, t3, t4, t5, t6, dcrs, rngs, reduceIte, Nat.reduceLT, Nat.reduceLeDiff, Nat.reduceEqDiff, Nat.reduceAdd, Nat.reduceMul, Nat.reduceSub, Nat.reduceMod, Nat.reduceDiv, Int.reduceLE, Int.reduceLT, Int.reduceEq, Int.reduceNe, Nat.reduceBEq, ne_eq, reduceCtorEq, not_false_eq_true, implies_true] at h4
    simp only [z0, z1, z2, z3, z4, z5, z6, z7, z8, z9, z10, z11, z12, z13, z14, z15, z16, z17, z18, t0, t1, t2, t3, t4, t5, t6, dcrs, rngs, reduceIte, Nat.reduceLT, Nat.reduceLeDiff, Nat.reduceEqDiff, Nat.reduceAdd, Nat.reduceMul, Nat.reduceSub, Nat.reduceMod, Nat.reduceDiv, Int.reduceLE, Int.reduceLT, Int.reduceEq, Int.reduceNe, Nat.reduceBEq, ne_eq, reduceCtorEq, not_false_eq_true, implies_true, h4, Int.ofNat_lt]
    refine And.intro (fun hlt => ?_) (fun hge => ?_)
    · have hlt' : i < (upI l i).length := by rw [upI_len]; omega
      have hd := bytesD_drop hlt'
      rw [upI_get (by omega)] at hd
      have hi0 : (0 : Int) ≤ (i : Int) := Int.natCast_nonneg i
      have hlI : (i : Int) < (s.size : Int) := by omega
      simp only [z0, z1, z2, z3, z4, z5, z6, z7, z8, z9, z10, z11, z12, z13, z14, z15, z16, z17, z18, t0, t1, t2, t3, t4, t5, t6, dcrs, rngs, reduceIte, Nat.reduceLT, Nat.reduceLeDiff, Nat.reduceEqDiff, Nat.reduceAdd, Nat.reduceMul, Nat.reduceSub, Nat.reduceMod, Nat.reduceDiv, Int.reduceLE, Int.reduceLT, Int.reduceEq, Int.reduceNe, Nat.reduceBEq, ne_eq, reduceCtorEq, not_false_eq_true, implies_true, h4, hd, Nat.mul_one, hlt, hi0, hlI]
      refine And.intro (fun h => ?_) (fun h => ?_)
      · simp only [z0, z1, z2, z3, z4, z5, z6, z7, z8, z9, z10, z11, z12, z13, z14, z15, z16, z17, z18, t0, t1, t2, t3, t4, t5, t6, dcrs, rngs, reduceIte, Nat.reduceLT, Nat.reduceLeDiff, Nat.reduceEqDiff, Nat.reduceAdd, Nat.reduceMul, Nat.reduceSub, Nat.reduceMod, Nat.reduceDiv, Int.reduceLE, Int.reduceLT, Int.reduceEq, Int.reduceNe, Nat.reduceBEq, ne_eq, reduceCtorEq, not_false_eq_true, implies_true, h4, hd, Nat.mul_one, hlt, hi0, hlI]
        simp only [decide_eq_true_eq] at h
        refine And.intro (fun h' => ?_) (fun h' => ?_)
        · rw [wrap_id (n := (i : Int) + 1) (by omega) (by omega), IntWalk.u8_in ((l[i].toNat : Int) - 97) ⟨by omega, by omega⟩, IntWalk.u8_in _ ⟨by omega, by omega⟩, show (l[i].toNat : Int) - 97 + 65 = l[i].toNat - 32 by omega, ← up8_low (by omega) (by omega), bytesD_set hlt', upI_step (by omega)]
          exact ⟨by rw [bytesD_len, upI_len]; omega, _, none, SubO.cons rfl (SubO.nil _), PoSub.none _, ⟨i + 1, rfl, by omega, rfl, rfl⟩, by simp only [ixS]; omega⟩
        · rw [wrap_id (n := (i : Int) + 1) (by omega) (by omega)]
          have hsame := upI_same (l := l) (i := i) (by omega) (up8_id fun h1 => by omega)
          exact ⟨_, none, SubO.cons rfl (SubO.nil _), PoSub.none _, ⟨i + 1, rfl, by omega, congrArg (fun x => [(7, O.arr 5 s.size (bytesD x) none)]) hsame, rfl⟩, by simp only [ixS]; omega⟩
      · simp only [z0, z1, z2, z3, z4, z5, z6, z7, z8, z9, z10, z11, z12, z13, z14, z15, z16, z17, z18, t0, t1, t2, t3, t4, t5, t6, dcrs, rngs, reduceIte, Nat.reduceLT, Nat.reduceLeDiff, Nat.reduceEqDiff, Nat.reduceAdd, Nat.reduceMul, Nat.reduceSub, Nat.reduceMod, Nat.reduceDiv, Int.reduceLE, Int.reduceLT, Int.reduceEq, Int.reduceNe, Nat.reduceBEq, ne_eq, reduceCtorEq, not_false_eq_true, implies_true, h4, hd, Nat.mul_one, hlt, hi0, hlI]
        rw [wrap_id (n := (i : Int) + 1) (by omega) (by omega)]
        have hsame := upI_same (l := l) (i := i) (by omega) (up8_id fun h1 => by simp only [decide_eq_false_iff_not] at h; omega)
        exact ⟨_, none, SubO.cons rfl (SubO.nil _), PoSub.none _, ⟨i + 1, rfl, by omega, congrArg (fun x => [(7, O.arr 5 s.size (bytesD x) none)]) hsame, rfl⟩, by simp only [ixS]; omega⟩
    · have : i = s.size := by omega
      subst this
      refine ⟨by kernel_rfl, by simp only [maxLen]; omega, upI l s.size, by rw [upI_len]; exact hll, rfl, ?_⟩
      simp only [z0, z1, z2, z3, z4, z5, z6, z7, z8, z9, z10, z11, z12, z13, z14, z15, z16, z17, z18, t0, t1, t2, t3, t4, t5, t6, dcrs, rngs, reduceIte, Nat.reduceLT, Nat.reduceLeDiff, Nat.reduceEqDiff, Nat.reduceAdd, Nat.reduceMul, Nat.reduceSub, Nat.reduceMod, Nat.reduceDiv, Int.reduceLE, Int.reduceLT, Int.reduceEq, Int.reduceNe, Nat.reduceBEq, ne_eq, reduceCtorEq, not_false_eq_true, implies_true]
      exact ⟨_, _, vsE (by rw [← hll, upI_all, hl]; rfl), end0 rfl⟩

end Go.Proofs.YtlbbflchkkcdhaaDoor

set_option linter.unusedVariables false
set_option linter.unusedSimpArgs false
set_option maxRecDepth 8000
namespace Go.Proofs.YtlbbflchkkcdhaaDoor
open Go Go.Dv
open Go.Vc (D shrI xorI andI and255)

def srow (s : ByteArray) : List D := [str s]
theorem srow_len (n : ByteArray) : (srow n).length = 1 := rfl
theorem srow_tk (v : ByteArray) (r : List D) : takeD 1 (srow v ++ r) = some (srow v) := takeD_row rfl
theorem srow_ne (v : ByteArray) (r : List D) : srow v ++ r ≠ [] := fun h => by cases h
def kws : List ByteArray := [⟨#[83, 69, 76, 69, 67, 84]⟩, ⟨#[68, 73, 83, 84, 73, 78, 67, 84]⟩, ⟨#[70, 82, 79, 77]⟩, ⟨#[74, 79, 73, 78]⟩, ⟨#[79, 78]⟩, ⟨#[87, 72, 69, 82, 69]⟩, ⟨#[79, 82, 68, 69, 82]⟩, ⟨#[66, 89]⟩, ⟨#[65, 83, 67]⟩, ⟨#[68, 69, 83, 67]⟩, ⟨#[76, 73, 77, 73, 84]⟩, ⟨#[65, 83]⟩, ⟨#[65, 78, 68]⟩, ⟨#[79, 82]⟩, ⟨#[78, 79, 84]⟩, ⟨#[73, 83]⟩, ⟨#[73, 78]⟩, ⟨#[66, 69, 84, 87, 69, 69, 78]⟩, ⟨#[69, 88, 73, 83, 84, 83]⟩, ⟨#[78, 85, 76, 76]⟩, ⟨#[84, 82, 85, 69]⟩, ⟨#[70, 65, 76, 83, 69]⟩, ⟨#[73, 78, 83, 69, 82, 84]⟩, ⟨#[73, 78, 84, 79]⟩, ⟨#[86, 65, 76, 85, 69, 83]⟩, ⟨#[85, 80, 68, 65, 84, 69]⟩, ⟨#[83, 69, 84]⟩, ⟨#[68, 69, 76, 69, 84, 69]⟩]
def words : List ByteArray := ⟨#[]⟩ :: kws
theorem range29 : List.range 29 = [0, 1, 2, 3, 4, 5, 6, 7, 8, 9, 10, 11, 12, 13, 14, 15, 16, 17, 18, 19, 20, 21, 22, 23, 24, 25, 26, 27, 28] := rfl
theorem rep29 (α : Type) (a : α) : List.replicate 29 a = [a, a, a, a, a, a, a, a, a, a, a, a, a, a, a, a, a, a, a, a, a, a, a, a, a, a, a, a, a] := rfl
theorem l2Words_d : Cl Tryd.prog 57 [] [] fun r _ => r = .c (.sl 29 (words.flatMap srow) none) := by
  refine cl_of_d follows_mixed false Tryd.func57 rfl (by kernel_rfl) ?_
  simp only [z0, z1, z2, z3, z4, z5, z6, z7, z8, z9, z10, z11, z12, z13, z14, z15, z16, z17, z18, t0, t1, t2, t3, t4, t5, t6, dcrs, rngs, reduceIte, Nat.reduceLT, Nat.reduceLeDiff, Nat.reduceEqDiff, Nat.reduceAdd, Nat.reduceMul, Nat.reduceSub, Nat.reduceMod, Nat.reduceDiv, Int.reduceLE, Int.reduceLT, Int.reduceEq, Int.reduceNe, Nat.reduceBEq, ne_eq, reduceCtorEq, not_false_eq_true, implies_true, Tryd.f57, range29, rep29]
  refine ⟨_, [], rfl, endOk ?_⟩
  simp only [z0, z1, z2, z3, z4, z5, z6, z7, z8, z9, z10, z11, z12, z13, z14, z15, z16, z17, z18, t0, t1, t2, t3, t4, t5, t6, dcrs, rngs, reduceIte, Nat.reduceLT, Nat.reduceLeDiff, Nat.reduceEqDiff, Nat.reduceAdd, Nat.reduceMul, Nat.reduceSub, Nat.reduceMod, Nat.reduceDiv, Int.reduceLE, Int.reduceLT, Int.reduceEq, Int.reduceNe, Nat.reduceBEq, ne_eq, reduceCtorEq, not_false_eq_true, implies_true, words, kws, srow]
theorem fi_some {α : Type} {l : List α} {p : α → Bool} {i : Nat} (h : i < l.length) (hp : p l[i] = true) (hn : ∀ j (hj : j < i), p (l[j]'(by omega)) = false) : l.findIdx p = i := (List.findIdx_eq h).2 ⟨hp, hn⟩
theorem fi_none {α : Type} {l : List α} {p : α → Bool} (hn : ∀ j (hj : j < l.length), p l[j] = false) : l.findIdx p = l.length := List.findIdx_eq_length_of_false fun x hx => by
  obtain ⟨j, hj, rfl⟩ := List.mem_iff_getElem.1 hx
  exact hn j hj
def ixOf (f : ByteArray) (l : List ByteArray) : Int := if l.findIdx (fun w => decide (w = f)) < l.length then l.findIdx (fun w => decide (w = f)) else -1
def key (s : ByteArray) : Int := ixOf (foldB s) kws + 1
theorem Index_d (l : List ByteArray) (f : ByteArray) : Cl Tryd.prog 58 [.c (.sl l.length (l.flatMap srow) none), vs f] [] fun r _ => r = vi (ixOf f l) := by
  refine cl_of_d follows_mixed false Tryd.func58 rfl (by kernel_rfl) ?_
  simp only [Tryd.f58, z0, z1, z2, z3, z4, z5, z6, z7, z8, z9, z10, z11, z12, z13, z14, z15, z16, z17, z18, t0, t1, t2, t3, t4, t5, t6, dcrs, rngs, reduceIte, Nat.reduceLT, Nat.reduceLeDiff, Nat.reduceEqDiff, Nat.reduceAdd, Nat.reduceMul, Nat.reduceSub, Nat.reduceMod, Nat.reduceDiv, Int.reduceLE, Int.reduceLT, Int.reduceEq, Int.reduceNe, Nat.reduceBEq, ne_eq, reduceCtorEq, not_false_eq_true, implies_true]
  refine fun _ => ?_
  refine dLoop.intro (fun f' L p => ∃ i : Nat, f' 8 = vi i ∧ i ≤ l.length ∧ (∀ j (hj : j < l.length), j < i → l[j] ≠ f) ∧ L = [] ∧ p = none) (fun f' _ _ => (l.length - ixS (f' 8)).toNat) [] none ⟨SubO.nil _, PoSub.none _, ?_⟩ ?_
  · simp only [z0, z1, z2, z3, z4, z5, z6, z7, z8, z9, z10, z11, z12, z13, z14, z15, z16, z17, z18, t0, t1, t2, t3, t4, t5, t6, dcrs, rngs, reduceIte, Nat.reduceLT, Nat.reduceLeDiff, Nat.reduceEqDiff, Nat.reduceAdd, Nat.reduceMul, Nat.reduceSub, Nat.reduceMod, Nat.reduceDiv, Int.reduceLE, Int.reduceLT, Int.reduceEq, Int.reduceNe, Nat.reduceBEq, ne_eq, reduceCtorEq, not_false_eq_true, implies_true]
    exact ⟨0, rfl, by omega, fun j _ h => absurd h (Nat.not_lt_zero _)⟩
  · rintro g L p ⟨i, h8, hi, hn, rfl, rfl⟩
    simp only [z0, z1, z2, z3, z4, z5, z6, z7, z8, z9, z10, z11, z12, z13, z14, z15, z16, z17, z18, t0, t1, t2, t3, t4, t5, t6, dcrs, rngs, reduceIte, Nat.reduceLT, Nat.reduceLeDiff, Nat.reduceEqDiff, Nat.reduceAdd, Nat.reduceMul, Nat.reduceSub, Nat.reduceMod, Nat.reduceDiv, Int.reduceLE, Int.reduceLT, Int.reduceEq, Int.reduceNe, Nat.reduceBEq, ne_eq, reduceCtorEq, not_false_eq_true, implies_true] at h8
    simp only [z0, z1, z2, z3, z4, z5, z6, z7, z8, z9, z10, z11, z12, z13, z14, z15, z16, z17, z18, t0, t1, t2, t3, t4, t5, t6, dcrs, rngs, reduceIte, Nat.reduceLT, Nat.reduceLeDiff, Nat.reduceEqDiff, Nat.reduceAdd, Nat.reduceMul, Nat.reduceSub, Nat.reduceMod, Nat.reduceDiv, Int.reduceLE, Int.reduceLT, Int.reduceEq, Int.reduceNe, Nat.reduceBEq, ne_eq, reduceCtorEq, not_false_eq_true, implies_true, h8, Int.ofNat_lt]
    refine And.intro (fun hlt => ?_) (fun hge => ?_)
    · refine ⟨by omega, by omega, _, drop_row srow_len (List.getElem?_eq_getElem hlt), srow_ne _ _, ?_⟩
      simp only [z0, z1, z2, z3, z4, z5, z6, z7, z8, z9, z10, z11, z12, z13, z14, z15, z16, z17, z18, t0, t1, t2, t3, t4, t5, t6, dcrs, rngs, reduceIte, Nat.reduceLT, Nat.reduceLeDiff, Nat.reduceEqDiff, Nat.reduceAdd, Nat.reduceMul, Nat.reduceSub, Nat.reduceMod, Nat.reduceDiv, Int.reduceLE, Int.reduceLT, Int.reduceEq, Int.reduceNe, Nat.reduceBEq, ne_eq, reduceCtorEq, not_false_eq_true, implies_true, h8, srow_tk, srow]
      refine And.intro (fun he => ?_) (fun he => ?_)
      · refine ⟨_, _, viE ?_, end0 rfl⟩
        rw [ixOf, fi_some hlt (by simp [he]) (fun j hj => by simpa using hn j (by omega) hj), if_pos hlt]
      · rw [wrap_id (n := (i : Int) + 1) (by omega) (by omega)]
        exact ⟨[], none, SubO.nil _, PoSub.none _, ⟨i + 1, rfl, by omega, fun j hj hji => by
          by_cases e : j = i
          · subst e; exact fun h => he h.symm
          · exact hn j hj (by omega), rfl, rfl⟩, by simp only [ixS]; omega⟩
    · refine ⟨_, _, viE ?_, end0 rfl⟩
      rw [ixOf, fi_none (fun j hj => by simpa using hn j hj (by omega)), if_neg (by omega)]

end Go.Proofs.YtlbbflchkkcdhaaDoor

set_option linter.unusedVariables false
set_option linter.unusedSimpArgs false
set_option maxRecDepth 8000
namespace Go.Proofs.YtlbbflchkkcdhaaDoor
open Go Go.Dv
open Go.Vc (D shrI xorI andI and255)

theorem foldB_size (s : ByteArray) : (foldB s).size = s.size := by
  show (List.toArray _).size = _
  simp
theorem kws_small : ∀ w ∈ kws, w.size ≤ 8 := by decide
theorem words_len : words.length = 29 := rfl
theorem kws_len : kws.length = 28 := rfl
theorem words_succ {j : Nat} (h : j + 1 < words.length) : words[j + 1] = kws[j]'(by simp only [words_len] at h; simp only [kws_len]; omega) := rfl
theorem key_long {s : ByteArray} (h : 8 < s.size) : key s = 0 := by
  unfold key ixOf
  rw [fi_none (l := kws) (p := fun w => decide (w = foldB s)) (fun j hj => decide_eq_false fun e => by
    have := kws_small _ (List.getElem_mem hj)
    rw [e, foldB_size] at this
    omega), if_neg (Nat.lt_irrefl _)]
  rfl
theorem KeyOf_d (s : ByteArray) (hs : s.size ≤ 1048576) : Cl Tryd.prog 48 [vs s] [] fun r _ => r = vi (key s) := by
  refine cl_of_d follows_mixed false Tryd.func48 rfl (by kernel_rfl) ?_
  simp only [Tryd.f48, z0, z1, z2, z3, z4, z5, z6, z7, z8, z9, z10, z11, z12, z13, z14, z15, z16, z17, z18, t0, t1, t2, t3, t4, t5, t6, dcrs, rngs, reduceIte, Nat.reduceLT, Nat.reduceLeDiff, Nat.reduceEqDiff, Nat.reduceAdd, Nat.reduceMul, Nat.reduceSub, Nat.reduceMod, Nat.reduceDiv, Int.reduceLE, Int.reduceLT, Int.reduceEq, Int.reduceNe, Nat.reduceBEq, ne_eq, reduceCtorEq, not_false_eq_true, implies_true]
  refine fun _ => And.intro (fun hlt => ?_) (fun hge => ?_)
  · exact ⟨_, _, viE (key_long (by omega)).symm, end0 rfl⟩
  · skip
    refine call0 (Fold_d s hs) ?_ ?_ ?_
    · decide
    · simp only [z0, z1, z2, z3, z4, z5, z6, z7, z8, z9, z10, z11, z12, z13, z14, z15, z16, z17, z18, t0, t1, t2, t3, t4, t5, t6, dcrs, rngs, reduceIte, Nat.reduceLT, Nat.reduceLeDiff, Nat.reduceEqDiff, Nat.reduceAdd, Nat.reduceMul, Nat.reduceSub, Nat.reduceMod, Nat.reduceDiv, Int.reduceLE, Int.reduceLT, Int.reduceEq, Int.reduceNe, Nat.reduceBEq, ne_eq, reduceCtorEq, not_false_eq_true, implies_true]
    rintro r rfl
    simp only [z0, z1, z2, z3, z4, z5, z6, z7, z8, z9, z10, z11, z12, z13, z14, z15, z16, z17, z18, t0, t1, t2, t3, t4, t5, t6, dcrs, rngs, reduceIte, Nat.reduceLT, Nat.reduceLeDiff, Nat.reduceEqDiff, Nat.reduceAdd, Nat.reduceMul, Nat.reduceSub, Nat.reduceMod, Nat.reduceDiv, Int.reduceLE, Int.reduceLT, Int.reduceEq, Int.reduceNe, Nat.reduceBEq, ne_eq, reduceCtorEq, not_false_eq_true, implies_true]
    refine call0 (l2Words_d) ?_ ?_ ?_
    · decide
    · simp only [z0, z1, z2, z3, z4, z5, z6, z7, z8, z9, z10, z11, z12, z13, z14, z15, z16, z17, z18, t0, t1, t2, t3, t4, t5, t6, dcrs, rngs, reduceIte, Nat.reduceLT, Nat.reduceLeDiff, Nat.reduceEqDiff, Nat.reduceAdd, Nat.reduceMul, Nat.reduceSub, Nat.reduceMod, Nat.reduceDiv, Int.reduceLE, Int.reduceLT, Int.reduceEq, Int.reduceNe, Nat.reduceBEq, ne_eq, reduceCtorEq, not_false_eq_true, implies_true]
    rintro r rfl
    simp only [z0, z1, z2, z3, z4, z5, z6, z7, z8, z9, z10, z11, z12, z13, z14, z15, z16, z17, z18, t0, t1, t2, t3, t4, t5, t6, dcrs, rngs, reduceIte, Nat.reduceLT, Nat.reduceLeDiff, Nat.reduceEqDiff, Nat.reduceAdd, Nat.reduceMul, Nat.reduceSub, Nat.reduceMod, Nat.reduceDiv, Int.reduceLE, Int.reduceLT, Int.reduceEq, Int.reduceNe, Nat.reduceBEq, ne_eq, reduceCtorEq, not_false_eq_true, implies_true]
    refine dLoop.intro (fun f' L p => ∃ i : Nat, f' 5 = vi i ∧ 1 ≤ i ∧ i ≤ 29 ∧ (∀ j (hj : j < kws.length), j + 1 < i → kws[j] ≠ foldB s) ∧ L = [] ∧ p = none) (fun f' _ _ => (29 - ixS (f' 5)).toNat) [] none ⟨SubO.nil _, PoSub.none _, ?_⟩ ?_
    · simp only [z0, z1, z2, z3, z4, z5, z6, z7, z8, z9, z10, z11, z12, z13, z14, z15, z16, z17, z18, t0, t1, t2, t3, t4, t5, t6, dcrs, rngs, reduceIte, Nat.reduceLT, Nat.reduceLeDiff, Nat.reduceEqDiff, Nat.reduceAdd, Nat.reduceMul, Nat.reduceSub, Nat.reduceMod, Nat.reduceDiv, Int.reduceLE, Int.reduceLT, Int.reduceEq, Int.reduceNe, Nat.reduceBEq, ne_eq, reduceCtorEq, not_false_eq_true, implies_true]
      exact ⟨1, rfl, by omega, by omega, fun j _ h => absurd h (by omega)⟩
    · rintro g L p ⟨i, h8, hi1, hi, hn, rfl, rfl⟩
      simp only [z0, z1, z2, z3, z4, z5, z6, z7, z8, z9, z10, z11, z12, z13, z14, z15, z16, z17, z18, t0, t1, t2, t3, t4, t5, t6, dcrs, rngs, reduceIte, Nat.reduceLT, Nat.reduceLeDiff, Nat.reduceEqDiff, Nat.reduceAdd, Nat.reduceMul, Nat.reduceSub, Nat.reduceMod, Nat.reduceDiv, Int.reduceLE, Int.reduceLT, Int.reduceEq, Int.reduceNe, Nat.reduceBEq, ne_eq, reduceCtorEq, not_false_eq_true, implies_true] at h8
      simp only [z0, z1, z2, z3, z4, z5, z6, z7, z8, z9, z10, z11, z12, z13, z14, z15, z16, z17, z18, t0, t1, t2, t3, t4, t5, t6, dcrs, rngs, reduceIte, Nat.reduceLT, Nat.reduceLeDiff, Nat.reduceEqDiff, Nat.reduceAdd, Nat.reduceMul, Nat.reduceSub, Nat.reduceMod, Nat.reduceDiv, Int.reduceLE, Int.reduceLT, Int.reduceEq, Int.reduceNe, Nat.reduceBEq, ne_eq, reduceCtorEq, not_false_eq_true, implies_true, h8]
      refine And.intro (fun hlt => ?_) (fun hge => ?_)
      · have hlt' : i < words.length := by rw [words_len]; omega
        obtain ⟨j, rfl⟩ : ∃ j, i = j + 1 := ⟨i - 1, by omega⟩
        have hj : j < kws.length := by rw [kws_len]; omega
        refine ⟨by omega, by omega, _, drop_row srow_len (List.getElem?_eq_getElem hlt'), srow_ne _ _, ?_⟩
        rw [words_succ hlt']
        simp only [z0, z1, z2, z3, z4, z5, z6, z7, z8, z9, z10, z11, z12, z13, z14, z15, z16, z17, z18, t0, t1, t2, t3, t4, t5, t6, dcrs, rngs, reduceIte, Nat.reduceLT, Nat.reduceLeDiff, Nat.reduceEqDiff, Nat.reduceAdd, Nat.reduceMul, Nat.reduceSub, Nat.reduceMod, Nat.reduceDiv, Int.reduceLE, Int.reduceLT, Int.reduceEq, Int.reduceNe, Nat.reduceBEq, ne_eq, reduceCtorEq, not_false_eq_true, implies_true, h8, srow_tk, srow]
        refine And.intro (fun he => ?_) (fun he => ?_)
        · refine ⟨_, _, viE ?_, end0 rfl⟩
          rw [key, ixOf, fi_some hj (by simp [he]) (fun j' hj' => by simpa using hn j' (by omega) (by omega)), if_pos hj]
          omega
        · rw [wrap_id (n := ((j + 1 : Nat) : Int) + 1) (by omega) (by omega)]
          exact ⟨[], none, SubO.nil _, PoSub.none _, ⟨j + 2, rfl, by omega, by omega, fun j' hj' hji => by
            by_cases e : j' = j
            · subst e; exact he
            · exact hn j' hj' (by omega), rfl, rfl⟩, by simp only [ixS]; omega⟩
      · refine ⟨_, _, viE ?_, end0 rfl⟩
        rw [key, ixOf, fi_none (fun j hj => by simpa using hn j hj (by rw [kws_len] at hj; omega)), if_neg (by omega)]
        rfl

end Go.Proofs.YtlbbflchkkcdhaaDoor

namespace Go.Proofs.YtlbbflchkkcdhaaDoor
open Go Go.Shelf Go.Proofs
def Tryd.lays146_ren : Go.Shelf.Ren := ⟨fun | 146 => 67 | 221 => 77 | 268 => 85 | 138 => 68 | 143 => 70 | 195 => 78 | 197 => 71 | 218 => 79 | 219 => 81 | 260 => 82 | 217 => 87 | 225 => 88 | 224 => 89 | 267 => 90 | 266 => 91 | 314 => 92 | n => n, fun | 9 => 9 | 31 => 48 | 3 => 3 | 4 => 4 | 0 => 0 | 105 => 92 | 21 => 21 | 5 => 5 | 46 => 100 | 119 => 107 | 139 => 110 | 138 => 109 | 146 => 113 | 51 => 97 | n => n, fun | 1 => 1 | 3 => 2 | 4 => 3 | n => n⟩
theorem Tryd.lays146 : Go.Proofs.Lays.n146 Tryd.prog Tryd.lays146_ren := {
  mixed := by kernel_rfl
  f138 := Tryd.func68.trans (congrArg some (by kernel_rfl))
  f143 := Tryd.func70.trans (congrArg some (by kernel_rfl))
  f146 := Tryd.func67.trans (congrArg some (by kernel_rfl))
  f195 := Tryd.func78.trans (congrArg some (by kernel_rfl))
  f197 := Tryd.func71.trans (congrArg some (by kernel_rfl))
  f217 := Tryd.func87.trans (congrArg some (by kernel_rfl))
  f218 := Tryd.func79.trans (congrArg some (by kernel_rfl))
  f219 := Tryd.func81.trans (congrArg some (by kernel_rfl))
  f221 := Tryd.func77.trans (congrArg some (by kernel_rfl))
  f224 := Tryd.func89.trans (congrArg some (by kernel_rfl))
  f225 := Tryd.func88.trans (congrArg some (by kernel_rfl))
  f260 := Tryd.func82.trans (congrArg some (by kernel_rfl))
  f266 := Tryd.func91.trans (congrArg some (by kernel_rfl))
  f267 := Tryd.func90.trans (congrArg some (by kernel_rfl))
  f268 := Tryd.func85.trans (congrArg some (by kernel_rfl))
  f314 := Tryd.func92.trans (congrArg some (by kernel_rfl))
  t0 := Tryd.underlying0
  a0 := Tryd.isAgg0
  z0 := Tryd.sizeOf0
  v0 := Tryd.zeroValue0
  t3 := Tryd.underlying3
  a3 := Tryd.isAgg3
  z3 := Tryd.sizeOf3
  v3 := Tryd.zeroValue3
  t4 := Tryd.underlying4
  a4 := Tryd.isAgg4
  z4 := Tryd.sizeOf4
  v4 := Tryd.zeroValue4
  t5 := Tryd.underlying5
  a5 := Tryd.isAgg5
  z5 := Tryd.sizeOf5
  v5 := Tryd.zeroValue5
  t9 := Tryd.underlying9
  a9 := Tryd.isAgg9
  z9 := Tryd.sizeOf9
  v9 := Tryd.zeroValue9
  t21 := Tryd.underlying21
  a21 := Tryd.isAgg21
  z21 := Tryd.sizeOf21
  v21 := Tryd.zeroValue21
  t31 := Tryd.underlying48
  a31 := Tryd.isAgg48
  z31 := Tryd.sizeOf48
  v31 := Tryd.zeroValue48
  t46 := Tryd.underlying100
  a46 := Tryd.isAgg100
  z46 := Tryd.sizeOf100
  v46 := Tryd.zeroValue100
  t51 := Tryd.underlying97
  a51 := Tryd.isAgg97
  z51 := Tryd.sizeOf97
  v51 := Tryd.zeroValue97
  t105 := Tryd.underlying92
  a105 := Tryd.isAgg92
  z105 := Tryd.sizeOf92
  v105 := Tryd.zeroValue92
  t119 := Tryd.underlying107
  a119 := Tryd.isAgg107
  z119 := Tryd.sizeOf107
  t138 := Tryd.underlying109
  a138 := Tryd.isAgg109
  z138 := Tryd.sizeOf109
  v138 := Tryd.zeroValue109
  t139 := Tryd.underlying110
  a139 := Tryd.isAgg110
  z139 := Tryd.sizeOf110
  v139 := Tryd.zeroValue110
  t146 := Tryd.underlying113
  a146 := Tryd.isAgg113
  z146 := Tryd.sizeOf113
  v146 := Tryd.zeroValue113
  g1 := by kernel_rfl
  g3 := by kernel_rfl
  g4 := by kernel_rfl }
def Tryd.lays155_ren : Go.Shelf.Ren := ⟨fun | 155 => 53 | 154 => 62 | 138 => 68 | 165 => 69 | 143 => 70 | 166 => 28 | 197 => 71 | 169 => 30 | 195 => 78 | 218 => 79 | 240 => 43 | 241 => 80 | 219 => 81 | 260 => 82 | 276 => 55 | 277 => 86 | 217 => 87 | 225 => 88 | 224 => 89 | 267 => 90 | 266 => 91 | 314 => 92 | n => n, fun | 9 => 9 | 3 => 3 | 4 => 4 | 72 => 58 | 0 => 0 | 76 => 61 | 105 => 92 | 21 => 21 | 5 => 5 | 70 => 56 | 20 => 20 | 37 => 50 | 75 => 60 | 127 => 72 | 164 => 78 | 46 => 100 | 119 => 107 | 139 => 110 | 138 => 109 | 146 => 113 | 51 => 97 | 80 => 63 | n => n, fun | 1 => 1 | 3 => 2 | 4 => 3 | n => n⟩
theorem Tryd.lays155 : Go.Proofs.Lays.n155 Tryd.prog Tryd.lays155_ren := {
  mixed := by kernel_rfl
  f138 := Tryd.func68.trans (congrArg some (by kernel_rfl))
  f143 := Tryd.func70.trans (congrArg some (by kernel_rfl))
  f154 := Tryd.func62.trans (congrArg some (by kernel_rfl))
  f155 := Tryd.func53.trans (congrArg some (by kernel_rfl))
  f165 := Tryd.func69.trans (congrArg some (by kernel_rfl))
  f166 := Tryd.func28.trans (congrArg some (by kernel_rfl))
  f169 := Tryd.func30.trans (congrArg some (by kernel_rfl))
  f195 := Tryd.func78.trans (congrArg some (by kernel_rfl))
  f197 := Tryd.func71.trans (congrArg some (by kernel_rfl))
  f217 := Tryd.func87.trans (congrArg some (by kernel_rfl))
  f218 := Tryd.func79.trans (congrArg some (by kernel_rfl))
  f219 := Tryd.func81.trans (congrArg some (by kernel_rfl))
  f224 := Tryd.func89.trans (congrArg some (by kernel_rfl))
  f225 := Tryd.func88.trans (congrArg some (by kernel_rfl))
  f240 := Tryd.func43.trans (congrArg some (by kernel_rfl))
  f241 := Tryd.func80.trans (congrArg some (by kernel_rfl))
  f260 := Tryd.func82.trans (congrArg some (by kernel_rfl))
  f266 := Tryd.func91.trans (congrArg some (by kernel_rfl))
  f267 := Tryd.func90.trans (congrArg some (by kernel_rfl))
  f276 := Tryd.func55.trans (congrArg some (by kernel_rfl))
  f277 := Tryd.func86.trans (congrArg some (by kernel_rfl))
  f314 := Tryd.func92.trans (congrArg some (by kernel_rfl))
  t0 := Tryd.underlying0
  a0 := Tryd.isAgg0
  z0 := Tryd.sizeOf0
  v0 := Tryd.zeroValue0
  t3 := Tryd.underlying3
  a3 := Tryd.isAgg3
  z3 := Tryd.sizeOf3
  v3 := Tryd.zeroValue3
  t4 := Tryd.underlying4
  a4 := Tryd.isAgg4
  z4 := Tryd.sizeOf4
  v4 := Tryd.zeroValue4
  t5 := Tryd.underlying5
  a5 := Tryd.isAgg5
  z5 := Tryd.sizeOf5
  v5 := Tryd.zeroValue5
  t9 := Tryd.underlying9
  a9 := Tryd.isAgg9
  z9 := Tryd.sizeOf9
  v9 := Tryd.zeroValue9
  t20 := Tryd.underlying20
  a20 := Tryd.isAgg20
  z20 := Tryd.sizeOf20
  v20 := Tryd.zeroValue20
  t21 := Tryd.underlying21
  a21 := Tryd.isAgg21
  z21 := Tryd.sizeOf21
  v21 := Tryd.zeroValue21
  t37 := Tryd.underlying50
  a37 := Tryd.isAgg50
  z37 := Tryd.sizeOf50
  v37 := Tryd.zeroValue50
  t46 := Tryd.underlying100
  a46 := Tryd.isAgg100
  z46 := Tryd.sizeOf100
  v46 := Tryd.zeroValue100
  t51 := Tryd.underlying97
  a51 := Tryd.isAgg97
  z51 := Tryd.sizeOf97
  v51 := Tryd.zeroValue97
  t70 := Tryd.underlying56
  a70 := Tryd.isAgg56
  z70 := Tryd.sizeOf56
  v70 := Tryd.zeroValue56
  t72 := Tryd.underlying58
  a72 := Tryd.isAgg58
  z72 := Tryd.sizeOf58
  v72 := Tryd.zeroValue58
  t75 := Tryd.underlying60
  a75 := Tryd.isAgg60
  z75 := Tryd.sizeOf60
  v75 := Tryd.zeroValue60
  t76 := Tryd.underlying61
  a76 := Tryd.isAgg61
  z76 := Tryd.sizeOf61
  v76 := Tryd.zeroValue61
  t105 := Tryd.underlying92
  a105 := Tryd.isAgg92
  z105 := Tryd.sizeOf92
  v105 := Tryd.zeroValue92
  t119 := Tryd.underlying107
  a119 := Tryd.isAgg107
  z119 := Tryd.sizeOf107
  t127 := Tryd.underlying72
  a127 := Tryd.isAgg72
  z127 := Tryd.sizeOf72
  v127 := Tryd.zeroValue72
  t138 := Tryd.underlying109
  a138 := Tryd.isAgg109
  z138 := Tryd.sizeOf109
  v138 := Tryd.zeroValue109
  t139 := Tryd.underlying110
  a139 := Tryd.isAgg110
  z139 := Tryd.sizeOf110
  v139 := Tryd.zeroValue110
  t146 := Tryd.underlying113
  a146 := Tryd.isAgg113
  z146 := Tryd.sizeOf113
  v146 := Tryd.zeroValue113
  t164 := Tryd.underlying78
  a164 := Tryd.isAgg78
  z164 := Tryd.sizeOf78
  v164 := Tryd.zeroValue78
  g1 := by kernel_rfl
  g3 := by kernel_rfl
  g4 := by kernel_rfl }
theorem Tryd.Builder_Extra_155 : Builder.Extra Tryd.prog Tryd.lays155_ren := {
  sizeBuilder := by kernel_rfl
  liesBuilder := by kernel_rfl
  t5 := Tryd.underlying5
  a5 := Tryd.isAgg5
  z5 := Tryd.sizeOf5
  v5 := Tryd.zeroValue5
  infoByte := by kernel_rfl
  cellsByte := by kernel_rfl
  sizeByte := by kernel_rfl
  neB5 := by decide }
def Tryd.laysM171_ren : Go.Shelf.Ren := ⟨fun | 171 => 27 | 243 => 42 | 246 => 54 | 283 => 63 | 284 => 64 | 285 => 65 | 286 => 66 | 129 => 73 | 317 => 72 | 318 => 74 | 319 => 75 | 320 => 76 | 337 => 83 | 338 => 84 | n => n, fun | 3 => 3 | 9 => 9 | 2 => 2 | 4 => 4 | 171 => 83 | 0 => 0 | 53 => 84 | 37 => 50 | 5 => 5 | 173 => 87 | 212 => 96 | 51 => 97 | 20 => 20 | 213 => 98 | 46 => 100 | 232 => 111 | 233 => 112 | n => n, fun | 17 => 0 | 18 => 4 | 19 => 5 | n => n⟩
theorem Tryd.laysM171 : Go.Proofs.LaysM.n171 Tryd.prog Tryd.laysM171_ren := {
  mixed := by kernel_rfl
  f129 := Tryd.func73.trans (congrArg some (by kernel_rfl))
  f171 := Tryd.func27.trans (congrArg some (by kernel_rfl))
  f243 := Tryd.func42.trans (congrArg some (by kernel_rfl))
  f246 := Tryd.func54.trans (congrArg some (by kernel_rfl))
  f283 := Tryd.func63.trans (congrArg some (by kernel_rfl))
  f284 := Tryd.func64.trans (congrArg some (by kernel_rfl))
  f285 := Tryd.func65.trans (congrArg some (by kernel_rfl))
  f286 := Tryd.func66.trans (congrArg some (by kernel_rfl))
  f317 := Tryd.func72.trans (congrArg some (by kernel_rfl))
  f318 := Tryd.func74.trans (congrArg some (by kernel_rfl))
  f319 := Tryd.func75.trans (congrArg some (by kernel_rfl))
  f320 := Tryd.func76.trans (congrArg some (by kernel_rfl))
  f337 := Tryd.func83.trans (congrArg some (by kernel_rfl))
  f338 := Tryd.func84.trans (congrArg some (by kernel_rfl))
  t0 := Tryd.underlying0
  a0 := Tryd.isAgg0
  z0 := Tryd.sizeOf0
  v0 := Tryd.zeroValue0
  t2 := Tryd.underlying2
  a2 := Tryd.isAgg2
  z2 := Tryd.sizeOf2
  v2 := Tryd.zeroValue2
  t3 := Tryd.underlying3
  a3 := Tryd.isAgg3
  z3 := Tryd.sizeOf3
  v3 := Tryd.zeroValue3
  t4 := Tryd.underlying4
  a4 := Tryd.isAgg4
  z4 := Tryd.sizeOf4
  v4 := Tryd.zeroValue4
  t5 := Tryd.underlying5
  a5 := Tryd.isAgg5
  z5 := Tryd.sizeOf5
  v5 := Tryd.zeroValue5
  t9 := Tryd.underlying9
  a9 := Tryd.isAgg9
  z9 := Tryd.sizeOf9
  v9 := Tryd.zeroValue9
  t20 := Tryd.underlying20
  a20 := Tryd.isAgg20
  z20 := Tryd.sizeOf20
  v20 := Tryd.zeroValue20
  t37 := Tryd.underlying50
  a37 := Tryd.isAgg50
  z37 := Tryd.sizeOf50
  v37 := Tryd.zeroValue50
  t46 := Tryd.underlying100
  a46 := Tryd.isAgg100
  z46 := Tryd.sizeOf100
  v46 := Tryd.zeroValue100
  t51 := Tryd.underlying97
  a51 := Tryd.isAgg97
  z51 := Tryd.sizeOf97
  v51 := Tryd.zeroValue97
  t53 := Tryd.underlying84
  a53 := Tryd.isAgg84
  z53 := Tryd.sizeOf84
  v53 := Tryd.zeroValue84
  t171 := Tryd.underlying83
  a171 := Tryd.isAgg83
  z171 := Tryd.sizeOf83
  v171 := Tryd.zeroValue83
  t173 := Tryd.underlying87
  a173 := Tryd.isAgg87
  z173 := Tryd.sizeOf87
  v173 := Tryd.zeroValue87
  t212 := Tryd.underlying96
  a212 := Tryd.isAgg96
  z212 := Tryd.sizeOf96
  v212 := Tryd.zeroValue96
  t213 := Tryd.underlying98
  a213 := Tryd.isAgg98
  z213 := Tryd.sizeOf98
  t232 := Tryd.underlying111
  a232 := Tryd.isAgg111
  z232 := Tryd.sizeOf111
  v232 := Tryd.zeroValue111
  t233 := Tryd.underlying112
  a233 := Tryd.isAgg112
  z233 := Tryd.sizeOf112
  v233 := Tryd.zeroValue112
  g17 := by kernel_rfl
  g18 := by kernel_rfl
  g19 := by kernel_rfl
  i0 := by kernel_rfl
  i2 := by kernel_rfl
  i3 := by kernel_rfl
  i4 := by kernel_rfl
  i5 := by kernel_rfl
  i9 := by kernel_rfl
  i20 := by kernel_rfl
  i37 := by kernel_rfl
  i46 := by kernel_rfl
  i51 := by kernel_rfl
  i53 := by kernel_rfl
  i171 := by kernel_rfl
  i173 := by kernel_rfl
  i212 := by kernel_rfl
  i232 := by kernel_rfl
  i233 := by kernel_rfl
  m17 := by kernel_rfl
  m18 := by kernel_rfl
  m19 := by kernel_rfl }
def Tryd.lays169_ren : Go.Shelf.Ren := ⟨fun | 169 => 30 | n => n, fun | 70 => 56 | 9 => 9 | 0 => 0 | 72 => 58 | 37 => 50 | 127 => 72 | 3 => 3 | 5 => 5 | n => n, fun | n => n⟩
theorem Tryd.lays169 : Go.Proofs.Lays.n169 Tryd.prog Tryd.lays169_ren := {
  mixed := by kernel_rfl
  f169 := Tryd.func30.trans (congrArg some (by kernel_rfl))
  t0 := Tryd.underlying0
  a0 := Tryd.isAgg0
  z0 := Tryd.sizeOf0
  v0 := Tryd.zeroValue0
  t3 := Tryd.underlying3
  a3 := Tryd.isAgg3
  z3 := Tryd.sizeOf3
  v3 := Tryd.zeroValue3
  t9 := Tryd.underlying9
  a9 := Tryd.isAgg9
  z9 := Tryd.sizeOf9
  v9 := Tryd.zeroValue9
  t37 := Tryd.underlying50
  a37 := Tryd.isAgg50
  z37 := Tryd.sizeOf50
  v37 := Tryd.zeroValue50
  t70 := Tryd.underlying56
  a70 := Tryd.isAgg56
  z70 := Tryd.sizeOf56
  v70 := Tryd.zeroValue56
  t72 := Tryd.underlying58
  a72 := Tryd.isAgg58
  z72 := Tryd.sizeOf58
  v72 := Tryd.zeroValue58
  t127 := Tryd.underlying72
  a127 := Tryd.isAgg72
  z127 := Tryd.sizeOf72
  v127 := Tryd.zeroValue72 }
theorem Tryd.Builder_Extra_169 : Builder.Extra Tryd.prog Tryd.lays169_ren := {
  sizeBuilder := by kernel_rfl
  liesBuilder := by kernel_rfl
  t5 := Tryd.underlying5
  a5 := Tryd.isAgg5
  z5 := Tryd.sizeOf5
  v5 := Tryd.zeroValue5
  infoByte := by kernel_rfl
  cellsByte := by kernel_rfl
  sizeByte := by kernel_rfl
  neB5 := by decide }
end Go.Proofs.YtlbbflchkkcdhaaDoor

set_option linter.unusedVariables false
set_option linter.unusedSimpArgs false
set_option maxRecDepth 8000
namespace Go.Proofs.YtlbbflchkkcdhaaDoor
open Go Go.Dv
open Go.Vc (D shrI xorI andI and255)

open Go.RowKit (Below)
theorem gl_pow {w : World} {own : Nat → Prop} (h : GlW w own) : ∃ ty lh, w.heap[0]? = some (.cells (Lib.pow10Tab.map fun z => Value.int .u64 z).toArray ty lh) := by
  obtain ⟨_, cs, ty, lh, h2, h3⟩ := h _ (List.mem_cons_self)
  exact ⟨ty, lh, by rw [← h3]; exact h2⟩
theorem gl_max {w : World} {own : Nat → Prop} (h : GlW w own) : ∃ m, w.cell? ⟨1, 0, none⟩ = some (.int .i64 m) := by
  obtain ⟨_, cs, ty, lh, h2, m, h3⟩ := h _ (List.mem_cons_of_mem _ (List.mem_cons_self))
  exact ⟨m, by simp only [World.cell?, h2]; exact h3⟩
theorem below_grow (w : World) (k : Nat) (os : Array Obj) : Below w.heap.size w (Go.Sort.grow (w.drewN k) os) :=
  ⟨rfl, rfl, rfl, by simp [Go.Sort.grow, World.drewN], fun i hi => by simp [Go.Sort.grow, World.drewN, Array.getElem?_append, hi]⟩
def itoaB (n : Int) : ByteArray := ⟨(Lib.itoa n).toArray⟩
theorem decDigits_len (u : Nat) : ∀ k, u < 10 ^ (k + 1) → (Lib.decDigits u).length ≤ k + 1 := by
  intro k
  induction k generalizing u with
  | zero => intro h; rw [Lib.decDigits, dif_pos (by simpa using h)]; simp
  | succ k ih =>
    intro h
    rw [Lib.decDigits]
    split
    · simp
    · have := ih (u / 10) (by rw [Nat.pow_succ] at h; omega)
      simp only [List.length_append, List.length_singleton]; omega
theorem itoa_len {n : Int} (h0 : -9223372036854775808 ≤ n) (h1 : n ≤ 9223372036854775807) : (Lib.itoa n).length ≤ 20 := by
  unfold Lib.itoa
  split
  · have := decDigits_len n.natAbs 18 (by omega)
    simp only [List.length_cons]; omega
  · have := decDigits_len n.toNat 18 (by omega)
    omega
theorem itoaB_size {n : Int} (h0 : -9223372036854775808 ≤ n) (h1 : n ≤ 9223372036854775807) : (itoaB n).size ≤ 20 := by
  show (List.toArray _).size ≤ 20
  simpa using itoa_len h0 h1
theorem Itoa_d (n : Int) (h0 : -9223372036854775808 ≤ n) (h1 : n ≤ 9223372036854775807) : Cl Tryd.prog 27 [vi n] [] fun r _ => r = vs (itoaB n) :=
  Cl.ofVals (by kernel_rfl) [.int .i64 n] fun w hg => by
    obtain ⟨ty, lh, hp⟩ := gl_pow hg
    refine (Any.strconv_Itoa Tryd.laysM171 n h0 h1 w ?_).mono ?_
    · unfold Lib.TabIs World.var?
      rw [show Tryd.prog.globalNamed _ = some 0 by kernel_rfl]
      simp only [Option.bind_some, hp]
    · rintro e w' ⟨rfl, k, os, rfl⟩
      have := itoaB_size h0 h1
      exact ⟨_, rfl, by show ByteArray.size _ ≤ maxLen; simp only [maxLen]; exact Nat.le_trans this (by decide), rfl, below_grow w k os⟩

end Go.Proofs.YtlbbflchkkcdhaaDoor

set_option linter.unusedVariables false
set_option linter.unusedSimpArgs false
set_option maxRecDepth 8000
namespace Go.Proofs.YtlbbflchkkcdhaaDoor
open Go Go.Dv
open Go.Vc (D shrI xorI andI and255)
open Go.RowKit (Below)
open Go.Vc (CellF RowF ValsF okV)
def kwText : ByteArray := ⟨#[83, 69, 76, 69, 67, 84, 32, 68, 73, 83, 84, 73, 78, 67, 84, 32, 70, 82, 79, 77, 32, 74, 79, 73, 78, 32, 79, 78, 32, 87, 72, 69, 82, 69, 32, 79, 82, 68, 69, 82, 32, 66, 89, 32, 65, 83, 67, 32, 68, 69, 83, 67, 32, 76, 73, 77, 73, 84, 32, 65, 83, 32, 65, 78, 68, 32, 79, 82, 32, 78, 79, 84, 32, 73, 83, 32, 73, 78, 32, 66, 69, 84, 87, 69, 69, 78, 32, 69, 88, 73, 83, 84, 83, 32, 78, 85, 76, 76, 32, 84, 82, 85, 69, 32, 70, 65, 76, 83, 69, 32, 73, 78, 83, 69, 82, 84, 32, 73, 78, 84, 79, 32, 86, 65, 76, 85, 69, 83, 32, 85, 80, 68, 65, 84, 69, 32, 83, 69, 84, 32, 68, 69, 76, 69, 84, 69]⟩
theorem split_kws : Lib.splitB ⟨#[32]⟩ 0 (Lib.countB kwText ⟨#[32]⟩) kwText = kws := by decide +kernel
theorem count_kws : Lib.countB kwText ⟨#[32]⟩ = 27 := by decide +kernel
theorem strs_vals (w : World) : ∀ l : List ByteArray, (∀ s ∈ l, s.size ≤ maxLen) → ValsF w (l.flatMap srow) (l.map Value.string) []
  | [], _ => rfl
  | s :: r, h => ⟨[], [], ⟨rfl, rfl, h s (by simp)⟩, strs_vals w r fun x hx => h x (by simp [hx]), rfl⟩
theorem strs_cell (w w' : World) (ty : TypeId) (l : List ByteArray) (hl : l ≠ []) (hs : ∀ s ∈ l, s.size ≤ maxLen) (hn : l.length ≤ maxLen) (β : Nat → Option Nat) (hw : w'.heap[w.heap.size]? = some (.cells (l.map Value.string).toArray ty (0, 0))) :
    RelS Tryd.prog w' β (fun b => w.heap.size ≤ b) (.c (.sl l.length (l.flatMap srow) none)) (.slice (some ⟨w.heap.size, 0, none⟩) l.length l.length) := by
  have hrow : RowF w' w.heap.size 0 (l.flatMap srow) [] := (strs_vals w' l hs).row fun j v hj => by
    rw [cell_of_row w' w.heap.size (0 + j) _ _ _ hw]; simpa using hj
  refine ⟨[w.heap.size], ⟨some ⟨w.heap.size, 0, none⟩, l.length, rfl, Nat.le_refl _, hn, (fun e => by cases e), .inr ⟨?_, w.heap.size, 0, [], rfl, hrow, rfl⟩⟩, (fun b hb => by simp at hb; omega), (fun _ e => by cases e)⟩
  cases l with
  | nil => exact absurd rfl hl
  | cons s r => simp [srow]
theorem Split_d : Cl Tryd.prog 67 [vs kwText, vs ⟨#[32]⟩] [] fun r _ => r = .c (.sl 28 (kws.flatMap srow) none) :=
  Cl.ofNew (by kernel_rfl) [.string kwText, .string ⟨#[32]⟩] fun w hg => by
    obtain ⟨m, hm⟩ := gl_max hg
    refine (Any.strings_Split Tryd.lays146 (by kernel_rfl) kwText ⟨#[32]⟩ m w (by decide) hm (by decide)).mono ?_
    rintro e w' ⟨rfl, rfl⟩
    rw [split_kws, count_kws]
    refine ⟨_, _, rfl, rfl, by rfl, fun β => strs_cell w _ _ kws (by decide) (fun s hs => Nat.le_trans (kws_small s hs) (by decide)) (by decide) β (Go.heap_alloc_new w _), ⟨rfl, rfl, rfl, by simp, fun i hi => Go.heap_alloc_old w _ hi⟩⟩
theorem keywords_d : Cl Tryd.prog 59 [] [] fun r _ => r = .c (.sl 28 (kws.flatMap srow) none) := by
  refine cl_of_d follows_mixed false Tryd.func59 rfl (by kernel_rfl) ?_
  simp only [z0, z1, z2, z3, z4, z5, z6, z7, z8, z9, z10, z11, z12, z13, z14, z15, z16, z17, z18, t0, t1, t2, t3, t4, t5, t6, dcrs, rngs, reduceIte, Nat.reduceLT, Nat.reduceLeDiff, Nat.reduceEqDiff, Nat.reduceAdd, Nat.reduceMul, Nat.reduceSub, Nat.reduceMod, Nat.reduceDiv, Int.reduceLE, Int.reduceLT, Int.reduceEq, Int.reduceNe, Nat.reduceBEq, ne_eq, reduceCtorEq, not_false_eq_true, implies_true, Tryd.f59]
  refine call0 Split_d ?_ ?_ ?_
  · decide
  · simp only [z0, z1, z2, z3, z4, z5, z6, z7, z8, z9, z10, z11, z12, z13, z14, z15, z16, z17, z18, t0, t1, t2, t3, t4, t5, t6, dcrs, rngs, reduceIte, Nat.reduceLT, Nat.reduceLeDiff, Nat.reduceEqDiff, Nat.reduceAdd, Nat.reduceMul, Nat.reduceSub, Nat.reduceMod, Nat.reduceDiv, Int.reduceLE, Int.reduceLT, Int.reduceEq, Int.reduceNe, Nat.reduceBEq, ne_eq, reduceCtorEq, not_false_eq_true, implies_true]
    rfl
  rintro r rfl
  simp only [z0, z1, z2, z3, z4, z5, z6, z7, z8, z9, z10, z11, z12, z13, z14, z15, z16, z17, z18, t0, t1, t2, t3, t4, t5, t6, dcrs, rngs, reduceIte, Nat.reduceLT, Nat.reduceLeDiff, Nat.reduceEqDiff, Nat.reduceAdd, Nat.reduceMul, Nat.reduceSub, Nat.reduceMod, Nat.reduceDiv, Int.reduceLE, Int.reduceLT, Int.reduceEq, Int.reduceNe, Nat.reduceBEq, ne_eq, reduceCtorEq, not_false_eq_true, implies_true]
  exact ⟨_, _, rfl, end0 rfl⟩
theorem iKeyOf_d (s : ByteArray) (hs : s.size ≤ 1048576) : Cl Tryd.prog 51 [vs s] [] fun r _ => r = vi (key s) := by
  refine cl_of_d follows_mixed false Tryd.func51 rfl (by kernel_rfl) ?_
  simp only [Tryd.f51, z0, z1, z2, z3, z4, z5, z6, z7, z8, z9, z10, z11, z12, z13, z14, z15, z16, z17, z18, t0, t1, t2, t3, t4, t5, t6, dcrs, rngs, reduceIte, Nat.reduceLT, Nat.reduceLeDiff, Nat.reduceEqDiff, Nat.reduceAdd, Nat.reduceMul, Nat.reduceSub, Nat.reduceMod, Nat.reduceDiv, Int.reduceLE, Int.reduceLT, Int.reduceEq, Int.reduceNe, Nat.reduceBEq, ne_eq, reduceCtorEq, not_false_eq_true, implies_true]
  refine call0 (keywords_d) ?_ ?_ ?_
  · decide
  · simp only [z0, z1, z2, z3, z4, z5, z6, z7, z8, z9, z10, z11, z12, z13, z14, z15, z16, z17, z18, t0, t1, t2, t3, t4, t5, t6, dcrs, rngs, reduceIte, Nat.reduceLT, Nat.reduceLeDiff, Nat.reduceEqDiff, Nat.reduceAdd, Nat.reduceMul, Nat.reduceSub, Nat.reduceMod, Nat.reduceDiv, Int.reduceLE, Int.reduceLT, Int.reduceEq, Int.reduceNe, Nat.reduceBEq, ne_eq, reduceCtorEq, not_false_eq_true, implies_true]
  rintro r rfl
  simp only [z0, z1, z2, z3, z4, z5, z6, z7, z8, z9, z10, z11, z12, z13, z14, z15, z16, z17, z18, t0, t1, t2, t3, t4, t5, t6, dcrs, rngs, reduceIte, Nat.reduceLT, Nat.reduceLeDiff, Nat.reduceEqDiff, Nat.reduceAdd, Nat.reduceMul, Nat.reduceSub, Nat.reduceMod, Nat.reduceDiv, Int.reduceLE, Int.reduceLT, Int.reduceEq, Int.reduceNe, Nat.reduceBEq, ne_eq, reduceCtorEq, not_false_eq_true, implies_true]
  refine call0 (iFold_d s hs) ?_ ?_ ?_
  · decide
  · simp only [z0, z1, z2, z3, z4, z5, z6, z7, z8, z9, z10, z11, z12, z13, z14, z15, z16, z17, z18, t0, t1, t2, t3, t4, t5, t6, dcrs, rngs, reduceIte, Nat.reduceLT, Nat.reduceLeDiff, Nat.reduceEqDiff, Nat.reduceAdd, Nat.reduceMul, Nat.reduceSub, Nat.reduceMod, Nat.reduceDiv, Int.reduceLE, Int.reduceLT, Int.reduceEq, Int.reduceNe, Nat.reduceBEq, ne_eq, reduceCtorEq, not_false_eq_true, implies_true]
  rintro r rfl
  simp only [z0, z1, z2, z3, z4, z5, z6, z7, z8, z9, z10, z11, z12, z13, z14, z15, z16, z17, z18, t0, t1, t2, t3, t4, t5, t6, dcrs, rngs, reduceIte, Nat.reduceLT, Nat.reduceLeDiff, Nat.reduceEqDiff, Nat.reduceAdd, Nat.reduceMul, Nat.reduceSub, Nat.reduceMod, Nat.reduceDiv, Int.reduceLE, Int.reduceLT, Int.reduceEq, Int.reduceNe, Nat.reduceBEq, ne_eq, reduceCtorEq, not_false_eq_true, implies_true]
  refine call0 (Index_d kws (foldB s)) ?_ ?_ ?_
  · decide
  · simp only [z0, z1, z2, z3, z4, z5, z6, z7, z8, z9, z10, z11, z12, z13, z14, z15, z16, z17, z18, t0, t1, t2, t3, t4, t5, t6, dcrs, rngs, reduceIte, Nat.reduceLT, Nat.reduceLeDiff, Nat.reduceEqDiff, Nat.reduceAdd, Nat.reduceMul, Nat.reduceSub, Nat.reduceMod, Nat.reduceDiv, Int.reduceLE, Int.reduceLT, Int.reduceEq, Int.reduceNe, Nat.reduceBEq, ne_eq, reduceCtorEq, not_false_eq_true, implies_true, kws_len]
  rintro r rfl
  simp only [z0, z1, z2, z3, z4, z5, z6, z7, z8, z9, z10, z11, z12, z13, z14, z15, z16, z17, z18, t0, t1, t2, t3, t4, t5, t6, dcrs, rngs, reduceIte, Nat.reduceLT, Nat.reduceLeDiff, Nat.reduceEqDiff, Nat.reduceAdd, Nat.reduceMul, Nat.reduceSub, Nat.reduceMod, Nat.reduceDiv, Int.reduceLE, Int.reduceLT, Int.reduceEq, Int.reduceNe, Nat.reduceBEq, ne_eq, reduceCtorEq, not_false_eq_true, implies_true, kws_len]
  have h1 : -1 ≤ ixOf (foldB s) kws ∧ ixOf (foldB s) kws ≤ 28 := by
    unfold ixOf
    have := kws_len
    split <;> omega
  rw [wrap_id (n := ixOf (foldB s) kws + 1) (by omega) (by omega)]
  exact ⟨_, _, rfl, end0 rfl⟩

end Go.Proofs.YtlbbflchkkcdhaaDoor
