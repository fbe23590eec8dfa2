/-
  The functions that FnExactSameResult calls: what each returns.
  Conditions: none.
-/
import Derived.Test.YtklligemdfnimaaTbl
set_option linter.unusedVariables false
set_option linter.unusedSimpArgs false
namespace Go.Proofs.Ytklligemdfnimaa
open Go Go.Vc
theorem follows_mixed : Try.prog.follows .mixedOrders = true := by kernel_rfl
theorem add0 (a : Addr) : a.add 0 = a := by simp [Addr.add]
theorem wrap_id {n : Int} (h : -9223372036854775808 ≤ n) (h' : n ≤ 9223372036854775807) : IntKind.i64.wrap n = n := IntWalk.i64_in n (by omega)
structure Val where
  kind : Int
  num : Int
  text : ByteArray
def int (n : Int) : D := .lit (.int .i64 n)
def bool (b : Bool) : D := .lit (.bool b)
def str (s : ByteArray) : D := .lit (.string s)
def Val.row (v : Val) : List D := [int v.kind, int v.num, str v.text]
def Val.small (v : Val) : Prop := v.text.size ≤ 1048576
theorem Val.row_len (v : Val) : v.row.length = 3 := rfl
def vrow (r : List Val) : List D := [.sl r.length (r.flatMap Val.row)]
theorem vrow_len (r : List Val) : (vrow r).length = 1 := rfl
def vsmall (r : List Val) : Prop := r.length ≤ 1048576 ∧ ∀ e ∈ r, e.small
structure Res where
  fk : Int
  ft : ByteArray
  er : Int
  rows : List (List Val)
  count : Int
def Res.row (r : Res) : List D := [int r.fk, str r.ft, int r.er, .sl r.rows.length (r.rows.flatMap vrow), int r.count]
def Res.small (r : Res) : Prop := r.rows.length ≤ 1048576 ∧ ∀ e ∈ r.rows, vsmall e
theorem valsF_cons {m : World} {d : D} {ds : List D} {vs : List Value} {F : List Nat} (h : ValsF m (d :: ds) vs F) : ∃ v r F1 F2, vs = v :: r ∧ CellF m d v F1 ∧ ValsF m ds r F2 ∧ F = F1 ++ F2 := by
  cases vs with
  | nil => exact h.elim
  | cons v r => obtain ⟨F1, F2, h1, h2, h3⟩ := h; exact ⟨v, r, F1, F2, rfl, h1, h2, h3⟩
theorem valsF_lit {m : World} {u : Value} {ds : List D} {vs : List Value} {F : List Nat} (h : ValsF m (.lit u :: ds) vs F) : ∃ r, vs = u :: r ∧ ValsF m ds r F ∧ okV u := by
  obtain ⟨v, r, F1, F2, rfl, ⟨h1, h1', ho⟩, h2, h3⟩ := valsF_cons h
  subst h1 h1'
  exact ⟨r, rfl, by rw [h3]; simpa using h2, ho⟩
theorem valsF_nil {m : World} {vs : List Value} {F : List Nat} (h : ValsF m [] vs F) : vs = [] ∧ F = [] := by
  cases vs with
  | nil => exact ⟨rfl, h⟩
  | cons _ _ => exact h.elim
theorem Val.vals {m : World} {x : Val} {vs : List Value} {F : List Nat} (h : ValsF m x.row vs F) : vs = [.int .i64 x.kind, .int .i64 x.num, .string x.text] ∧ F = [] ∧ x.text.size ≤ maxLen := by
  obtain ⟨r1, rfl, h1, o1⟩ := valsF_lit h
  obtain ⟨r2, rfl, h2, o2⟩ := valsF_lit h1
  obtain ⟨r3, rfl, h3, o3⟩ := valsF_lit h2
  obtain ⟨rfl, rfl⟩ := valsF_nil h3
  exact ⟨rfl, rfl, o3⟩
theorem Val.mk_vals (m : World) (x : Val) (h : x.text.size ≤ maxLen) : ValsF m x.row [.int .i64 x.kind, .int .i64 x.num, .string x.text] [] :=
  ⟨[], [], ⟨rfl, rfl, trivial⟩, ⟨[], [], ⟨rfl, rfl, trivial⟩, ⟨[], [], ⟨rfl, rfl, h⟩, rfl, rfl⟩, rfl⟩, rfl⟩
theorem Res.vals {m : World} {x : Res} {vs : List Value} {F : List Nat} (h : ValsF m x.row vs F) : ∃ v, vs = [.int .i64 x.fk, .string x.ft, .int .i64 x.er, v, .int .i64 x.count] ∧ CellF m (.sl x.rows.length (x.rows.flatMap vrow)) v F ∧ x.ft.size ≤ maxLen := by
  obtain ⟨r1, rfl, h1, o1⟩ := valsF_lit h
  obtain ⟨r2, rfl, h2, o2⟩ := valsF_lit h1
  obtain ⟨r3, rfl, h3, o3⟩ := valsF_lit h2
  obtain ⟨v, r4, F1, F2, rfl, h4, h5, rfl⟩ := valsF_cons h3
  obtain ⟨r5, rfl, h6, o5⟩ := valsF_lit h5
  obtain ⟨rfl, rfl⟩ := valsF_nil h6
  exact ⟨v, rfl, by simpa using h4, o2⟩
theorem Res.mk_vals {m : World} {x : Res} {v : Value} {F : List Nat} (h : CellF m (.sl x.rows.length (x.rows.flatMap vrow)) v F) (ht : x.ft.size ≤ maxLen) : ValsF m x.row [.int .i64 x.fk, .string x.ft, .int .i64 x.er, v, .int .i64 x.count] F :=
  ⟨[], F, ⟨rfl, rfl, trivial⟩, ⟨[], F, ⟨rfl, rfl, ht⟩, ⟨[], F, ⟨rfl, rfl, trivial⟩, ⟨F, [], h, ⟨[], [], ⟨rfl, rfl, trivial⟩, rfl, rfl⟩, by simp⟩, rfl⟩, rfl⟩, rfl⟩
end Go.Proofs.Ytklligemdfnimaa

set_option linter.unusedVariables false
set_option linter.unusedSimpArgs false
namespace Go.Proofs.Ytklligemdfnimaa
open Go Go.Vc
theorem szValue (x : Val) (m : World) (left : Int) (vs : List Value) (F : List Nat) (h : ValsF m x.row vs F) (h0 : 0 ≤ left) (h1 : left ≤ 1048576) :
   FCalls Try.prog 66 #[.agg vs.toArray, .int .i64 left] m fun r m' => Grow m m' ∧ ∃ k : Int, r = .int .i64 k ∧ k ≤ left ∧ (0 ≤ k → x.small) := by
  obtain ⟨rfl, rfl, hb⟩ := Val.vals h
  have hb' : x.text.size ≤ 9223372036854775807 := hb
  refine fcalls_of_vc (args := [_, _]) follows_mixed Try.func66 rfl (by kernel_rfl) (by simp [Try.f66]) ?_
  simp only [Try.f66, vcs, tbl, List.map, reduceIte, Nat.reduceLT, Nat.reduceLeDiff, Nat.reduceEqDiff, Nat.reduceAdd, Nat.reduceMul, Nat.reduceSub, true_and, and_true, decide_eq_true_eq, decide_eq_false_iff_not, List.cons_append, List.nil_append, Bool.false_eq_true, Array.empty_append, Array.append_empty, List.length_cons, List.length_nil, List.getElem?_cons_succ, List.getElem?_cons_zero, Option.some.injEq, Int.toNat_natCast, valsOf_map, List.toList_toArray, List.flatMap_cons, List.flatMap_nil, List.append_nil, List.take_succ_cons, List.take_zero, List.drop_zero, List.drop_succ_cons, Option.bind_some]
  rw [wrap_id (by omega) (by omega)]
  refine ⟨fun h => ⟨Grow.refl _, -1, rfl, by omega, by omega⟩, fun h => ⟨Grow.refl _, _, rfl, by omega, fun h => ?_⟩⟩
  unfold Val.small; omega
theorem szValueS (es : List Val) (m : World) (left : Int) (v : Value) (F : List Nat) (h : CellF m (.sl es.length (es.flatMap Val.row)) v F) (h0 : 0 ≤ left) (h1 : left ≤ 1048576) :
   FCalls Try.prog 113 #[v, .int .i64 left] m fun r m' => Grow m m' ∧ ∃ k : Int, r = .int .i64 k ∧ k ≤ left ∧ (0 ≤ k → es.length ≤ 1048576 ∧ ∀ e ∈ es, Val.small e) := by
  obtain ⟨a, cap, rfl, hcap, hmax, _⟩ := h.slice
  have hmax' : cap ≤ 9223372036854775807 := hmax
  refine fcalls_of_vc (args := [_, _]) follows_mixed Try.func113 rfl (by kernel_rfl) (by simp [Try.f113]) ?_
  simp only [Try.f113, vcs, tbl, List.map, reduceIte, Nat.reduceLT, Nat.reduceLeDiff, Nat.reduceEqDiff, Nat.reduceAdd, Nat.reduceMul, Nat.reduceSub, true_and, and_true, decide_eq_true_eq, decide_eq_false_iff_not, List.cons_append, List.nil_append, Bool.false_eq_true, Array.empty_append, Array.append_empty, List.length_cons, List.length_nil, List.getElem?_cons_succ, List.getElem?_cons_zero, Option.some.injEq, Int.toNat_natCast, valsOf_map, List.toList_toArray, List.flatMap_cons, List.flatMap_nil, List.append_nil, List.take_succ_cons, List.take_zero, List.drop_zero, List.drop_succ_cons, Option.bind_some]
  rw [wrap_id (by omega) (by omega)]
  refine ⟨fun h => ⟨Grow.refl _, -1, rfl, by omega, by omega⟩, fun h' => ?_⟩
  refine vcLoop.intro (fun f L m1 => ∃ (k : Nat) (l : Int), f 5 = .c (.v (.int .i64 k)) ∧ f 1 = .c (.v (.int .i64 l)) ∧ L = [] ∧ k ≤ es.length ∧ 0 ≤ l ∧ l ≤ left ∧ Grow m m1 ∧ ∀ e ∈ es.take k, Val.small e)
    (fun f _ _ => (es.length - ixS (f 5)).toNat) ⟨[], Sub.nil _, 0, left - es.length, ?_⟩ ?_
  · simp only [vcs, tbl, List.map, reduceIte, Nat.reduceLT, Nat.reduceLeDiff, Nat.reduceEqDiff, Nat.reduceAdd, Nat.reduceMul, Nat.reduceSub, true_and, and_true, decide_eq_true_eq, decide_eq_false_iff_not, List.cons_append, List.nil_append, Bool.false_eq_true, Array.empty_append, Array.append_empty, List.length_cons, List.length_nil, List.getElem?_cons_succ, List.getElem?_cons_zero, Option.some.injEq, Int.toNat_natCast, valsOf_map, List.toList_toArray, List.flatMap_cons, List.flatMap_nil, List.append_nil, List.take_succ_cons, List.take_zero, List.drop_zero, List.drop_succ_cons, Option.bind_some]
    exact ⟨rfl, by omega, by omega, by omega, Grow.refl _, by simp⟩
  · rintro g L1 m1 ⟨k, l, h5, h1', rfl, hk, hl0, hl1', hg, hsm⟩
    have hl1 : l ≤ 1048576 := by omega
    simp only [vcs, tbl, List.map, reduceIte, Nat.reduceLT, Nat.reduceLeDiff, Nat.reduceEqDiff, Nat.reduceAdd, Nat.reduceMul, Nat.reduceSub, true_and, and_true, decide_eq_true_eq, decide_eq_false_iff_not, List.cons_append, List.nil_append, Bool.false_eq_true, Array.empty_append, Array.append_empty, List.length_cons, List.length_nil, List.getElem?_cons_succ, List.getElem?_cons_zero, Option.some.injEq, Int.toNat_natCast, valsOf_map, List.toList_toArray, List.flatMap_cons, List.flatMap_nil, List.append_nil, List.take_succ_cons, List.take_zero, List.drop_zero, List.drop_succ_cons, Option.bind_some] at h5 h1'
    simp only [vcs, tbl, List.map, reduceIte, Nat.reduceLT, Nat.reduceLeDiff, Nat.reduceEqDiff, Nat.reduceAdd, Nat.reduceMul, Nat.reduceSub, true_and, and_true, decide_eq_true_eq, decide_eq_false_iff_not, List.cons_append, List.nil_append, Bool.false_eq_true, Array.empty_append, Array.append_empty, List.length_cons, List.length_nil, List.getElem?_cons_succ, List.getElem?_cons_zero, Option.some.injEq, Int.toNat_natCast, valsOf_map, List.toList_toArray, List.flatMap_cons, List.flatMap_nil, List.append_nil, List.take_succ_cons, List.take_zero, List.drop_zero, List.drop_succ_cons, Option.bind_some, h5, h1']
    refine ⟨fun hlt => ?_, fun hge => ?_⟩
    · have hlt : k < es.length := by omega
      obtain ⟨ad, vs, Fk, ha, hlen, hcell, hv, _⟩ := h.elem Val.row_len (by decide) (List.getElem?_eq_getElem hlt)
      refine ⟨by omega, by omega, ad, ha, vs, hlen, fun j v hj => hg.cell (by simpa using hcell j v hj), ?_⟩
      simp only [vcs, tbl, List.map, reduceIte, Nat.reduceLT, Nat.reduceLeDiff, Nat.reduceEqDiff, Nat.reduceAdd, Nat.reduceMul, Nat.reduceSub, true_and, and_true, decide_eq_true_eq, decide_eq_false_iff_not, List.cons_append, List.nil_append, Bool.false_eq_true, Array.empty_append, Array.append_empty, List.length_cons, List.length_nil, List.getElem?_cons_succ, List.getElem?_cons_zero, Option.some.injEq, Int.toNat_natCast, valsOf_map, List.toList_toArray, List.flatMap_cons, List.flatMap_nil, List.append_nil, List.take_succ_cons, List.take_zero, List.drop_zero, List.drop_succ_cons, Option.bind_some, h5, h1']
      refine (szValue _ _ _ _ _ (hv.grow hg) hl0 hl1).mono ?_
      rintro r m2 ⟨hg2, q, rfl, hq, hqs⟩
      simp only [vcs, tbl, List.map, reduceIte, Nat.reduceLT, Nat.reduceLeDiff, Nat.reduceEqDiff, Nat.reduceAdd, Nat.reduceMul, Nat.reduceSub, true_and, and_true, decide_eq_true_eq, decide_eq_false_iff_not, List.cons_append, List.nil_append, Bool.false_eq_true, Array.empty_append, Array.append_empty, List.length_cons, List.length_nil, List.getElem?_cons_succ, List.getElem?_cons_zero, Option.some.injEq, Int.toNat_natCast, valsOf_map, List.toList_toArray, List.flatMap_cons, List.flatMap_nil, List.append_nil, List.take_succ_cons, List.take_zero, List.drop_zero, List.drop_succ_cons, Option.bind_some, h5, h1']
      refine ⟨fun hn => ⟨hg.trans hg2, -1, rfl, by omega, by omega⟩, fun hn => ?_⟩
      rw [wrap_id (by omega) (by omega)]
      refine ⟨[], Sub.nil _, ⟨k + 1, _, by simp, rfl, rfl, by omega, by omega, by omega, hg.trans hg2, ?_⟩, by omega⟩
      intro e he
      rw [List.take_add_one, List.getElem?_eq_getElem hlt] at he
      rcases List.mem_append.1 he with he | he
      · exact hsm e he
      · simp at he; subst he; exact hqs (by omega)
    · have : k = es.length := by omega
      subst this
      exact ⟨hg, l, rfl, by omega, fun _ => ⟨by omega, fun e he => hsm e (by simpa using he)⟩⟩

theorem szValueSS (es : List (List Val)) (m : World) (left : Int) (v : Value) (F : List Nat) (h : CellF m (.sl es.length (es.flatMap vrow)) v F) (h0 : 0 ≤ left) (h1 : left ≤ 1048576) :
   FCalls Try.prog 43 #[v, .int .i64 left] m fun r m' => Grow m m' ∧ ∃ k : Int, r = .int .i64 k ∧ k ≤ left ∧ (0 ≤ k → es.length ≤ 1048576 ∧ ∀ e ∈ es, vsmall e) := by
  obtain ⟨a, cap, rfl, hcap, hmax, _⟩ := h.slice
  have hmax' : cap ≤ 9223372036854775807 := hmax
  refine fcalls_of_vc (args := [_, _]) follows_mixed Try.func43 rfl (by kernel_rfl) (by simp [Try.f43]) ?_
  simp only [Try.f43, vcs, tbl, List.map, reduceIte, Nat.reduceLT, Nat.reduceLeDiff, Nat.reduceEqDiff, Nat.reduceAdd, Nat.reduceMul, Nat.reduceSub, true_and, and_true, decide_eq_true_eq, decide_eq_false_iff_not, List.cons_append, List.nil_append, Bool.false_eq_true, Array.empty_append, Array.append_empty, List.length_cons, List.length_nil, List.getElem?_cons_succ, List.getElem?_cons_zero, Option.some.injEq, Int.toNat_natCast, valsOf_map, List.toList_toArray, List.flatMap_cons, List.flatMap_nil, List.append_nil, List.take_succ_cons, List.take_zero, List.drop_zero, List.drop_succ_cons, Option.bind_some]
  rw [wrap_id (by omega) (by omega)]
  refine ⟨fun h => ⟨Grow.refl _, -1, rfl, by omega, by omega⟩, fun h' => ?_⟩
  refine vcLoop.intro (fun f L m1 => ∃ (k : Nat) (l : Int), f 5 = .c (.v (.int .i64 k)) ∧ f 1 = .c (.v (.int .i64 l)) ∧ L = [] ∧ k ≤ es.length ∧ 0 ≤ l ∧ l ≤ left ∧ Grow m m1 ∧ ∀ e ∈ es.take k, vsmall e)
    (fun f _ _ => (es.length - ixS (f 5)).toNat) ⟨[], Sub.nil _, 0, left - es.length, ?_⟩ ?_
  · simp only [vcs, tbl, List.map, reduceIte, Nat.reduceLT, Nat.reduceLeDiff, Nat.reduceEqDiff, Nat.reduceAdd, Nat.reduceMul, Nat.reduceSub, true_and, and_true, decide_eq_true_eq, decide_eq_false_iff_not, List.cons_append, List.nil_append, Bool.false_eq_true, Array.empty_append, Array.append_empty, List.length_cons, List.length_nil, List.getElem?_cons_succ, List.getElem?_cons_zero, Option.some.injEq, Int.toNat_natCast, valsOf_map, List.toList_toArray, List.flatMap_cons, List.flatMap_nil, List.append_nil, List.take_succ_cons, List.take_zero, List.drop_zero, List.drop_succ_cons, Option.bind_some]
    exact ⟨rfl, by omega, by omega, by omega, Grow.refl _, by simp⟩
  · rintro g L1 m1 ⟨k, l, h5, h1', rfl, hk, hl0, hl1', hg, hsm⟩
    have hl1 : l ≤ 1048576 := by omega
    simp only [vcs, tbl, List.map, reduceIte, Nat.reduceLT, Nat.reduceLeDiff, Nat.reduceEqDiff, Nat.reduceAdd, Nat.reduceMul, Nat.reduceSub, true_and, and_true, decide_eq_true_eq, decide_eq_false_iff_not, List.cons_append, List.nil_append, Bool.false_eq_true, Array.empty_append, Array.append_empty, List.length_cons, List.length_nil, List.getElem?_cons_succ, List.getElem?_cons_zero, Option.some.injEq, Int.toNat_natCast, valsOf_map, List.toList_toArray, List.flatMap_cons, List.flatMap_nil, List.append_nil, List.take_succ_cons, List.take_zero, List.drop_zero, List.drop_succ_cons, Option.bind_some] at h5 h1'
    simp only [vcs, tbl, List.map, reduceIte, Nat.reduceLT, Nat.reduceLeDiff, Nat.reduceEqDiff, Nat.reduceAdd, Nat.reduceMul, Nat.reduceSub, true_and, and_true, decide_eq_true_eq, decide_eq_false_iff_not, List.cons_append, List.nil_append, Bool.false_eq_true, Array.empty_append, Array.append_empty, List.length_cons, List.length_nil, List.getElem?_cons_succ, List.getElem?_cons_zero, Option.some.injEq, Int.toNat_natCast, valsOf_map, List.toList_toArray, List.flatMap_cons, List.flatMap_nil, List.append_nil, List.take_succ_cons, List.take_zero, List.drop_zero, List.drop_succ_cons, Option.bind_some, h5, h1']
    refine ⟨fun hlt => ?_, fun hge => ?_⟩
    · have hlt : k < es.length := by omega
      obtain ⟨ad, vs, Fk, ha, hlen, hcell, hv, _⟩ := h.elem vrow_len (by decide) (List.getElem?_eq_getElem hlt)
      obtain ⟨u, hu⟩ : ∃ u, vs[0]? = some u := ⟨vs[0]'(by omega), List.getElem?_eq_getElem _⟩
      have hcu := hg.cell (hcell 0 u hu)
      rw [add0] at hcu
      have hvu := (ValsF.one hv hu).grow hg
      refine ⟨by omega, by omega, ad, ha, u, hcu, ?_⟩
      simp only [vcs, tbl, List.map, reduceIte, Nat.reduceLT, Nat.reduceLeDiff, Nat.reduceEqDiff, Nat.reduceAdd, Nat.reduceMul, Nat.reduceSub, true_and, and_true, decide_eq_true_eq, decide_eq_false_iff_not, List.cons_append, List.nil_append, Bool.false_eq_true, Array.empty_append, Array.append_empty, List.length_cons, List.length_nil, List.getElem?_cons_succ, List.getElem?_cons_zero, Option.some.injEq, Int.toNat_natCast, valsOf_map, List.toList_toArray, List.flatMap_cons, List.flatMap_nil, List.append_nil, List.take_succ_cons, List.take_zero, List.drop_zero, List.drop_succ_cons, Option.bind_some, h5, h1']
      refine (szValueS _ _ _ _ _ hvu hl0 hl1).mono ?_
      rintro r m2 ⟨hg2, q, rfl, hq, hqs⟩
      simp only [vcs, tbl, List.map, reduceIte, Nat.reduceLT, Nat.reduceLeDiff, Nat.reduceEqDiff, Nat.reduceAdd, Nat.reduceMul, Nat.reduceSub, true_and, and_true, decide_eq_true_eq, decide_eq_false_iff_not, List.cons_append, List.nil_append, Bool.false_eq_true, Array.empty_append, Array.append_empty, List.length_cons, List.length_nil, List.getElem?_cons_succ, List.getElem?_cons_zero, Option.some.injEq, Int.toNat_natCast, valsOf_map, List.toList_toArray, List.flatMap_cons, List.flatMap_nil, List.append_nil, List.take_succ_cons, List.take_zero, List.drop_zero, List.drop_succ_cons, Option.bind_some, h5, h1']
      refine ⟨fun hn => ⟨hg.trans hg2, -1, rfl, by omega, by omega⟩, fun hn => ?_⟩
      rw [wrap_id (by omega) (by omega)]
      refine ⟨[], Sub.nil _, ⟨k + 1, _, by simp, rfl, rfl, by omega, by omega, by omega, hg.trans hg2, ?_⟩, by omega⟩
      intro e he
      rw [List.take_add_one, List.getElem?_eq_getElem hlt] at he
      rcases List.mem_append.1 he with he | he
      · exact hsm e he
      · simp at he; subst he; exact hqs (by omega)
    · have : k = es.length := by omega
      subst this
      exact ⟨hg, l, rfl, by omega, fun _ => ⟨by omega, fun e he => hsm e (by simpa using he)⟩⟩

end Go.Proofs.Ytklligemdfnimaa
set_option linter.unusedVariables false
set_option linter.unusedSimpArgs false
set_option maxRecDepth 4000
namespace Go.Proofs.Ytklligemdfnimaa
open Go Go.Vc
theorem flatMap_len {α : Type} {row : α → List D} {sz : Nat} (h : ∀ e, (row e).length = sz) (es : List α) : (es.flatMap row).length = es.length * sz := by
  induction es with
  | nil => simp
  | cons e r ih => simp only [List.flatMap_cons, List.length_append, h, ih, List.length_cons, Nat.add_mul]; omega
theorem toValue (x : Val) (m : World) (vs : List Value) (F : List Nat) (h : ValsF m x.row vs F) (hs : x.small) :
   FCalls Try.prog 69 #[.agg vs.toArray] m fun r m' => Grow m m' ∧ ∃ us F', r = .agg us.toArray ∧ ValsF m' x.row us F' ∧ Fresh m F' := by
  obtain ⟨rfl, rfl, hb⟩ := Val.vals h
  refine fcalls_of_vc (args := [_]) follows_mixed Try.func69 rfl (by kernel_rfl) (by simp [Try.f69]) ?_
  simp only [Try.f69, vcs, tbl, List.map, reduceIte, Nat.reduceLT, Nat.reduceLeDiff, Nat.reduceEqDiff, Nat.reduceAdd, Nat.reduceMul, Nat.reduceSub, true_and, and_true, decide_eq_true_eq, decide_eq_false_iff_not, List.cons_append, List.nil_append, Bool.false_eq_true, Array.empty_append, Array.append_empty, List.length_cons, List.length_nil, List.getElem?_cons_succ, List.getElem?_cons_zero, Option.some.injEq, Int.toNat_natCast, valsOf_map, List.toList_toArray, List.flatMap_cons, List.flatMap_nil, List.append_nil, List.take_succ_cons, List.take_zero, List.drop_zero, List.drop_succ_cons, Option.bind_some]
  exact ⟨Grow.refl _, _, [], rfl, Val.mk_vals _ x hb, Fresh.nil _⟩
theorem toValueS (es : List Val) (m : World) (v : Value) (F : List Nat) (h : CellF m (.sl es.length (es.flatMap Val.row)) v F) (hs : es.length ≤ 1048576 ∧ ∀ e ∈ es, Val.small e) :
   FCalls Try.prog 115 #[v] m fun r m' => Grow m m' ∧ ∃ F', CellF m' (.sl es.length (es.flatMap Val.row)) r F' ∧ Fresh m F' := by
  obtain ⟨a, cap, rfl, hcap, hmax, _⟩ := h.slice
  have hmax' : cap ≤ 9223372036854775807 := hmax
  refine fcalls_of_vc (args := [_]) follows_mixed Try.func115 rfl (by kernel_rfl) (by simp [Try.f115]) ?_
  simp only [Try.f115, vcs, tbl, List.map, reduceIte, Nat.reduceLT, Nat.reduceLeDiff, Nat.reduceEqDiff, Nat.reduceAdd, Nat.reduceMul, Nat.reduceSub, true_and, and_true, decide_eq_true_eq, decide_eq_false_iff_not, List.cons_append, List.nil_append, Bool.false_eq_true, Array.empty_append, Array.append_empty, List.length_cons, List.length_nil, List.getElem?_cons_succ, List.getElem?_cons_zero, Option.some.injEq, Int.toNat_natCast, valsOf_map, List.toList_toArray, List.flatMap_cons, List.flatMap_nil, List.append_nil, List.take_succ_cons, List.take_zero, List.drop_zero, List.drop_succ_cons, Option.bind_some]
  refine ⟨by omega, by omega, by omega, ?_⟩
  refine vcLoop.intro (fun f L m1 => ∃ (k : Nat) (dn : List Value) (F1 : List Nat), f 4 = .c (.v (.int .i64 k)) ∧ L = [(7, .arr 40 (dn ++ (List.replicate (es.length - k) [.int .i64 0, .int .i64 0, .string ByteArray.empty]).flatten) es.length)] ∧ k ≤ es.length ∧ Grow m m1 ∧ ValsF m1 ((es.take k).flatMap Val.row) dn F1 ∧ Fresh m F1)
    (fun f _ _ => (es.length - ixS (f 4)).toNat) ⟨[(7, .arr 40 (List.replicate es.length [.int .i64 0, .int .i64 0, .string ByteArray.empty]).flatten es.length)], Sub.cons ?_ (Sub.nil _), 0, [], [], ?_⟩ ?_
  rotate_left
  · simp only [vcs, tbl, List.map, reduceIte, Nat.reduceLT, Nat.reduceLeDiff, Nat.reduceEqDiff, Nat.reduceAdd, Nat.reduceMul, Nat.reduceSub, true_and, and_true, decide_eq_true_eq, decide_eq_false_iff_not, List.cons_append, List.nil_append, Bool.false_eq_true, Array.empty_append, Array.append_empty, List.length_cons, List.length_nil, List.getElem?_cons_succ, List.getElem?_cons_zero, Option.some.injEq, Int.toNat_natCast, valsOf_map, List.toList_toArray, List.flatMap_cons, List.flatMap_nil, List.append_nil, List.take_succ_cons, List.take_zero, List.drop_zero, List.drop_succ_cons, Option.bind_some]
    exact ⟨rfl, rfl, by omega, Grow.refl _, rfl, Fresh.nil m⟩
  rotate_left
  · simp only [vcs, tbl, List.map, reduceIte, Nat.reduceLT, Nat.reduceLeDiff, Nat.reduceEqDiff, Nat.reduceAdd, Nat.reduceMul, Nat.reduceSub, true_and, and_true, decide_eq_true_eq, decide_eq_false_iff_not, List.cons_append, List.nil_append, Bool.false_eq_true, Array.empty_append, Array.append_empty, List.length_cons, List.length_nil, List.getElem?_cons_succ, List.getElem?_cons_zero, Option.some.injEq, Int.toNat_natCast, valsOf_map, List.toList_toArray, List.flatMap_cons, List.flatMap_nil, List.append_nil, List.take_succ_cons, List.take_zero, List.drop_zero, List.drop_succ_cons, Option.bind_some]
  · rintro g L1 m1 ⟨k, dn, F1, h4, rfl, hk, hg, hdn, hfr⟩
    have hdl : dn.length = k * 3 := by rw [hdn.length, flatMap_len Val.row_len, List.length_take]; congr 1; omega
    simp only [vcs, tbl, List.map, reduceIte, Nat.reduceLT, Nat.reduceLeDiff, Nat.reduceEqDiff, Nat.reduceAdd, Nat.reduceMul, Nat.reduceSub, true_and, and_true, decide_eq_true_eq, decide_eq_false_iff_not, List.cons_append, List.nil_append, Bool.false_eq_true, Array.empty_append, Array.append_empty, List.length_cons, List.length_nil, List.getElem?_cons_succ, List.getElem?_cons_zero, Option.some.injEq, Int.toNat_natCast, valsOf_map, List.toList_toArray, List.flatMap_cons, List.flatMap_nil, List.append_nil, List.take_succ_cons, List.take_zero, List.drop_zero, List.drop_succ_cons, Option.bind_some] at h4
    simp only [vcs, tbl, List.map, reduceIte, Nat.reduceLT, Nat.reduceLeDiff, Nat.reduceEqDiff, Nat.reduceAdd, Nat.reduceMul, Nat.reduceSub, true_and, and_true, decide_eq_true_eq, decide_eq_false_iff_not, List.cons_append, List.nil_append, Bool.false_eq_true, Array.empty_append, Array.append_empty, List.length_cons, List.length_nil, List.getElem?_cons_succ, List.getElem?_cons_zero, Option.some.injEq, Int.toNat_natCast, valsOf_map, List.toList_toArray, List.flatMap_cons, List.flatMap_nil, List.append_nil, List.take_succ_cons, List.take_zero, List.drop_zero, List.drop_succ_cons, Option.bind_some, h4]
    refine ⟨fun hlt => ?_, fun hge => ?_⟩
    · have hlt : k < es.length := by omega
      obtain ⟨ad, vs, Fk, ha, hlen, hcell, hv, _⟩ := h.elem Val.row_len (by decide) (List.getElem?_eq_getElem hlt)
      refine ⟨by omega, by omega, ad, ha, vs, hlen, fun j v hj => hg.cell (by simpa using hcell j v hj), ?_⟩
      simp only [vcs, tbl, List.map, reduceIte, Nat.reduceLT, Nat.reduceLeDiff, Nat.reduceEqDiff, Nat.reduceAdd, Nat.reduceMul, Nat.reduceSub, true_and, and_true, decide_eq_true_eq, decide_eq_false_iff_not, List.cons_append, List.nil_append, Bool.false_eq_true, Array.empty_append, Array.append_empty, List.length_cons, List.length_nil, List.getElem?_cons_succ, List.getElem?_cons_zero, Option.some.injEq, Int.toNat_natCast, valsOf_map, List.toList_toArray, List.flatMap_cons, List.flatMap_nil, List.append_nil, List.take_succ_cons, List.take_zero, List.drop_zero, List.drop_succ_cons, Option.bind_some, h4]
      refine (toValue _ _ _ _ (hv.grow hg) (hs.2 _ (List.getElem_mem hlt))).mono ?_
      rintro r m2 ⟨hg2, us, F2, rfl, hvr, hf2⟩
      have hyl := hvr.length
      rw [Val.row_len] at hyl
      simp only [vcs, tbl, List.map, reduceIte, Nat.reduceLT, Nat.reduceLeDiff, Nat.reduceEqDiff, Nat.reduceAdd, Nat.reduceMul, Nat.reduceSub, true_and, and_true, decide_eq_true_eq, decide_eq_false_iff_not, List.cons_append, List.nil_append, Bool.false_eq_true, Array.empty_append, Array.append_empty, List.length_cons, List.length_nil, List.getElem?_cons_succ, List.getElem?_cons_zero, Option.some.injEq, Int.toNat_natCast, valsOf_map, List.toList_toArray, List.flatMap_cons, List.flatMap_nil, List.append_nil, List.take_succ_cons, List.take_zero, List.drop_zero, List.drop_succ_cons, Option.bind_some, h4, hyl]
      refine ⟨by omega, by omega, by simp, ?_, hvr.oneCell, _, Sub.one _ _, ⟨k + 1, dn ++ us, F1 ++ F2, ?_, ?_, by omega, hg.trans hg2, ?_, hfr.join hg (hdn.vis) hf2⟩, ?_⟩
      · rw [fill_len, hdl]
        have : k * 3 + 3 ≤ k * 3 + (es.length - k) * 3 := by omega
        simpa using this
      · rw [wrap_id (by omega) (by omega)]; simp
      · exact congrArg (fun z => [(7, Box.arr 40 z es.length)]) (fill_eq hdl hyl rfl hlt)
      · rw [List.take_add_one, List.getElem?_eq_getElem hlt, List.flatMap_append]
        refine (hdn.grow hg2).join ?_
        simpa using hvr
      · rw [wrap_id (by omega) (by omega)]; omega
    · have : k = es.length := by omega
      subst this
      intro b m' hp
      refine ⟨hg.trans hp.grow, ?_⟩
      rw [Nat.sub_self, List.replicate_zero, List.flatten_nil, List.append_nil] at hp
      rw [List.take_length] at hdn
      exact CellF.of_pub hp hdn hg hfr (Nat.le_refl _) (Nat.le_trans hcap hmax)

theorem toValueSS (es : List (List Val)) (m : World) (v : Value) (F : List Nat) (h : CellF m (.sl es.length (es.flatMap vrow)) v F) (hs : es.length ≤ 1048576 ∧ ∀ e ∈ es, vsmall e) :
   FCalls Try.prog 46 #[v] m fun r m' => Grow m m' ∧ ∃ F', CellF m' (.sl es.length (es.flatMap vrow)) r F' ∧ Fresh m F' := by
  obtain ⟨a, cap, rfl, hcap, hmax, _⟩ := h.slice
  have hmax' : cap ≤ 9223372036854775807 := hmax
  refine fcalls_of_vc (args := [_]) follows_mixed Try.func46 rfl (by kernel_rfl) (by simp [Try.f46]) ?_
  simp only [Try.f46, vcs, tbl, List.map, reduceIte, Nat.reduceLT, Nat.reduceLeDiff, Nat.reduceEqDiff, Nat.reduceAdd, Nat.reduceMul, Nat.reduceSub, true_and, and_true, decide_eq_true_eq, decide_eq_false_iff_not, List.cons_append, List.nil_append, Bool.false_eq_true, Array.empty_append, Array.append_empty, List.length_cons, List.length_nil, List.getElem?_cons_succ, List.getElem?_cons_zero, Option.some.injEq, Int.toNat_natCast, valsOf_map, List.toList_toArray, List.flatMap_cons, List.flatMap_nil, List.append_nil, List.take_succ_cons, List.take_zero, List.drop_zero, List.drop_succ_cons, Option.bind_some]
  refine ⟨by omega, by omega, by omega, ?_⟩
  refine vcLoop.intro (fun f L m1 => ∃ (k : Nat) (dn : List Value) (F1 : List Nat), f 4 = .c (.v (.int .i64 k)) ∧ L = [(7, .arr 137 (dn ++ (List.replicate (es.length - k) [.slice none 0 0]).flatten) es.length)] ∧ k ≤ es.length ∧ Grow m m1 ∧ ValsF m1 ((es.take k).flatMap vrow) dn F1 ∧ Fresh m F1)
    (fun f _ _ => (es.length - ixS (f 4)).toNat) ⟨[(7, .arr 137 (List.replicate es.length [.slice none 0 0]).flatten es.length)], Sub.cons ?_ (Sub.nil _), 0, [], [], ?_⟩ ?_
  rotate_left
  · simp only [vcs, tbl, List.map, reduceIte, Nat.reduceLT, Nat.reduceLeDiff, Nat.reduceEqDiff, Nat.reduceAdd, Nat.reduceMul, Nat.reduceSub, true_and, and_true, decide_eq_true_eq, decide_eq_false_iff_not, List.cons_append, List.nil_append, Bool.false_eq_true, Array.empty_append, Array.append_empty, List.length_cons, List.length_nil, List.getElem?_cons_succ, List.getElem?_cons_zero, Option.some.injEq, Int.toNat_natCast, valsOf_map, List.toList_toArray, List.flatMap_cons, List.flatMap_nil, List.append_nil, List.take_succ_cons, List.take_zero, List.drop_zero, List.drop_succ_cons, Option.bind_some]
    exact ⟨rfl, rfl, by omega, Grow.refl _, rfl, Fresh.nil m⟩
  rotate_left
  · simp only [vcs, tbl, List.map, reduceIte, Nat.reduceLT, Nat.reduceLeDiff, Nat.reduceEqDiff, Nat.reduceAdd, Nat.reduceMul, Nat.reduceSub, true_and, and_true, decide_eq_true_eq, decide_eq_false_iff_not, List.cons_append, List.nil_append, Bool.false_eq_true, Array.empty_append, Array.append_empty, List.length_cons, List.length_nil, List.getElem?_cons_succ, List.getElem?_cons_zero, Option.some.injEq, Int.toNat_natCast, valsOf_map, List.toList_toArray, List.flatMap_cons, List.flatMap_nil, List.append_nil, List.take_succ_cons, List.take_zero, List.drop_zero, List.drop_succ_cons, Option.bind_some]
  · rintro g L1 m1 ⟨k, dn, F1, h4, rfl, hk, hg, hdn, hfr⟩
    have hdl : dn.length = k * 1 := by rw [hdn.length, flatMap_len vrow_len, List.length_take]; congr 1; omega
    simp only [vcs, tbl, List.map, reduceIte, Nat.reduceLT, Nat.reduceLeDiff, Nat.reduceEqDiff, Nat.reduceAdd, Nat.reduceMul, Nat.reduceSub, true_and, and_true, decide_eq_true_eq, decide_eq_false_iff_not, List.cons_append, List.nil_append, Bool.false_eq_true, Array.empty_append, Array.append_empty, List.length_cons, List.length_nil, List.getElem?_cons_succ, List.getElem?_cons_zero, Option.some.injEq, Int.toNat_natCast, valsOf_map, List.toList_toArray, List.flatMap_cons, List.flatMap_nil, List.append_nil, List.take_succ_cons, List.take_zero, List.drop_zero, List.drop_succ_cons, Option.bind_some] at h4
    simp only [vcs, tbl, List.map, reduceIte, Nat.reduceLT, Nat.reduceLeDiff, Nat.reduceEqDiff, Nat.reduceAdd, Nat.reduceMul, Nat.reduceSub, true_and, and_true, decide_eq_true_eq, decide_eq_false_iff_not, List.cons_append, List.nil_append, Bool.false_eq_true, Array.empty_append, Array.append_empty, List.length_cons, List.length_nil, List.getElem?_cons_succ, List.getElem?_cons_zero, Option.some.injEq, Int.toNat_natCast, valsOf_map, List.toList_toArray, List.flatMap_cons, List.flatMap_nil, List.append_nil, List.take_succ_cons, List.take_zero, List.drop_zero, List.drop_succ_cons, Option.bind_some, h4]
    refine ⟨fun hlt => ?_, fun hge => ?_⟩
    · have hlt : k < es.length := by omega
      obtain ⟨ad, vs, Fk, ha, hlen, hcell, hv, _⟩ := h.elem vrow_len (by decide) (List.getElem?_eq_getElem hlt)
      obtain ⟨u, hu⟩ : ∃ u, vs[0]? = some u := ⟨vs[0]'(by omega), List.getElem?_eq_getElem _⟩
      have hcu := hg.cell (hcell 0 u hu)
      rw [add0] at hcu
      have hvu := (ValsF.one hv hu).grow hg
      refine ⟨by omega, by omega, ad, ha, u, hcu, ?_⟩
      simp only [vcs, tbl, List.map, reduceIte, Nat.reduceLT, Nat.reduceLeDiff, Nat.reduceEqDiff, Nat.reduceAdd, Nat.reduceMul, Nat.reduceSub, true_and, and_true, decide_eq_true_eq, decide_eq_false_iff_not, List.cons_append, List.nil_append, Bool.false_eq_true, Array.empty_append, Array.append_empty, List.length_cons, List.length_nil, List.getElem?_cons_succ, List.getElem?_cons_zero, Option.some.injEq, Int.toNat_natCast, valsOf_map, List.toList_toArray, List.flatMap_cons, List.flatMap_nil, List.append_nil, List.take_succ_cons, List.take_zero, List.drop_zero, List.drop_succ_cons, Option.bind_some, h4]
      refine (toValueS _ _ _ _ hvu (hs.2 _ (List.getElem_mem hlt))).mono ?_
      rintro r m2 ⟨hg2, F2, hv2, hf2⟩
      obtain ⟨us, hus, hvr⟩ : ∃ us, us = [r] ∧ ValsF m2 (vrow es[k]) us F2 := ⟨_, rfl, ValsF.single hv2⟩
      obtain ⟨a2, cap2, rfl, _⟩ := hv2.slice
      subst hus
      have hyl := hvr.length
      rw [vrow_len] at hyl
      simp only [vcs, tbl, List.map, reduceIte, Nat.reduceLT, Nat.reduceLeDiff, Nat.reduceEqDiff, Nat.reduceAdd, Nat.reduceMul, Nat.reduceSub, true_and, and_true, decide_eq_true_eq, decide_eq_false_iff_not, List.cons_append, List.nil_append, Bool.false_eq_true, Array.empty_append, Array.append_empty, List.length_cons, List.length_nil, List.getElem?_cons_succ, List.getElem?_cons_zero, Option.some.injEq, Int.toNat_natCast, valsOf_map, List.toList_toArray, List.flatMap_cons, List.flatMap_nil, List.append_nil, List.take_succ_cons, List.take_zero, List.drop_zero, List.drop_succ_cons, Option.bind_some, h4, hyl]
      refine ⟨by omega, by omega, by simp, ?_, hvr.oneCell, _, Sub.one _ _, ⟨k + 1, dn ++ [.slice a2 es[k].length cap2], F1 ++ F2, ?_, ?_, by omega, hg.trans hg2, ?_, hfr.join hg (hdn.vis) hf2⟩, ?_⟩
      · rw [fill_len, hdl]
        have : k * 1 + 1 ≤ k * 1 + (es.length - k) * 1 := by omega
        simpa using this
      · rw [wrap_id (by omega) (by omega)]; simp
      · exact congrArg (fun z => [(7, Box.arr 137 z es.length)]) (fill_eq hdl hyl rfl hlt)
      · rw [List.take_add_one, List.getElem?_eq_getElem hlt, List.flatMap_append]
        refine (hdn.grow hg2).join ?_
        simpa using hvr
      · rw [wrap_id (by omega) (by omega)]; omega
    · have : k = es.length := by omega
      subst this
      intro b m' hp
      refine ⟨hg.trans hp.grow, ?_⟩
      rw [Nat.sub_self, List.replicate_zero, List.flatten_nil, List.append_nil] at hp
      rw [List.take_length] at hdn
      exact CellF.of_pub hp hdn hg hfr (Nat.le_refl _) (Nat.le_trans hcap hmax)

end Go.Proofs.Ytklligemdfnimaa
set_option linter.unusedVariables false
set_option linter.unusedSimpArgs false
set_option maxRecDepth 4000
namespace Go.Proofs.Ytklligemdfnimaa
open Go Go.Vc
instance : DecidableEq Val := fun x y => if h : x.kind = y.kind ∧ x.num = y.num ∧ x.text = y.text then isTrue (by cases x; cases y; simp_all) else isFalse (by intro e; subst e; simp at h)
theorem Val.ext' (x y : Val) : x = y ↔ x.kind = y.kind ∧ x.num = y.num ∧ x.text = y.text := by cases x; cases y; simp
theorem eqValue (x y : Val) (m : World) (vs us : List Value) (F G : List Nat) (h : ValsF m x.row vs F) (k : ValsF m y.row us G) :
   FCalls Try.prog 73 #[.agg vs.toArray, .agg us.toArray] m fun r m' => Grow m m' ∧ ∃ b, r = .bool b ∧ (b = true ↔ x = y) := by
  obtain ⟨rfl, _, _⟩ := Val.vals h
  obtain ⟨rfl, _, _⟩ := Val.vals k
  rw [Val.ext']
  refine fcalls_of_vc (args := [_, _]) follows_mixed Try.func73 rfl (by kernel_rfl) (by simp [Try.f73]) ?_
  simp only [Try.f73, vcs, tbl, List.map, reduceIte, Nat.reduceLT, Nat.reduceLeDiff, Nat.reduceEqDiff, Nat.reduceAdd, Nat.reduceMul, Nat.reduceSub, true_and, and_true, decide_eq_true_eq, decide_eq_false_iff_not, List.cons_append, List.nil_append, Bool.false_eq_true, Array.empty_append, Array.append_empty, List.length_cons, List.length_nil, List.getElem?_cons_succ, List.getElem?_cons_zero, Option.some.injEq, Int.toNat_natCast, valsOf_map, List.toList_toArray, List.flatMap_cons, List.flatMap_nil, List.append_nil, List.take_succ_cons, List.take_zero, List.drop_zero, List.drop_succ_cons, Option.bind_some]
  refine ⟨fun h => ⟨Grow.refl _, false, rfl, ?_⟩, fun h => ⟨fun h2 => ⟨Grow.refl _, false, rfl, ?_⟩, fun h2 => ⟨fun h3 => ⟨Grow.refl _, false, rfl, ?_⟩, fun h3 => ⟨Grow.refl _, true, rfl, ?_⟩⟩⟩⟩
  all_goals simp_all
theorem eqRFault (a b : Int) (s t : ByteArray) (m : World) :
   FCalls Try.prog 48 #[.agg #[.int .i64 a, .string s], .agg #[.int .i64 b, .string t]] m fun r m' => Grow m m' ∧ ∃ c, r = .bool c ∧ (c = true ↔ a = b ∧ s = t) := by
  refine fcalls_of_vc (args := [_, _]) follows_mixed Try.func48 rfl (by kernel_rfl) (by simp [Try.f48]) ?_
  simp only [Try.f48, vcs, tbl, List.map, reduceIte, Nat.reduceLT, Nat.reduceLeDiff, Nat.reduceEqDiff, Nat.reduceAdd, Nat.reduceMul, Nat.reduceSub, true_and, and_true, decide_eq_true_eq, decide_eq_false_iff_not, List.cons_append, List.nil_append, Bool.false_eq_true, Array.empty_append, Array.append_empty, List.length_cons, List.length_nil, List.getElem?_cons_succ, List.getElem?_cons_zero, Option.some.injEq, Int.toNat_natCast, valsOf_map, List.toList_toArray, List.flatMap_cons, List.flatMap_nil, List.append_nil, List.take_succ_cons, List.take_zero, List.drop_zero, List.drop_succ_cons, Option.bind_some]
  refine ⟨fun h => ⟨Grow.refl _, false, rfl, ?_⟩, fun h => ⟨fun h2 => ⟨Grow.refl _, false, rfl, ?_⟩, fun h2 => ⟨Grow.refl _, true, rfl, ?_⟩⟩⟩
  all_goals simp_all
theorem eq40 (x y : Val) (w : World) : (Op.equalIn 10000 40 (.agg [.int .i64 x.kind, .int .i64 x.num, .string x.text].toArray) (.agg [.int .i64 y.kind, .int .i64 y.num, .string y.text].toArray)).run Try.prog w = .ok (decide (x = y)) w := by
  refine equalIn_fk (ks := [(0, .int), (1, .int), (2, .str)]) (by kernel_rfl) (by kernel_rfl) (by kernel_rfl) ?_ w
  simp only [eqFK, List.getElem?_cons_zero, List.getElem?_cons_succ, Val.ext']
  by_cases h1 : x.kind = y.kind <;> by_cases h2 : x.num = y.num <;> by_cases h3 : x.text = y.text <;> simp [h1, h2, h3]
theorem eq31 (a b : Int) (s t : ByteArray) (w : World) : (Op.equalIn 10000 31 (.agg [.int .i64 a, .string s].toArray) (.agg [.int .i64 b, .string t].toArray)).run Try.prog w = .ok (decide (a = b ∧ s = t)) w := by
  refine equalIn_fk (ks := [(0, .int), (1, .str)]) (by kernel_rfl) (by kernel_rfl) (by kernel_rfl) ?_ w
  simp only [eqFK, List.getElem?_cons_zero, List.getElem?_cons_succ]
  by_cases h1 : a = b <;> by_cases h2 : s = t <;> simp [h1, h2]

theorem eqValueS (es fs : List Val) (m : World) (v u : Value) (F G : List Nat) (h : CellF m (.sl es.length (es.flatMap Val.row)) v F) (k : CellF m (.sl fs.length (fs.flatMap Val.row)) u G) :
   FCalls Try.prog 118 #[v, u] m fun r m' => Grow m m' ∧ ∃ b, r = .bool b ∧ (b = true ↔ es = fs) := by
  obtain ⟨a, cap, rfl, hcap, hmax, _⟩ := h.slice
  obtain ⟨a', cap', rfl, hcap', hmax', _⟩ := k.slice
  have hmax1 : cap ≤ 9223372036854775807 := hmax
  refine fcalls_of_vc (args := [_, _]) follows_mixed Try.func118 rfl (by kernel_rfl) (by simp [Try.f118]) ?_
  simp only [Try.f118, vcs, tbl, List.map, reduceIte, Nat.reduceLT, Nat.reduceLeDiff, Nat.reduceEqDiff, Nat.reduceAdd, Nat.reduceMul, Nat.reduceSub, true_and, and_true, decide_eq_true_eq, decide_eq_false_iff_not, List.cons_append, List.nil_append, Bool.false_eq_true, Array.empty_append, Array.append_empty, List.length_cons, List.length_nil, List.getElem?_cons_succ, List.getElem?_cons_zero, Option.some.injEq, Int.toNat_natCast, valsOf_map, List.toList_toArray, List.flatMap_cons, List.flatMap_nil, List.append_nil, List.take_succ_cons, List.take_zero, List.drop_zero, List.drop_succ_cons, Option.bind_some]
  refine ⟨fun h => ⟨Grow.refl _, false, rfl, by simp; intro e; subst e; simp at h⟩, fun hl => ?_⟩
  have hl : es.length = fs.length := by simp at hl; omega
  refine vcLoop.intro (fun f L m1 => ∃ (k : Nat), f 5 = .c (.v (.int .i64 k)) ∧ L = [] ∧ k ≤ es.length ∧ Grow m m1 ∧ es.take k = fs.take k)
    (fun f _ _ => (es.length - ixS (f 5)).toNat) ⟨[], Sub.nil _, 0, ?_⟩ ?_
  · simp only [vcs, tbl, List.map, reduceIte, Nat.reduceLT, Nat.reduceLeDiff, Nat.reduceEqDiff, Nat.reduceAdd, Nat.reduceMul, Nat.reduceSub, true_and, and_true, decide_eq_true_eq, decide_eq_false_iff_not, List.cons_append, List.nil_append, Bool.false_eq_true, Array.empty_append, Array.append_empty, List.length_cons, List.length_nil, List.getElem?_cons_succ, List.getElem?_cons_zero, Option.some.injEq, Int.toNat_natCast, valsOf_map, List.toList_toArray, List.flatMap_cons, List.flatMap_nil, List.append_nil, List.take_succ_cons, List.take_zero, List.drop_zero, List.drop_succ_cons, Option.bind_some]
    first | exact ⟨rfl, by omega, Grow.refl _, by simp⟩ | exact ⟨rfl, by omega, Grow.refl _⟩
  · rintro g L1 m1 ⟨i, h5, rfl, hi, hg, heq⟩
    simp only [vcs, tbl, List.map, reduceIte, Nat.reduceLT, Nat.reduceLeDiff, Nat.reduceEqDiff, Nat.reduceAdd, Nat.reduceMul, Nat.reduceSub, true_and, and_true, decide_eq_true_eq, decide_eq_false_iff_not, List.cons_append, List.nil_append, Bool.false_eq_true, Array.empty_append, Array.append_empty, List.length_cons, List.length_nil, List.getElem?_cons_succ, List.getElem?_cons_zero, Option.some.injEq, Int.toNat_natCast, valsOf_map, List.toList_toArray, List.flatMap_cons, List.flatMap_nil, List.append_nil, List.take_succ_cons, List.take_zero, List.drop_zero, List.drop_succ_cons, Option.bind_some] at h5
    simp only [vcs, tbl, List.map, reduceIte, Nat.reduceLT, Nat.reduceLeDiff, Nat.reduceEqDiff, Nat.reduceAdd, Nat.reduceMul, Nat.reduceSub, true_and, and_true, decide_eq_true_eq, decide_eq_false_iff_not, List.cons_append, List.nil_append, Bool.false_eq_true, Array.empty_append, Array.append_empty, List.length_cons, List.length_nil, List.getElem?_cons_succ, List.getElem?_cons_zero, Option.some.injEq, Int.toNat_natCast, valsOf_map, List.toList_toArray, List.flatMap_cons, List.flatMap_nil, List.append_nil, List.take_succ_cons, List.take_zero, List.drop_zero, List.drop_succ_cons, Option.bind_some, h5]
    refine ⟨fun hlt => ?_, fun hge => ?_⟩
    · have hlt : i < es.length := by omega
      have hlt' : i < fs.length := by omega
      obtain ⟨ada, vsa, Fka, haa, hlena, hcella, hva, _⟩ := h.elem Val.row_len (by decide) (List.getElem?_eq_getElem hlt)
      obtain ⟨adb, vsb, Fkb, hab, hlenb, hcellb, hvb, _⟩ := k.elem Val.row_len (by decide) (List.getElem?_eq_getElem hlt')
      refine vcDrawn.intro (.take 0 (.take 1 (.take 2 (.take 3 (.take 4 (.take 5 (.take 6 (.take 7 (.br 8 (.take 9 .done) .nobr))))))))) (by kernel_rfl) ?_
      simp only [vcs, tbl, List.map, reduceIte, Nat.reduceLT, Nat.reduceLeDiff, Nat.reduceEqDiff, Nat.reduceAdd, Nat.reduceMul, Nat.reduceSub, true_and, and_true, decide_eq_true_eq, decide_eq_false_iff_not, List.cons_append, List.nil_append, Bool.false_eq_true, Array.empty_append, Array.append_empty, List.length_cons, List.length_nil, List.getElem?_cons_succ, List.getElem?_cons_zero, Option.some.injEq, Int.toNat_natCast, valsOf_map, List.toList_toArray, List.flatMap_cons, List.flatMap_nil, List.append_nil, List.take_succ_cons, List.take_zero, List.drop_zero, List.drop_succ_cons, Option.bind_some, h5]
      have next : es[i] = fs[i] → es.take (i + 1) = fs.take (i + 1) := fun e => by
        rw [List.take_add_one, List.take_add_one, heq, List.getElem?_eq_getElem hlt, List.getElem?_eq_getElem hlt', e]
      have diff : es[i] ≠ fs[i] → es ≠ fs := fun e he => e (by subst he; rfl)
      refine ⟨by omega, by omega, ada, haa, _, hlena, fun j v hj => hg.cell (by simpa using hcella j v hj), ?_⟩
      simp only [vcs, tbl, List.map, reduceIte, Nat.reduceLT, Nat.reduceLeDiff, Nat.reduceEqDiff, Nat.reduceAdd, Nat.reduceMul, Nat.reduceSub, true_and, and_true, decide_eq_true_eq, decide_eq_false_iff_not, List.cons_append, List.nil_append, Bool.false_eq_true, Array.empty_append, Array.append_empty, List.length_cons, List.length_nil, List.getElem?_cons_succ, List.getElem?_cons_zero, Option.some.injEq, Int.toNat_natCast, valsOf_map, List.toList_toArray, List.flatMap_cons, List.flatMap_nil, List.append_nil, List.take_succ_cons, List.take_zero, List.drop_zero, List.drop_succ_cons, Option.bind_some, h5]
      refine ⟨by omega, by omega, adb, hab, _, hlenb, fun j v hj => hg.cell (by simpa using hcellb j v hj), ?_⟩
      simp only [vcs, tbl, List.map, reduceIte, Nat.reduceLT, Nat.reduceLeDiff, Nat.reduceEqDiff, Nat.reduceAdd, Nat.reduceMul, Nat.reduceSub, true_and, and_true, decide_eq_true_eq, decide_eq_false_iff_not, List.cons_append, List.nil_append, Bool.false_eq_true, Array.empty_append, Array.append_empty, List.length_cons, List.length_nil, List.getElem?_cons_succ, List.getElem?_cons_zero, Option.some.injEq, Int.toNat_natCast, valsOf_map, List.toList_toArray, List.flatMap_cons, List.flatMap_nil, List.append_nil, List.take_succ_cons, List.take_zero, List.drop_zero, List.drop_succ_cons, Option.bind_some, h5]
      refine (eqValue _ _ _ _ _ _ _ (hva.grow hg) (hvb.grow hg)).mono ?_
      rintro r m2 ⟨hg2, b, rfl, hb⟩
      refine ⟨hg2, ?_⟩
      simp only [vcs, tbl, List.map, reduceIte, Nat.reduceLT, Nat.reduceLeDiff, Nat.reduceEqDiff, Nat.reduceAdd, Nat.reduceMul, Nat.reduceSub, true_and, and_true, decide_eq_true_eq, decide_eq_false_iff_not, List.cons_append, List.nil_append, Bool.false_eq_true, Array.empty_append, Array.append_empty, List.length_cons, List.length_nil, List.getElem?_cons_succ, List.getElem?_cons_zero, Option.some.injEq, Int.toNat_natCast, valsOf_map, List.toList_toArray, List.flatMap_cons, List.flatMap_nil, List.append_nil, List.take_succ_cons, List.take_zero, List.drop_zero, List.drop_succ_cons, Option.bind_some, h5]
      refine ⟨fun hn => ⟨hg.trans hg2, false, rfl, ?_⟩, fun hn => ?_⟩
      · have hb' : b = false := by simpa using hn
        subst hb'
        simp only [Bool.false_eq_true, false_iff]
        exact diff fun e => by simp [e] at hb
      · have hb' : b = true := by simpa using hn
        rw [wrap_id (by omega) (by omega)]
        exact ⟨[], Sub.nil _, ⟨i + 1, by simp, rfl, by omega, hg.trans hg2, next (hb.1 hb')⟩, by omega⟩
    · have : i = es.length := by omega
      subst this
      exact ⟨hg, true, rfl, by simp; rw [List.take_length] at heq; rw [heq, hl, List.take_length]⟩

theorem eqValueSS (es fs : List (List Val)) (m : World) (v u : Value) (F G : List Nat) (h : CellF m (.sl es.length (es.flatMap vrow)) v F) (k : CellF m (.sl fs.length (fs.flatMap vrow)) u G) :
   FCalls Try.prog 49 #[v, u] m fun r m' => Grow m m' ∧ ∃ b, r = .bool b ∧ (b = true ↔ es = fs) := by
  obtain ⟨a, cap, rfl, hcap, hmax, _⟩ := h.slice
  obtain ⟨a', cap', rfl, hcap', hmax', _⟩ := k.slice
  have hmax1 : cap ≤ 9223372036854775807 := hmax
  refine fcalls_of_vc (args := [_, _]) follows_mixed Try.func49 rfl (by kernel_rfl) (by simp [Try.f49]) ?_
  simp only [Try.f49, vcs, tbl, List.map, reduceIte, Nat.reduceLT, Nat.reduceLeDiff, Nat.reduceEqDiff, Nat.reduceAdd, Nat.reduceMul, Nat.reduceSub, true_and, and_true, decide_eq_true_eq, decide_eq_false_iff_not, List.cons_append, List.nil_append, Bool.false_eq_true, Array.empty_append, Array.append_empty, List.length_cons, List.length_nil, List.getElem?_cons_succ, List.getElem?_cons_zero, Option.some.injEq, Int.toNat_natCast, valsOf_map, List.toList_toArray, List.flatMap_cons, List.flatMap_nil, List.append_nil, List.take_succ_cons, List.take_zero, List.drop_zero, List.drop_succ_cons, Option.bind_some]
  refine ⟨fun h => ⟨Grow.refl _, false, rfl, by simp; intro e; subst e; simp at h⟩, fun hl => ?_⟩
  have hl : es.length = fs.length := by simp at hl; omega
  refine vcLoop.intro (fun f L m1 => ∃ (k : Nat), f 5 = .c (.v (.int .i64 k)) ∧ L = [] ∧ k ≤ es.length ∧ Grow m m1 ∧ es.take k = fs.take k)
    (fun f _ _ => (es.length - ixS (f 5)).toNat) ⟨[], Sub.nil _, 0, ?_⟩ ?_
  · simp only [vcs, tbl, List.map, reduceIte, Nat.reduceLT, Nat.reduceLeDiff, Nat.reduceEqDiff, Nat.reduceAdd, Nat.reduceMul, Nat.reduceSub, true_and, and_true, decide_eq_true_eq, decide_eq_false_iff_not, List.cons_append, List.nil_append, Bool.false_eq_true, Array.empty_append, Array.append_empty, List.length_cons, List.length_nil, List.getElem?_cons_succ, List.getElem?_cons_zero, Option.some.injEq, Int.toNat_natCast, valsOf_map, List.toList_toArray, List.flatMap_cons, List.flatMap_nil, List.append_nil, List.take_succ_cons, List.take_zero, List.drop_zero, List.drop_succ_cons, Option.bind_some]
    first | exact ⟨rfl, by omega, Grow.refl _, by simp⟩ | exact ⟨rfl, by omega, Grow.refl _⟩
  · rintro g L1 m1 ⟨i, h5, rfl, hi, hg, heq⟩
    simp only [vcs, tbl, List.map, reduceIte, Nat.reduceLT, Nat.reduceLeDiff, Nat.reduceEqDiff, Nat.reduceAdd, Nat.reduceMul, Nat.reduceSub, true_and, and_true, decide_eq_true_eq, decide_eq_false_iff_not, List.cons_append, List.nil_append, Bool.false_eq_true, Array.empty_append, Array.append_empty, List.length_cons, List.length_nil, List.getElem?_cons_succ, List.getElem?_cons_zero, Option.some.injEq, Int.toNat_natCast, valsOf_map, List.toList_toArray, List.flatMap_cons, List.flatMap_nil, List.append_nil, List.take_succ_cons, List.take_zero, List.drop_zero, List.drop_succ_cons, Option.bind_some] at h5
    simp only [vcs, tbl, List.map, reduceIte, Nat.reduceLT, Nat.reduceLeDiff, Nat.reduceEqDiff, Nat.reduceAdd, Nat.reduceMul, Nat.reduceSub, true_and, and_true, decide_eq_true_eq, decide_eq_false_iff_not, List.cons_append, List.nil_append, Bool.false_eq_true, Array.empty_append, Array.append_empty, List.length_cons, List.length_nil, List.getElem?_cons_succ, List.getElem?_cons_zero, Option.some.injEq, Int.toNat_natCast, valsOf_map, List.toList_toArray, List.flatMap_cons, List.flatMap_nil, List.append_nil, List.take_succ_cons, List.take_zero, List.drop_zero, List.drop_succ_cons, Option.bind_some, h5]
    refine ⟨fun hlt => ?_, fun hge => ?_⟩
    · have hlt : i < es.length := by omega
      have hlt' : i < fs.length := by omega
      obtain ⟨ada, vsa, Fka, haa, hlena, hcella, hva, _⟩ := h.elem vrow_len (by decide) (List.getElem?_eq_getElem hlt)
      obtain ⟨adb, vsb, Fkb, hab, hlenb, hcellb, hvb, _⟩ := k.elem vrow_len (by decide) (List.getElem?_eq_getElem hlt')
      obtain ⟨ua, hua⟩ : ∃ u, vsa[0]? = some u := ⟨vsa[0]'(by omega), List.getElem?_eq_getElem _⟩
      have hcua := hg.cell (hcella 0 ua hua)
      rw [add0] at hcua
      have hvua := (ValsF.one hva hua).grow hg
      obtain ⟨ub, hub⟩ : ∃ u, vsb[0]? = some u := ⟨vsb[0]'(by omega), List.getElem?_eq_getElem _⟩
      have hcub := hg.cell (hcellb 0 ub hub)
      rw [add0] at hcub
      have hvub := (ValsF.one hvb hub).grow hg
      refine vcDrawn.intro (.take 0 (.take 1 (.take 2 (.take 3 (.take 4 (.take 5 (.take 6 (.take 7 (.br 8 (.take 9 .done) .nobr))))))))) (by kernel_rfl) ?_
      simp only [vcs, tbl, List.map, reduceIte, Nat.reduceLT, Nat.reduceLeDiff, Nat.reduceEqDiff, Nat.reduceAdd, Nat.reduceMul, Nat.reduceSub, true_and, and_true, decide_eq_true_eq, decide_eq_false_iff_not, List.cons_append, List.nil_append, Bool.false_eq_true, Array.empty_append, Array.append_empty, List.length_cons, List.length_nil, List.getElem?_cons_succ, List.getElem?_cons_zero, Option.some.injEq, Int.toNat_natCast, valsOf_map, List.toList_toArray, List.flatMap_cons, List.flatMap_nil, List.append_nil, List.take_succ_cons, List.take_zero, List.drop_zero, List.drop_succ_cons, Option.bind_some, h5]
      have next : es[i] = fs[i] → es.take (i + 1) = fs.take (i + 1) := fun e => by
        rw [List.take_add_one, List.take_add_one, heq, List.getElem?_eq_getElem hlt, List.getElem?_eq_getElem hlt', e]
      have diff : es[i] ≠ fs[i] → es ≠ fs := fun e he => e (by subst he; rfl)
      refine ⟨by omega, by omega, ada, haa, ua, hcua, ?_⟩
      simp only [vcs, tbl, List.map, reduceIte, Nat.reduceLT, Nat.reduceLeDiff, Nat.reduceEqDiff, Nat.reduceAdd, Nat.reduceMul, Nat.reduceSub, true_and, and_true, decide_eq_true_eq, decide_eq_false_iff_not, List.cons_append, List.nil_append, Bool.false_eq_true, Array.empty_append, Array.append_empty, List.length_cons, List.length_nil, List.getElem?_cons_succ, List.getElem?_cons_zero, Option.some.injEq, Int.toNat_natCast, valsOf_map, List.toList_toArray, List.flatMap_cons, List.flatMap_nil, List.append_nil, List.take_succ_cons, List.take_zero, List.drop_zero, List.drop_succ_cons, Option.bind_some, h5]
      refine ⟨by omega, by omega, adb, hab, ub, hcub, ?_⟩
      simp only [vcs, tbl, List.map, reduceIte, Nat.reduceLT, Nat.reduceLeDiff, Nat.reduceEqDiff, Nat.reduceAdd, Nat.reduceMul, Nat.reduceSub, true_and, and_true, decide_eq_true_eq, decide_eq_false_iff_not, List.cons_append, List.nil_append, Bool.false_eq_true, Array.empty_append, Array.append_empty, List.length_cons, List.length_nil, List.getElem?_cons_succ, List.getElem?_cons_zero, Option.some.injEq, Int.toNat_natCast, valsOf_map, List.toList_toArray, List.flatMap_cons, List.flatMap_nil, List.append_nil, List.take_succ_cons, List.take_zero, List.drop_zero, List.drop_succ_cons, Option.bind_some, h5]
      refine (eqValueS _ _ _ _ _ _ _ hvua hvub).mono ?_
      rintro r m2 ⟨hg2, b, rfl, hb⟩
      refine ⟨hg2, ?_⟩
      simp only [vcs, tbl, List.map, reduceIte, Nat.reduceLT, Nat.reduceLeDiff, Nat.reduceEqDiff, Nat.reduceAdd, Nat.reduceMul, Nat.reduceSub, true_and, and_true, decide_eq_true_eq, decide_eq_false_iff_not, List.cons_append, List.nil_append, Bool.false_eq_true, Array.empty_append, Array.append_empty, List.length_cons, List.length_nil, List.getElem?_cons_succ, List.getElem?_cons_zero, Option.some.injEq, Int.toNat_natCast, valsOf_map, List.toList_toArray, List.flatMap_cons, List.flatMap_nil, List.append_nil, List.take_succ_cons, List.take_zero, List.drop_zero, List.drop_succ_cons, Option.bind_some, h5]
      refine ⟨fun hn => ⟨hg.trans hg2, false, rfl, ?_⟩, fun hn => ?_⟩
      · have hb' : b = false := by simpa using hn
        subst hb'
        simp only [Bool.false_eq_true, false_iff]
        exact diff fun e => by simp [e] at hb
      · have hb' : b = true := by simpa using hn
        rw [wrap_id (by omega) (by omega)]
        exact ⟨[], Sub.nil _, ⟨i + 1, by simp, rfl, by omega, hg.trans hg2, next (hb.1 hb')⟩, by omega⟩
    · have : i = es.length := by omega
      subst this
      exact ⟨hg, true, rfl, by simp; rw [List.take_length] at heq; rw [heq, hl, List.take_length]⟩

end Go.Proofs.Ytklligemdfnimaa
set_option linter.unusedVariables false
set_option linter.unusedSimpArgs false
set_option maxRecDepth 4000
namespace Go.Proofs.Ytklligemdfnimaa
open Go Go.Vc
theorem spec_l5SameRow (es fs : List Val) (m : World) (v u : Value) (F G : List Nat) (h : CellF m (.sl es.length (es.flatMap Val.row)) v F) (k : CellF m (.sl fs.length (fs.flatMap Val.row)) u G) :
   FCalls Try.prog 114 #[v, u] m fun r m' => Grow m m' ∧ ∃ b, r = .bool b ∧ (b = true ↔ es = fs) := by
  obtain ⟨a, cap, rfl, hcap, hmax, _⟩ := h.slice
  obtain ⟨a', cap', rfl, hcap', hmax', _⟩ := k.slice
  have hmax1 : cap ≤ 9223372036854775807 := hmax
  refine fcalls_of_vc (args := [_, _]) follows_mixed Try.func114 rfl (by kernel_rfl) (by simp [Try.f114]) ?_
  simp only [Try.f114, vcs, tbl, List.map, reduceIte, Nat.reduceLT, Nat.reduceLeDiff, Nat.reduceEqDiff, Nat.reduceAdd, Nat.reduceMul, Nat.reduceSub, true_and, and_true, decide_eq_true_eq, decide_eq_false_iff_not, List.cons_append, List.nil_append, Bool.false_eq_true, Array.empty_append, Array.append_empty, List.length_cons, List.length_nil, List.getElem?_cons_succ, List.getElem?_cons_zero, Option.some.injEq, Int.toNat_natCast, valsOf_map, List.toList_toArray, List.flatMap_cons, List.flatMap_nil, List.append_nil, List.take_succ_cons, List.take_zero, List.drop_zero, List.drop_succ_cons, Option.bind_some]
  refine ⟨fun h => ⟨Grow.refl _, false, rfl, by simp; intro e; subst e; simp at h⟩, fun hl => ?_⟩
  have hl : es.length = fs.length := by simp at hl; omega
  refine vcLoop.intro (fun f L m1 => ∃ (k : Nat), f 5 = .c (.v (.int .i64 k)) ∧ L = [] ∧ k ≤ es.length ∧ Grow m m1 ∧ es.take k = fs.take k)
    (fun f _ _ => (es.length - ixS (f 5)).toNat) ⟨[], Sub.nil _, 0, ?_⟩ ?_
  · simp only [vcs, tbl, List.map, reduceIte, Nat.reduceLT, Nat.reduceLeDiff, Nat.reduceEqDiff, Nat.reduceAdd, Nat.reduceMul, Nat.reduceSub, true_and, and_true, decide_eq_true_eq, decide_eq_false_iff_not, List.cons_append, List.nil_append, Bool.false_eq_true, Array.empty_append, Array.append_empty, List.length_cons, List.length_nil, List.getElem?_cons_succ, List.getElem?_cons_zero, Option.some.injEq, Int.toNat_natCast, valsOf_map, List.toList_toArray, List.flatMap_cons, List.flatMap_nil, List.append_nil, List.take_succ_cons, List.take_zero, List.drop_zero, List.drop_succ_cons, Option.bind_some]
    first | exact ⟨rfl, by omega, Grow.refl _, by simp⟩ | exact ⟨rfl, by omega, Grow.refl _⟩
  · rintro g L1 m1 ⟨i, h5, rfl, hi, hg, heq⟩
    simp only [vcs, tbl, List.map, reduceIte, Nat.reduceLT, Nat.reduceLeDiff, Nat.reduceEqDiff, Nat.reduceAdd, Nat.reduceMul, Nat.reduceSub, true_and, and_true, decide_eq_true_eq, decide_eq_false_iff_not, List.cons_append, List.nil_append, Bool.false_eq_true, Array.empty_append, Array.append_empty, List.length_cons, List.length_nil, List.getElem?_cons_succ, List.getElem?_cons_zero, Option.some.injEq, Int.toNat_natCast, valsOf_map, List.toList_toArray, List.flatMap_cons, List.flatMap_nil, List.append_nil, List.take_succ_cons, List.take_zero, List.drop_zero, List.drop_succ_cons, Option.bind_some] at h5
    simp only [vcs, tbl, List.map, reduceIte, Nat.reduceLT, Nat.reduceLeDiff, Nat.reduceEqDiff, Nat.reduceAdd, Nat.reduceMul, Nat.reduceSub, true_and, and_true, decide_eq_true_eq, decide_eq_false_iff_not, List.cons_append, List.nil_append, Bool.false_eq_true, Array.empty_append, Array.append_empty, List.length_cons, List.length_nil, List.getElem?_cons_succ, List.getElem?_cons_zero, Option.some.injEq, Int.toNat_natCast, valsOf_map, List.toList_toArray, List.flatMap_cons, List.flatMap_nil, List.append_nil, List.take_succ_cons, List.take_zero, List.drop_zero, List.drop_succ_cons, Option.bind_some, h5]
    refine ⟨fun hlt => ?_, fun hge => ?_⟩
    · have hlt : i < es.length := by omega
      have hlt' : i < fs.length := by omega
      obtain ⟨ada, vsa, Fka, haa, hlena, hcella, hva, _⟩ := h.elem Val.row_len (by decide) (List.getElem?_eq_getElem hlt)
      obtain ⟨adb, vsb, Fkb, hab, hlenb, hcellb, hvb, _⟩ := k.elem Val.row_len (by decide) (List.getElem?_eq_getElem hlt')
      obtain ⟨rfl, _, _⟩ := Val.vals hva
      obtain ⟨rfl, _, _⟩ := Val.vals hvb
      refine vcDrawn.intro (.take 0 (.take 1 (.take 2 (.take 3 (.take 4 (.take 5 (.take 6 (.take 7 (.take 8 .done))))))))) (by kernel_rfl) ?_
      simp only [vcs, tbl, List.map, reduceIte, Nat.reduceLT, Nat.reduceLeDiff, Nat.reduceEqDiff, Nat.reduceAdd, Nat.reduceMul, Nat.reduceSub, true_and, and_true, decide_eq_true_eq, decide_eq_false_iff_not, List.cons_append, List.nil_append, Bool.false_eq_true, Array.empty_append, Array.append_empty, List.length_cons, List.length_nil, List.getElem?_cons_succ, List.getElem?_cons_zero, Option.some.injEq, Int.toNat_natCast, valsOf_map, List.toList_toArray, List.flatMap_cons, List.flatMap_nil, List.append_nil, List.take_succ_cons, List.take_zero, List.drop_zero, List.drop_succ_cons, Option.bind_some, h5]
      have next : es[i] = fs[i] → es.take (i + 1) = fs.take (i + 1) := fun e => by
        rw [List.take_add_one, List.take_add_one, heq, List.getElem?_eq_getElem hlt, List.getElem?_eq_getElem hlt', e]
      have diff : es[i] ≠ fs[i] → es ≠ fs := fun e he => e (by subst he; rfl)
      refine ⟨by omega, by omega, ada, haa, _, hlena, fun j v hj => hg.cell (by simpa using hcella j v hj), ?_⟩
      simp only [vcs, tbl, List.map, reduceIte, Nat.reduceLT, Nat.reduceLeDiff, Nat.reduceEqDiff, Nat.reduceAdd, Nat.reduceMul, Nat.reduceSub, true_and, and_true, decide_eq_true_eq, decide_eq_false_iff_not, List.cons_append, List.nil_append, Bool.false_eq_true, Array.empty_append, Array.append_empty, List.length_cons, List.length_nil, List.getElem?_cons_succ, List.getElem?_cons_zero, Option.some.injEq, Int.toNat_natCast, valsOf_map, List.toList_toArray, List.flatMap_cons, List.flatMap_nil, List.append_nil, List.take_succ_cons, List.take_zero, List.drop_zero, List.drop_succ_cons, Option.bind_some, h5]
      refine ⟨by omega, by omega, adb, hab, _, hlenb, fun j v hj => hg.cell (by simpa using hcellb j v hj), ?_⟩
      simp only [vcs, tbl, List.map, reduceIte, Nat.reduceLT, Nat.reduceLeDiff, Nat.reduceEqDiff, Nat.reduceAdd, Nat.reduceMul, Nat.reduceSub, true_and, and_true, decide_eq_true_eq, decide_eq_false_iff_not, List.cons_append, List.nil_append, Bool.false_eq_true, Array.empty_append, Array.append_empty, List.length_cons, List.length_nil, List.getElem?_cons_succ, List.getElem?_cons_zero, Option.some.injEq, Int.toNat_natCast, valsOf_map, List.toList_toArray, List.flatMap_cons, List.flatMap_nil, List.append_nil, List.take_succ_cons, List.take_zero, List.drop_zero, List.drop_succ_cons, Option.bind_some, h5]
      rw [pure_neagg (by kernel_rfl) (eq40 _ _)]
      simp only [vcs, tbl, List.map, reduceIte, Nat.reduceLT, Nat.reduceLeDiff, Nat.reduceEqDiff, Nat.reduceAdd, Nat.reduceMul, Nat.reduceSub, true_and, and_true, decide_eq_true_eq, decide_eq_false_iff_not, List.cons_append, List.nil_append, Bool.false_eq_true, Array.empty_append, Array.append_empty, List.length_cons, List.length_nil, List.getElem?_cons_succ, List.getElem?_cons_zero, Option.some.injEq, Int.toNat_natCast, valsOf_map, List.toList_toArray, List.flatMap_cons, List.flatMap_nil, List.append_nil, List.take_succ_cons, List.take_zero, List.drop_zero, List.drop_succ_cons, Option.bind_some, h5]
      refine ⟨fun hn => ⟨hg, false, rfl, ?_⟩, fun hn => ?_⟩
      · simp only [Bool.false_eq_true, false_iff]
        exact diff fun e => by simp [e] at hn
      · rw [wrap_id (by omega) (by omega)]
        exact ⟨[], Sub.nil _, ⟨i + 1, by simp, rfl, by omega, hg, next (by simpa using hn)⟩, by omega⟩
    · have : i = es.length := by omega
      subst this
      exact ⟨hg, true, rfl, by simp; rw [List.take_length] at heq; rw [heq, hl, List.take_length]⟩

theorem spec_SameRows (es fs : List (List Val)) (m : World) (v u : Value) (F G : List Nat) (h : CellF m (.sl es.length (es.flatMap vrow)) v F) (k : CellF m (.sl fs.length (fs.flatMap vrow)) u G) :
   FCalls Try.prog 44 #[v, u] m fun r m' => Grow m m' ∧ ∃ b, r = .bool b ∧ (b = true ↔ es = fs) := by
  obtain ⟨a, cap, rfl, hcap, hmax, _⟩ := h.slice
  obtain ⟨a', cap', rfl, hcap', hmax', _⟩ := k.slice
  have hmax1 : cap ≤ 9223372036854775807 := hmax
  refine fcalls_of_vc (args := [_, _]) follows_mixed Try.func44 rfl (by kernel_rfl) (by simp [Try.f44]) ?_
  simp only [Try.f44, vcs, tbl, List.map, reduceIte, Nat.reduceLT, Nat.reduceLeDiff, Nat.reduceEqDiff, Nat.reduceAdd, Nat.reduceMul, Nat.reduceSub, true_and, and_true, decide_eq_true_eq, decide_eq_false_iff_not, List.cons_append, List.nil_append, Bool.false_eq_true, Array.empty_append, Array.append_empty, List.length_cons, List.length_nil, List.getElem?_cons_succ, List.getElem?_cons_zero, Option.some.injEq, Int.toNat_natCast, valsOf_map, List.toList_toArray, List.flatMap_cons, List.flatMap_nil, List.append_nil, List.take_succ_cons, List.take_zero, List.drop_zero, List.drop_succ_cons, Option.bind_some]
  refine ⟨fun h => ⟨Grow.refl _, false, rfl, by simp; intro e; subst e; simp at h⟩, fun hl => ?_⟩
  have hl : es.length = fs.length := by simp at hl; omega
  refine vcLoop.intro (fun f L m1 => ∃ (k : Nat), f 5 = .c (.v (.int .i64 k)) ∧ L = [] ∧ k ≤ es.length ∧ Grow m m1 ∧ es.take k = fs.take k)
    (fun f _ _ => (es.length - ixS (f 5)).toNat) ⟨[], Sub.nil _, 0, ?_⟩ ?_
  · simp only [vcs, tbl, List.map, reduceIte, Nat.reduceLT, Nat.reduceLeDiff, Nat.reduceEqDiff, Nat.reduceAdd, Nat.reduceMul, Nat.reduceSub, true_and, and_true, decide_eq_true_eq, decide_eq_false_iff_not, List.cons_append, List.nil_append, Bool.false_eq_true, Array.empty_append, Array.append_empty, List.length_cons, List.length_nil, List.getElem?_cons_succ, List.getElem?_cons_zero, Option.some.injEq, Int.toNat_natCast, valsOf_map, List.toList_toArray, List.flatMap_cons, List.flatMap_nil, List.append_nil, List.take_succ_cons, List.take_zero, List.drop_zero, List.drop_succ_cons, Option.bind_some]
    first | exact ⟨rfl, by omega, Grow.refl _, by simp⟩ | exact ⟨rfl, by omega, Grow.refl _⟩
  · rintro g L1 m1 ⟨i, h5, rfl, hi, hg, heq⟩
    simp only [vcs, tbl, List.map, reduceIte, Nat.reduceLT, Nat.reduceLeDiff, Nat.reduceEqDiff, Nat.reduceAdd, Nat.reduceMul, Nat.reduceSub, true_and, and_true, decide_eq_true_eq, decide_eq_false_iff_not, List.cons_append, List.nil_append, Bool.false_eq_true, Array.empty_append, Array.append_empty, List.length_cons, List.length_nil, List.getElem?_cons_succ, List.getElem?_cons_zero, Option.some.injEq, Int.toNat_natCast, valsOf_map, List.toList_toArray, List.flatMap_cons, List.flatMap_nil, List.append_nil, List.take_succ_cons, List.take_zero, List.drop_zero, List.drop_succ_cons, Option.bind_some] at h5
    simp only [vcs, tbl, List.map, reduceIte, Nat.reduceLT, Nat.reduceLeDiff, Nat.reduceEqDiff, Nat.reduceAdd, Nat.reduceMul, Nat.reduceSub, true_and, and_true, decide_eq_true_eq, decide_eq_false_iff_not, List.cons_append, List.nil_append, Bool.false_eq_true, Array.empty_append, Array.append_empty, List.length_cons, List.length_nil, List.getElem?_cons_succ, List.getElem?_cons_zero, Option.some.injEq, Int.toNat_natCast, valsOf_map, List.toList_toArray, List.flatMap_cons, List.flatMap_nil, List.append_nil, List.take_succ_cons, List.take_zero, List.drop_zero, List.drop_succ_cons, Option.bind_some, h5]
    refine ⟨fun hlt => ?_, fun hge => ?_⟩
    · have hlt : i < es.length := by omega
      have hlt' : i < fs.length := by omega
      obtain ⟨ada, vsa, Fka, haa, hlena, hcella, hva, _⟩ := h.elem vrow_len (by decide) (List.getElem?_eq_getElem hlt)
      obtain ⟨adb, vsb, Fkb, hab, hlenb, hcellb, hvb, _⟩ := k.elem vrow_len (by decide) (List.getElem?_eq_getElem hlt')
      obtain ⟨ua, hua⟩ : ∃ u, vsa[0]? = some u := ⟨vsa[0]'(by omega), List.getElem?_eq_getElem _⟩
      have hcua := hg.cell (hcella 0 ua hua)
      rw [add0] at hcua
      have hvua := (ValsF.one hva hua).grow hg
      obtain ⟨ub, hub⟩ : ∃ u, vsb[0]? = some u := ⟨vsb[0]'(by omega), List.getElem?_eq_getElem _⟩
      have hcub := hg.cell (hcellb 0 ub hub)
      rw [add0] at hcub
      have hvub := (ValsF.one hvb hub).grow hg
      refine vcDrawn.intro (.take 0 (.take 1 (.take 2 (.take 3 (.take 4 (.take 5 (.take 6 (.take 7 (.br 8 (.take 9 .done) .nobr))))))))) (by kernel_rfl) ?_
      simp only [vcs, tbl, List.map, reduceIte, Nat.reduceLT, Nat.reduceLeDiff, Nat.reduceEqDiff, Nat.reduceAdd, Nat.reduceMul, Nat.reduceSub, true_and, and_true, decide_eq_true_eq, decide_eq_false_iff_not, List.cons_append, List.nil_append, Bool.false_eq_true, Array.empty_append, Array.append_empty, List.length_cons, List.length_nil, List.getElem?_cons_succ, List.getElem?_cons_zero, Option.some.injEq, Int.toNat_natCast, valsOf_map, List.toList_toArray, List.flatMap_cons, List.flatMap_nil, List.append_nil, List.take_succ_cons, List.take_zero, List.drop_zero, List.drop_succ_cons, Option.bind_some, h5]
      have next : es[i] = fs[i] → es.take (i + 1) = fs.take (i + 1) := fun e => by
        rw [List.take_add_one, List.take_add_one, heq, List.getElem?_eq_getElem hlt, List.getElem?_eq_getElem hlt', e]
      have diff : es[i] ≠ fs[i] → es ≠ fs := fun e he => e (by subst he; rfl)
      refine ⟨by omega, by omega, ada, haa, ua, hcua, ?_⟩
      simp only [vcs, tbl, List.map, reduceIte, Nat.reduceLT, Nat.reduceLeDiff, Nat.reduceEqDiff, Nat.reduceAdd, Nat.reduceMul, Nat.reduceSub, true_and, and_true, decide_eq_true_eq, decide_eq_false_iff_not, List.cons_append, List.nil_append, Bool.false_eq_true, Array.empty_append, Array.append_empty, List.length_cons, List.length_nil, List.getElem?_cons_succ, List.getElem?_cons_zero, Option.some.injEq, Int.toNat_natCast, valsOf_map, List.toList_toArray, List.flatMap_cons, List.flatMap_nil, List.append_nil, List.take_succ_cons, List.take_zero, List.drop_zero, List.drop_succ_cons, Option.bind_some, h5]
      refine ⟨by omega, by omega, adb, hab, ub, hcub, ?_⟩
      simp only [vcs, tbl, List.map, reduceIte, Nat.reduceLT, Nat.reduceLeDiff, Nat.reduceEqDiff, Nat.reduceAdd, Nat.reduceMul, Nat.reduceSub, true_and, and_true, decide_eq_true_eq, decide_eq_false_iff_not, List.cons_append, List.nil_append, Bool.false_eq_true, Array.empty_append, Array.append_empty, List.length_cons, List.length_nil, List.getElem?_cons_succ, List.getElem?_cons_zero, Option.some.injEq, Int.toNat_natCast, valsOf_map, List.toList_toArray, List.flatMap_cons, List.flatMap_nil, List.append_nil, List.take_succ_cons, List.take_zero, List.drop_zero, List.drop_succ_cons, Option.bind_some, h5]
      refine (spec_l5SameRow _ _ _ _ _ _ _ hvua hvub).mono ?_
      rintro r m2 ⟨hg2, b, rfl, hb⟩
      refine ⟨hg2, ?_⟩
      simp only [vcs, tbl, List.map, reduceIte, Nat.reduceLT, Nat.reduceLeDiff, Nat.reduceEqDiff, Nat.reduceAdd, Nat.reduceMul, Nat.reduceSub, true_and, and_true, decide_eq_true_eq, decide_eq_false_iff_not, List.cons_append, List.nil_append, Bool.false_eq_true, Array.empty_append, Array.append_empty, List.length_cons, List.length_nil, List.getElem?_cons_succ, List.getElem?_cons_zero, Option.some.injEq, Int.toNat_natCast, valsOf_map, List.toList_toArray, List.flatMap_cons, List.flatMap_nil, List.append_nil, List.take_succ_cons, List.take_zero, List.drop_zero, List.drop_succ_cons, Option.bind_some, h5]
      refine ⟨fun hn => ⟨hg.trans hg2, false, rfl, ?_⟩, fun hn => ?_⟩
      · have hb' : b = false := by simpa using hn
        subst hb'
        simp only [Bool.false_eq_true, false_iff]
        exact diff fun e => by simp [e] at hb
      · have hb' : b = true := by simpa using hn
        rw [wrap_id (by omega) (by omega)]
        exact ⟨[], Sub.nil _, ⟨i + 1, by simp, rfl, by omega, hg.trans hg2, next (hb.1 hb')⟩, by omega⟩
    · have : i = es.length := by omega
      subst this
      exact ⟨hg, true, rfl, by simp; rw [List.take_length] at heq; rw [heq, hl, List.take_length]⟩

theorem slices_Equal (es fs : List Val) (m : World) (v u : Value) (F G : List Nat) (h : CellF m (.sl es.length (es.flatMap Val.row)) v F) (k : CellF m (.sl fs.length (fs.flatMap Val.row)) u G) :
   FCalls Try.prog 117 #[v, u] m fun r m' => Grow m m' ∧ ∃ b, r = .bool b ∧ (b = true ↔ es = fs) := by
  obtain ⟨a, cap, rfl, hcap, hmax, _⟩ := h.slice
  obtain ⟨a', cap', rfl, hcap', hmax', _⟩ := k.slice
  have hmax1 : cap ≤ 9223372036854775807 := hmax
  refine fcalls_of_vc (args := [_, _]) follows_mixed Try.func117 rfl (by kernel_rfl) (by simp [Try.f117]) ?_
  simp only [Try.f117, vcs, tbl, List.map, reduceIte, Nat.reduceLT, Nat.reduceLeDiff, Nat.reduceEqDiff, Nat.reduceAdd, Nat.reduceMul, Nat.reduceSub, true_and, and_true, decide_eq_true_eq, decide_eq_false_iff_not, List.cons_append, List.nil_append, Bool.false_eq_true, Array.empty_append, Array.append_empty, List.length_cons, List.length_nil, List.getElem?_cons_succ, List.getElem?_cons_zero, Option.some.injEq, Int.toNat_natCast, valsOf_map, List.toList_toArray, List.flatMap_cons, List.flatMap_nil, List.append_nil, List.take_succ_cons, List.take_zero, List.drop_zero, List.drop_succ_cons, Option.bind_some]
  refine ⟨fun h => ⟨Grow.refl _, false, rfl, by simp; intro e; subst e; simp at h⟩, fun hl => ?_⟩
  have hl : es.length = fs.length := by simp at hl; omega
  refine vcLoop.intro (fun f L m1 => ∃ (k : Nat), f 13 = .c (.v (.int .i64 k)) ∧ L = [] ∧ k ≤ es.length ∧ Grow m m1 ∧ es.take k = fs.take k)
    (fun f _ _ => (es.length - ixS (f 13)).toNat) ⟨[], Sub.nil _, 0, ?_⟩ ?_
  · simp only [vcs, tbl, List.map, reduceIte, Nat.reduceLT, Nat.reduceLeDiff, Nat.reduceEqDiff, Nat.reduceAdd, Nat.reduceMul, Nat.reduceSub, true_and, and_true, decide_eq_true_eq, decide_eq_false_iff_not, List.cons_append, List.nil_append, Bool.false_eq_true, Array.empty_append, Array.append_empty, List.length_cons, List.length_nil, List.getElem?_cons_succ, List.getElem?_cons_zero, Option.some.injEq, Int.toNat_natCast, valsOf_map, List.toList_toArray, List.flatMap_cons, List.flatMap_nil, List.append_nil, List.take_succ_cons, List.take_zero, List.drop_zero, List.drop_succ_cons, Option.bind_some]
    first | exact ⟨rfl, by omega, Grow.refl _, by simp⟩ | exact ⟨rfl, by omega, Grow.refl _⟩
  · rintro g L1 m1 ⟨i, h5, rfl, hi, hg, heq⟩
    simp only [vcs, tbl, List.map, reduceIte, Nat.reduceLT, Nat.reduceLeDiff, Nat.reduceEqDiff, Nat.reduceAdd, Nat.reduceMul, Nat.reduceSub, true_and, and_true, decide_eq_true_eq, decide_eq_false_iff_not, List.cons_append, List.nil_append, Bool.false_eq_true, Array.empty_append, Array.append_empty, List.length_cons, List.length_nil, List.getElem?_cons_succ, List.getElem?_cons_zero, Option.some.injEq, Int.toNat_natCast, valsOf_map, List.toList_toArray, List.flatMap_cons, List.flatMap_nil, List.append_nil, List.take_succ_cons, List.take_zero, List.drop_zero, List.drop_succ_cons, Option.bind_some] at h5
    simp only [vcs, tbl, List.map, reduceIte, Nat.reduceLT, Nat.reduceLeDiff, Nat.reduceEqDiff, Nat.reduceAdd, Nat.reduceMul, Nat.reduceSub, true_and, and_true, decide_eq_true_eq, decide_eq_false_iff_not, List.cons_append, List.nil_append, Bool.false_eq_true, Array.empty_append, Array.append_empty, List.length_cons, List.length_nil, List.getElem?_cons_succ, List.getElem?_cons_zero, Option.some.injEq, Int.toNat_natCast, valsOf_map, List.toList_toArray, List.flatMap_cons, List.flatMap_nil, List.append_nil, List.take_succ_cons, List.take_zero, List.drop_zero, List.drop_succ_cons, Option.bind_some, h5]
    refine ⟨fun hlt => ?_, fun hge => ?_⟩
    · have hlt : i < es.length := by omega
      have hlt' : i < fs.length := by omega
      obtain ⟨ada, vsa, Fka, haa, hlena, hcella, hva, _⟩ := h.elem Val.row_len (by decide) (List.getElem?_eq_getElem hlt)
      obtain ⟨adb, vsb, Fkb, hab, hlenb, hcellb, hvb, _⟩ := k.elem Val.row_len (by decide) (List.getElem?_eq_getElem hlt')
      obtain ⟨rfl, _, _⟩ := Val.vals hva
      obtain ⟨rfl, _, _⟩ := Val.vals hvb
      refine vcDrawn.intro (.take 0 (.take 1 (.take 2 (.take 3 (.take 4 (.take 5 (.take 6 (.take 7 (.take 8 .done))))))))) (by kernel_rfl) ?_
      simp only [vcs, tbl, List.map, reduceIte, Nat.reduceLT, Nat.reduceLeDiff, Nat.reduceEqDiff, Nat.reduceAdd, Nat.reduceMul, Nat.reduceSub, true_and, and_true, decide_eq_true_eq, decide_eq_false_iff_not, List.cons_append, List.nil_append, Bool.false_eq_true, Array.empty_append, Array.append_empty, List.length_cons, List.length_nil, List.getElem?_cons_succ, List.getElem?_cons_zero, Option.some.injEq, Int.toNat_natCast, valsOf_map, List.toList_toArray, List.flatMap_cons, List.flatMap_nil, List.append_nil, List.take_succ_cons, List.take_zero, List.drop_zero, List.drop_succ_cons, Option.bind_some, h5]
      have next : es[i] = fs[i] → es.take (i + 1) = fs.take (i + 1) := fun e => by
        rw [List.take_add_one, List.take_add_one, heq, List.getElem?_eq_getElem hlt, List.getElem?_eq_getElem hlt', e]
      have diff : es[i] ≠ fs[i] → es ≠ fs := fun e he => e (by subst he; rfl)
      refine ⟨by omega, by omega, ada, haa, _, hlena, fun j v hj => hg.cell (by simpa using hcella j v hj), ?_⟩
      simp only [vcs, tbl, List.map, reduceIte, Nat.reduceLT, Nat.reduceLeDiff, Nat.reduceEqDiff, Nat.reduceAdd, Nat.reduceMul, Nat.reduceSub, true_and, and_true, decide_eq_true_eq, decide_eq_false_iff_not, List.cons_append, List.nil_append, Bool.false_eq_true, Array.empty_append, Array.append_empty, List.length_cons, List.length_nil, List.getElem?_cons_succ, List.getElem?_cons_zero, Option.some.injEq, Int.toNat_natCast, valsOf_map, List.toList_toArray, List.flatMap_cons, List.flatMap_nil, List.append_nil, List.take_succ_cons, List.take_zero, List.drop_zero, List.drop_succ_cons, Option.bind_some, h5]
      refine ⟨by omega, by omega, adb, hab, _, hlenb, fun j v hj => hg.cell (by simpa using hcellb j v hj), ?_⟩
      simp only [vcs, tbl, List.map, reduceIte, Nat.reduceLT, Nat.reduceLeDiff, Nat.reduceEqDiff, Nat.reduceAdd, Nat.reduceMul, Nat.reduceSub, true_and, and_true, decide_eq_true_eq, decide_eq_false_iff_not, List.cons_append, List.nil_append, Bool.false_eq_true, Array.empty_append, Array.append_empty, List.length_cons, List.length_nil, List.getElem?_cons_succ, List.getElem?_cons_zero, Option.some.injEq, Int.toNat_natCast, valsOf_map, List.toList_toArray, List.flatMap_cons, List.flatMap_nil, List.append_nil, List.take_succ_cons, List.take_zero, List.drop_zero, List.drop_succ_cons, Option.bind_some, h5]
      rw [pure_neagg (by kernel_rfl) (eq40 _ _)]
      simp only [vcs, tbl, List.map, reduceIte, Nat.reduceLT, Nat.reduceLeDiff, Nat.reduceEqDiff, Nat.reduceAdd, Nat.reduceMul, Nat.reduceSub, true_and, and_true, decide_eq_true_eq, decide_eq_false_iff_not, List.cons_append, List.nil_append, Bool.false_eq_true, Array.empty_append, Array.append_empty, List.length_cons, List.length_nil, List.getElem?_cons_succ, List.getElem?_cons_zero, Option.some.injEq, Int.toNat_natCast, valsOf_map, List.toList_toArray, List.flatMap_cons, List.flatMap_nil, List.append_nil, List.take_succ_cons, List.take_zero, List.drop_zero, List.drop_succ_cons, Option.bind_some, h5]
      refine ⟨fun hn => ⟨hg, false, rfl, ?_⟩, fun hn => ?_⟩
      · simp only [Bool.false_eq_true, false_iff]
        exact diff fun e => by simp [e] at hn
      · rw [wrap_id (by omega) (by omega)]
        exact ⟨[], Sub.nil _, ⟨i + 1, by simp, rfl, by omega, hg, next (by simpa using hn)⟩, by omega⟩
    · have : i = es.length := by omega
      subst this
      exact ⟨hg, true, rfl, by simp; rw [List.take_length] at heq; rw [heq, hl, List.take_length]⟩

theorem slices_EqualFunc (es fs : List (List Val)) (m : World) (v u : Value) (F G : List Nat) (h : CellF m (.sl es.length (es.flatMap vrow)) v F) (k : CellF m (.sl fs.length (fs.flatMap vrow)) u G) :
   FCalls Try.prog 116 #[v, u, .func (.func 117) #[] #[]] m fun r m' => Grow m m' ∧ ∃ b, r = .bool b ∧ (b = true ↔ es = fs) := by
  obtain ⟨a, cap, rfl, hcap, hmax, _⟩ := h.slice
  obtain ⟨a', cap', rfl, hcap', hmax', _⟩ := k.slice
  have hmax1 : cap ≤ 9223372036854775807 := hmax
  refine fcalls_of_vc (args := [_, _, _]) follows_mixed Try.func116 rfl (by kernel_rfl) (by simp [Try.f116]) ?_
  simp only [Try.f116, vcs, tbl, List.map, reduceIte, Nat.reduceLT, Nat.reduceLeDiff, Nat.reduceEqDiff, Nat.reduceAdd, Nat.reduceMul, Nat.reduceSub, true_and, and_true, decide_eq_true_eq, decide_eq_false_iff_not, List.cons_append, List.nil_append, Bool.false_eq_true, Array.empty_append, Array.append_empty, List.length_cons, List.length_nil, List.getElem?_cons_succ, List.getElem?_cons_zero, Option.some.injEq, Int.toNat_natCast, valsOf_map, List.toList_toArray, List.flatMap_cons, List.flatMap_nil, List.append_nil, List.take_succ_cons, List.take_zero, List.drop_zero, List.drop_succ_cons, Option.bind_some]
  refine ⟨fun h => ⟨Grow.refl _, false, rfl, by simp; intro e; subst e; simp at h⟩, fun hl => ?_⟩
  have hl : es.length = fs.length := by simp at hl; omega
  refine vcLoop.intro (fun f L m1 => ∃ (k : Nat), f 17 = .c (.v (.int .i64 k)) ∧ L = [] ∧ k ≤ es.length ∧ Grow m m1 ∧ es.take k = fs.take k)
    (fun f _ _ => (es.length - ixS (f 17)).toNat) ⟨[], Sub.nil _, 0, ?_⟩ ?_
  · simp only [vcs, tbl, List.map, reduceIte, Nat.reduceLT, Nat.reduceLeDiff, Nat.reduceEqDiff, Nat.reduceAdd, Nat.reduceMul, Nat.reduceSub, true_and, and_true, decide_eq_true_eq, decide_eq_false_iff_not, List.cons_append, List.nil_append, Bool.false_eq_true, Array.empty_append, Array.append_empty, List.length_cons, List.length_nil, List.getElem?_cons_succ, List.getElem?_cons_zero, Option.some.injEq, Int.toNat_natCast, valsOf_map, List.toList_toArray, List.flatMap_cons, List.flatMap_nil, List.append_nil, List.take_succ_cons, List.take_zero, List.drop_zero, List.drop_succ_cons, Option.bind_some]
    first | exact ⟨rfl, by omega, Grow.refl _, by simp⟩ | exact ⟨rfl, by omega, Grow.refl _⟩
  · rintro g L1 m1 ⟨i, h5, rfl, hi, hg, heq⟩
    simp only [vcs, tbl, List.map, reduceIte, Nat.reduceLT, Nat.reduceLeDiff, Nat.reduceEqDiff, Nat.reduceAdd, Nat.reduceMul, Nat.reduceSub, true_and, and_true, decide_eq_true_eq, decide_eq_false_iff_not, List.cons_append, List.nil_append, Bool.false_eq_true, Array.empty_append, Array.append_empty, List.length_cons, List.length_nil, List.getElem?_cons_succ, List.getElem?_cons_zero, Option.some.injEq, Int.toNat_natCast, valsOf_map, List.toList_toArray, List.flatMap_cons, List.flatMap_nil, List.append_nil, List.take_succ_cons, List.take_zero, List.drop_zero, List.drop_succ_cons, Option.bind_some] at h5
    simp only [vcs, tbl, List.map, reduceIte, Nat.reduceLT, Nat.reduceLeDiff, Nat.reduceEqDiff, Nat.reduceAdd, Nat.reduceMul, Nat.reduceSub, true_and, and_true, decide_eq_true_eq, decide_eq_false_iff_not, List.cons_append, List.nil_append, Bool.false_eq_true, Array.empty_append, Array.append_empty, List.length_cons, List.length_nil, List.getElem?_cons_succ, List.getElem?_cons_zero, Option.some.injEq, Int.toNat_natCast, valsOf_map, List.toList_toArray, List.flatMap_cons, List.flatMap_nil, List.append_nil, List.take_succ_cons, List.take_zero, List.drop_zero, List.drop_succ_cons, Option.bind_some, h5]
    refine ⟨fun hlt => ?_, fun hge => ?_⟩
    · have hlt : i < es.length := by omega
      have hlt' : i < fs.length := by omega
      obtain ⟨ada, vsa, Fka, haa, hlena, hcella, hva, _⟩ := h.elem vrow_len (by decide) (List.getElem?_eq_getElem hlt)
      obtain ⟨adb, vsb, Fkb, hab, hlenb, hcellb, hvb, _⟩ := k.elem vrow_len (by decide) (List.getElem?_eq_getElem hlt')
      obtain ⟨ua, hua⟩ : ∃ u, vsa[0]? = some u := ⟨vsa[0]'(by omega), List.getElem?_eq_getElem _⟩
      have hcua := hg.cell (hcella 0 ua hua)
      rw [add0] at hcua
      have hvua := (ValsF.one hva hua).grow hg
      obtain ⟨ub, hub⟩ : ∃ u, vsb[0]? = some u := ⟨vsb[0]'(by omega), List.getElem?_eq_getElem _⟩
      have hcub := hg.cell (hcellb 0 ub hub)
      rw [add0] at hcub
      have hvub := (ValsF.one hvb hub).grow hg
      have next : es[i] = fs[i] → es.take (i + 1) = fs.take (i + 1) := fun e => by
        rw [List.take_add_one, List.take_add_one, heq, List.getElem?_eq_getElem hlt, List.getElem?_eq_getElem hlt', e]
      have diff : es[i] ≠ fs[i] → es ≠ fs := fun e he => e (by subst he; rfl)
      refine ⟨by omega, by omega, ada, haa, ua, hcua, ?_⟩
      simp only [vcs, tbl, List.map, reduceIte, Nat.reduceLT, Nat.reduceLeDiff, Nat.reduceEqDiff, Nat.reduceAdd, Nat.reduceMul, Nat.reduceSub, true_and, and_true, decide_eq_true_eq, decide_eq_false_iff_not, List.cons_append, List.nil_append, Bool.false_eq_true, Array.empty_append, Array.append_empty, List.length_cons, List.length_nil, List.getElem?_cons_succ, List.getElem?_cons_zero, Option.some.injEq, Int.toNat_natCast, valsOf_map, List.toList_toArray, List.flatMap_cons, List.flatMap_nil, List.append_nil, List.take_succ_cons, List.take_zero, List.drop_zero, List.drop_succ_cons, Option.bind_some, h5]
      refine ⟨by omega, by omega, adb, hab, ub, hcub, ?_⟩
      simp only [vcs, tbl, List.map, reduceIte, Nat.reduceLT, Nat.reduceLeDiff, Nat.reduceEqDiff, Nat.reduceAdd, Nat.reduceMul, Nat.reduceSub, true_and, and_true, decide_eq_true_eq, decide_eq_false_iff_not, List.cons_append, List.nil_append, Bool.false_eq_true, Array.empty_append, Array.append_empty, List.length_cons, List.length_nil, List.getElem?_cons_succ, List.getElem?_cons_zero, Option.some.injEq, Int.toNat_natCast, valsOf_map, List.toList_toArray, List.flatMap_cons, List.flatMap_nil, List.append_nil, List.take_succ_cons, List.take_zero, List.drop_zero, List.drop_succ_cons, Option.bind_some, h5]
      refine (slices_Equal _ _ _ _ _ _ _ hvua hvub).mono ?_
      rintro r m2 ⟨hg2, b, rfl, hb⟩
      simp only [vcs, tbl, List.map, reduceIte, Nat.reduceLT, Nat.reduceLeDiff, Nat.reduceEqDiff, Nat.reduceAdd, Nat.reduceMul, Nat.reduceSub, true_and, and_true, decide_eq_true_eq, decide_eq_false_iff_not, List.cons_append, List.nil_append, Bool.false_eq_true, Array.empty_append, Array.append_empty, List.length_cons, List.length_nil, List.getElem?_cons_succ, List.getElem?_cons_zero, Option.some.injEq, Int.toNat_natCast, valsOf_map, List.toList_toArray, List.flatMap_cons, List.flatMap_nil, List.append_nil, List.take_succ_cons, List.take_zero, List.drop_zero, List.drop_succ_cons, Option.bind_some, h5]
      refine ⟨fun hn => ⟨hg.trans hg2, false, rfl, ?_⟩, fun hn => ?_⟩
      · have hb' : b = false := by simpa using hn
        subst hb'
        simp only [Bool.false_eq_true, false_iff]
        exact diff fun e => by simp [e] at hb
      · have hb' : b = true := by simpa using hn
        rw [wrap_id (by omega) (by omega)]
        exact ⟨[], Sub.nil _, ⟨i + 1, by simp, rfl, by omega, hg.trans hg2, next (hb.1 hb')⟩, by omega⟩
    · have : i = es.length := by omega
      subst this
      exact ⟨hg, true, rfl, by simp; rw [List.take_length] at heq; rw [heq, hl, List.take_length]⟩
theorem impl_SameRows (es fs : List (List Val)) (m : World) (v u : Value) (F G : List Nat) (h : CellF m (.sl es.length (es.flatMap vrow)) v F) (k : CellF m (.sl fs.length (fs.flatMap vrow)) u G) :
   FCalls Try.prog 47 #[v, u] m fun r m' => Grow m m' ∧ ∃ b, r = .bool b ∧ (b = true ↔ es = fs) := by
  obtain ⟨a, cap, rfl, _⟩ := h.slice
  obtain ⟨a', cap', rfl, _⟩ := k.slice
  refine fcalls_of_vc (args := [_, _]) follows_mixed Try.func47 rfl (by kernel_rfl) (by simp [Try.f47]) ?_
  simp only [Try.f47, vcs, tbl, List.map, reduceIte, Nat.reduceLT, Nat.reduceLeDiff, Nat.reduceEqDiff, Nat.reduceAdd, Nat.reduceMul, Nat.reduceSub, true_and, and_true, decide_eq_true_eq, decide_eq_false_iff_not, List.cons_append, List.nil_append, Bool.false_eq_true, Array.empty_append, Array.append_empty, List.length_cons, List.length_nil, List.getElem?_cons_succ, List.getElem?_cons_zero, Option.some.injEq, Int.toNat_natCast, valsOf_map, List.toList_toArray, List.flatMap_cons, List.flatMap_nil, List.append_nil, List.take_succ_cons, List.take_zero, List.drop_zero, List.drop_succ_cons, Option.bind_some]
  refine (slices_EqualFunc _ _ _ _ _ _ _ h k).mono ?_
  rintro r m2 ⟨hg2, b, rfl, hb⟩
  simp only [vcs, tbl, List.map, reduceIte, Nat.reduceLT, Nat.reduceLeDiff, Nat.reduceEqDiff, Nat.reduceAdd, Nat.reduceMul, Nat.reduceSub, true_and, and_true, decide_eq_true_eq, decide_eq_false_iff_not, List.cons_append, List.nil_append, Bool.false_eq_true, Array.empty_append, Array.append_empty, List.length_cons, List.length_nil, List.getElem?_cons_succ, List.getElem?_cons_zero, Option.some.injEq, Int.toNat_natCast, valsOf_map, List.toList_toArray, List.flatMap_cons, List.flatMap_nil, List.append_nil, List.take_succ_cons, List.take_zero, List.drop_zero, List.drop_succ_cons, Option.bind_some]
  exact ⟨hg2, b, rfl, hb⟩
theorem Res.ext' (x y : Res) : x = y ↔ x.fk = y.fk ∧ x.ft = y.ft ∧ x.er = y.er ∧ x.rows = y.rows ∧ x.count = y.count := by cases x; cases y; simp
theorem spec_SameResult (x y : Res) (m : World) (vs us : List Value) (F G : List Nat) (h : ValsF m x.row vs F) (k : ValsF m y.row us G) :
   FCalls Try.prog 13 #[.agg vs.toArray, .agg us.toArray] m fun r m' => Grow m m' ∧ ∃ b, r = .bool b ∧ (b = true ↔ x = y) := by
  obtain ⟨v, rfl, h, _⟩ := Res.vals h
  obtain ⟨u, rfl, k, _⟩ := Res.vals k
  rw [Res.ext']
  refine fcalls_of_vc (args := [_, _]) follows_mixed Try.func13 rfl (by kernel_rfl) (by simp [Try.f13]) ?_
  simp only [Try.f13, vcs, tbl, List.map, reduceIte, Nat.reduceLT, Nat.reduceLeDiff, Nat.reduceEqDiff, Nat.reduceAdd, Nat.reduceMul, Nat.reduceSub, true_and, and_true, decide_eq_true_eq, decide_eq_false_iff_not, List.cons_append, List.nil_append, Bool.false_eq_true, Array.empty_append, Array.append_empty, List.length_cons, List.length_nil, List.getElem?_cons_succ, List.getElem?_cons_zero, Option.some.injEq, Int.toNat_natCast, valsOf_map, List.toList_toArray, List.flatMap_cons, List.flatMap_nil, List.append_nil, List.take_succ_cons, List.take_zero, List.drop_zero, List.drop_succ_cons, Option.bind_some]
  rw [pure_eqagg (by kernel_rfl) (eq31 _ _ _ _)]
  simp only [vcs, tbl, List.map, reduceIte, Nat.reduceLT, Nat.reduceLeDiff, Nat.reduceEqDiff, Nat.reduceAdd, Nat.reduceMul, Nat.reduceSub, true_and, and_true, decide_eq_true_eq, decide_eq_false_iff_not, List.cons_append, List.nil_append, Bool.false_eq_true, Array.empty_append, Array.append_empty, List.length_cons, List.length_nil, List.getElem?_cons_succ, List.getElem?_cons_zero, Option.some.injEq, Int.toNat_natCast, valsOf_map, List.toList_toArray, List.flatMap_cons, List.flatMap_nil, List.append_nil, List.take_succ_cons, List.take_zero, List.drop_zero, List.drop_succ_cons, Option.bind_some]
  refine ⟨fun h1 => ?_, fun h1 => ?_⟩
  · simp only [vcs, tbl, List.map, reduceIte, Nat.reduceLT, Nat.reduceLeDiff, Nat.reduceEqDiff, Nat.reduceAdd, Nat.reduceMul, Nat.reduceSub, true_and, and_true, decide_eq_true_eq, decide_eq_false_iff_not, List.cons_append, List.nil_append, Bool.false_eq_true, Array.empty_append, Array.append_empty, List.length_cons, List.length_nil, List.getElem?_cons_succ, List.getElem?_cons_zero, Option.some.injEq, Int.toNat_natCast, valsOf_map, List.toList_toArray, List.flatMap_cons, List.flatMap_nil, List.append_nil, List.take_succ_cons, List.take_zero, List.drop_zero, List.drop_succ_cons, Option.bind_some]
    refine ⟨fun h2 => ?_, fun h2 => ?_⟩
    · simp only [vcs, tbl, List.map, reduceIte, Nat.reduceLT, Nat.reduceLeDiff, Nat.reduceEqDiff, Nat.reduceAdd, Nat.reduceMul, Nat.reduceSub, true_and, and_true, decide_eq_true_eq, decide_eq_false_iff_not, List.cons_append, List.nil_append, Bool.false_eq_true, Array.empty_append, Array.append_empty, List.length_cons, List.length_nil, List.getElem?_cons_succ, List.getElem?_cons_zero, Option.some.injEq, Int.toNat_natCast, valsOf_map, List.toList_toArray, List.flatMap_cons, List.flatMap_nil, List.append_nil, List.take_succ_cons, List.take_zero, List.drop_zero, List.drop_succ_cons, Option.bind_some]
      refine ⟨fun h3 => ?_, fun h3 => ?_⟩
      · simp only [vcs, tbl, List.map, reduceIte, Nat.reduceLT, Nat.reduceLeDiff, Nat.reduceEqDiff, Nat.reduceAdd, Nat.reduceMul, Nat.reduceSub, true_and, and_true, decide_eq_true_eq, decide_eq_false_iff_not, List.cons_append, List.nil_append, Bool.false_eq_true, Array.empty_append, Array.append_empty, List.length_cons, List.length_nil, List.getElem?_cons_succ, List.getElem?_cons_zero, Option.some.injEq, Int.toNat_natCast, valsOf_map, List.toList_toArray, List.flatMap_cons, List.flatMap_nil, List.append_nil, List.take_succ_cons, List.take_zero, List.drop_zero, List.drop_succ_cons, Option.bind_some]
        refine (spec_SameRows _ _ _ _ _ _ _ h k).mono ?_
        rintro r m2 ⟨hg2, b, rfl, hb⟩
        simp only [vcs, tbl, List.map, reduceIte, Nat.reduceLT, Nat.reduceLeDiff, Nat.reduceEqDiff, Nat.reduceAdd, Nat.reduceMul, Nat.reduceSub, true_and, and_true, decide_eq_true_eq, decide_eq_false_iff_not, List.cons_append, List.nil_append, Bool.false_eq_true, Array.empty_append, Array.append_empty, List.length_cons, List.length_nil, List.getElem?_cons_succ, List.getElem?_cons_zero, Option.some.injEq, Int.toNat_natCast, valsOf_map, List.toList_toArray, List.flatMap_cons, List.flatMap_nil, List.append_nil, List.take_succ_cons, List.take_zero, List.drop_zero, List.drop_succ_cons, Option.bind_some]
        exact ⟨hg2, b, rfl, by simp_all⟩
      · simp only [vcs, tbl, List.map, reduceIte, Nat.reduceLT, Nat.reduceLeDiff, Nat.reduceEqDiff, Nat.reduceAdd, Nat.reduceMul, Nat.reduceSub, true_and, and_true, decide_eq_true_eq, decide_eq_false_iff_not, List.cons_append, List.nil_append, Bool.false_eq_true, Array.empty_append, Array.append_empty, List.length_cons, List.length_nil, List.getElem?_cons_succ, List.getElem?_cons_zero, Option.some.injEq, Int.toNat_natCast, valsOf_map, List.toList_toArray, List.flatMap_cons, List.flatMap_nil, List.append_nil, List.take_succ_cons, List.take_zero, List.drop_zero, List.drop_succ_cons, Option.bind_some]
        exact ⟨Grow.refl _, false, rfl, by simp_all⟩
    · simp only [vcs, tbl, List.map, reduceIte, Nat.reduceLT, Nat.reduceLeDiff, Nat.reduceEqDiff, Nat.reduceAdd, Nat.reduceMul, Nat.reduceSub, true_and, and_true, decide_eq_true_eq, decide_eq_false_iff_not, List.cons_append, List.nil_append, Bool.false_eq_true, Array.empty_append, Array.append_empty, List.length_cons, List.length_nil, List.getElem?_cons_succ, List.getElem?_cons_zero, Option.some.injEq, Int.toNat_natCast, valsOf_map, List.toList_toArray, List.flatMap_cons, List.flatMap_nil, List.append_nil, List.take_succ_cons, List.take_zero, List.drop_zero, List.drop_succ_cons, Option.bind_some]
      exact ⟨Grow.refl _, false, rfl, by simp_all⟩
  · simp only [vcs, tbl, List.map, reduceIte, Nat.reduceLT, Nat.reduceLeDiff, Nat.reduceEqDiff, Nat.reduceAdd, Nat.reduceMul, Nat.reduceSub, true_and, and_true, decide_eq_true_eq, decide_eq_false_iff_not, List.cons_append, List.nil_append, Bool.false_eq_true, Array.empty_append, Array.append_empty, List.length_cons, List.length_nil, List.getElem?_cons_succ, List.getElem?_cons_zero, Option.some.injEq, Int.toNat_natCast, valsOf_map, List.toList_toArray, List.flatMap_cons, List.flatMap_nil, List.append_nil, List.take_succ_cons, List.take_zero, List.drop_zero, List.drop_succ_cons, Option.bind_some]
    exact ⟨Grow.refl _, false, rfl, by simp_all⟩
theorem impl_SameResult (x y : Res) (m : World) (vs us : List Value) (F G : List Nat) (h : ValsF m x.row vs F) (k : ValsF m y.row us G) :
   FCalls Try.prog 15 #[.agg vs.toArray, .agg us.toArray] m fun r m' => Grow m m' ∧ ∃ b, r = .bool b ∧ (b = true ↔ x = y) := by
  obtain ⟨v, rfl, h, _⟩ := Res.vals h
  obtain ⟨u, rfl, k, _⟩ := Res.vals k
  rw [Res.ext']
  refine fcalls_of_vc (args := [_, _]) follows_mixed Try.func15 rfl (by kernel_rfl) (by simp [Try.f15]) ?_
  simp only [Try.f15, vcs, tbl, List.map, reduceIte, Nat.reduceLT, Nat.reduceLeDiff, Nat.reduceEqDiff, Nat.reduceAdd, Nat.reduceMul, Nat.reduceSub, true_and, and_true, decide_eq_true_eq, decide_eq_false_iff_not, List.cons_append, List.nil_append, Bool.false_eq_true, Array.empty_append, Array.append_empty, List.length_cons, List.length_nil, List.getElem?_cons_succ, List.getElem?_cons_zero, Option.some.injEq, Int.toNat_natCast, valsOf_map, List.toList_toArray, List.flatMap_cons, List.flatMap_nil, List.append_nil, List.take_succ_cons, List.take_zero, List.drop_zero, List.drop_succ_cons, Option.bind_some]
  rw [pure_eqagg (by kernel_rfl) (eq31 _ _ _ _)]
  simp only [vcs, tbl, List.map, reduceIte, Nat.reduceLT, Nat.reduceLeDiff, Nat.reduceEqDiff, Nat.reduceAdd, Nat.reduceMul, Nat.reduceSub, true_and, and_true, decide_eq_true_eq, decide_eq_false_iff_not, List.cons_append, List.nil_append, Bool.false_eq_true, Array.empty_append, Array.append_empty, List.length_cons, List.length_nil, List.getElem?_cons_succ, List.getElem?_cons_zero, Option.some.injEq, Int.toNat_natCast, valsOf_map, List.toList_toArray, List.flatMap_cons, List.flatMap_nil, List.append_nil, List.take_succ_cons, List.take_zero, List.drop_zero, List.drop_succ_cons, Option.bind_some]
  refine ⟨fun h1 => ?_, fun h1 => ?_⟩
  · simp only [vcs, tbl, List.map, reduceIte, Nat.reduceLT, Nat.reduceLeDiff, Nat.reduceEqDiff, Nat.reduceAdd, Nat.reduceMul, Nat.reduceSub, true_and, and_true, decide_eq_true_eq, decide_eq_false_iff_not, List.cons_append, List.nil_append, Bool.false_eq_true, Array.empty_append, Array.append_empty, List.length_cons, List.length_nil, List.getElem?_cons_succ, List.getElem?_cons_zero, Option.some.injEq, Int.toNat_natCast, valsOf_map, List.toList_toArray, List.flatMap_cons, List.flatMap_nil, List.append_nil, List.take_succ_cons, List.take_zero, List.drop_zero, List.drop_succ_cons, Option.bind_some]
    refine ⟨fun h2 => ?_, fun h2 => ?_⟩
    · simp only [vcs, tbl, List.map, reduceIte, Nat.reduceLT, Nat.reduceLeDiff, Nat.reduceEqDiff, Nat.reduceAdd, Nat.reduceMul, Nat.reduceSub, true_and, and_true, decide_eq_true_eq, decide_eq_false_iff_not, List.cons_append, List.nil_append, Bool.false_eq_true, Array.empty_append, Array.append_empty, List.length_cons, List.length_nil, List.getElem?_cons_succ, List.getElem?_cons_zero, Option.some.injEq, Int.toNat_natCast, valsOf_map, List.toList_toArray, List.flatMap_cons, List.flatMap_nil, List.append_nil, List.take_succ_cons, List.take_zero, List.drop_zero, List.drop_succ_cons, Option.bind_some]
      refine (impl_SameRows _ _ _ _ _ _ _ h k).mono ?_
      rintro r m2 ⟨hg2, b, rfl, hb⟩
      simp only [vcs, tbl, List.map, reduceIte, Nat.reduceLT, Nat.reduceLeDiff, Nat.reduceEqDiff, Nat.reduceAdd, Nat.reduceMul, Nat.reduceSub, true_and, and_true, decide_eq_true_eq, decide_eq_false_iff_not, List.cons_append, List.nil_append, Bool.false_eq_true, Array.empty_append, Array.append_empty, List.length_cons, List.length_nil, List.getElem?_cons_succ, List.getElem?_cons_zero, Option.some.injEq, Int.toNat_natCast, valsOf_map, List.toList_toArray, List.flatMap_cons, List.flatMap_nil, List.append_nil, List.take_succ_cons, List.take_zero, List.drop_zero, List.drop_succ_cons, Option.bind_some]
      refine ⟨fun h3 => ?_, fun h3 => ?_⟩
      · simp only [vcs, tbl, List.map, reduceIte, Nat.reduceLT, Nat.reduceLeDiff, Nat.reduceEqDiff, Nat.reduceAdd, Nat.reduceMul, Nat.reduceSub, true_and, and_true, decide_eq_true_eq, decide_eq_false_iff_not, List.cons_append, List.nil_append, Bool.false_eq_true, Array.empty_append, Array.append_empty, List.length_cons, List.length_nil, List.getElem?_cons_succ, List.getElem?_cons_zero, Option.some.injEq, Int.toNat_natCast, valsOf_map, List.toList_toArray, List.flatMap_cons, List.flatMap_nil, List.append_nil, List.take_succ_cons, List.take_zero, List.drop_zero, List.drop_succ_cons, Option.bind_some]
        exact ⟨hg2, _, rfl, by simp_all⟩
      · simp only [vcs, tbl, List.map, reduceIte, Nat.reduceLT, Nat.reduceLeDiff, Nat.reduceEqDiff, Nat.reduceAdd, Nat.reduceMul, Nat.reduceSub, true_and, and_true, decide_eq_true_eq, decide_eq_false_iff_not, List.cons_append, List.nil_append, Bool.false_eq_true, Array.empty_append, Array.append_empty, List.length_cons, List.length_nil, List.getElem?_cons_succ, List.getElem?_cons_zero, Option.some.injEq, Int.toNat_natCast, valsOf_map, List.toList_toArray, List.flatMap_cons, List.flatMap_nil, List.append_nil, List.take_succ_cons, List.take_zero, List.drop_zero, List.drop_succ_cons, Option.bind_some]
        exact ⟨hg2, _, rfl, by simp_all⟩
    · simp only [vcs, tbl, List.map, reduceIte, Nat.reduceLT, Nat.reduceLeDiff, Nat.reduceEqDiff, Nat.reduceAdd, Nat.reduceMul, Nat.reduceSub, true_and, and_true, decide_eq_true_eq, decide_eq_false_iff_not, List.cons_append, List.nil_append, Bool.false_eq_true, Array.empty_append, Array.append_empty, List.length_cons, List.length_nil, List.getElem?_cons_succ, List.getElem?_cons_zero, Option.some.injEq, Int.toNat_natCast, valsOf_map, List.toList_toArray, List.flatMap_cons, List.flatMap_nil, List.append_nil, List.take_succ_cons, List.take_zero, List.drop_zero, List.drop_succ_cons, Option.bind_some]
      exact ⟨Grow.refl _, false, rfl, by simp_all⟩
  · simp only [vcs, tbl, List.map, reduceIte, Nat.reduceLT, Nat.reduceLeDiff, Nat.reduceEqDiff, Nat.reduceAdd, Nat.reduceMul, Nat.reduceSub, true_and, and_true, decide_eq_true_eq, decide_eq_false_iff_not, List.cons_append, List.nil_append, Bool.false_eq_true, Array.empty_append, Array.append_empty, List.length_cons, List.length_nil, List.getElem?_cons_succ, List.getElem?_cons_zero, Option.some.injEq, Int.toNat_natCast, valsOf_map, List.toList_toArray, List.flatMap_cons, List.flatMap_nil, List.append_nil, List.take_succ_cons, List.take_zero, List.drop_zero, List.drop_succ_cons, Option.bind_some]
    exact ⟨Grow.refl _, false, rfl, by simp_all⟩
theorem eqResult (x y : Res) (m : World) (vs us : List Value) (F G : List Nat) (h : ValsF m x.row vs F) (k : ValsF m y.row us G) :
   FCalls Try.prog 16 #[.agg vs.toArray, .agg us.toArray] m fun r m' => Grow m m' ∧ ∃ b, r = .bool b ∧ (b = true ↔ x = y) := by
  obtain ⟨v, rfl, h, _⟩ := Res.vals h
  obtain ⟨u, rfl, k, _⟩ := Res.vals k
  rw [Res.ext']
  refine fcalls_of_vc (args := [_, _]) follows_mixed Try.func16 rfl (by kernel_rfl) (by simp [Try.f16]) ?_
  simp only [Try.f16, vcs, tbl, List.map, reduceIte, Nat.reduceLT, Nat.reduceLeDiff, Nat.reduceEqDiff, Nat.reduceAdd, Nat.reduceMul, Nat.reduceSub, true_and, and_true, decide_eq_true_eq, decide_eq_false_iff_not, List.cons_append, List.nil_append, Bool.false_eq_true, Array.empty_append, Array.append_empty, List.length_cons, List.length_nil, List.getElem?_cons_succ, List.getElem?_cons_zero, Option.some.injEq, Int.toNat_natCast, valsOf_map, List.toList_toArray, List.flatMap_cons, List.flatMap_nil, List.append_nil, List.take_succ_cons, List.take_zero, List.drop_zero, List.drop_succ_cons, Option.bind_some]
  refine (eqRFault _ _ _ _ _).mono ?_
  rintro r m1 ⟨hg1, b1, rfl, hb1⟩
  simp only [vcs, tbl, List.map, reduceIte, Nat.reduceLT, Nat.reduceLeDiff, Nat.reduceEqDiff, Nat.reduceAdd, Nat.reduceMul, Nat.reduceSub, true_and, and_true, decide_eq_true_eq, decide_eq_false_iff_not, List.cons_append, List.nil_append, Bool.false_eq_true, Array.empty_append, Array.append_empty, List.length_cons, List.length_nil, List.getElem?_cons_succ, List.getElem?_cons_zero, Option.some.injEq, Int.toNat_natCast, valsOf_map, List.toList_toArray, List.flatMap_cons, List.flatMap_nil, List.append_nil, List.take_succ_cons, List.take_zero, List.drop_zero, List.drop_succ_cons, Option.bind_some]
  refine ⟨fun h1 => ⟨hg1, false, rfl, by simp_all⟩, fun h1 => ⟨fun h2 => ⟨hg1, false, rfl, by simp_all⟩, fun h2 => ?_⟩⟩
  refine (eqValueSS _ _ _ _ _ _ _ (h.grow hg1) (k.grow hg1)).mono ?_
  rintro r m2 ⟨hg2, b2, rfl, hb2⟩
  simp only [vcs, tbl, List.map, reduceIte, Nat.reduceLT, Nat.reduceLeDiff, Nat.reduceEqDiff, Nat.reduceAdd, Nat.reduceMul, Nat.reduceSub, true_and, and_true, decide_eq_true_eq, decide_eq_false_iff_not, List.cons_append, List.nil_append, Bool.false_eq_true, Array.empty_append, Array.append_empty, List.length_cons, List.length_nil, List.getElem?_cons_succ, List.getElem?_cons_zero, Option.some.injEq, Int.toNat_natCast, valsOf_map, List.toList_toArray, List.flatMap_cons, List.flatMap_nil, List.append_nil, List.take_succ_cons, List.take_zero, List.drop_zero, List.drop_succ_cons, Option.bind_some]
  refine ⟨fun h3 => ⟨hg1.trans hg2, false, rfl, by simp_all⟩, fun h3 => ⟨fun h4 => ⟨hg1.trans hg2, false, rfl, by simp_all⟩, fun h4 => ⟨hg1.trans hg2, true, rfl, by simp_all⟩⟩⟩

end Go.Proofs.Ytklligemdfnimaa
set_option linter.unusedVariables false
set_option linter.unusedSimpArgs false
set_option maxRecDepth 4000
namespace Go.Proofs.Ytklligemdfnimaa
open Go Go.Vc
theorem szRFault (a : Int) (s : ByteArray) (m : World) (left : Int) (hb : s.size ≤ maxLen) (h0 : 0 ≤ left) (h1 : left ≤ 1048576) :
   FCalls Try.prog 42 #[.agg #[.int .i64 a, .string s], .int .i64 left] m fun r m' => Grow m m' ∧ ∃ k : Int, r = .int .i64 k ∧ k ≤ left ∧ (0 ≤ k → s.size ≤ 1048576) := by
  have hb' : s.size ≤ 9223372036854775807 := hb
  refine fcalls_of_vc (args := [_, _]) follows_mixed Try.func42 rfl (by kernel_rfl) (by simp [Try.f42]) ?_
  simp only [Try.f42, vcs, tbl, List.map, reduceIte, Nat.reduceLT, Nat.reduceLeDiff, Nat.reduceEqDiff, Nat.reduceAdd, Nat.reduceMul, Nat.reduceSub, true_and, and_true, decide_eq_true_eq, decide_eq_false_iff_not, List.cons_append, List.nil_append, Bool.false_eq_true, Array.empty_append, Array.append_empty, List.length_cons, List.length_nil, List.getElem?_cons_succ, List.getElem?_cons_zero, Option.some.injEq, Int.toNat_natCast, valsOf_map, List.toList_toArray, List.flatMap_cons, List.flatMap_nil, List.append_nil, List.take_succ_cons, List.take_zero, List.drop_zero, List.drop_succ_cons, Option.bind_some]
  rw [wrap_id (by omega) (by omega)]
  exact ⟨fun h => ⟨Grow.refl _, -1, rfl, by omega, by omega⟩, fun h => ⟨Grow.refl _, _, rfl, by omega, fun h => by omega⟩⟩
theorem szResult (x : Res) (m : World) (left : Int) (vs : List Value) (F : List Nat) (h : ValsF m x.row vs F) (h0 : 0 ≤ left) (h1 : left ≤ 1048576) :
   FCalls Try.prog 12 #[.agg vs.toArray, .int .i64 left] m fun r m' => Grow m m' ∧ ∃ k : Int, r = .int .i64 k ∧ k ≤ left ∧ (0 ≤ k → x.small) := by
  obtain ⟨v, rfl, h, hb⟩ := Res.vals h
  refine fcalls_of_vc (args := [_, _]) follows_mixed Try.func12 rfl (by kernel_rfl) (by simp [Try.f12]) ?_
  simp only [Try.f12, vcs, tbl, List.map, reduceIte, Nat.reduceLT, Nat.reduceLeDiff, Nat.reduceEqDiff, Nat.reduceAdd, Nat.reduceMul, Nat.reduceSub, true_and, and_true, decide_eq_true_eq, decide_eq_false_iff_not, List.cons_append, List.nil_append, Bool.false_eq_true, Array.empty_append, Array.append_empty, List.length_cons, List.length_nil, List.getElem?_cons_succ, List.getElem?_cons_zero, Option.some.injEq, Int.toNat_natCast, valsOf_map, List.toList_toArray, List.flatMap_cons, List.flatMap_nil, List.append_nil, List.take_succ_cons, List.take_zero, List.drop_zero, List.drop_succ_cons, Option.bind_some]
  refine (szRFault _ _ _ _ hb h0 h1).mono ?_
  rintro r m1 ⟨hg1, k1, rfl, hk1, _⟩
  simp only [vcs, tbl, List.map, reduceIte, Nat.reduceLT, Nat.reduceLeDiff, Nat.reduceEqDiff, Nat.reduceAdd, Nat.reduceMul, Nat.reduceSub, true_and, and_true, decide_eq_true_eq, decide_eq_false_iff_not, List.cons_append, List.nil_append, Bool.false_eq_true, Array.empty_append, Array.append_empty, List.length_cons, List.length_nil, List.getElem?_cons_succ, List.getElem?_cons_zero, Option.some.injEq, Int.toNat_natCast, valsOf_map, List.toList_toArray, List.flatMap_cons, List.flatMap_nil, List.append_nil, List.take_succ_cons, List.take_zero, List.drop_zero, List.drop_succ_cons, Option.bind_some]
  refine ⟨fun h => ⟨hg1, -1, rfl, by omega, by omega⟩, fun hn => ?_⟩
  refine (szValueSS _ _ _ _ _ (h.grow hg1) (by omega) (by omega)).mono ?_
  rintro r m2 ⟨hg2, k2, rfl, hk2, hs⟩
  simp only [vcs, tbl, List.map, reduceIte, Nat.reduceLT, Nat.reduceLeDiff, Nat.reduceEqDiff, Nat.reduceAdd, Nat.reduceMul, Nat.reduceSub, true_and, and_true, decide_eq_true_eq, decide_eq_false_iff_not, List.cons_append, List.nil_append, Bool.false_eq_true, Array.empty_append, Array.append_empty, List.length_cons, List.length_nil, List.getElem?_cons_succ, List.getElem?_cons_zero, Option.some.injEq, Int.toNat_natCast, valsOf_map, List.toList_toArray, List.flatMap_cons, List.flatMap_nil, List.append_nil, List.take_succ_cons, List.take_zero, List.drop_zero, List.drop_succ_cons, Option.bind_some]
  exact ⟨fun h => ⟨hg1.trans hg2, -1, rfl, by omega, by omega⟩, fun hn => ⟨hg1.trans hg2, _, rfl, by omega, fun h => hs h⟩⟩
theorem toRFault (a : Int) (s : ByteArray) (m : World) :
   FCalls Try.prog 45 #[.agg #[.int .i64 a, .string s]] m fun r m' => Grow m m' ∧ r = .agg #[.int .i64 a, .string s] := by
  refine fcalls_of_vc (args := [_]) follows_mixed Try.func45 rfl (by kernel_rfl) (by simp [Try.f45]) ?_
  simp only [Try.f45, vcs, tbl, List.map, reduceIte, Nat.reduceLT, Nat.reduceLeDiff, Nat.reduceEqDiff, Nat.reduceAdd, Nat.reduceMul, Nat.reduceSub, true_and, and_true, decide_eq_true_eq, decide_eq_false_iff_not, List.cons_append, List.nil_append, Bool.false_eq_true, Array.empty_append, Array.append_empty, List.length_cons, List.length_nil, List.getElem?_cons_succ, List.getElem?_cons_zero, Option.some.injEq, Int.toNat_natCast, valsOf_map, List.toList_toArray, List.flatMap_cons, List.flatMap_nil, List.append_nil, List.take_succ_cons, List.take_zero, List.drop_zero, List.drop_succ_cons, Option.bind_some]
  first | exact ⟨Grow.refl _, rfl⟩ | exact Grow.refl _
theorem toResult (x : Res) (m : World) (vs : List Value) (F : List Nat) (h : ValsF m x.row vs F) (hs : x.small) :
   FCalls Try.prog 14 #[.agg vs.toArray] m fun r m' => Grow m m' ∧ ∃ us F', r = .agg us.toArray ∧ ValsF m' x.row us F' ∧ Fresh m F' := by
  obtain ⟨v, rfl, h, hb⟩ := Res.vals h
  refine fcalls_of_vc (args := [_]) follows_mixed Try.func14 rfl (by kernel_rfl) (by simp [Try.f14]) ?_
  simp only [Try.f14, vcs, tbl, List.map, reduceIte, Nat.reduceLT, Nat.reduceLeDiff, Nat.reduceEqDiff, Nat.reduceAdd, Nat.reduceMul, Nat.reduceSub, true_and, and_true, decide_eq_true_eq, decide_eq_false_iff_not, List.cons_append, List.nil_append, Bool.false_eq_true, Array.empty_append, Array.append_empty, List.length_cons, List.length_nil, List.getElem?_cons_succ, List.getElem?_cons_zero, Option.some.injEq, Int.toNat_natCast, valsOf_map, List.toList_toArray, List.flatMap_cons, List.flatMap_nil, List.append_nil, List.take_succ_cons, List.take_zero, List.drop_zero, List.drop_succ_cons, Option.bind_some]
  refine (toRFault _ _ _).mono ?_
  rintro r m1 ⟨hg1, rfl⟩
  simp only [vcs, tbl, List.map, reduceIte, Nat.reduceLT, Nat.reduceLeDiff, Nat.reduceEqDiff, Nat.reduceAdd, Nat.reduceMul, Nat.reduceSub, true_and, and_true, decide_eq_true_eq, decide_eq_false_iff_not, List.cons_append, List.nil_append, Bool.false_eq_true, Array.empty_append, Array.append_empty, List.length_cons, List.length_nil, List.getElem?_cons_succ, List.getElem?_cons_zero, Option.some.injEq, Int.toNat_natCast, valsOf_map, List.toList_toArray, List.flatMap_cons, List.flatMap_nil, List.append_nil, List.take_succ_cons, List.take_zero, List.drop_zero, List.drop_succ_cons, Option.bind_some]
  refine (toValueSS _ _ _ _ (h.grow hg1) hs).mono ?_
  rintro r m2 ⟨hg2, F2, hv2, hf2⟩
  have hv3 := Res.mk_vals hv2 hb
  obtain ⟨a2, cap2, rfl, _⟩ := hv2.slice
  simp only [vcs, tbl, List.map, reduceIte, Nat.reduceLT, Nat.reduceLeDiff, Nat.reduceEqDiff, Nat.reduceAdd, Nat.reduceMul, Nat.reduceSub, true_and, and_true, decide_eq_true_eq, decide_eq_false_iff_not, List.cons_append, List.nil_append, Bool.false_eq_true, Array.empty_append, Array.append_empty, List.length_cons, List.length_nil, List.getElem?_cons_succ, List.getElem?_cons_zero, Option.some.injEq, Int.toNat_natCast, valsOf_map, List.toList_toArray, List.flatMap_cons, List.flatMap_nil, List.append_nil, List.take_succ_cons, List.take_zero, List.drop_zero, List.drop_succ_cons, Option.bind_some]
  refine ⟨hg1.trans hg2, _, F2, rfl, hv3, hf2.grow' hg1⟩
theorem exactSameResult (x y : Res) (m : World) (vs us : List Value) (F G : List Nat) (h : ValsF m x.row vs F) (k : ValsF m y.row us G) :
   FCalls Try.prog 4 #[.agg vs.toArray, .agg us.toArray] m fun r m' => Grow m m' ∧ r = .bool true := by
  obtain ⟨v, rfl, cv, _⟩ := Res.vals h
  obtain ⟨u, rfl, cu, _⟩ := Res.vals k
  obtain ⟨av, capv, rfl, _⟩ := cv.slice
  obtain ⟨au, capu, rfl, _⟩ := cu.slice
  refine fcalls_of_vc (args := [_, _]) follows_mixed Try.func4 rfl (by kernel_rfl) (by simp [Try.f4]) ?_
  simp only [Try.f4, vcs, tbl, List.map, reduceIte, Nat.reduceLT, Nat.reduceLeDiff, Nat.reduceEqDiff, Nat.reduceAdd, Nat.reduceMul, Nat.reduceSub, true_and, and_true, decide_eq_true_eq, decide_eq_false_iff_not, List.cons_append, List.nil_append, Bool.false_eq_true, Array.empty_append, Array.append_empty, List.length_cons, List.length_nil, List.getElem?_cons_succ, List.getElem?_cons_zero, Option.some.injEq, Int.toNat_natCast, valsOf_map, List.toList_toArray, List.flatMap_cons, List.flatMap_nil, List.append_nil, List.take_succ_cons, List.take_zero, List.drop_zero, List.drop_succ_cons, Option.bind_some]
  refine (szResult _ _ _ _ _ h (by omega) (by omega)).mono ?_
  rintro r m1 ⟨g1, k1, rfl, hk1, hsx⟩
  simp only [vcs, tbl, List.map, reduceIte, Nat.reduceLT, Nat.reduceLeDiff, Nat.reduceEqDiff, Nat.reduceAdd, Nat.reduceMul, Nat.reduceSub, true_and, and_true, decide_eq_true_eq, decide_eq_false_iff_not, List.cons_append, List.nil_append, Bool.false_eq_true, Array.empty_append, Array.append_empty, List.length_cons, List.length_nil, List.getElem?_cons_succ, List.getElem?_cons_zero, Option.some.injEq, Int.toNat_natCast, valsOf_map, List.toList_toArray, List.flatMap_cons, List.flatMap_nil, List.append_nil, List.take_succ_cons, List.take_zero, List.drop_zero, List.drop_succ_cons, Option.bind_some]
  refine ⟨fun _ => g1, fun hn1 => ?_⟩
  refine (szResult _ _ _ _ _ (k.grow g1) (by omega) (by omega)).mono ?_
  rintro r m2 ⟨hg2, k2, rfl, hk2, hsy⟩
  have g2 := g1.trans hg2
  simp only [vcs, tbl, List.map, reduceIte, Nat.reduceLT, Nat.reduceLeDiff, Nat.reduceEqDiff, Nat.reduceAdd, Nat.reduceMul, Nat.reduceSub, true_and, and_true, decide_eq_true_eq, decide_eq_false_iff_not, List.cons_append, List.nil_append, Bool.false_eq_true, Array.empty_append, Array.append_empty, List.length_cons, List.length_nil, List.getElem?_cons_succ, List.getElem?_cons_zero, Option.some.injEq, Int.toNat_natCast, valsOf_map, List.toList_toArray, List.flatMap_cons, List.flatMap_nil, List.append_nil, List.take_succ_cons, List.take_zero, List.drop_zero, List.drop_succ_cons, Option.bind_some]
  refine ⟨fun _ => g2, fun hn2 => ?_⟩
  have hsx := hsx (by omega)
  have hsy := hsy (by omega)
  refine vcDrawn.intro (.take 0 (.take 2 (.br 1 (.br 3 (.br 4 (.take 5 .done) .nobr) .nobr) .nobr))) (by kernel_rfl) ?_
  simp only [vcs, tbl, List.map, reduceIte, Nat.reduceLT, Nat.reduceLeDiff, Nat.reduceEqDiff, Nat.reduceAdd, Nat.reduceMul, Nat.reduceSub, true_and, and_true, decide_eq_true_eq, decide_eq_false_iff_not, List.cons_append, List.nil_append, Bool.false_eq_true, Array.empty_append, Array.append_empty, List.length_cons, List.length_nil, List.getElem?_cons_succ, List.getElem?_cons_zero, Option.some.injEq, Int.toNat_natCast, valsOf_map, List.toList_toArray, List.flatMap_cons, List.flatMap_nil, List.append_nil, List.take_succ_cons, List.take_zero, List.drop_zero, List.drop_succ_cons, Option.bind_some]
  refine (toResult _ _ _ _ (h.grow g2) hsx).mono ?_
  rintro r m3 ⟨hg3, us3, F3, rfl, hv3, _⟩
  obtain ⟨v3, rfl, c3, _⟩ := Res.vals hv3
  obtain ⟨a3, cap3, rfl, _⟩ := c3.slice
  have g3 := g2.trans hg3
  refine ⟨hg3, ?_⟩
  simp only [vcs, tbl, List.map, reduceIte, Nat.reduceLT, Nat.reduceLeDiff, Nat.reduceEqDiff, Nat.reduceAdd, Nat.reduceMul, Nat.reduceSub, true_and, and_true, decide_eq_true_eq, decide_eq_false_iff_not, List.cons_append, List.nil_append, Bool.false_eq_true, Array.empty_append, Array.append_empty, List.length_cons, List.length_nil, List.getElem?_cons_succ, List.getElem?_cons_zero, Option.some.injEq, Int.toNat_natCast, valsOf_map, List.toList_toArray, List.flatMap_cons, List.flatMap_nil, List.append_nil, List.take_succ_cons, List.take_zero, List.drop_zero, List.drop_succ_cons, Option.bind_some]
  refine (toResult _ _ _ _ (k.grow g3) hsy).mono ?_
  rintro r m4 ⟨hg4, us4, F4, rfl, hv4, _⟩
  obtain ⟨v4, rfl, c4, _⟩ := Res.vals hv4
  obtain ⟨a4, cap4, rfl, _⟩ := c4.slice
  have g4 := g3.trans hg4
  refine ⟨hg4, ?_⟩
  simp only [vcs, tbl, List.map, reduceIte, Nat.reduceLT, Nat.reduceLeDiff, Nat.reduceEqDiff, Nat.reduceAdd, Nat.reduceMul, Nat.reduceSub, true_and, and_true, decide_eq_true_eq, decide_eq_false_iff_not, List.cons_append, List.nil_append, Bool.false_eq_true, Array.empty_append, Array.append_empty, List.length_cons, List.length_nil, List.getElem?_cons_succ, List.getElem?_cons_zero, Option.some.injEq, Int.toNat_natCast, valsOf_map, List.toList_toArray, List.flatMap_cons, List.flatMap_nil, List.append_nil, List.take_succ_cons, List.take_zero, List.drop_zero, List.drop_succ_cons, Option.bind_some]
  refine (spec_SameResult _ _ _ _ _ _ _ (hv3.grow hg4) hv4).mono ?_
  rintro r m5 ⟨hg5, b, rfl, hb⟩
  have g5 := g4.trans hg5
  refine ⟨hg5, ?_⟩
  simp only [vcs, tbl, List.map, reduceIte, Nat.reduceLT, Nat.reduceLeDiff, Nat.reduceEqDiff, Nat.reduceAdd, Nat.reduceMul, Nat.reduceSub, true_and, and_true, decide_eq_true_eq, decide_eq_false_iff_not, List.cons_append, List.nil_append, Bool.false_eq_true, Array.empty_append, Array.append_empty, List.length_cons, List.length_nil, List.getElem?_cons_succ, List.getElem?_cons_zero, Option.some.injEq, Int.toNat_natCast, valsOf_map, List.toList_toArray, List.flatMap_cons, List.flatMap_nil, List.append_nil, List.take_succ_cons, List.take_zero, List.drop_zero, List.drop_succ_cons, Option.bind_some]
  refine (toResult _ _ _ _ (h.grow g5) hsx).mono ?_
  rintro r m6 ⟨hg6, us6, F6, rfl, hv6, _⟩
  obtain ⟨v6, rfl, c6, _⟩ := Res.vals hv6
  obtain ⟨a6, cap6, rfl, _⟩ := c6.slice
  have g6 := g5.trans hg6
  simp only [vcs, tbl, List.map, reduceIte, Nat.reduceLT, Nat.reduceLeDiff, Nat.reduceEqDiff, Nat.reduceAdd, Nat.reduceMul, Nat.reduceSub, true_and, and_true, decide_eq_true_eq, decide_eq_false_iff_not, List.cons_append, List.nil_append, Bool.false_eq_true, Array.empty_append, Array.append_empty, List.length_cons, List.length_nil, List.getElem?_cons_succ, List.getElem?_cons_zero, Option.some.injEq, Int.toNat_natCast, valsOf_map, List.toList_toArray, List.flatMap_cons, List.flatMap_nil, List.append_nil, List.take_succ_cons, List.take_zero, List.drop_zero, List.drop_succ_cons, Option.bind_some]
  refine (toResult _ _ _ _ (k.grow g6) hsy).mono ?_
  rintro r m7 ⟨hg7, us7, F7, rfl, hv7, _⟩
  obtain ⟨v7, rfl, c7, _⟩ := Res.vals hv7
  obtain ⟨a7, cap7, rfl, _⟩ := c7.slice
  have g7 := g6.trans hg7
  simp only [vcs, tbl, List.map, reduceIte, Nat.reduceLT, Nat.reduceLeDiff, Nat.reduceEqDiff, Nat.reduceAdd, Nat.reduceMul, Nat.reduceSub, true_and, and_true, decide_eq_true_eq, decide_eq_false_iff_not, List.cons_append, List.nil_append, Bool.false_eq_true, Array.empty_append, Array.append_empty, List.length_cons, List.length_nil, List.getElem?_cons_succ, List.getElem?_cons_zero, Option.some.injEq, Int.toNat_natCast, valsOf_map, List.toList_toArray, List.flatMap_cons, List.flatMap_nil, List.append_nil, List.take_succ_cons, List.take_zero, List.drop_zero, List.drop_succ_cons, Option.bind_some]
  refine (impl_SameResult _ _ _ _ _ _ _ (hv6.grow hg7) hv7).mono ?_
  rintro r m8 ⟨hg8, b', rfl, hb'⟩
  have g8 := g7.trans hg8
  have hbb : b = b' := by
    rw [Bool.eq_iff_iff, hb, hb']
  subst hbb
  simp only [vcs, tbl, List.map, reduceIte, Nat.reduceLT, Nat.reduceLeDiff, Nat.reduceEqDiff, Nat.reduceAdd, Nat.reduceMul, Nat.reduceSub, true_and, and_true, decide_eq_true_eq, decide_eq_false_iff_not, List.cons_append, List.nil_append, Bool.false_eq_true, Array.empty_append, Array.append_empty, List.length_cons, List.length_nil, List.getElem?_cons_succ, List.getElem?_cons_zero, Option.some.injEq, Int.toNat_natCast, valsOf_map, List.toList_toArray, List.flatMap_cons, List.flatMap_nil, List.append_nil, List.take_succ_cons, List.take_zero, List.drop_zero, List.drop_succ_cons, Option.bind_some]
  rw [pure_bneq ub4]
  simp only [vcs, tbl, List.map, reduceIte, Nat.reduceLT, Nat.reduceLeDiff, Nat.reduceEqDiff, Nat.reduceAdd, Nat.reduceMul, Nat.reduceSub, true_and, and_true, decide_eq_true_eq, decide_eq_false_iff_not, List.cons_append, List.nil_append, Bool.false_eq_true, Array.empty_append, Array.append_empty, List.length_cons, List.length_nil, List.getElem?_cons_succ, List.getElem?_cons_zero, Option.some.injEq, Int.toNat_natCast, valsOf_map, List.toList_toArray, List.flatMap_cons, List.flatMap_nil, List.append_nil, List.take_succ_cons, List.take_zero, List.drop_zero, List.drop_succ_cons, Option.bind_some, beq_self_eq_true, Bool.not_true]
  refine ⟨fun h => by simp at h, fun _ => ?_⟩
  refine vcDrawn.intro (.take 0 (.take 1 (.br 2 (.br 3 (.take 4 .done) .nobr) .nobr))) (by kernel_rfl) ?_
  simp only [vcs, tbl, List.map, reduceIte, Nat.reduceLT, Nat.reduceLeDiff, Nat.reduceEqDiff, Nat.reduceAdd, Nat.reduceMul, Nat.reduceSub, true_and, and_true, decide_eq_true_eq, decide_eq_false_iff_not, List.cons_append, List.nil_append, Bool.false_eq_true, Array.empty_append, Array.append_empty, List.length_cons, List.length_nil, List.getElem?_cons_succ, List.getElem?_cons_zero, Option.some.injEq, Int.toNat_natCast, valsOf_map, List.toList_toArray, List.flatMap_cons, List.flatMap_nil, List.append_nil, List.take_succ_cons, List.take_zero, List.drop_zero, List.drop_succ_cons, Option.bind_some]
  refine (toResult _ _ _ _ (h.grow g8) hsx).mono ?_
  rintro r m9 ⟨hg9, us9, F9, rfl, hv9, _⟩
  obtain ⟨v9, rfl, c9, _⟩ := Res.vals hv9
  obtain ⟨a9, cap9, rfl, _⟩ := c9.slice
  have g9 := g8.trans hg9
  refine ⟨hg9, ?_⟩
  simp only [vcs, tbl, List.map, reduceIte, Nat.reduceLT, Nat.reduceLeDiff, Nat.reduceEqDiff, Nat.reduceAdd, Nat.reduceMul, Nat.reduceSub, true_and, and_true, decide_eq_true_eq, decide_eq_false_iff_not, List.cons_append, List.nil_append, Bool.false_eq_true, Array.empty_append, Array.append_empty, List.length_cons, List.length_nil, List.getElem?_cons_succ, List.getElem?_cons_zero, Option.some.injEq, Int.toNat_natCast, valsOf_map, List.toList_toArray, List.flatMap_cons, List.flatMap_nil, List.append_nil, List.take_succ_cons, List.take_zero, List.drop_zero, List.drop_succ_cons, Option.bind_some]
  refine (eqResult _ _ _ _ _ _ _ (((hv6.grow hg7).grow hg8).grow hg9) hv9).mono ?_
  rintro r m10 ⟨hg10, b1, rfl, hb1⟩
  have g10 := g9.trans hg10
  obtain rfl : b1 = true := hb1.2 rfl
  refine ⟨hg10, ?_⟩
  simp only [vcs, tbl, List.map, reduceIte, Nat.reduceLT, Nat.reduceLeDiff, Nat.reduceEqDiff, Nat.reduceAdd, Nat.reduceMul, Nat.reduceSub, true_and, and_true, decide_eq_true_eq, decide_eq_false_iff_not, List.cons_append, List.nil_append, Bool.false_eq_true, Array.empty_append, Array.append_empty, List.length_cons, List.length_nil, List.getElem?_cons_succ, List.getElem?_cons_zero, Option.some.injEq, Int.toNat_natCast, valsOf_map, List.toList_toArray, List.flatMap_cons, List.flatMap_nil, List.append_nil, List.take_succ_cons, List.take_zero, List.drop_zero, List.drop_succ_cons, Option.bind_some, Bool.not_true]
  refine ⟨fun h => by simp at h, fun _ => ?_⟩
  refine vcDrawn.intro (.take 0 (.take 1 (.br 2 (.br 3 (.take 4 .done) .nobr) .nobr))) (by kernel_rfl) ?_
  simp only [vcs, tbl, List.map, reduceIte, Nat.reduceLT, Nat.reduceLeDiff, Nat.reduceEqDiff, Nat.reduceAdd, Nat.reduceMul, Nat.reduceSub, true_and, and_true, decide_eq_true_eq, decide_eq_false_iff_not, List.cons_append, List.nil_append, Bool.false_eq_true, Array.empty_append, Array.append_empty, List.length_cons, List.length_nil, List.getElem?_cons_succ, List.getElem?_cons_zero, Option.some.injEq, Int.toNat_natCast, valsOf_map, List.toList_toArray, List.flatMap_cons, List.flatMap_nil, List.append_nil, List.take_succ_cons, List.take_zero, List.drop_zero, List.drop_succ_cons, Option.bind_some]
  refine (toResult _ _ _ _ (k.grow g10) hsy).mono ?_
  rintro r m11 ⟨hg11, us11, F11, rfl, hv11, _⟩
  obtain ⟨v11, rfl, c11, _⟩ := Res.vals hv11
  obtain ⟨a11, cap11, rfl, _⟩ := c11.slice
  have g11 := g10.trans hg11
  refine ⟨hg11, ?_⟩
  simp only [vcs, tbl, List.map, reduceIte, Nat.reduceLT, Nat.reduceLeDiff, Nat.reduceEqDiff, Nat.reduceAdd, Nat.reduceMul, Nat.reduceSub, true_and, and_true, decide_eq_true_eq, decide_eq_false_iff_not, List.cons_append, List.nil_append, Bool.false_eq_true, Array.empty_append, Array.append_empty, List.length_cons, List.length_nil, List.getElem?_cons_succ, List.getElem?_cons_zero, Option.some.injEq, Int.toNat_natCast, valsOf_map, List.toList_toArray, List.flatMap_cons, List.flatMap_nil, List.append_nil, List.take_succ_cons, List.take_zero, List.drop_zero, List.drop_succ_cons, Option.bind_some]
  refine (eqResult _ _ _ _ _ _ _ ((((hv7.grow hg8).grow hg9).grow hg10).grow hg11) hv11).mono ?_
  rintro r m12 ⟨hg12, b2, rfl, hb2⟩
  obtain rfl : b2 = true := hb2.2 rfl
  refine ⟨hg12, ?_⟩
  simp only [vcs, tbl, List.map, reduceIte, Nat.reduceLT, Nat.reduceLeDiff, Nat.reduceEqDiff, Nat.reduceAdd, Nat.reduceMul, Nat.reduceSub, true_and, and_true, decide_eq_true_eq, decide_eq_false_iff_not, List.cons_append, List.nil_append, Bool.false_eq_true, Array.empty_append, Array.append_empty, List.length_cons, List.length_nil, List.getElem?_cons_succ, List.getElem?_cons_zero, Option.some.injEq, Int.toNat_natCast, valsOf_map, List.toList_toArray, List.flatMap_cons, List.flatMap_nil, List.append_nil, List.take_succ_cons, List.take_zero, List.drop_zero, List.drop_succ_cons, Option.bind_some, Bool.not_true]
  exact ⟨fun h => by simp at h, fun _ => g11.trans hg12⟩

end Go.Proofs.Ytklligemdfnimaa