/-
  The data of the trees; their sizes and copies.
  Conditions: none.
-/
import Derived.Test.YtklligemdfnimaaPTbl
set_option linter.unusedVariables false
set_option linter.unusedSimpArgs false
namespace Go.Proofs.Ytklligemdfnimaa
open Go Go.Vc
theorem crs : (∀ (p : Prop), (True ∧ p) = p) ∧
  (∀ (p : Prop), (p ∧ True) = p) ∧
  (∀ {p : Prop} [inst : Decidable p], (decide p = true) = p) ∧
  (∀ {p : Prop} {x : Decidable p}, decide p = false ↔ ¬p) ∧
  (∀ {α : Type} {a : α} {xs bs : List α}, a :: xs ++ bs = a :: (xs ++ bs)) ∧
  (∀ {α : Type} (xs : List α), [] ++ xs = xs) ∧
  ((false = true) = False) ∧
  (∀ {α : Type} {xs : Array α}, #[] ++ xs = xs) ∧
  (∀ {α : Type} {xs : Array α}, xs ++ #[] = xs) ∧
  (∀ {α : Type} {a : α} {xs : List α}, List.length (a :: xs) = List.length xs + 1) ∧
  (∀ {α : Type}, List.length ([] : List α) = 0) ∧
  (∀ {α : Type} {a : α} {i : Nat} {l : List α}, (a :: l)[i + 1]? = l[i]?) ∧
  (∀ {α : Type} {a : α} {l : List α}, (a :: l)[0]? = some a) ∧
  (∀ {α : Type} (val val_1 : α), (some val = some val_1) = (val = val_1)) ∧
  (∀ (n : Nat), Int.toNat ↑n = n) ∧
  (∀ (vs : List Value), valsOf? (List.map CV.v vs) = some vs) ∧
  (∀ {α : Type} {xs : List α}, Array.toList (List.toArray xs) = xs) ∧
  (∀ {α : Type} {β : Type} {x : α} {xs : List α} {f : α → List β}, List.flatMap f (x :: xs) = f x ++ List.flatMap f xs) ∧
  (∀ {α : Type} {β : Type} {f : α → List β}, List.flatMap f [] = []) ∧
  (∀ {α : Type} (xs : List α), xs ++ [] = xs) ∧
  (∀ {α : Type} {a : α} {xs : List α} {i : Nat}, List.take (i + 1) (a :: xs) = a :: List.take i xs) ∧
  (∀ {α : Type} {l : List α}, List.take 0 l = []) ∧
  (∀ {α : Type} {l : List α}, List.drop 0 l = l) ∧
  (∀ {α : Type} {a : α} {l : List α} {i : Nat}, List.drop (i + 1) (a :: l) = List.drop i l) ∧
  (∀ {α : Type} {β : Type} (a : α) (f : α → Option β), Option.bind (some a) f = f a) :=
  ⟨@true_and, @and_true, @decide_eq_true_eq, @decide_eq_false_iff_not, @List.cons_append, @List.nil_append, @Bool.false_eq_true, @Array.empty_append, @Array.append_empty, @List.length_cons, @List.length_nil, @List.getElem?_cons_succ, @List.getElem?_cons_zero, @Option.some.injEq, @Int.toNat_natCast, @valsOf_map, @List.toList_toArray, @List.flatMap_cons, @List.flatMap_nil, @List.append_nil, @List.take_succ_cons, @List.take_zero, @List.drop_zero, @List.drop_succ_cons, @Option.bind_some⟩
theorem follows_mixed : Try.prog.follows .mixedOrders = true := by kernel_rfl
theorem add0 (a : Addr) : a.add 0 = a := by simp [Addr.add]
theorem wrap_id {n : Int} (h : -9223372036854775808 ≤ n) (h' : n ≤ 9223372036854775807) : IntKind.i64.wrap n = n := IntWalk.i64_in n (by omega)
structure Val where
  kind : Int
  num : Int
  text : ByteArray
def int (n : Int) : D := .lit (.int .i64 n)
def bool (b : Bool) : D := .lit (.bool b)
def str (s : ByteArray) : D := .lit (.string s)
def Val.row (v : Val) : List D := [int v.kind, int v.num, str v.text]
def Val.small (v : Val) : Prop := v.text.size ≤ 1048576
theorem Val.row_len (v : Val) : v.row.length = 3 := rfl
def vrow (r : List Val) : List D := [.sl r.length (r.flatMap Val.row)]
theorem vrow_len (r : List Val) : (vrow r).length = 1 := rfl
def vsmall (r : List Val) : Prop := r.length ≤ 1048576 ∧ ∀ e ∈ r, e.small
structure Res where
  fk : Int
  ft : ByteArray
  er : Int
  rows : List (List Val)
  count : Int
def Res.row (r : Res) : List D := [int r.fk, str r.ft, int r.er, .sl r.rows.length (r.rows.flatMap vrow), int r.count]
def Res.small (r : Res) : Prop := r.rows.length ≤ 1048576 ∧ ∀ e ∈ r.rows, vsmall e
theorem valsF_cons {m : World} {d : D} {ds : List D} {vs : List Value} {F : List Nat} (h : ValsF m (d :: ds) vs F) : ∃ v r F1 F2, vs = v :: r ∧ CellF m d v F1 ∧ ValsF m ds r F2 ∧ F = F1 ++ F2 := by
  cases vs with
  | nil => exact h.elim
  | cons v r => obtain ⟨F1, F2, h1, h2, h3⟩ := h; exact ⟨v, r, F1, F2, rfl, h1, h2, h3⟩
theorem valsF_lit {m : World} {u : Value} {ds : List D} {vs : List Value} {F : List Nat} (h : ValsF m (.lit u :: ds) vs F) : ∃ r, vs = u :: r ∧ ValsF m ds r F ∧ okV u := by
  obtain ⟨v, r, F1, F2, rfl, ⟨h1, h1', ho⟩, h2, h3⟩ := valsF_cons h
  subst h1 h1'
  exact ⟨r, rfl, by rw [h3]; simpa using h2, ho⟩
theorem valsF_nil {m : World} {vs : List Value} {F : List Nat} (h : ValsF m [] vs F) : vs = [] ∧ F = [] := by
  cases vs with
  | nil => exact ⟨rfl, h⟩
  | cons _ _ => exact h.elim
theorem Val.vals {m : World} {x : Val} {vs : List Value} {F : List Nat} (h : ValsF m x.row vs F) : vs = [.int .i64 x.kind, .int .i64 x.num, .string x.text] ∧ F = [] ∧ x.text.size ≤ maxLen := by
  obtain ⟨r1, rfl, h1, o1⟩ := valsF_lit h
  obtain ⟨r2, rfl, h2, o2⟩ := valsF_lit h1
  obtain ⟨r3, rfl, h3, o3⟩ := valsF_lit h2
  obtain ⟨rfl, rfl⟩ := valsF_nil h3
  exact ⟨rfl, rfl, o3⟩
theorem Val.mk_vals (m : World) (x : Val) (h : x.text.size ≤ maxLen) : ValsF m x.row [.int .i64 x.kind, .int .i64 x.num, .string x.text] [] :=
  ⟨[], [], ⟨rfl, rfl, trivial⟩, ⟨[], [], ⟨rfl, rfl, trivial⟩, ⟨[], [], ⟨rfl, rfl, h⟩, rfl, rfl⟩, rfl⟩, rfl⟩
theorem Res.vals {m : World} {x : Res} {vs : List Value} {F : List Nat} (h : ValsF m x.row vs F) : ∃ v, vs = [.int .i64 x.fk, .string x.ft, .int .i64 x.er, v, .int .i64 x.count] ∧ CellF m (.sl x.rows.length (x.rows.flatMap vrow)) v F ∧ x.ft.size ≤ maxLen := by
  obtain ⟨r1, rfl, h1, o1⟩ := valsF_lit h
  obtain ⟨r2, rfl, h2, o2⟩ := valsF_lit h1
  obtain ⟨r3, rfl, h3, o3⟩ := valsF_lit h2
  obtain ⟨v, r4, F1, F2, rfl, h4, h5, rfl⟩ := valsF_cons h3
  obtain ⟨r5, rfl, h6, o5⟩ := valsF_lit h5
  obtain ⟨rfl, rfl⟩ := valsF_nil h6
  exact ⟨v, rfl, by simpa using h4, o2⟩
theorem Res.mk_vals {m : World} {x : Res} {v : Value} {F : List Nat} (h : CellF m (.sl x.rows.length (x.rows.flatMap vrow)) v F) (ht : x.ft.size ≤ maxLen) : ValsF m x.row [.int .i64 x.fk, .string x.ft, .int .i64 x.er, v, .int .i64 x.count] F :=
  ⟨[], F, ⟨rfl, rfl, trivial⟩, ⟨[], F, ⟨rfl, rfl, ht⟩, ⟨[], F, ⟨rfl, rfl, trivial⟩, ⟨F, [], h, ⟨[], [], ⟨rfl, rfl, trivial⟩, rfl, rfl⟩, by simp⟩, rfl⟩, rfl⟩, rfl⟩
end Go.Proofs.Ytklligemdfnimaa

set_option linter.unusedVariables false
set_option linter.unusedSimpArgs false
namespace Go.Proofs.Ytklligemdfnimaa
open Go Go.Vc
theorem szValue (x : Val) (m : World) (left : Int) (vs : List Value) (F : List Nat) (h : ValsF m x.row vs F) (h0 : 0 ≤ left) (h1 : left ≤ 1048576) :
   FCalls Try.prog 66 #[.agg vs.toArray, .int .i64 left] m fun r m' => Grow m m' ∧ ∃ k : Int, r = .int .i64 k ∧ k ≤ left ∧ (0 ≤ k → x.small) := by
  obtain ⟨rfl, rfl, hb⟩ := Val.vals h
  have hb' : x.text.size ≤ 9223372036854775807 := hb
  refine fcalls_of_vc (args := [_, _]) follows_mixed Try.func66 rfl (by kernel_rfl) (by simp [Try.f66]) ?_
  simp only [Try.f66, vcs, tbl, crs, List.map, reduceIte, Nat.reduceLT, Nat.reduceLeDiff, Nat.reduceEqDiff, Nat.reduceAdd, Nat.reduceMul, Nat.reduceSub]
  rw [wrap_id (by omega) (by omega)]
  refine ⟨fun h => ⟨Grow.refl _, -1, rfl, by omega, by omega⟩, fun h => ⟨Grow.refl _, _, rfl, by omega, fun h => ?_⟩⟩
  unfold Val.small; omega
theorem szValueS (es : List Val)  (m : World) (left : Int) (v : Value) (F : List Nat) (h : CellF m (.sl es.length (es.flatMap Val.row)) v F) (h0 : 0 ≤ left) (h1 : left ≤ 1048576) :
   FCalls Try.prog 113 #[v, .int .i64 left] m fun r m' => Grow m m' ∧ ∃ k : Int, r = .int .i64 k ∧ k ≤ left ∧ (0 ≤ k → es.length ≤ 1048576 ∧ ∀ e ∈ es, Val.small e) := by
  obtain ⟨a, cap, rfl, hcap, hmax, _⟩ := h.slice
  have hmax' : cap ≤ 9223372036854775807 := hmax
  refine fcalls_of_vc (args := [_, _]) follows_mixed Try.func113 rfl (by kernel_rfl) (by simp [Try.f113]) ?_
  simp only [Try.f113, vcs, tbl, crs, List.map, reduceIte, Nat.reduceLT, Nat.reduceLeDiff, Nat.reduceEqDiff, Nat.reduceAdd, Nat.reduceMul, Nat.reduceSub]
  rw [wrap_id (by omega) (by omega)]
  refine ⟨fun h => ⟨Grow.refl _, -1, rfl, by omega, by omega⟩, fun h' => ?_⟩
  refine vcLoop.intro (fun f L m1 => ∃ (k : Nat) (l : Int), f 5 = .c (.v (.int .i64 k)) ∧ f 1 = .c (.v (.int .i64 l)) ∧ L = [] ∧ k ≤ es.length ∧ 0 ≤ l ∧ l ≤ left ∧ Grow m m1 ∧ ∀ e ∈ es.take k, Val.small e)
    (fun f _ _ => (es.length - ixS (f 5)).toNat) ⟨[], Sub.nil _, 0, left - es.length, ?_⟩ ?_
  · simp only [vcs, tbl, crs, List.map, reduceIte, Nat.reduceLT, Nat.reduceLeDiff, Nat.reduceEqDiff, Nat.reduceAdd, Nat.reduceMul, Nat.reduceSub]
    exact ⟨rfl, by omega, by omega, by omega, Grow.refl _, by simp⟩
  · rintro g L1 m1 ⟨k, l, h5, h1', rfl, hk, hl0, hl1', hg, hsm⟩
    have hl1 : l ≤ 1048576 := by omega
    simp only [vcs, tbl, crs, List.map, reduceIte, Nat.reduceLT, Nat.reduceLeDiff, Nat.reduceEqDiff, Nat.reduceAdd, Nat.reduceMul, Nat.reduceSub] at h5 h1'
    simp only [vcs, tbl, crs, List.map, reduceIte, Nat.reduceLT, Nat.reduceLeDiff, Nat.reduceEqDiff, Nat.reduceAdd, Nat.reduceMul, Nat.reduceSub, h5, h1']
    refine ⟨fun hlt => ?_, fun hge => ?_⟩
    · have hlt : k < es.length := by omega
      obtain ⟨ad, vs, Fk, ha, hlen, hcell, hv, _⟩ := h.elem Val.row_len (by decide) (List.getElem?_eq_getElem hlt)
      refine ⟨by omega, by omega, ad, ha, vs, hlen, fun j v hj => hg.cell (by simpa using hcell j v hj), ?_⟩
      simp only [vcs, tbl, crs, List.map, reduceIte, Nat.reduceLT, Nat.reduceLeDiff, Nat.reduceEqDiff, Nat.reduceAdd, Nat.reduceMul, Nat.reduceSub, h5, h1']
      refine (szValue _ _ _ _ _ (hv.grow hg) hl0 hl1).mono ?_
      rintro r m2 ⟨hg2, q, rfl, hq, hqs⟩
      simp only [vcs, tbl, crs, List.map, reduceIte, Nat.reduceLT, Nat.reduceLeDiff, Nat.reduceEqDiff, Nat.reduceAdd, Nat.reduceMul, Nat.reduceSub, h5, h1']
      refine ⟨fun hn => ⟨hg.trans hg2, -1, rfl, by omega, by omega⟩, fun hn => ?_⟩
      rw [wrap_id (by omega) (by omega)]
      refine ⟨[], Sub.nil _, ⟨k + 1, _, by simp, rfl, rfl, by omega, by omega, by omega, hg.trans hg2, ?_⟩, by omega⟩
      intro e he
      rw [List.take_add_one, List.getElem?_eq_getElem hlt] at he
      rcases List.mem_append.1 he with he | he
      · exact hsm e he
      · simp at he; subst he; exact hqs (by omega)
    · have : k = es.length := by omega
      subst this
      exact ⟨hg, l, rfl, by omega, fun _ => ⟨by omega, fun e he => hsm e (by simpa using he)⟩⟩

theorem szValueSS (es : List (List Val))  (m : World) (left : Int) (v : Value) (F : List Nat) (h : CellF m (.sl es.length (es.flatMap vrow)) v F) (h0 : 0 ≤ left) (h1 : left ≤ 1048576) :
   FCalls Try.prog 43 #[v, .int .i64 left] m fun r m' => Grow m m' ∧ ∃ k : Int, r = .int .i64 k ∧ k ≤ left ∧ (0 ≤ k → es.length ≤ 1048576 ∧ ∀ e ∈ es, vsmall e) := by
  obtain ⟨a, cap, rfl, hcap, hmax, _⟩ := h.slice
  have hmax' : cap ≤ 9223372036854775807 := hmax
  refine fcalls_of_vc (args := [_, _]) follows_mixed Try.func43 rfl (by kernel_rfl) (by simp [Try.f43]) ?_
  simp only [Try.f43, vcs, tbl, crs, List.map, reduceIte, Nat.reduceLT, Nat.reduceLeDiff, Nat.reduceEqDiff, Nat.reduceAdd, Nat.reduceMul, Nat.reduceSub]
  rw [wrap_id (by omega) (by omega)]
  refine ⟨fun h => ⟨Grow.refl _, -1, rfl, by omega, by omega⟩, fun h' => ?_⟩
  refine vcLoop.intro (fun f L m1 => ∃ (k : Nat) (l : Int), f 5 = .c (.v (.int .i64 k)) ∧ f 1 = .c (.v (.int .i64 l)) ∧ L = [] ∧ k ≤ es.length ∧ 0 ≤ l ∧ l ≤ left ∧ Grow m m1 ∧ ∀ e ∈ es.take k, vsmall e)
    (fun f _ _ => (es.length - ixS (f 5)).toNat) ⟨[], Sub.nil _, 0, left - es.length, ?_⟩ ?_
  · simp only [vcs, tbl, crs, List.map, reduceIte, Nat.reduceLT, Nat.reduceLeDiff, Nat.reduceEqDiff, Nat.reduceAdd, Nat.reduceMul, Nat.reduceSub]
    exact ⟨rfl, by omega, by omega, by omega, Grow.refl _, by simp⟩
  · rintro g L1 m1 ⟨k, l, h5, h1', rfl, hk, hl0, hl1', hg, hsm⟩
    have hl1 : l ≤ 1048576 := by omega
    simp only [vcs, tbl, crs, List.map, reduceIte, Nat.reduceLT, Nat.reduceLeDiff, Nat.reduceEqDiff, Nat.reduceAdd, Nat.reduceMul, Nat.reduceSub] at h5 h1'
    simp only [vcs, tbl, crs, List.map, reduceIte, Nat.reduceLT, Nat.reduceLeDiff, Nat.reduceEqDiff, Nat.reduceAdd, Nat.reduceMul, Nat.reduceSub, h5, h1']
    refine ⟨fun hlt => ?_, fun hge => ?_⟩
    · have hlt : k < es.length := by omega
      obtain ⟨ad, vs, Fk, ha, hlen, hcell, hv, _⟩ := h.elem vrow_len (by decide) (List.getElem?_eq_getElem hlt)
      obtain ⟨u, hu⟩ : ∃ u, vs[0]? = some u := ⟨vs[0]'(by omega), List.getElem?_eq_getElem _⟩
      have hcu := hg.cell (hcell 0 u hu)
      rw [add0] at hcu
      have hvu := (ValsF.one hv hu).grow hg
      refine ⟨by omega, by omega, ad, ha, u, hcu, ?_⟩
      simp only [vcs, tbl, crs, List.map, reduceIte, Nat.reduceLT, Nat.reduceLeDiff, Nat.reduceEqDiff, Nat.reduceAdd, Nat.reduceMul, Nat.reduceSub, h5, h1']
      refine (szValueS _ _ _ _ _ hvu hl0 hl1).mono ?_
      rintro r m2 ⟨hg2, q, rfl, hq, hqs⟩
      simp only [vcs, tbl, crs, List.map, reduceIte, Nat.reduceLT, Nat.reduceLeDiff, Nat.reduceEqDiff, Nat.reduceAdd, Nat.reduceMul, Nat.reduceSub, h5, h1']
      refine ⟨fun hn => ⟨hg.trans hg2, -1, rfl, by omega, by omega⟩, fun hn => ?_⟩
      rw [wrap_id (by omega) (by omega)]
      refine ⟨[], Sub.nil _, ⟨k + 1, _, by simp, rfl, rfl, by omega, by omega, by omega, hg.trans hg2, ?_⟩, by omega⟩
      intro e he
      rw [List.take_add_one, List.getElem?_eq_getElem hlt] at he
      rcases List.mem_append.1 he with he | he
      · exact hsm e he
      · simp at he; subst he; exact hqs (by omega)
    · have : k = es.length := by omega
      subst this
      exact ⟨hg, l, rfl, by omega, fun _ => ⟨by omega, fun e he => hsm e (by simpa using he)⟩⟩

end Go.Proofs.Ytklligemdfnimaa
set_option linter.unusedVariables false
set_option linter.unusedSimpArgs false
set_option maxRecDepth 4000
namespace Go.Proofs.Ytklligemdfnimaa
open Go Go.Vc
theorem flatMap_len {α : Type} {row : α → List D} {sz : Nat} (h : ∀ e, (row e).length = sz) (es : List α) : (es.flatMap row).length = es.length * sz := by
  induction es with
  | nil => simp
  | cons e r ih => simp only [List.flatMap_cons, List.length_append, h, ih, List.length_cons, Nat.add_mul]; omega
theorem toValue (x : Val) (m : World) (vs : List Value) (F : List Nat) (h : ValsF m x.row vs F) (hs : x.small) :
   FCalls Try.prog 69 #[.agg vs.toArray] m fun r m' => Grow m m' ∧ ∃ us F', r = .agg us.toArray ∧ ValsF m' x.row us F' ∧ Fresh m F' ∧ Own m' F' := by
  obtain ⟨rfl, rfl, hb⟩ := Val.vals h
  refine fcalls_of_vc (args := [_]) follows_mixed Try.func69 rfl (by kernel_rfl) (by simp [Try.f69]) ?_
  simp only [Try.f69, vcs, tbl, crs, List.map, reduceIte, Nat.reduceLT, Nat.reduceLeDiff, Nat.reduceEqDiff, Nat.reduceAdd, Nat.reduceMul, Nat.reduceSub]
  exact ⟨Grow.refl _, _, [], rfl, Val.mk_vals _ x hb, Fresh.nil _, Own.nil _⟩
theorem toValueS (es : List Val)  (m : World) (v : Value) (F : List Nat) (h : CellF m (.sl es.length (es.flatMap Val.row)) v F) (hs : es.length ≤ 1048576 ∧ ∀ e ∈ es, Val.small e) :
   FCalls Try.prog 115 #[v] m fun r m' => Grow m m' ∧ ∃ F', CellF m' (.sl es.length (es.flatMap Val.row)) r F' ∧ Fresh m F' ∧ Own m' F' := by
  obtain ⟨a, cap, rfl, hcap, hmax, _⟩ := h.slice
  have hmax' : cap ≤ 9223372036854775807 := hmax
  refine fcalls_of_vc (args := [_]) follows_mixed Try.func115 rfl (by kernel_rfl) (by simp [Try.f115]) ?_
  simp only [Try.f115, vcs, tbl, crs, List.map, reduceIte, Nat.reduceLT, Nat.reduceLeDiff, Nat.reduceEqDiff, Nat.reduceAdd, Nat.reduceMul, Nat.reduceSub]
  refine ⟨by omega, by omega, by omega, ?_⟩
  refine vcLoop.intro (fun f L m1 => ∃ (k : Nat) (dn : List Value) (F1 : List Nat), f 4 = .c (.v (.int .i64 k)) ∧ L = [(7, .arr 40 (dn ++ (List.replicate (es.length - k) [.int .i64 0, .int .i64 0, .string ByteArray.empty]).flatten) es.length)] ∧ k ≤ es.length ∧ Grow m m1 ∧ ValsF m1 ((es.take k).flatMap Val.row) dn F1 ∧ Fresh m F1 ∧ Own m1 F1)
    (fun f _ _ => (es.length - ixS (f 4)).toNat) ⟨[(7, .arr 40 (List.replicate es.length [.int .i64 0, .int .i64 0, .string ByteArray.empty]).flatten es.length)], Sub.cons ?_ (Sub.nil _), 0, [], [], ?_⟩ ?_
  rotate_left
  · simp only [vcs, tbl, crs, List.map, reduceIte, Nat.reduceLT, Nat.reduceLeDiff, Nat.reduceEqDiff, Nat.reduceAdd, Nat.reduceMul, Nat.reduceSub]
    exact ⟨rfl, rfl, by omega, Grow.refl _, rfl, Fresh.nil m, Own.nil m⟩
  rotate_left
  · simp only [vcs, tbl, crs, List.map, reduceIte, Nat.reduceLT, Nat.reduceLeDiff, Nat.reduceEqDiff, Nat.reduceAdd, Nat.reduceMul, Nat.reduceSub]
  · rintro g L1 m1 ⟨k, dn, F1, h4, rfl, hk, hg, hdn, hfr, how⟩
    have hdl : dn.length = k * 3 := by rw [hdn.length, flatMap_len Val.row_len, List.length_take]; congr 1; omega
    simp only [vcs, tbl, crs, List.map, reduceIte, Nat.reduceLT, Nat.reduceLeDiff, Nat.reduceEqDiff, Nat.reduceAdd, Nat.reduceMul, Nat.reduceSub] at h4
    simp only [vcs, tbl, crs, List.map, reduceIte, Nat.reduceLT, Nat.reduceLeDiff, Nat.reduceEqDiff, Nat.reduceAdd, Nat.reduceMul, Nat.reduceSub, h4]
    refine ⟨fun hlt => ?_, fun hge => ?_⟩
    · have hlt : k < es.length := by omega
      obtain ⟨ad, vs, Fk, ha, hlen, hcell, hv, _⟩ := h.elem Val.row_len (by decide) (List.getElem?_eq_getElem hlt)
      refine ⟨by omega, by omega, ad, ha, vs, hlen, fun j v hj => hg.cell (by simpa using hcell j v hj), ?_⟩
      simp only [vcs, tbl, crs, List.map, reduceIte, Nat.reduceLT, Nat.reduceLeDiff, Nat.reduceEqDiff, Nat.reduceAdd, Nat.reduceMul, Nat.reduceSub, h4]
      refine (toValue _ _ _ _ (hv.grow hg) (hs.2 _ (List.getElem_mem hlt))).mono ?_
      rintro r m2 ⟨hg2, us, F2, rfl, hvr, hf2, ho2⟩
      have hyl := hvr.length
      rw [Val.row_len] at hyl
      simp only [vcs, tbl, crs, List.map, reduceIte, Nat.reduceLT, Nat.reduceLeDiff, Nat.reduceEqDiff, Nat.reduceAdd, Nat.reduceMul, Nat.reduceSub, h4, hyl]
      refine ⟨by omega, by omega, by simp, ?_, hvr.oneCell, _, Sub.one _ _, ⟨k + 1, dn ++ us, F1 ++ F2, ?_, ?_, by omega, hg.trans hg2, ?_, hfr.join hg (hdn.vis) hf2, (how.grow hg2).app ho2⟩, ?_⟩
      · rw [fill_len, hdl]
        have : k * 3 + 3 ≤ k * 3 + (es.length - k) * 3 := by omega
        simpa using this
      · rw [wrap_id (by omega) (by omega)]; simp
      · exact congrArg (fun z => [(7, Box.arr 40 z es.length)]) (fill_eq hdl hyl rfl hlt)
      · rw [List.take_add_one, List.getElem?_eq_getElem hlt, List.flatMap_append]
        refine (hdn.grow hg2).join ?_
        simpa using hvr
      · rw [wrap_id (by omega) (by omega)]; omega
    · have : k = es.length := by omega
      subst this
      intro b m' hp
      refine ⟨hg.trans hp.grow, ?_⟩
      rw [Nat.sub_self, List.replicate_zero, List.flatten_nil, List.append_nil] at hp
      rw [List.take_length] at hdn
      exact CellF.of_pubO hp hdn hg hfr how (Nat.le_refl _) (Nat.le_trans hcap hmax)

theorem toValueSS (es : List (List Val))  (m : World) (v : Value) (F : List Nat) (h : CellF m (.sl es.length (es.flatMap vrow)) v F) (hs : es.length ≤ 1048576 ∧ ∀ e ∈ es, vsmall e) :
   FCalls Try.prog 46 #[v] m fun r m' => Grow m m' ∧ ∃ F', CellF m' (.sl es.length (es.flatMap vrow)) r F' ∧ Fresh m F' ∧ Own m' F' := by
  obtain ⟨a, cap, rfl, hcap, hmax, _⟩ := h.slice
  have hmax' : cap ≤ 9223372036854775807 := hmax
  refine fcalls_of_vc (args := [_]) follows_mixed Try.func46 rfl (by kernel_rfl) (by simp [Try.f46]) ?_
  simp only [Try.f46, vcs, tbl, crs, List.map, reduceIte, Nat.reduceLT, Nat.reduceLeDiff, Nat.reduceEqDiff, Nat.reduceAdd, Nat.reduceMul, Nat.reduceSub]
  refine ⟨by omega, by omega, by omega, ?_⟩
  refine vcLoop.intro (fun f L m1 => ∃ (k : Nat) (dn : List Value) (F1 : List Nat), f 4 = .c (.v (.int .i64 k)) ∧ L = [(7, .arr 137 (dn ++ (List.replicate (es.length - k) [.slice none 0 0]).flatten) es.length)] ∧ k ≤ es.length ∧ Grow m m1 ∧ ValsF m1 ((es.take k).flatMap vrow) dn F1 ∧ Fresh m F1 ∧ Own m1 F1)
    (fun f _ _ => (es.length - ixS (f 4)).toNat) ⟨[(7, .arr 137 (List.replicate es.length [.slice none 0 0]).flatten es.length)], Sub.cons ?_ (Sub.nil _), 0, [], [], ?_⟩ ?_
  rotate_left
  · simp only [vcs, tbl, crs, List.map, reduceIte, Nat.reduceLT, Nat.reduceLeDiff, Nat.reduceEqDiff, Nat.reduceAdd, Nat.reduceMul, Nat.reduceSub]
    exact ⟨rfl, rfl, by omega, Grow.refl _, rfl, Fresh.nil m, Own.nil m⟩
  rotate_left
  · simp only [vcs, tbl, crs, List.map, reduceIte, Nat.reduceLT, Nat.reduceLeDiff, Nat.reduceEqDiff, Nat.reduceAdd, Nat.reduceMul, Nat.reduceSub]
  · rintro g L1 m1 ⟨k, dn, F1, h4, rfl, hk, hg, hdn, hfr, how⟩
    have hdl : dn.length = k * 1 := by rw [hdn.length, flatMap_len vrow_len, List.length_take]; congr 1; omega
    simp only [vcs, tbl, crs, List.map, reduceIte, Nat.reduceLT, Nat.reduceLeDiff, Nat.reduceEqDiff, Nat.reduceAdd, Nat.reduceMul, Nat.reduceSub] at h4
    simp only [vcs, tbl, crs, List.map, reduceIte, Nat.reduceLT, Nat.reduceLeDiff, Nat.reduceEqDiff, Nat.reduceAdd, Nat.reduceMul, Nat.reduceSub, h4]
    refine ⟨fun hlt => ?_, fun hge => ?_⟩
    · have hlt : k < es.length := by omega
      obtain ⟨ad, vs, Fk, ha, hlen, hcell, hv, _⟩ := h.elem vrow_len (by decide) (List.getElem?_eq_getElem hlt)
      obtain ⟨u, hu⟩ : ∃ u, vs[0]? = some u := ⟨vs[0]'(by omega), List.getElem?_eq_getElem _⟩
      have hcu := hg.cell (hcell 0 u hu)
      rw [add0] at hcu
      have hvu := (ValsF.one hv hu).grow hg
      refine ⟨by omega, by omega, ad, ha, u, hcu, ?_⟩
      simp only [vcs, tbl, crs, List.map, reduceIte, Nat.reduceLT, Nat.reduceLeDiff, Nat.reduceEqDiff, Nat.reduceAdd, Nat.reduceMul, Nat.reduceSub, h4]
      refine (toValueS _ _ _ _ hvu (hs.2 _ (List.getElem_mem hlt))).mono ?_
      rintro r m2 ⟨hg2, F2, hv2, hf2, ho2⟩
      obtain ⟨us, hus, hvr⟩ : ∃ us, us = [r] ∧ ValsF m2 (vrow es[k]) us F2 := ⟨_, rfl, ValsF.single hv2⟩
      obtain ⟨a2, cap2, rfl, _⟩ := hv2.slice
      subst hus
      have hyl := hvr.length
      rw [vrow_len] at hyl
      simp only [vcs, tbl, crs, List.map, reduceIte, Nat.reduceLT, Nat.reduceLeDiff, Nat.reduceEqDiff, Nat.reduceAdd, Nat.reduceMul, Nat.reduceSub, h4, hyl]
      refine ⟨by omega, by omega, by simp, ?_, hvr.oneCell, _, Sub.one _ _, ⟨k + 1, dn ++ [.slice a2 es[k].length cap2], F1 ++ F2, ?_, ?_, by omega, hg.trans hg2, ?_, hfr.join hg (hdn.vis) hf2, (how.grow hg2).app ho2⟩, ?_⟩
      · rw [fill_len, hdl]
        have : k * 1 + 1 ≤ k * 1 + (es.length - k) * 1 := by omega
        simpa using this
      · rw [wrap_id (by omega) (by omega)]; simp
      · exact congrArg (fun z => [(7, Box.arr 137 z es.length)]) (fill_eq hdl hyl rfl hlt)
      · rw [List.take_add_one, List.getElem?_eq_getElem hlt, List.flatMap_append]
        refine (hdn.grow hg2).join ?_
        simpa using hvr
      · rw [wrap_id (by omega) (by omega)]; omega
    · have : k = es.length := by omega
      subst this
      intro b m' hp
      refine ⟨hg.trans hp.grow, ?_⟩
      rw [Nat.sub_self, List.replicate_zero, List.flatten_nil, List.append_nil] at hp
      rw [List.take_length] at hdn
      exact CellF.of_pubO hp hdn hg hfr how (Nat.le_refl _) (Nat.le_trans hcap hmax)

end Go.Proofs.Ytklligemdfnimaa
set_option linter.unusedVariables false
set_option linter.unusedSimpArgs false
namespace Go.Proofs.Ytklligemdfnimaa
open Go Go.Vc
mutual
inductive PExpr where
  | mk (kind op : Int) (nt : Bool) (val : Val) (up at_ : Int) (kids : List PExpr) (sub : List Plan)
inductive Plan where
  | mk (tables : List Int) (on : List (List PExpr)) (whr : List PExpr) (order : List PSort) (items : List PExpr) (names : List ByteArray) (distinct : Bool) (limit : Int)
inductive PSort where
  | mk (e : PExpr) (desc : Bool)
end
/-- Induction over the trees. -/
theorem tree_ind {A : PExpr → Prop} {B : Plan → Prop} {C : PSort → Prop}
    (hA : ∀ k o n v u a ks ss, (∀ e ∈ ks, A e) → (∀ p ∈ ss, B p) → A (.mk k o n v u a ks ss))
    (hB : ∀ t on wh or it nm ds li, (∀ l ∈ on, ∀ e ∈ l, A e) → (∀ e ∈ wh, A e) → (∀ s ∈ or, C s) → (∀ e ∈ it, A e) → B (.mk t on wh or it nm ds li))
    (hC : ∀ e d, A e → C (.mk e d)) : (∀ e, A e) ∧ (∀ p, B p) ∧ (∀ s, C s) := by
  have main : ∀ n : Nat, (∀ e : PExpr, SizeOf.sizeOf e < n → A e) ∧ (∀ p : Plan, SizeOf.sizeOf p < n → B p) ∧ (∀ s : PSort, SizeOf.sizeOf s < n → C s) := by
    intro n
    induction n with
    | zero => exact ⟨fun _ h => absurd h (Nat.not_lt_zero _), fun _ h => absurd h (Nat.not_lt_zero _), fun _ h => absurd h (Nat.not_lt_zero _)⟩
    | succ n ih =>
      refine ⟨fun e h => ?_, fun p h => ?_, fun s h => ?_⟩
      · cases e with
        | mk k o nt v u a ks ss =>
          simp only [PExpr.mk.sizeOf_spec] at h
          exact hA _ _ _ _ _ _ _ _ (fun e he => ih.1 e (by have := List.sizeOf_lt_of_mem he; omega)) (fun p hp => ih.2.1 p (by have := List.sizeOf_lt_of_mem hp; omega))
      · cases p with
        | mk t on wh or it nm ds li =>
          simp only [Plan.mk.sizeOf_spec] at h
          exact hB _ _ _ _ _ _ _ _ (fun l hl e he => ih.1 e (by have := List.sizeOf_lt_of_mem he; have := List.sizeOf_lt_of_mem hl; omega)) (fun e he => ih.1 e (by have := List.sizeOf_lt_of_mem he; omega))
            (fun e he => ih.2.2 e (by have := List.sizeOf_lt_of_mem he; omega)) (fun e he => ih.1 e (by have := List.sizeOf_lt_of_mem he; omega))
      · cases s with
        | mk e d =>
          simp only [PSort.mk.sizeOf_spec] at h
          exact hC _ _ (ih.1 e (by omega))
  exact ⟨fun e => (main (SizeOf.sizeOf e + 1)).1 e (Nat.lt_succ_self _), fun e => (main (SizeOf.sizeOf e + 1)).2.1 e (Nat.lt_succ_self _), fun e => (main (SizeOf.sizeOf e + 1)).2.2 e (Nat.lt_succ_self _)⟩

def irow (n : Int) : List D := [int n]
def srow (s : ByteArray) : List D := [str s]
theorem irow_len (n : Int) : (irow n).length = 1 := rfl
theorem srow_len (n : ByteArray) : (srow n).length = 1 := rfl
mutual
def PExpr.row : PExpr → List D
  | .mk k o n v u a ks ss => [int k, int o, bool n, int v.kind, int v.num, str v.text, int u, int a, .sl ks.length (rowsE ks), .sl ss.length (rowsP ss)]
def rowsE : List PExpr → List D
  | [] => []
  | e :: es => e.row ++ rowsE es
def Plan.row : Plan → List D
  | .mk t on wh or it nm ds li => [.sl t.length (t.flatMap irow), .sl on.length (rowsEE on), .sl wh.length (rowsE wh), .sl or.length (rowsS or), .sl it.length (rowsE it), .sl nm.length (nm.flatMap srow), bool ds, int li]
def rowsP : List Plan → List D
  | [] => []
  | e :: es => e.row ++ rowsP es
def rowsEE : List (List PExpr) → List D
  | [] => []
  | e :: es => .sl e.length (rowsE e) :: rowsEE es
def PSort.row : PSort → List D
  | .mk e d => e.row ++ [bool d]
def rowsS : List PSort → List D
  | [] => []
  | e :: es => e.row ++ rowsS es
end
theorem rowsE_eq : ∀ es, rowsE es = es.flatMap PExpr.row
  | [] => by simp [rowsE]
  | e :: es => by simp [rowsE, rowsE_eq es]
theorem rowsP_eq : ∀ es, rowsP es = es.flatMap Plan.row
  | [] => by simp [rowsP]
  | e :: es => by simp [rowsP, rowsP_eq es]
theorem rowsS_eq : ∀ es, rowsS es = es.flatMap PSort.row
  | [] => by simp [rowsS]
  | e :: es => by simp [rowsS, rowsS_eq es]
def erow (l : List PExpr) : List D := [.sl l.length (l.flatMap PExpr.row)]
theorem rowsEE_eq : ∀ es, rowsEE es = es.flatMap erow
  | [] => by simp [rowsEE]
  | e :: es => by simp [rowsEE, rowsEE_eq es, erow, rowsE_eq]
theorem erow_len (l : List PExpr) : (erow l).length = 1 := rfl
theorem PExpr.row_len (e : PExpr) : e.row.length = 10 := by cases e; simp [PExpr.row]
theorem Plan.row_len (e : Plan) : e.row.length = 8 := by cases e; simp [Plan.row]
theorem PSort.row_len (e : PSort) : e.row.length = 11 := by cases e; simp [PSort.row, PExpr.row_len]

theorem PExpr.vals {m : World} {k o n v u a ks ss} {vs : List Value} {F : List Nat} (h : ValsF m (PExpr.mk k o n v u a ks ss).row vs F) :
    ∃ x y F1 F2, vs = [.int .i64 k, .int .i64 o, .bool n, .int .i64 v.kind, .int .i64 v.num, .string v.text, .int .i64 u, .int .i64 a, x, y] ∧ v.text.size ≤ maxLen ∧
      CellF m (.sl ks.length (ks.flatMap PExpr.row)) x F1 ∧ CellF m (.sl ss.length (ss.flatMap Plan.row)) y F2 ∧ F = F1 ++ F2 := by
  rw [PExpr.row, rowsE_eq, rowsP_eq] at h
  obtain ⟨r1, rfl, h1, _⟩ := valsF_lit h
  obtain ⟨r2, rfl, h2, _⟩ := valsF_lit h1
  obtain ⟨r3, rfl, h3, _⟩ := valsF_lit h2
  obtain ⟨r4, rfl, h4, _⟩ := valsF_lit h3
  obtain ⟨r5, rfl, h5, _⟩ := valsF_lit h4
  obtain ⟨r6, rfl, h6, ho⟩ := valsF_lit h5
  obtain ⟨r7, rfl, h7, _⟩ := valsF_lit h6
  obtain ⟨r8, rfl, h8, _⟩ := valsF_lit h7
  obtain ⟨x, r9, F1, F2, rfl, h9, h10, rfl⟩ := valsF_cons h8
  obtain ⟨y, r10, F3, F4, rfl, h11, h12, rfl⟩ := valsF_cons h10
  obtain ⟨rfl, rfl⟩ := valsF_nil h12
  exact ⟨x, y, F1, F3, rfl, ho, h9, h11, by simp⟩
theorem valsF_mk {m : World} {u : Value} {ds : List D} {vs : List Value} {F : List Nat} (h : ValsF m ds vs F) (ho : okV u) : ValsF m (.lit u :: ds) (u :: vs) F := ⟨[], F, ⟨rfl, rfl, ho⟩, h, by simp⟩
theorem PExpr.mk_vals {m : World} {k o : Int} {n : Bool} {v : Val} {u a : Int} {ks : List PExpr} {ss : List Plan} {x y : Value} {F1 F2 : List Nat} (hv : v.text.size ≤ maxLen)
    (h1 : CellF m (.sl ks.length (ks.flatMap PExpr.row)) x F1) (h2 : CellF m (.sl ss.length (ss.flatMap Plan.row)) y F2) :
    ValsF m (PExpr.mk k o n v u a ks ss).row [.int .i64 k, .int .i64 o, .bool n, .int .i64 v.kind, .int .i64 v.num, .string v.text, .int .i64 u, .int .i64 a, x, y] (F1 ++ F2) := by
  rw [PExpr.row, rowsE_eq, rowsP_eq]
  refine valsF_mk (valsF_mk (valsF_mk (valsF_mk (valsF_mk (valsF_mk (valsF_mk (valsF_mk ?_ trivial) trivial) hv) trivial) trivial) trivial) trivial) trivial
  exact ⟨F1, F2, h1, ValsF.single h2, rfl⟩
theorem Plan.vals {m : World} {t on wh or it nm ds li} {vs : List Value} {F : List Nat} (h : ValsF m (Plan.mk t on wh or it nm ds li).row vs F) :
    ∃ a b c d e f F1 F2 F3 F4 F5 F6, vs = [a, b, c, d, e, f, .bool ds, .int .i64 li] ∧ CellF m (.sl t.length (t.flatMap irow)) a F1 ∧ CellF m (.sl on.length (on.flatMap erow)) b F2 ∧
      CellF m (.sl wh.length (wh.flatMap PExpr.row)) c F3 ∧ CellF m (.sl or.length (or.flatMap PSort.row)) d F4 ∧ CellF m (.sl it.length (it.flatMap PExpr.row)) e F5 ∧ CellF m (.sl nm.length (nm.flatMap srow)) f F6 ∧
      F = F1 ++ (F2 ++ (F3 ++ (F4 ++ (F5 ++ F6)))) := by
  rw [Plan.row, rowsEE_eq, rowsE_eq, rowsS_eq, rowsE_eq] at h
  obtain ⟨a, r1, F1, G1, rfl, h1, k1, rfl⟩ := valsF_cons h
  obtain ⟨b, r2, F2, G2, rfl, h2, k2, rfl⟩ := valsF_cons k1
  obtain ⟨c, r3, F3, G3, rfl, h3, k3, rfl⟩ := valsF_cons k2
  obtain ⟨d, r4, F4, G4, rfl, h4, k4, rfl⟩ := valsF_cons k3
  obtain ⟨e, r5, F5, G5, rfl, h5, k5, rfl⟩ := valsF_cons k4
  obtain ⟨f, r6, F6, G6, rfl, h6, k6, rfl⟩ := valsF_cons k5
  obtain ⟨r7, rfl, k7, _⟩ := valsF_lit k6
  obtain ⟨r8, rfl, k8, _⟩ := valsF_lit k7
  obtain ⟨rfl, rfl⟩ := valsF_nil k8
  exact ⟨a, b, c, d, e, f, F1, F2, F3, F4, F5, F6, rfl, h1, h2, h3, h4, h5, h6, by simp⟩
theorem Plan.mk_vals {m : World} {t on wh or it nm ds li} {a b c d e f : Value} {F1 F2 F3 F4 F5 F6 : List Nat} (h1 : CellF m (.sl t.length (t.flatMap irow)) a F1) (h2 : CellF m (.sl on.length (on.flatMap erow)) b F2)
    (h3 : CellF m (.sl wh.length (wh.flatMap PExpr.row)) c F3) (h4 : CellF m (.sl or.length (or.flatMap PSort.row)) d F4) (h5 : CellF m (.sl it.length (it.flatMap PExpr.row)) e F5) (h6 : CellF m (.sl nm.length (nm.flatMap srow)) f F6) :
    ValsF m (Plan.mk t on wh or it nm ds li).row [a, b, c, d, e, f, .bool ds, .int .i64 li] (F1 ++ (F2 ++ (F3 ++ (F4 ++ (F5 ++ F6))))) := by
  rw [Plan.row, rowsEE_eq, rowsE_eq, rowsS_eq, rowsE_eq]
  refine ⟨F1, _, h1, ⟨F2, _, h2, ⟨F3, _, h3, ⟨F4, _, h4, ⟨F5, _, h5, ⟨F6, [], h6, valsF_mk (valsF_mk rfl trivial) trivial, by simp⟩, rfl⟩, rfl⟩, rfl⟩, rfl⟩, rfl⟩
theorem PSort.vals {m : World} {e d} {vs : List Value} {F : List Nat} (h : ValsF m (PSort.mk e d).row vs F) : ∃ us, vs = us ++ [.bool d] ∧ us.length = 10 ∧ ValsF m e.row us F := by
  rw [PSort.row] at h
  obtain ⟨va, vb, Fa, Fb, rfl, rfl, h1, h2⟩ := h.split
  obtain ⟨r, rfl, h3, _⟩ := valsF_lit h2
  obtain ⟨rfl, rfl⟩ := valsF_nil h3
  exact ⟨va, rfl, by rw [h1.length, PExpr.row_len], by simpa using h1⟩
theorem PSort.mk_vals {m : World} {e d} {us : List Value} {F : List Nat} (h : ValsF m e.row us F) : ValsF m (PSort.mk e d).row (us ++ [.bool d]) F := by
  rw [PSort.row]
  have := h.join (valsF_mk (u := .bool d) (ValsF.nil_nil m) trivial)
  simpa [bool] using this

mutual
inductive ESmall : PExpr → Prop
  | mk {k o n v u a ks ss} : v.small → ks.length ≤ 1048576 → (∀ e ∈ ks, ESmall e) → ss.length ≤ 1048576 → (∀ p ∈ ss, PSmall p) → ESmall (.mk k o n v u a ks ss)
inductive PSmall : Plan → Prop
  | mk {t on wh or it nm ds li} : t.length ≤ 1048576 → on.length ≤ 1048576 → (∀ l ∈ on, l.length ≤ 1048576) → (∀ l ∈ on, ∀ e ∈ l, ESmall e) → wh.length ≤ 1048576 → (∀ e ∈ wh, ESmall e) → or.length ≤ 1048576 → (∀ s ∈ or, SSmall s) →
      it.length ≤ 1048576 → (∀ e ∈ it, ESmall e) → nm.length ≤ 1048576 → PSmall (.mk t on wh or it nm ds li)
inductive SSmall : PSort → Prop
  | mk {e d} : ESmall e → SSmall (.mk e d)
end
end Go.Proofs.Ytklligemdfnimaa

set_option linter.unusedVariables false
set_option linter.unusedSimpArgs false
set_option maxRecDepth 4000
namespace Go.Proofs.Ytklligemdfnimaa
open Go Go.Vc
def esmall (l : List PExpr) : Prop := l.length ≤ 1048576 ∧ ∀ e ∈ l, ESmall e
def tsmall (s : ByteArray) : Prop := True
def ismall (s : Int) : Prop := True
end Go.Proofs.Ytklligemdfnimaa
set_option linter.unusedVariables false
set_option linter.unusedSimpArgs false
set_option maxRecDepth 4000
namespace Go.Proofs.Ytklligemdfnimaa
open Go Go.Vc
def ToE (e : PExpr) : Prop := ∀ (m : World) (vs : List Value) (F : List Nat), ValsF m e.row vs F → ESmall e →
  FCalls Try.prog 23 #[.agg vs.toArray] m fun r m' => Grow m m' ∧ ∃ us F', r = .agg us.toArray ∧ ValsF m' e.row us F' ∧ Fresh m F' ∧ Own m' F'
def ToP (e : Plan) : Prop := ∀ (m : World) (vs : List Value) (F : List Nat), ValsF m e.row vs F → PSmall e →
  FCalls Try.prog 36 #[.agg vs.toArray] m fun r m' => Grow m m' ∧ ∃ us F', r = .agg us.toArray ∧ ValsF m' e.row us F' ∧ Fresh m F' ∧ Own m' F'
def ToO (e : PSort) : Prop := ∀ (m : World) (vs : List Value) (F : List Nat), ValsF m e.row vs F → SSmall e →
  FCalls Try.prog 149 #[.agg vs.toArray] m fun r m' => Grow m m' ∧ ∃ us F', r = .agg us.toArray ∧ ValsF m' e.row us F' ∧ Fresh m F' ∧ Own m' F'
theorem toPExprS (es : List PExpr) (hx : ∀ e ∈ es, ToE e) (m : World) (v : Value) (F : List Nat) (h : CellF m (.sl es.length (es.flatMap PExpr.row)) v F) (hs : es.length ≤ 1048576 ∧ ∀ e ∈ es, ESmall e) :
   FCalls Try.prog 70 #[v] m fun r m' => Grow m m' ∧ ∃ F', CellF m' (.sl es.length (es.flatMap PExpr.row)) r F' ∧ Fresh m F' ∧ Own m' F' := by
  obtain ⟨a, cap, rfl, hcap, hmax, _⟩ := h.slice
  have hmax' : cap ≤ 9223372036854775807 := hmax
  refine fcalls_of_vc (args := [_]) follows_mixed Try.func70 rfl (by kernel_rfl) (by simp [Try.f70]) ?_
  simp only [Try.f70, vcs, tbl, crs, List.map, reduceIte, Nat.reduceLT, Nat.reduceLeDiff, Nat.reduceEqDiff, Nat.reduceAdd, Nat.reduceMul, Nat.reduceSub]
  refine ⟨by omega, by omega, by omega, ?_⟩
  refine vcLoop.intro (fun f L m1 => ∃ (k : Nat) (dn : List Value) (F1 : List Nat), f 4 = .c (.v (.int .i64 k)) ∧ L = [(7, .arr 56 (dn ++ (List.replicate (es.length - k) [.int .i64 0, .int .i64 0, .bool false, .int .i64 0, .int .i64 0, .string ByteArray.empty, .int .i64 0, .int .i64 0, .slice none 0 0, .slice none 0 0]).flatten) es.length)] ∧ k ≤ es.length ∧ Grow m m1 ∧ ValsF m1 ((es.take k).flatMap PExpr.row) dn F1 ∧ Fresh m F1 ∧ Own m1 F1)
    (fun f _ _ => (es.length - ixS (f 4)).toNat) ⟨[(7, .arr 56 (List.replicate es.length [.int .i64 0, .int .i64 0, .bool false, .int .i64 0, .int .i64 0, .string ByteArray.empty, .int .i64 0, .int .i64 0, .slice none 0 0, .slice none 0 0]).flatten es.length)], Sub.cons ?_ (Sub.nil _), 0, [], [], ?_⟩ ?_
  rotate_left
  · simp only [vcs, tbl, crs, List.map, reduceIte, Nat.reduceLT, Nat.reduceLeDiff, Nat.reduceEqDiff, Nat.reduceAdd, Nat.reduceMul, Nat.reduceSub]
    exact ⟨rfl, rfl, by omega, Grow.refl _, rfl, Fresh.nil m, Own.nil m⟩
  rotate_left
  · simp only [vcs, tbl, crs, List.map, reduceIte, Nat.reduceLT, Nat.reduceLeDiff, Nat.reduceEqDiff, Nat.reduceAdd, Nat.reduceMul, Nat.reduceSub]
  · rintro g L1 m1 ⟨k, dn, F1, h4, rfl, hk, hg, hdn, hfr, how⟩
    have hdl : dn.length = k * 10 := by rw [hdn.length, flatMap_len PExpr.row_len, List.length_take]; congr 1; omega
    simp only [vcs, tbl, crs, List.map, reduceIte, Nat.reduceLT, Nat.reduceLeDiff, Nat.reduceEqDiff, Nat.reduceAdd, Nat.reduceMul, Nat.reduceSub] at h4
    simp only [vcs, tbl, crs, List.map, reduceIte, Nat.reduceLT, Nat.reduceLeDiff, Nat.reduceEqDiff, Nat.reduceAdd, Nat.reduceMul, Nat.reduceSub, h4]
    refine ⟨fun hlt => ?_, fun hge => ?_⟩
    · have hlt : k < es.length := by omega
      obtain ⟨ad, vs, Fk, ha, hlen, hcell, hv, _⟩ := h.elem PExpr.row_len (by decide) (List.getElem?_eq_getElem hlt)
      refine ⟨by omega, by omega, ad, ha, vs, hlen, fun j v hj => hg.cell (by simpa using hcell j v hj), ?_⟩
      simp only [vcs, tbl, crs, List.map, reduceIte, Nat.reduceLT, Nat.reduceLeDiff, Nat.reduceEqDiff, Nat.reduceAdd, Nat.reduceMul, Nat.reduceSub, h4]
      refine (hx _ (List.getElem_mem hlt) _ _ _ (hv.grow hg) (hs.2 _ (List.getElem_mem hlt))).mono ?_
      rintro r m2 ⟨hg2, us, F2, rfl, hvr, hf2, ho2⟩
      have hyl := hvr.length
      rw [PExpr.row_len] at hyl
      simp only [vcs, tbl, crs, List.map, reduceIte, Nat.reduceLT, Nat.reduceLeDiff, Nat.reduceEqDiff, Nat.reduceAdd, Nat.reduceMul, Nat.reduceSub, h4, hyl]
      refine ⟨by omega, by omega, by simp, ?_, hvr.oneCell, _, Sub.one _ _, ⟨k + 1, dn ++ us, F1 ++ F2, ?_, ?_, by omega, hg.trans hg2, ?_, hfr.join hg (hdn.vis) hf2, (how.grow hg2).app ho2⟩, ?_⟩
      · rw [fill_len, hdl]
        have : k * 10 + 10 ≤ k * 10 + (es.length - k) * 10 := by omega
        simpa using this
      · rw [wrap_id (by omega) (by omega)]; simp
      · exact congrArg (fun z => [(7, Box.arr 56 z es.length)]) (fill_eq hdl hyl rfl hlt)
      · rw [List.take_add_one, List.getElem?_eq_getElem hlt, List.flatMap_append]
        refine (hdn.grow hg2).join ?_
        simpa using hvr
      · rw [wrap_id (by omega) (by omega)]; omega
    · have : k = es.length := by omega
      subst this
      intro b m' hp
      refine ⟨hg.trans hp.grow, ?_⟩
      rw [Nat.sub_self, List.replicate_zero, List.flatten_nil, List.append_nil] at hp
      rw [List.take_length] at hdn
      exact CellF.of_pubO hp hdn hg hfr how (Nat.le_refl _) (Nat.le_trans hcap hmax)

theorem toPlanS (es : List Plan) (hx : ∀ e ∈ es, ToP e) (m : World) (v : Value) (F : List Nat) (h : CellF m (.sl es.length (es.flatMap Plan.row)) v F) (hs : es.length ≤ 1048576 ∧ ∀ e ∈ es, PSmall e) :
   FCalls Try.prog 71 #[v] m fun r m' => Grow m m' ∧ ∃ F', CellF m' (.sl es.length (es.flatMap Plan.row)) r F' ∧ Fresh m F' ∧ Own m' F' := by
  obtain ⟨a, cap, rfl, hcap, hmax, _⟩ := h.slice
  have hmax' : cap ≤ 9223372036854775807 := hmax
  refine fcalls_of_vc (args := [_]) follows_mixed Try.func71 rfl (by kernel_rfl) (by simp [Try.f71]) ?_
  simp only [Try.f71, vcs, tbl, crs, List.map, reduceIte, Nat.reduceLT, Nat.reduceLeDiff, Nat.reduceEqDiff, Nat.reduceAdd, Nat.reduceMul, Nat.reduceSub]
  refine ⟨by omega, by omega, by omega, ?_⟩
  refine vcLoop.intro (fun f L m1 => ∃ (k : Nat) (dn : List Value) (F1 : List Nat), f 4 = .c (.v (.int .i64 k)) ∧ L = [(7, .arr 74 (dn ++ (List.replicate (es.length - k) [.slice none 0 0, .slice none 0 0, .slice none 0 0, .slice none 0 0, .slice none 0 0, .slice none 0 0, .bool false, .int .i64 0]).flatten) es.length)] ∧ k ≤ es.length ∧ Grow m m1 ∧ ValsF m1 ((es.take k).flatMap Plan.row) dn F1 ∧ Fresh m F1 ∧ Own m1 F1)
    (fun f _ _ => (es.length - ixS (f 4)).toNat) ⟨[(7, .arr 74 (List.replicate es.length [.slice none 0 0, .slice none 0 0, .slice none 0 0, .slice none 0 0, .slice none 0 0, .slice none 0 0, .bool false, .int .i64 0]).flatten es.length)], Sub.cons ?_ (Sub.nil _), 0, [], [], ?_⟩ ?_
  rotate_left
  · simp only [vcs, tbl, crs, List.map, reduceIte, Nat.reduceLT, Nat.reduceLeDiff, Nat.reduceEqDiff, Nat.reduceAdd, Nat.reduceMul, Nat.reduceSub]
    exact ⟨rfl, rfl, by omega, Grow.refl _, rfl, Fresh.nil m, Own.nil m⟩
  rotate_left
  · simp only [vcs, tbl, crs, List.map, reduceIte, Nat.reduceLT, Nat.reduceLeDiff, Nat.reduceEqDiff, Nat.reduceAdd, Nat.reduceMul, Nat.reduceSub]
  · rintro g L1 m1 ⟨k, dn, F1, h4, rfl, hk, hg, hdn, hfr, how⟩
    have hdl : dn.length = k * 8 := by rw [hdn.length, flatMap_len Plan.row_len, List.length_take]; congr 1; omega
    simp only [vcs, tbl, crs, List.map, reduceIte, Nat.reduceLT, Nat.reduceLeDiff, Nat.reduceEqDiff, Nat.reduceAdd, Nat.reduceMul, Nat.reduceSub] at h4
    simp only [vcs, tbl, crs, List.map, reduceIte, Nat.reduceLT, Nat.reduceLeDiff, Nat.reduceEqDiff, Nat.reduceAdd, Nat.reduceMul, Nat.reduceSub, h4]
    refine ⟨fun hlt => ?_, fun hge => ?_⟩
    · have hlt : k < es.length := by omega
      obtain ⟨ad, vs, Fk, ha, hlen, hcell, hv, _⟩ := h.elem Plan.row_len (by decide) (List.getElem?_eq_getElem hlt)
      refine ⟨by omega, by omega, ad, ha, vs, hlen, fun j v hj => hg.cell (by simpa using hcell j v hj), ?_⟩
      simp only [vcs, tbl, crs, List.map, reduceIte, Nat.reduceLT, Nat.reduceLeDiff, Nat.reduceEqDiff, Nat.reduceAdd, Nat.reduceMul, Nat.reduceSub, h4]
      refine (hx _ (List.getElem_mem hlt) _ _ _ (hv.grow hg) (hs.2 _ (List.getElem_mem hlt))).mono ?_
      rintro r m2 ⟨hg2, us, F2, rfl, hvr, hf2, ho2⟩
      have hyl := hvr.length
      rw [Plan.row_len] at hyl
      simp only [vcs, tbl, crs, List.map, reduceIte, Nat.reduceLT, Nat.reduceLeDiff, Nat.reduceEqDiff, Nat.reduceAdd, Nat.reduceMul, Nat.reduceSub, h4, hyl]
      refine ⟨by omega, by omega, by simp, ?_, hvr.oneCell, _, Sub.one _ _, ⟨k + 1, dn ++ us, F1 ++ F2, ?_, ?_, by omega, hg.trans hg2, ?_, hfr.join hg (hdn.vis) hf2, (how.grow hg2).app ho2⟩, ?_⟩
      · rw [fill_len, hdl]
        have : k * 8 + 8 ≤ k * 8 + (es.length - k) * 8 := by omega
        simpa using this
      · rw [wrap_id (by omega) (by omega)]; simp
      · exact congrArg (fun z => [(7, Box.arr 74 z es.length)]) (fill_eq hdl hyl rfl hlt)
      · rw [List.take_add_one, List.getElem?_eq_getElem hlt, List.flatMap_append]
        refine (hdn.grow hg2).join ?_
        simpa using hvr
      · rw [wrap_id (by omega) (by omega)]; omega
    · have : k = es.length := by omega
      subst this
      intro b m' hp
      refine ⟨hg.trans hp.grow, ?_⟩
      rw [Nat.sub_self, List.replicate_zero, List.flatten_nil, List.append_nil] at hp
      rw [List.take_length] at hdn
      exact CellF.of_pubO hp hdn hg hfr how (Nat.le_refl _) (Nat.le_trans hcap hmax)

theorem toPSortS (es : List PSort) (hx : ∀ e ∈ es, ToO e) (m : World) (v : Value) (F : List Nat) (h : CellF m (.sl es.length (es.flatMap PSort.row)) v F) (hs : es.length ≤ 1048576 ∧ ∀ e ∈ es, SSmall e) :
   FCalls Try.prog 98 #[v] m fun r m' => Grow m m' ∧ ∃ F', CellF m' (.sl es.length (es.flatMap PSort.row)) r F' ∧ Fresh m F' ∧ Own m' F' := by
  obtain ⟨a, cap, rfl, hcap, hmax, _⟩ := h.slice
  have hmax' : cap ≤ 9223372036854775807 := hmax
  refine fcalls_of_vc (args := [_]) follows_mixed Try.func98 rfl (by kernel_rfl) (by simp [Try.f98]) ?_
  simp only [Try.f98, vcs, tbl, crs, List.map, reduceIte, Nat.reduceLT, Nat.reduceLeDiff, Nat.reduceEqDiff, Nat.reduceAdd, Nat.reduceMul, Nat.reduceSub]
  refine ⟨by omega, by omega, by omega, ?_⟩
  refine vcLoop.intro (fun f L m1 => ∃ (k : Nat) (dn : List Value) (F1 : List Nat), f 4 = .c (.v (.int .i64 k)) ∧ L = [(7, .arr 122 (dn ++ (List.replicate (es.length - k) [.int .i64 0, .int .i64 0, .bool false, .int .i64 0, .int .i64 0, .string ByteArray.empty, .int .i64 0, .int .i64 0, .slice none 0 0, .slice none 0 0, .bool false]).flatten) es.length)] ∧ k ≤ es.length ∧ Grow m m1 ∧ ValsF m1 ((es.take k).flatMap PSort.row) dn F1 ∧ Fresh m F1 ∧ Own m1 F1)
    (fun f _ _ => (es.length - ixS (f 4)).toNat) ⟨[(7, .arr 122 (List.replicate es.length [.int .i64 0, .int .i64 0, .bool false, .int .i64 0, .int .i64 0, .string ByteArray.empty, .int .i64 0, .int .i64 0, .slice none 0 0, .slice none 0 0, .bool false]).flatten es.length)], Sub.cons ?_ (Sub.nil _), 0, [], [], ?_⟩ ?_
  rotate_left
  · simp only [vcs, tbl, crs, List.map, reduceIte, Nat.reduceLT, Nat.reduceLeDiff, Nat.reduceEqDiff, Nat.reduceAdd, Nat.reduceMul, Nat.reduceSub]
    exact ⟨rfl, rfl, by omega, Grow.refl _, rfl, Fresh.nil m, Own.nil m⟩
  rotate_left
  · simp only [vcs, tbl, crs, List.map, reduceIte, Nat.reduceLT, Nat.reduceLeDiff, Nat.reduceEqDiff, Nat.reduceAdd, Nat.reduceMul, Nat.reduceSub]
  · rintro g L1 m1 ⟨k, dn, F1, h4, rfl, hk, hg, hdn, hfr, how⟩
    have hdl : dn.length = k * 11 := by rw [hdn.length, flatMap_len PSort.row_len, List.length_take]; congr 1; omega
    simp only [vcs, tbl, crs, List.map, reduceIte, Nat.reduceLT, Nat.reduceLeDiff, Nat.reduceEqDiff, Nat.reduceAdd, Nat.reduceMul, Nat.reduceSub] at h4
    simp only [vcs, tbl, crs, List.map, reduceIte, Nat.reduceLT, Nat.reduceLeDiff, Nat.reduceEqDiff, Nat.reduceAdd, Nat.reduceMul, Nat.reduceSub, h4]
    refine ⟨fun hlt => ?_, fun hge => ?_⟩
    · have hlt : k < es.length := by omega
      obtain ⟨ad, vs, Fk, ha, hlen, hcell, hv, _⟩ := h.elem PSort.row_len (by decide) (List.getElem?_eq_getElem hlt)
      refine ⟨by omega, by omega, ad, ha, vs, hlen, fun j v hj => hg.cell (by simpa using hcell j v hj), ?_⟩
      simp only [vcs, tbl, crs, List.map, reduceIte, Nat.reduceLT, Nat.reduceLeDiff, Nat.reduceEqDiff, Nat.reduceAdd, Nat.reduceMul, Nat.reduceSub, h4]
      refine (hx _ (List.getElem_mem hlt) _ _ _ (hv.grow hg) (hs.2 _ (List.getElem_mem hlt))).mono ?_
      rintro r m2 ⟨hg2, us, F2, rfl, hvr, hf2, ho2⟩
      have hyl := hvr.length
      rw [PSort.row_len] at hyl
      simp only [vcs, tbl, crs, List.map, reduceIte, Nat.reduceLT, Nat.reduceLeDiff, Nat.reduceEqDiff, Nat.reduceAdd, Nat.reduceMul, Nat.reduceSub, h4, hyl]
      refine ⟨by omega, by omega, by simp, ?_, hvr.oneCell, _, Sub.one _ _, ⟨k + 1, dn ++ us, F1 ++ F2, ?_, ?_, by omega, hg.trans hg2, ?_, hfr.join hg (hdn.vis) hf2, (how.grow hg2).app ho2⟩, ?_⟩
      · rw [fill_len, hdl]
        have : k * 11 + 11 ≤ k * 11 + (es.length - k) * 11 := by omega
        simpa using this
      · rw [wrap_id (by omega) (by omega)]; simp
      · exact congrArg (fun z => [(7, Box.arr 122 z es.length)]) (fill_eq hdl hyl rfl hlt)
      · rw [List.take_add_one, List.getElem?_eq_getElem hlt, List.flatMap_append]
        refine (hdn.grow hg2).join ?_
        simpa using hvr
      · rw [wrap_id (by omega) (by omega)]; omega
    · have : k = es.length := by omega
      subst this
      intro b m' hp
      refine ⟨hg.trans hp.grow, ?_⟩
      rw [Nat.sub_self, List.replicate_zero, List.flatten_nil, List.append_nil] at hp
      rw [List.take_length] at hdn
      exact CellF.of_pubO hp hdn hg hfr how (Nat.le_refl _) (Nat.le_trans hcap hmax)

theorem toPExprSS (es : List (List PExpr)) (hx : ∀ l ∈ es, ∀ e ∈ l, ToE e) (m : World) (v : Value) (F : List Nat) (h : CellF m (.sl es.length (es.flatMap erow)) v F) (hs : es.length ≤ 1048576 ∧ ∀ e ∈ es, esmall e) :
   FCalls Try.prog 97 #[v] m fun r m' => Grow m m' ∧ ∃ F', CellF m' (.sl es.length (es.flatMap erow)) r F' ∧ Fresh m F' ∧ Own m' F' := by
  obtain ⟨a, cap, rfl, hcap, hmax, _⟩ := h.slice
  have hmax' : cap ≤ 9223372036854775807 := hmax
  refine fcalls_of_vc (args := [_]) follows_mixed Try.func97 rfl (by kernel_rfl) (by simp [Try.f97]) ?_
  simp only [Try.f97, vcs, tbl, crs, List.map, reduceIte, Nat.reduceLT, Nat.reduceLeDiff, Nat.reduceEqDiff, Nat.reduceAdd, Nat.reduceMul, Nat.reduceSub]
  refine ⟨by omega, by omega, by omega, ?_⟩
  refine vcLoop.intro (fun f L m1 => ∃ (k : Nat) (dn : List Value) (F1 : List Nat), f 4 = .c (.v (.int .i64 k)) ∧ L = [(7, .arr 53 (dn ++ (List.replicate (es.length - k) [.slice none 0 0]).flatten) es.length)] ∧ k ≤ es.length ∧ Grow m m1 ∧ ValsF m1 ((es.take k).flatMap erow) dn F1 ∧ Fresh m F1 ∧ Own m1 F1)
    (fun f _ _ => (es.length - ixS (f 4)).toNat) ⟨[(7, .arr 53 (List.replicate es.length [.slice none 0 0]).flatten es.length)], Sub.cons ?_ (Sub.nil _), 0, [], [], ?_⟩ ?_
  rotate_left
  · simp only [vcs, tbl, crs, List.map, reduceIte, Nat.reduceLT, Nat.reduceLeDiff, Nat.reduceEqDiff, Nat.reduceAdd, Nat.reduceMul, Nat.reduceSub]
    exact ⟨rfl, rfl, by omega, Grow.refl _, rfl, Fresh.nil m, Own.nil m⟩
  rotate_left
  · simp only [vcs, tbl, crs, List.map, reduceIte, Nat.reduceLT, Nat.reduceLeDiff, Nat.reduceEqDiff, Nat.reduceAdd, Nat.reduceMul, Nat.reduceSub]
  · rintro g L1 m1 ⟨k, dn, F1, h4, rfl, hk, hg, hdn, hfr, how⟩
    have hdl : dn.length = k * 1 := by rw [hdn.length, flatMap_len erow_len, List.length_take]; congr 1; omega
    simp only [vcs, tbl, crs, List.map, reduceIte, Nat.reduceLT, Nat.reduceLeDiff, Nat.reduceEqDiff, Nat.reduceAdd, Nat.reduceMul, Nat.reduceSub] at h4
    simp only [vcs, tbl, crs, List.map, reduceIte, Nat.reduceLT, Nat.reduceLeDiff, Nat.reduceEqDiff, Nat.reduceAdd, Nat.reduceMul, Nat.reduceSub, h4]
    refine ⟨fun hlt => ?_, fun hge => ?_⟩
    · have hlt : k < es.length := by omega
      obtain ⟨ad, vs, Fk, ha, hlen, hcell, hv, _⟩ := h.elem erow_len (by decide) (List.getElem?_eq_getElem hlt)
      obtain ⟨u, hu⟩ : ∃ u, vs[0]? = some u := ⟨vs[0]'(by omega), List.getElem?_eq_getElem _⟩
      have hcu := hg.cell (hcell 0 u hu)
      rw [add0] at hcu
      have hvu := (ValsF.one hv hu).grow hg
      refine ⟨by omega, by omega, ad, ha, u, hcu, ?_⟩
      simp only [vcs, tbl, crs, List.map, reduceIte, Nat.reduceLT, Nat.reduceLeDiff, Nat.reduceEqDiff, Nat.reduceAdd, Nat.reduceMul, Nat.reduceSub, h4]
      refine (toPExprS _ (hx _ (List.getElem_mem hlt)) _ _ _ hvu (hs.2 _ (List.getElem_mem hlt))).mono ?_
      rintro r m2 ⟨hg2, F2, hv2, hf2, ho2⟩
      obtain ⟨us, hus, hvr⟩ : ∃ us, us = [r] ∧ ValsF m2 (erow es[k]) us F2 := ⟨_, rfl, ValsF.single hv2⟩
      obtain ⟨a2, cap2, rfl, _⟩ := hv2.slice
      subst hus
      have hyl := hvr.length
      rw [erow_len] at hyl
      simp only [vcs, tbl, crs, List.map, reduceIte, Nat.reduceLT, Nat.reduceLeDiff, Nat.reduceEqDiff, Nat.reduceAdd, Nat.reduceMul, Nat.reduceSub, h4, hyl]
      refine ⟨by omega, by omega, by simp, ?_, hvr.oneCell, _, Sub.one _ _, ⟨k + 1, dn ++ [.slice a2 es[k].length cap2], F1 ++ F2, ?_, ?_, by omega, hg.trans hg2, ?_, hfr.join hg (hdn.vis) hf2, (how.grow hg2).app ho2⟩, ?_⟩
      · rw [fill_len, hdl]
        have : k * 1 + 1 ≤ k * 1 + (es.length - k) * 1 := by omega
        simpa using this
      · rw [wrap_id (by omega) (by omega)]; simp
      · exact congrArg (fun z => [(7, Box.arr 53 z es.length)]) (fill_eq hdl hyl rfl hlt)
      · rw [List.take_add_one, List.getElem?_eq_getElem hlt, List.flatMap_append]
        refine (hdn.grow hg2).join ?_
        simpa using hvr
      · rw [wrap_id (by omega) (by omega)]; omega
    · have : k = es.length := by omega
      subst this
      intro b m' hp
      refine ⟨hg.trans hp.grow, ?_⟩
      rw [Nat.sub_self, List.replicate_zero, List.flatten_nil, List.append_nil] at hp
      rw [List.take_length] at hdn
      exact CellF.of_pubO hp hdn hg hfr how (Nat.le_refl _) (Nat.le_trans hcap hmax)

theorem toIntS (es : List Int)  (m : World) (v : Value) (F : List Nat) (h : CellF m (.sl es.length (es.flatMap irow)) v F) (hs : es.length ≤ 1048576 ∧ ∀ e ∈ es, ismall e) :
   FCalls Try.prog 96 #[v] m fun r m' => Grow m m' ∧ ∃ F', CellF m' (.sl es.length (es.flatMap irow)) r F' ∧ Fresh m F' ∧ Own m' F' := by
  obtain ⟨a, cap, rfl, hcap, hmax, _⟩ := h.slice
  have hmax' : cap ≤ 9223372036854775807 := hmax
  refine fcalls_of_vc (args := [_]) follows_mixed Try.func96 rfl (by kernel_rfl) (by simp [Try.f96]) ?_
  simp only [Try.f96, vcs, tbl, crs, List.map, reduceIte, Nat.reduceLT, Nat.reduceLeDiff, Nat.reduceEqDiff, Nat.reduceAdd, Nat.reduceMul, Nat.reduceSub]
  refine ⟨by omega, by omega, by omega, ?_⟩
  refine vcLoop.intro (fun f L m1 => ∃ (k : Nat) (dn : List Value) (F1 : List Nat), f 4 = .c (.v (.int .i64 k)) ∧ L = [(7, .arr 3 (dn ++ (List.replicate (es.length - k) [.int .i64 0]).flatten) es.length)] ∧ k ≤ es.length ∧ Grow m m1 ∧ ValsF m1 ((es.take k).flatMap irow) dn F1 ∧ Fresh m F1 ∧ Own m1 F1)
    (fun f _ _ => (es.length - ixS (f 4)).toNat) ⟨[(7, .arr 3 (List.replicate es.length [.int .i64 0]).flatten es.length)], Sub.cons ?_ (Sub.nil _), 0, [], [], ?_⟩ ?_
  rotate_left
  · simp only [vcs, tbl, crs, List.map, reduceIte, Nat.reduceLT, Nat.reduceLeDiff, Nat.reduceEqDiff, Nat.reduceAdd, Nat.reduceMul, Nat.reduceSub]
    exact ⟨rfl, rfl, by omega, Grow.refl _, rfl, Fresh.nil m, Own.nil m⟩
  rotate_left
  · simp only [vcs, tbl, crs, List.map, reduceIte, Nat.reduceLT, Nat.reduceLeDiff, Nat.reduceEqDiff, Nat.reduceAdd, Nat.reduceMul, Nat.reduceSub]
  · rintro g L1 m1 ⟨k, dn, F1, h4, rfl, hk, hg, hdn, hfr, how⟩
    have hdl : dn.length = k * 1 := by rw [hdn.length, flatMap_len irow_len, List.length_take]; congr 1; omega
    simp only [vcs, tbl, crs, List.map, reduceIte, Nat.reduceLT, Nat.reduceLeDiff, Nat.reduceEqDiff, Nat.reduceAdd, Nat.reduceMul, Nat.reduceSub] at h4
    simp only [vcs, tbl, crs, List.map, reduceIte, Nat.reduceLT, Nat.reduceLeDiff, Nat.reduceEqDiff, Nat.reduceAdd, Nat.reduceMul, Nat.reduceSub, h4]
    refine ⟨fun hlt => ?_, fun hge => ?_⟩
    · have hlt : k < es.length := by omega
      obtain ⟨ad, vs, Fk, ha, hlen, hcell, hv, _⟩ := h.elem irow_len (by decide) (List.getElem?_eq_getElem hlt)
      obtain ⟨r1, rfl, hv1, ho⟩ := valsF_lit hv
      have hcu := hg.cell (hcell 0 _ rfl)
      rw [add0] at hcu
      refine ⟨by omega, by omega, ad, ha, _, hcu, ?_⟩
      have hvr : ValsF m1 (irow es[k]) [.int .i64 es[k]] [] := valsF_mk (ValsF.nil_nil _) ho
      have hg2 : Grow m1 m1 := Grow.refl _
      have hf2 : Fresh m1 [] := Fresh.nil _
      have ho2 : Own m1 [] := Own.nil _
      have hyl := hvr.length
      rw [irow_len] at hyl
      simp only [vcs, tbl, crs, List.map, reduceIte, Nat.reduceLT, Nat.reduceLeDiff, Nat.reduceEqDiff, Nat.reduceAdd, Nat.reduceMul, Nat.reduceSub, h4, hyl]
      refine ⟨by omega, by omega, by simp, ?_, hvr.oneCell, _, Sub.one _ _, ⟨k + 1, dn ++ [.int .i64 es[k]], F1 ++ [], ?_, ?_, by omega, hg.trans hg2, ?_, hfr.join hg (hdn.vis) hf2, (how.grow hg2).app ho2⟩, ?_⟩
      · rw [fill_len, hdl]
        have : k * 1 + 1 ≤ k * 1 + (es.length - k) * 1 := by omega
        simpa using this
      · rw [wrap_id (by omega) (by omega)]; simp
      · exact congrArg (fun z => [(7, Box.arr 3 z es.length)]) (fill_eq hdl hyl rfl hlt)
      · rw [List.take_add_one, List.getElem?_eq_getElem hlt, List.flatMap_append]
        refine (hdn.grow hg2).join ?_
        simpa using hvr
      · rw [wrap_id (by omega) (by omega)]; omega
    · have : k = es.length := by omega
      subst this
      intro b m' hp
      refine ⟨hg.trans hp.grow, ?_⟩
      rw [Nat.sub_self, List.replicate_zero, List.flatten_nil, List.append_nil] at hp
      rw [List.take_length] at hdn
      exact CellF.of_pubO hp hdn hg hfr how (Nat.le_refl _) (Nat.le_trans hcap hmax)

theorem toStringS (es : List ByteArray)  (m : World) (v : Value) (F : List Nat) (h : CellF m (.sl es.length (es.flatMap srow)) v F) (hs : es.length ≤ 1048576 ∧ ∀ e ∈ es, tsmall e) :
   FCalls Try.prog 99 #[v] m fun r m' => Grow m m' ∧ ∃ F', CellF m' (.sl es.length (es.flatMap srow)) r F' ∧ Fresh m F' ∧ Own m' F' := by
  obtain ⟨a, cap, rfl, hcap, hmax, _⟩ := h.slice
  have hmax' : cap ≤ 9223372036854775807 := hmax
  refine fcalls_of_vc (args := [_]) follows_mixed Try.func99 rfl (by kernel_rfl) (by simp [Try.f99]) ?_
  simp only [Try.f99, vcs, tbl, crs, List.map, reduceIte, Nat.reduceLT, Nat.reduceLeDiff, Nat.reduceEqDiff, Nat.reduceAdd, Nat.reduceMul, Nat.reduceSub]
  refine ⟨by omega, by omega, by omega, ?_⟩
  refine vcLoop.intro (fun f L m1 => ∃ (k : Nat) (dn : List Value) (F1 : List Nat), f 4 = .c (.v (.int .i64 k)) ∧ L = [(7, .arr 9 (dn ++ (List.replicate (es.length - k) [.string ByteArray.empty]).flatten) es.length)] ∧ k ≤ es.length ∧ Grow m m1 ∧ ValsF m1 ((es.take k).flatMap srow) dn F1 ∧ Fresh m F1 ∧ Own m1 F1)
    (fun f _ _ => (es.length - ixS (f 4)).toNat) ⟨[(7, .arr 9 (List.replicate es.length [.string ByteArray.empty]).flatten es.length)], Sub.cons ?_ (Sub.nil _), 0, [], [], ?_⟩ ?_
  rotate_left
  · simp only [vcs, tbl, crs, List.map, reduceIte, Nat.reduceLT, Nat.reduceLeDiff, Nat.reduceEqDiff, Nat.reduceAdd, Nat.reduceMul, Nat.reduceSub]
    exact ⟨rfl, rfl, by omega, Grow.refl _, rfl, Fresh.nil m, Own.nil m⟩
  rotate_left
  · simp only [vcs, tbl, crs, List.map, reduceIte, Nat.reduceLT, Nat.reduceLeDiff, Nat.reduceEqDiff, Nat.reduceAdd, Nat.reduceMul, Nat.reduceSub]
  · rintro g L1 m1 ⟨k, dn, F1, h4, rfl, hk, hg, hdn, hfr, how⟩
    have hdl : dn.length = k * 1 := by rw [hdn.length, flatMap_len srow_len, List.length_take]; congr 1; omega
    simp only [vcs, tbl, crs, List.map, reduceIte, Nat.reduceLT, Nat.reduceLeDiff, Nat.reduceEqDiff, Nat.reduceAdd, Nat.reduceMul, Nat.reduceSub] at h4
    simp only [vcs, tbl, crs, List.map, reduceIte, Nat.reduceLT, Nat.reduceLeDiff, Nat.reduceEqDiff, Nat.reduceAdd, Nat.reduceMul, Nat.reduceSub, h4]
    refine ⟨fun hlt => ?_, fun hge => ?_⟩
    · have hlt : k < es.length := by omega
      obtain ⟨ad, vs, Fk, ha, hlen, hcell, hv, _⟩ := h.elem srow_len (by decide) (List.getElem?_eq_getElem hlt)
      obtain ⟨r1, rfl, hv1, ho⟩ := valsF_lit hv
      have hcu := hg.cell (hcell 0 _ rfl)
      rw [add0] at hcu
      refine ⟨by omega, by omega, ad, ha, _, hcu, ?_⟩
      have hvr : ValsF m1 (srow es[k]) [.string es[k]] [] := valsF_mk (ValsF.nil_nil _) ho
      have hg2 : Grow m1 m1 := Grow.refl _
      have hf2 : Fresh m1 [] := Fresh.nil _
      have ho2 : Own m1 [] := Own.nil _
      have hyl := hvr.length
      rw [srow_len] at hyl
      simp only [vcs, tbl, crs, List.map, reduceIte, Nat.reduceLT, Nat.reduceLeDiff, Nat.reduceEqDiff, Nat.reduceAdd, Nat.reduceMul, Nat.reduceSub, h4, hyl]
      refine ⟨by omega, by omega, by simp, ?_, hvr.oneCell, _, Sub.one _ _, ⟨k + 1, dn ++ [.string es[k]], F1 ++ [], ?_, ?_, by omega, hg.trans hg2, ?_, hfr.join hg (hdn.vis) hf2, (how.grow hg2).app ho2⟩, ?_⟩
      · rw [fill_len, hdl]
        have : k * 1 + 1 ≤ k * 1 + (es.length - k) * 1 := by omega
        simpa using this
      · rw [wrap_id (by omega) (by omega)]; simp
      · exact congrArg (fun z => [(7, Box.arr 9 z es.length)]) (fill_eq hdl hyl rfl hlt)
      · rw [List.take_add_one, List.getElem?_eq_getElem hlt, List.flatMap_append]
        refine (hdn.grow hg2).join ?_
        simpa using hvr
      · rw [wrap_id (by omega) (by omega)]; omega
    · have : k = es.length := by omega
      subst this
      intro b m' hp
      refine ⟨hg.trans hp.grow, ?_⟩
      rw [Nat.sub_self, List.replicate_zero, List.flatten_nil, List.append_nil] at hp
      rw [List.take_length] at hdn
      exact CellF.of_pubO hp hdn hg hfr how (Nat.le_refl _) (Nat.le_trans hcap hmax)

theorem toPExpr_step (k o n v u a ks ss) (hk : ∀ e ∈ ks, ToE e) (hp : ∀ p ∈ ss, ToP p) : ToE (.mk k o n v u a ks ss) := by
  intro m vs F h hs
  obtain ⟨x, y, F1, F2, rfl, hv, c1, c2, rfl⟩ := PExpr.vals h
  obtain ⟨s1, s2, s3, s4, s5⟩ := hs
  obtain ⟨ax, px, rfl, _⟩ := c1.slice
  obtain ⟨ay, py, rfl, _⟩ := c2.slice
  refine fcalls_of_vc (args := [_]) follows_mixed Try.func23 rfl (by kernel_rfl) (by simp [Try.f23]) ?_
  simp only [Try.f23, vcs, tbl, crs, List.map, reduceIte, Nat.reduceLT, Nat.reduceLeDiff, Nat.reduceEqDiff, Nat.reduceAdd, Nat.reduceMul, Nat.reduceSub]
  refine (toValue v _ _ _ (Val.mk_vals _ _ hv) s1).mono ?_
  rintro r m1 ⟨hg1, us, F', rfl, hv1, hf1, ho1⟩
  obtain ⟨rfl, rfl, _⟩ := Val.vals hv1
  simp only [vcs, tbl, crs, List.map, reduceIte, Nat.reduceLT, Nat.reduceLeDiff, Nat.reduceEqDiff, Nat.reduceAdd, Nat.reduceMul, Nat.reduceSub]
  refine (toPExprS _ hk _ _ _ (c1.grow hg1) ⟨s2, s3⟩).mono ?_
  rintro r m2 ⟨hg2, F2', cv2, hf2, ho2⟩
  have g2 := hg1.trans hg2
  obtain ⟨a2, p2, rfl, _⟩ := cv2.slice
  simp only [vcs, tbl, crs, List.map, reduceIte, Nat.reduceLT, Nat.reduceLeDiff, Nat.reduceEqDiff, Nat.reduceAdd, Nat.reduceMul, Nat.reduceSub]
  refine (toPlanS _ hp _ _ _ (c2.grow g2) ⟨s4, s5⟩).mono ?_
  rintro r m3 ⟨hg3, F3', cv3, hf3, ho3⟩
  have g3 := g2.trans hg3
  obtain ⟨a3, p3, rfl, _⟩ := cv3.slice
  simp only [vcs, tbl, crs, List.map, reduceIte, Nat.reduceLT, Nat.reduceLeDiff, Nat.reduceEqDiff, Nat.reduceAdd, Nat.reduceMul, Nat.reduceSub]
  exact ⟨g3, _, _, rfl, PExpr.mk_vals hv (cv2.grow hg3) cv3, (hf2.grow' hg1).join g2 (CellF.vis _ cv2) hf3, (ho2.grow hg3).app ho3⟩
theorem toPSort_step (e d) (he : ToE e) : ToO (.mk e d) := by
  intro m vs F h hs
  obtain ⟨us, rfl, hl, hv⟩ := PSort.vals h
  cases hs with
  | mk hs =>
  obtain ⟨k, o, n, v, u, a, ks, ss⟩ := e
  obtain ⟨x, y, F1, F2, rfl, _, c1, c2, rfl⟩ := PExpr.vals hv
  obtain ⟨ax, px, rfl, _⟩ := c1.slice
  obtain ⟨ay, py, rfl, _⟩ := c2.slice
  refine fcalls_of_vc (args := [_]) follows_mixed Try.func149 rfl (by kernel_rfl) (by simp [Try.f149]) ?_
  simp only [Try.f149, vcs, tbl, crs, List.map, reduceIte, Nat.reduceLT, Nat.reduceLeDiff, Nat.reduceEqDiff, Nat.reduceAdd, Nat.reduceMul, Nat.reduceSub]
  refine (he _ _ _ hv hs).mono ?_
  rintro r m1 ⟨hg1, us, F', rfl, hv1, hf1, ho1⟩
  have hvv := hv1
  obtain ⟨x', y', F1', F2', rfl, _, c1', c2', rfl⟩ := PExpr.vals hv1
  obtain ⟨ax', px', rfl, _⟩ := c1'.slice
  obtain ⟨ay', py', rfl, _⟩ := c2'.slice
  simp only [vcs, tbl, crs, List.map, reduceIte, Nat.reduceLT, Nat.reduceLeDiff, Nat.reduceEqDiff, Nat.reduceAdd, Nat.reduceMul, Nat.reduceSub]
  exact ⟨hg1, _, _, rfl, PSort.mk_vals hvv, hf1, ho1⟩
theorem toPlan_step (t on wh or it nm ds li) (h1 : ∀ l ∈ on, ∀ e ∈ l, ToE e) (h2 : ∀ e ∈ wh, ToE e) (h3 : ∀ s ∈ or, ToO s) (h4 : ∀ e ∈ it, ToE e) : ToP (.mk t on wh or it nm ds li) := by
  intro m vs F h hs
  obtain ⟨a, b, c, d, e, f, F1, F2, F3, F4, F5, F6, rfl, c1, c2, c3, c4, c5, c6, rfl⟩ := Plan.vals h
  obtain ⟨xa, ya, rfl, _⟩ := c1.slice
  obtain ⟨xb, yb, rfl, _⟩ := c2.slice
  obtain ⟨xc, yc, rfl, _⟩ := c3.slice
  obtain ⟨xd, yd, rfl, _⟩ := c4.slice
  obtain ⟨xe, ye, rfl, _⟩ := c5.slice
  obtain ⟨xf, yf, rfl, _⟩ := c6.slice
  cases hs with
  | mk s1 s2 s3 s4 s5 s6 s7 s8 s9 s10 s11 =>
  refine fcalls_of_vc (args := [_]) follows_mixed Try.func36 rfl (by kernel_rfl) (by simp [Try.f36]) ?_
  simp only [Try.f36, vcs, tbl, crs, List.map, reduceIte, Nat.reduceLT, Nat.reduceLeDiff, Nat.reduceEqDiff, Nat.reduceAdd, Nat.reduceMul, Nat.reduceSub]
  refine (toIntS _ _ _ _ c1 ⟨s1, fun _ _ => trivial⟩).mono ?_
  rintro r m1 ⟨hg1, F1', cv1, hf1, ho1⟩
  have g1 := hg1
  obtain ⟨a1, p1, rfl, _⟩ := cv1.slice
  simp only [vcs, tbl, crs, List.map, reduceIte, Nat.reduceLT, Nat.reduceLeDiff, Nat.reduceEqDiff, Nat.reduceAdd, Nat.reduceMul, Nat.reduceSub]
  refine (toPExprSS _ h1 _ _ _ (c2.grow g1) ⟨s2, fun l hl => ⟨s3 l hl, s4 l hl⟩⟩).mono ?_
  rintro r m2 ⟨hg2, F2', cv2, hf2, ho2⟩
  have g2 := g1.trans hg2
  obtain ⟨a2, p2, rfl, _⟩ := cv2.slice
  simp only [vcs, tbl, crs, List.map, reduceIte, Nat.reduceLT, Nat.reduceLeDiff, Nat.reduceEqDiff, Nat.reduceAdd, Nat.reduceMul, Nat.reduceSub]
  refine (toPExprS _ h2 _ _ _ (c3.grow g2) ⟨s5, s6⟩).mono ?_
  rintro r m3 ⟨hg3, F3', cv3, hf3, ho3⟩
  have g3 := g2.trans hg3
  obtain ⟨a3, p3, rfl, _⟩ := cv3.slice
  simp only [vcs, tbl, crs, List.map, reduceIte, Nat.reduceLT, Nat.reduceLeDiff, Nat.reduceEqDiff, Nat.reduceAdd, Nat.reduceMul, Nat.reduceSub]
  refine (toPSortS _ h3 _ _ _ (c4.grow g3) ⟨s7, s8⟩).mono ?_
  rintro r m4 ⟨hg4, F4', cv4, hf4, ho4⟩
  have g4 := g3.trans hg4
  obtain ⟨a4, p4, rfl, _⟩ := cv4.slice
  simp only [vcs, tbl, crs, List.map, reduceIte, Nat.reduceLT, Nat.reduceLeDiff, Nat.reduceEqDiff, Nat.reduceAdd, Nat.reduceMul, Nat.reduceSub]
  refine (toPExprS _ h4 _ _ _ (c5.grow g4) ⟨s9, s10⟩).mono ?_
  rintro r m5 ⟨hg5, F5', cv5, hf5, ho5⟩
  have g5 := g4.trans hg5
  obtain ⟨a5, p5, rfl, _⟩ := cv5.slice
  simp only [vcs, tbl, crs, List.map, reduceIte, Nat.reduceLT, Nat.reduceLeDiff, Nat.reduceEqDiff, Nat.reduceAdd, Nat.reduceMul, Nat.reduceSub]
  refine (toStringS _ _ _ _ (c6.grow g5) ⟨s11, fun _ _ => trivial⟩).mono ?_
  rintro r m6 ⟨hg6, F6', cv6, hf6, ho6⟩
  have g6 := g5.trans hg6
  obtain ⟨a6, p6, rfl, _⟩ := cv6.slice
  simp only [vcs, tbl, crs, List.map, reduceIte, Nat.reduceLT, Nat.reduceLeDiff, Nat.reduceEqDiff, Nat.reduceAdd, Nat.reduceMul, Nat.reduceSub]
  have w5 := cv5.grow hg6
  have w4 := (cv4.grow hg5).grow hg6
  have w3 := ((cv3.grow hg4).grow hg5).grow hg6
  have w2 := (((cv2.grow hg3).grow hg4).grow hg5).grow hg6
  have w1 := ((((cv1.grow hg2).grow hg3).grow hg4).grow hg5).grow hg6
  have o5 := ho5.grow hg6
  have o4 := (ho4.grow hg5).grow hg6
  have o3 := ((ho3.grow hg4).grow hg5).grow hg6
  have o2 := (((ho2.grow hg3).grow hg4).grow hg5).grow hg6
  have o1 := ((((ho1.grow hg2).grow hg3).grow hg4).grow hg5).grow hg6
  have q2 := hf1.join g1 (CellF.vis _ cv1) hf2
  have q3 := q2.join g2 (fun b hb => (List.mem_append.1 hb).elim (fun h => hg2.vis (CellF.vis _ cv1 b h)) (CellF.vis _ cv2 b)) hf3
  have q4 := q3.join g3 (fun b hb => (List.mem_append.1 hb).elim (fun h => hg3.vis ((List.mem_append.1 h).elim (fun h => hg2.vis (CellF.vis _ cv1 b h)) (CellF.vis _ cv2 b))) (CellF.vis _ cv3 b)) hf4
  have q5 := q4.join g4 (fun b hb => (List.mem_append.1 hb).elim (fun h => hg4.vis ((List.mem_append.1 h).elim (fun h => hg3.vis ((List.mem_append.1 h).elim (fun h => hg2.vis (CellF.vis _ cv1 b h)) (CellF.vis _ cv2 b))) (CellF.vis _ cv3 b))) (CellF.vis _ cv4 b)) hf5
  have q6 := q5.join g5 (fun b hb => (List.mem_append.1 hb).elim (fun h => hg5.vis ((List.mem_append.1 h).elim (fun h => hg4.vis ((List.mem_append.1 h).elim (fun h => hg3.vis ((List.mem_append.1 h).elim (fun h => hg2.vis (CellF.vis _ cv1 b h)) (CellF.vis _ cv2 b))) (CellF.vis _ cv3 b))) (CellF.vis _ cv4 b))) (CellF.vis _ cv5 b)) hf6
  simp only [List.append_assoc] at q6
  exact ⟨g6, _, _, rfl, Plan.mk_vals w1 w2 w3 w4 w5 cv6, q6, o1.app (o2.app (o3.app (o4.app (o5.app ho6))))⟩
theorem to_all : (∀ e, ToE e) ∧ (∀ p, ToP p) ∧ (∀ s, ToO s) := tree_ind toPExpr_step toPlan_step toPSort_step

end Go.Proofs.Ytklligemdfnimaa
set_option linter.unusedVariables false
set_option linter.unusedSimpArgs false
set_option maxRecDepth 4000
namespace Go.Proofs.Ytklligemdfnimaa
open Go Go.Vc
instance : DecidableEq Val := fun x y => if h : x.kind = y.kind ∧ x.num = y.num ∧ x.text = y.text then isTrue (by cases x; cases y; simp_all) else isFalse (by intro e; subst e; simp at h)
theorem Val.ext' (x y : Val) : x = y ↔ x.kind = y.kind ∧ x.num = y.num ∧ x.text = y.text := by cases x; cases y; simp
theorem eqValue (x y : Val) (m : World) (vs us : List Value) (F G : List Nat) (h : ValsF m x.row vs F) (k : ValsF m y.row us G) :
   FCalls Try.prog 73 #[.agg vs.toArray, .agg us.toArray] m fun r m' => Grow m m' ∧ ∃ b, r = .bool b ∧ (b = true ↔ x = y) := by
  obtain ⟨rfl, _, _⟩ := Val.vals h
  obtain ⟨rfl, _, _⟩ := Val.vals k
  rw [Val.ext']
  refine fcalls_of_vc (args := [_, _]) follows_mixed Try.func73 rfl (by kernel_rfl) (by simp [Try.f73]) ?_
  simp only [Try.f73, vcs, tbl, crs, List.map, reduceIte, Nat.reduceLT, Nat.reduceLeDiff, Nat.reduceEqDiff, Nat.reduceAdd, Nat.reduceMul, Nat.reduceSub]
  refine ⟨fun h => ⟨Grow.refl _, false, rfl, ?_⟩, fun h => ⟨fun h2 => ⟨Grow.refl _, false, rfl, ?_⟩, fun h2 => ⟨fun h3 => ⟨Grow.refl _, false, rfl, ?_⟩, fun h3 => ⟨Grow.refl _, true, rfl, ?_⟩⟩⟩⟩
  all_goals simp_all
theorem eqRFault (a b : Int) (s t : ByteArray) (m : World) :
   FCalls Try.prog 48 #[.agg #[.int .i64 a, .string s], .agg #[.int .i64 b, .string t]] m fun r m' => Grow m m' ∧ ∃ c, r = .bool c ∧ (c = true ↔ a = b ∧ s = t) := by
  refine fcalls_of_vc (args := [_, _]) follows_mixed Try.func48 rfl (by kernel_rfl) (by simp [Try.f48]) ?_
  simp only [Try.f48, vcs, tbl, crs, List.map, reduceIte, Nat.reduceLT, Nat.reduceLeDiff, Nat.reduceEqDiff, Nat.reduceAdd, Nat.reduceMul, Nat.reduceSub]
  refine ⟨fun h => ⟨Grow.refl _, false, rfl, ?_⟩, fun h => ⟨fun h2 => ⟨Grow.refl _, false, rfl, ?_⟩, fun h2 => ⟨Grow.refl _, true, rfl, ?_⟩⟩⟩
  all_goals simp_all
theorem eq40 (x y : Val) (w : World) : (Op.equalIn 10000 40 (.agg [.int .i64 x.kind, .int .i64 x.num, .string x.text].toArray) (.agg [.int .i64 y.kind, .int .i64 y.num, .string y.text].toArray)).run Try.prog w = .ok (decide (x = y)) w := by
  refine equalIn_fk (ks := [(0, .int), (1, .int), (2, .str)]) (by kernel_rfl) (by kernel_rfl) (by kernel_rfl) ?_ w
  simp only [eqFK, List.getElem?_cons_zero, List.getElem?_cons_succ, Val.ext']
  by_cases h1 : x.kind = y.kind <;> by_cases h2 : x.num = y.num <;> by_cases h3 : x.text = y.text <;> simp [h1, h2, h3]
theorem eq31 (a b : Int) (s t : ByteArray) (w : World) : (Op.equalIn 10000 31 (.agg [.int .i64 a, .string s].toArray) (.agg [.int .i64 b, .string t].toArray)).run Try.prog w = .ok (decide (a = b ∧ s = t)) w := by
  refine equalIn_fk (ks := [(0, .int), (1, .str)]) (by kernel_rfl) (by kernel_rfl) (by kernel_rfl) ?_ w
  simp only [eqFK, List.getElem?_cons_zero, List.getElem?_cons_succ]
  by_cases h1 : a = b <;> by_cases h2 : s = t <;> simp [h1, h2]

theorem eqValueS (es fs : List Val)  (m : World) (v u : Value) (F G : List Nat) (h : CellF m (.sl es.length (es.flatMap Val.row)) v F) (k : CellF m (.sl fs.length (fs.flatMap Val.row)) u G) :
   FCalls Try.prog 118 #[v, u] m fun r m' => Grow m m' ∧ ∃ b, r = .bool b ∧ (b = true ↔ es = fs) := by
  obtain ⟨a, cap, rfl, hcap, hmax, _⟩ := h.slice
  obtain ⟨a', cap', rfl, hcap', hmax', _⟩ := k.slice
  have hmax1 : cap ≤ 9223372036854775807 := hmax
  refine fcalls_of_vc (args := [_, _]) follows_mixed Try.func118 rfl (by kernel_rfl) (by simp [Try.f118]) ?_
  simp only [Try.f118, vcs, tbl, crs, List.map, reduceIte, Nat.reduceLT, Nat.reduceLeDiff, Nat.reduceEqDiff, Nat.reduceAdd, Nat.reduceMul, Nat.reduceSub]
  refine ⟨fun h => ⟨Grow.refl _, false, rfl, by simp; intro e; subst e; simp at h⟩, fun hl => ?_⟩
  have hl : es.length = fs.length := by simp at hl; omega
  refine vcLoop.intro (fun f L m1 => ∃ (k : Nat), f 5 = .c (.v (.int .i64 k)) ∧ L = [] ∧ k ≤ es.length ∧ Grow m m1 ∧ es.take k = fs.take k)
    (fun f _ _ => (es.length - ixS (f 5)).toNat) ⟨[], Sub.nil _, 0, ?_⟩ ?_
  · simp only [vcs, tbl, crs, List.map, reduceIte, Nat.reduceLT, Nat.reduceLeDiff, Nat.reduceEqDiff, Nat.reduceAdd, Nat.reduceMul, Nat.reduceSub]
    first | exact ⟨rfl, by omega, Grow.refl _, by simp⟩ | exact ⟨rfl, by omega, Grow.refl _⟩
  · rintro g L1 m1 ⟨i, h5, rfl, hi, hg, heq⟩
    simp only [vcs, tbl, crs, List.map, reduceIte, Nat.reduceLT, Nat.reduceLeDiff, Nat.reduceEqDiff, Nat.reduceAdd, Nat.reduceMul, Nat.reduceSub] at h5
    simp only [vcs, tbl, crs, List.map, reduceIte, Nat.reduceLT, Nat.reduceLeDiff, Nat.reduceEqDiff, Nat.reduceAdd, Nat.reduceMul, Nat.reduceSub, h5]
    refine ⟨fun hlt => ?_, fun hge => ?_⟩
    · have hlt : i < es.length := by omega
      have hlt' : i < fs.length := by omega
      obtain ⟨ada, vsa, Fka, haa, hlena, hcella, hva, _⟩ := h.elem Val.row_len (by decide) (List.getElem?_eq_getElem hlt)
      obtain ⟨adb, vsb, Fkb, hab, hlenb, hcellb, hvb, _⟩ := k.elem Val.row_len (by decide) (List.getElem?_eq_getElem hlt')
      refine vcDrawn.intro (.take 0 (.take 1 (.take 2 (.take 3 (.take 4 (.take 5 (.take 6 (.take 7 (.br 8 (.take 9 .done) .nobr))))))))) (by kernel_rfl) ?_
      simp only [vcs, tbl, crs, List.map, reduceIte, Nat.reduceLT, Nat.reduceLeDiff, Nat.reduceEqDiff, Nat.reduceAdd, Nat.reduceMul, Nat.reduceSub, h5]
      have next : es[i] = fs[i] → es.take (i + 1) = fs.take (i + 1) := fun e => by
        rw [List.take_add_one, List.take_add_one, heq, List.getElem?_eq_getElem hlt, List.getElem?_eq_getElem hlt', e]
      have diff : es[i] ≠ fs[i] → es ≠ fs := fun e he => e (by subst he; rfl)
      refine ⟨by omega, by omega, ada, haa, _, hlena, fun j v hj => hg.cell (by simpa using hcella j v hj), ?_⟩
      simp only [vcs, tbl, crs, List.map, reduceIte, Nat.reduceLT, Nat.reduceLeDiff, Nat.reduceEqDiff, Nat.reduceAdd, Nat.reduceMul, Nat.reduceSub, h5]
      refine ⟨by omega, by omega, adb, hab, _, hlenb, fun j v hj => hg.cell (by simpa using hcellb j v hj), ?_⟩
      simp only [vcs, tbl, crs, List.map, reduceIte, Nat.reduceLT, Nat.reduceLeDiff, Nat.reduceEqDiff, Nat.reduceAdd, Nat.reduceMul, Nat.reduceSub, h5]
      refine (eqValue _ _ _ _ _ _ _ (hva.grow hg) (hvb.grow hg)).mono ?_
      rintro r m2 ⟨hg2, b, rfl, hb⟩
      refine ⟨hg2, ?_⟩
      simp only [vcs, tbl, crs, List.map, reduceIte, Nat.reduceLT, Nat.reduceLeDiff, Nat.reduceEqDiff, Nat.reduceAdd, Nat.reduceMul, Nat.reduceSub, h5]
      refine ⟨fun hn => ⟨hg.trans hg2, false, rfl, ?_⟩, fun hn => ?_⟩
      · have hb' : b = false := by simpa using hn
        subst hb'
        simp only [Bool.false_eq_true, false_iff]
        exact diff fun e => by simp [e] at hb
      · have hb' : b = true := by simpa using hn
        rw [wrap_id (by omega) (by omega)]
        exact ⟨[], Sub.nil _, ⟨i + 1, by simp, rfl, by omega, hg.trans hg2, next (hb.1 hb')⟩, by omega⟩
    · have : i = es.length := by omega
      subst this
      exact ⟨hg, true, rfl, by simp; rw [List.take_length] at heq; rw [heq, hl, List.take_length]⟩

theorem eqValueSS (es fs : List (List Val))  (m : World) (v u : Value) (F G : List Nat) (h : CellF m (.sl es.length (es.flatMap vrow)) v F) (k : CellF m (.sl fs.length (fs.flatMap vrow)) u G) :
   FCalls Try.prog 49 #[v, u] m fun r m' => Grow m m' ∧ ∃ b, r = .bool b ∧ (b = true ↔ es = fs) := by
  obtain ⟨a, cap, rfl, hcap, hmax, _⟩ := h.slice
  obtain ⟨a', cap', rfl, hcap', hmax', _⟩ := k.slice
  have hmax1 : cap ≤ 9223372036854775807 := hmax
  refine fcalls_of_vc (args := [_, _]) follows_mixed Try.func49 rfl (by kernel_rfl) (by simp [Try.f49]) ?_
  simp only [Try.f49, vcs, tbl, crs, List.map, reduceIte, Nat.reduceLT, Nat.reduceLeDiff, Nat.reduceEqDiff, Nat.reduceAdd, Nat.reduceMul, Nat.reduceSub]
  refine ⟨fun h => ⟨Grow.refl _, false, rfl, by simp; intro e; subst e; simp at h⟩, fun hl => ?_⟩
  have hl : es.length = fs.length := by simp at hl; omega
  refine vcLoop.intro (fun f L m1 => ∃ (k : Nat), f 5 = .c (.v (.int .i64 k)) ∧ L = [] ∧ k ≤ es.length ∧ Grow m m1 ∧ es.take k = fs.take k)
    (fun f _ _ => (es.length - ixS (f 5)).toNat) ⟨[], Sub.nil _, 0, ?_⟩ ?_
  · simp only [vcs, tbl, crs, List.map, reduceIte, Nat.reduceLT, Nat.reduceLeDiff, Nat.reduceEqDiff, Nat.reduceAdd, Nat.reduceMul, Nat.reduceSub]
    first | exact ⟨rfl, by omega, Grow.refl _, by simp⟩ | exact ⟨rfl, by omega, Grow.refl _⟩
  · rintro g L1 m1 ⟨i, h5, rfl, hi, hg, heq⟩
    simp only [vcs, tbl, crs, List.map, reduceIte, Nat.reduceLT, Nat.reduceLeDiff, Nat.reduceEqDiff, Nat.reduceAdd, Nat.reduceMul, Nat.reduceSub] at h5
    simp only [vcs, tbl, crs, List.map, reduceIte, Nat.reduceLT, Nat.reduceLeDiff, Nat.reduceEqDiff, Nat.reduceAdd, Nat.reduceMul, Nat.reduceSub, h5]
    refine ⟨fun hlt => ?_, fun hge => ?_⟩
    · have hlt : i < es.length := by omega
      have hlt' : i < fs.length := by omega
      obtain ⟨ada, vsa, Fka, haa, hlena, hcella, hva, _⟩ := h.elem vrow_len (by decide) (List.getElem?_eq_getElem hlt)
      obtain ⟨adb, vsb, Fkb, hab, hlenb, hcellb, hvb, _⟩ := k.elem vrow_len (by decide) (List.getElem?_eq_getElem hlt')
      obtain ⟨ua, hua⟩ : ∃ u, vsa[0]? = some u := ⟨vsa[0]'(by omega), List.getElem?_eq_getElem _⟩
      have hcua := hg.cell (hcella 0 ua hua)
      rw [add0] at hcua
      have hvua := (ValsF.one hva hua).grow hg
      obtain ⟨ub, hub⟩ : ∃ u, vsb[0]? = some u := ⟨vsb[0]'(by omega), List.getElem?_eq_getElem _⟩
      have hcub := hg.cell (hcellb 0 ub hub)
      rw [add0] at hcub
      have hvub := (ValsF.one hvb hub).grow hg
      refine vcDrawn.intro (.take 0 (.take 1 (.take 2 (.take 3 (.take 4 (.take 5 (.take 6 (.take 7 (.br 8 (.take 9 .done) .nobr))))))))) (by kernel_rfl) ?_
      simp only [vcs, tbl, crs, List.map, reduceIte, Nat.reduceLT, Nat.reduceLeDiff, Nat.reduceEqDiff, Nat.reduceAdd, Nat.reduceMul, Nat.reduceSub, h5]
      have next : es[i] = fs[i] → es.take (i + 1) = fs.take (i + 1) := fun e => by
        rw [List.take_add_one, List.take_add_one, heq, List.getElem?_eq_getElem hlt, List.getElem?_eq_getElem hlt', e]
      have diff : es[i] ≠ fs[i] → es ≠ fs := fun e he => e (by subst he; rfl)
      refine ⟨by omega, by omega, ada, haa, ua, hcua, ?_⟩
      simp only [vcs, tbl, crs, List.map, reduceIte, Nat.reduceLT, Nat.reduceLeDiff, Nat.reduceEqDiff, Nat.reduceAdd, Nat.reduceMul, Nat.reduceSub, h5]
      refine ⟨by omega, by omega, adb, hab, ub, hcub, ?_⟩
      simp only [vcs, tbl, crs, List.map, reduceIte, Nat.reduceLT, Nat.reduceLeDiff, Nat.reduceEqDiff, Nat.reduceAdd, Nat.reduceMul, Nat.reduceSub, h5]
      refine (eqValueS _ _ _ _ _ _ _ hvua hvub).mono ?_
      rintro r m2 ⟨hg2, b, rfl, hb⟩
      refine ⟨hg2, ?_⟩
      simp only [vcs, tbl, crs, List.map, reduceIte, Nat.reduceLT, Nat.reduceLeDiff, Nat.reduceEqDiff, Nat.reduceAdd, Nat.reduceMul, Nat.reduceSub, h5]
      refine ⟨fun hn => ⟨hg.trans hg2, false, rfl, ?_⟩, fun hn => ?_⟩
      · have hb' : b = false := by simpa using hn
        subst hb'
        simp only [Bool.false_eq_true, false_iff]
        exact diff fun e => by simp [e] at hb
      · have hb' : b = true := by simpa using hn
        rw [wrap_id (by omega) (by omega)]
        exact ⟨[], Sub.nil _, ⟨i + 1, by simp, rfl, by omega, hg.trans hg2, next (hb.1 hb')⟩, by omega⟩
    · have : i = es.length := by omega
      subst this
      exact ⟨hg, true, rfl, by simp; rw [List.take_length] at heq; rw [heq, hl, List.take_length]⟩

end Go.Proofs.Ytklligemdfnimaa