/-
  Values, rows; draws over a cursor.
  Conditions: none.
-/
import Derived.Test.YtklligemdfnimaaATbl
set_option linter.unusedVariables false
set_option linter.unusedSimpArgs false
namespace Go.Proofs.Ytklligemdfnimaa
open Go Go.Vc
theorem crs : (∀ (p : Prop), (True ∧ p) = p) ∧
  (∀ (p : Prop), (p ∧ True) = p) ∧
  (∀ {p : Prop} [inst : Decidable p], (decide p = true) = p) ∧
  (∀ {p : Prop} {x : Decidable p}, decide p = false ↔ ¬p) ∧
  (∀ {α : Type} {a : α} {xs bs : List α}, a :: xs ++ bs = a :: (xs ++ bs)) ∧
  (∀ {α : Type} (xs : List α), [] ++ xs = xs) ∧
  ((false = true) = False) ∧
  (∀ {α : Type} {xs : Array α}, #[] ++ xs = xs) ∧
  (∀ {α : Type} {xs : Array α}, xs ++ #[] = xs) ∧
  (∀ {α : Type} {a : α} {xs : List α}, List.length (a :: xs) = List.length xs + 1) ∧
  (∀ {α : Type}, List.length ([] : List α) = 0) ∧
  (∀ {α : Type} {a : α} {i : Nat} {l : List α}, (a :: l)[i + 1]? = l[i]?) ∧
  (∀ {α : Type} {a : α} {l : List α}, (a :: l)[0]? = some a) ∧
  (∀ {α : Type} (val val_1 : α), (some val = some val_1) = (val = val_1)) ∧
  (∀ (n : Nat), Int.toNat ↑n = n) ∧
  (∀ (vs : List Value), valsOf? (List.map CV.v vs) = some vs) ∧
  (∀ {α : Type} {xs : List α}, Array.toList (List.toArray xs) = xs) ∧
  (∀ {α : Type} {β : Type} {x : α} {xs : List α} {f : α → List β}, List.flatMap f (x :: xs) = f x ++ List.flatMap f xs) ∧
  (∀ {α : Type} {β : Type} {f : α → List β}, List.flatMap f [] = []) ∧
  (∀ {α : Type} (xs : List α), xs ++ [] = xs) ∧
  (∀ {α : Type} {a : α} {xs : List α} {i : Nat}, List.take (i + 1) (a :: xs) = a :: List.take i xs) ∧
  (∀ {α : Type} {l : List α}, List.take 0 l = []) ∧
  (∀ {α : Type} {l : List α}, List.drop 0 l = l) ∧
  (∀ {α : Type} {a : α} {l : List α} {i : Nat}, List.drop (i + 1) (a :: l) = List.drop i l) ∧
  (∀ {α : Type} {β : Type} (a : α) (f : α → Option β), Option.bind (some a) f = f a) :=
  ⟨@true_and, @and_true, @decide_eq_true_eq, @decide_eq_false_iff_not, @List.cons_append, @List.nil_append, @Bool.false_eq_true, @Array.empty_append, @Array.append_empty, @List.length_cons, @List.length_nil, @List.getElem?_cons_succ, @List.getElem?_cons_zero, @Option.some.injEq, @Int.toNat_natCast, @valsOf_map, @List.toList_toArray, @List.flatMap_cons, @List.flatMap_nil, @List.append_nil, @List.take_succ_cons, @List.take_zero, @List.drop_zero, @List.drop_succ_cons, @Option.bind_some⟩
theorem follows_mixed : Try.prog.follows .mixedOrders = true := by kernel_rfl
theorem add0 (a : Addr) : a.add 0 = a := by simp [Addr.add]
theorem wrap_id {n : Int} (h : -9223372036854775808 ≤ n) (h' : n ≤ 9223372036854775807) : IntKind.i64.wrap n = n := IntWalk.i64_in n (by omega)
structure Val where
  kind : Int
  num : Int
  text : ByteArray
def int (n : Int) : D := .lit (.int .i64 n)
def bool (b : Bool) : D := .lit (.bool b)
def str (s : ByteArray) : D := .lit (.string s)
def Val.row (v : Val) : List D := [int v.kind, int v.num, str v.text]
def Val.small (v : Val) : Prop := v.text.size ≤ 1048576
theorem Val.row_len (v : Val) : v.row.length = 3 := rfl
def vrow (r : List Val) : List D := [.sl r.length (r.flatMap Val.row)]
theorem vrow_len (r : List Val) : (vrow r).length = 1 := rfl
def vsmall (r : List Val) : Prop := r.length ≤ 1048576 ∧ ∀ e ∈ r, e.small
structure Res where
  fk : Int
  ft : ByteArray
  er : Int
  rows : List (List Val)
  count : Int
def Res.row (r : Res) : List D := [int r.fk, str r.ft, int r.er, .sl r.rows.length (r.rows.flatMap vrow), int r.count]
def Res.small (r : Res) : Prop := r.rows.length ≤ 1048576 ∧ ∀ e ∈ r.rows, vsmall e
theorem valsF_cons {m : World} {d : D} {ds : List D} {vs : List Value} {F : List Nat} (h : ValsF m (d :: ds) vs F) : ∃ v r F1 F2, vs = v :: r ∧ CellF m d v F1 ∧ ValsF m ds r F2 ∧ F = F1 ++ F2 := by
  cases vs with
  | nil => exact h.elim
  | cons v r => obtain ⟨F1, F2, h1, h2, h3⟩ := h; exact ⟨v, r, F1, F2, rfl, h1, h2, h3⟩
theorem valsF_lit {m : World} {u : Value} {ds : List D} {vs : List Value} {F : List Nat} (h : ValsF m (.lit u :: ds) vs F) : ∃ r, vs = u :: r ∧ ValsF m ds r F ∧ okV u := by
  obtain ⟨v, r, F1, F2, rfl, ⟨h1, h1', ho⟩, h2, h3⟩ := valsF_cons h
  subst h1 h1'
  exact ⟨r, rfl, by rw [h3]; simpa using h2, ho⟩
theorem valsF_nil {m : World} {vs : List Value} {F : List Nat} (h : ValsF m [] vs F) : vs = [] ∧ F = [] := by
  cases vs with
  | nil => exact ⟨rfl, h⟩
  | cons _ _ => exact h.elim
theorem Val.vals {m : World} {x : Val} {vs : List Value} {F : List Nat} (h : ValsF m x.row vs F) : vs = [.int .i64 x.kind, .int .i64 x.num, .string x.text] ∧ F = [] ∧ x.text.size ≤ maxLen := by
  obtain ⟨r1, rfl, h1, o1⟩ := valsF_lit h
  obtain ⟨r2, rfl, h2, o2⟩ := valsF_lit h1
  obtain ⟨r3, rfl, h3, o3⟩ := valsF_lit h2
  obtain ⟨rfl, rfl⟩ := valsF_nil h3
  exact ⟨rfl, rfl, o3⟩
theorem Val.mk_vals (m : World) (x : Val) (h : x.text.size ≤ maxLen) : ValsF m x.row [.int .i64 x.kind, .int .i64 x.num, .string x.text] [] :=
  ⟨[], [], ⟨rfl, rfl, trivial⟩, ⟨[], [], ⟨rfl, rfl, trivial⟩, ⟨[], [], ⟨rfl, rfl, h⟩, rfl, rfl⟩, rfl⟩, rfl⟩
theorem Res.vals {m : World} {x : Res} {vs : List Value} {F : List Nat} (h : ValsF m x.row vs F) : ∃ v, vs = [.int .i64 x.fk, .string x.ft, .int .i64 x.er, v, .int .i64 x.count] ∧ CellF m (.sl x.rows.length (x.rows.flatMap vrow)) v F ∧ x.ft.size ≤ maxLen := by
  obtain ⟨r1, rfl, h1, o1⟩ := valsF_lit h
  obtain ⟨r2, rfl, h2, o2⟩ := valsF_lit h1
  obtain ⟨r3, rfl, h3, o3⟩ := valsF_lit h2
  obtain ⟨v, r4, F1, F2, rfl, h4, h5, rfl⟩ := valsF_cons h3
  obtain ⟨r5, rfl, h6, o5⟩ := valsF_lit h5
  obtain ⟨rfl, rfl⟩ := valsF_nil h6
  exact ⟨v, rfl, by simpa using h4, o2⟩
theorem Res.mk_vals {m : World} {x : Res} {v : Value} {F : List Nat} (h : CellF m (.sl x.rows.length (x.rows.flatMap vrow)) v F) (ht : x.ft.size ≤ maxLen) : ValsF m x.row [.int .i64 x.fk, .string x.ft, .int .i64 x.er, v, .int .i64 x.count] F :=
  ⟨[], F, ⟨rfl, rfl, trivial⟩, ⟨[], F, ⟨rfl, rfl, ht⟩, ⟨[], F, ⟨rfl, rfl, trivial⟩, ⟨F, [], h, ⟨[], [], ⟨rfl, rfl, trivial⟩, rfl, rfl⟩, by simp⟩, rfl⟩, rfl⟩, rfl⟩
end Go.Proofs.Ytklligemdfnimaa

set_option linter.unusedVariables false
set_option linter.unusedSimpArgs false
set_option maxRecDepth 4000
namespace Go.Proofs.Ytklligemdfnimaa
open Go Go.Vc
theorem flatMap_len {α : Type} {row : α → List D} {sz : Nat} (h : ∀ e, (row e).length = sz) (es : List α) : (es.flatMap row).length = es.length * sz := by
  induction es with
  | nil => simp
  | cons e r ih => simp only [List.flatMap_cons, List.length_append, h, ih, List.length_cons, Nat.add_mul]; omega
end Go.Proofs.Ytklligemdfnimaa
set_option linter.unusedVariables false
set_option linter.unusedSimpArgs false
set_option maxRecDepth 4000
namespace Go.Proofs.Ytklligemdfnimaa
open Go Go.Vc
instance : DecidableEq Val := fun x y => if h : x.kind = y.kind ∧ x.num = y.num ∧ x.text = y.text then isTrue (by cases x; cases y; simp_all) else isFalse (by intro e; subst e; simp at h)
theorem Val.ext' (x y : Val) : x = y ↔ x.kind = y.kind ∧ x.num = y.num ∧ x.text = y.text := by cases x; cases y; simp
theorem eqValue (x y : Val) (m : World) (vs us : List Value) (F G : List Nat) (h : ValsF m x.row vs F) (k : ValsF m y.row us G) :
   FCalls Try.prog 73 #[.agg vs.toArray, .agg us.toArray] m fun r m' => Grow m m' ∧ ∃ b, r = .bool b ∧ (b = true ↔ x = y) := by
  obtain ⟨rfl, _, _⟩ := Val.vals h
  obtain ⟨rfl, _, _⟩ := Val.vals k
  rw [Val.ext']
  refine fcalls_of_vc (args := [_, _]) follows_mixed Try.func73 rfl (by kernel_rfl) (by simp [Try.f73]) ?_
  simp only [Try.f73, vcs, tbl, crs, List.map, reduceIte, Nat.reduceLT, Nat.reduceLeDiff, Nat.reduceEqDiff, Nat.reduceAdd, Nat.reduceMul, Nat.reduceSub]
  refine ⟨fun h => ⟨Grow.refl _, false, rfl, ?_⟩, fun h => ⟨fun h2 => ⟨Grow.refl _, false, rfl, ?_⟩, fun h2 => ⟨fun h3 => ⟨Grow.refl _, false, rfl, ?_⟩, fun h3 => ⟨Grow.refl _, true, rfl, ?_⟩⟩⟩⟩
  all_goals simp_all
theorem eqRFault (a b : Int) (s t : ByteArray) (m : World) :
   FCalls Try.prog 48 #[.agg #[.int .i64 a, .string s], .agg #[.int .i64 b, .string t]] m fun r m' => Grow m m' ∧ ∃ c, r = .bool c ∧ (c = true ↔ a = b ∧ s = t) := by
  refine fcalls_of_vc (args := [_, _]) follows_mixed Try.func48 rfl (by kernel_rfl) (by simp [Try.f48]) ?_
  simp only [Try.f48, vcs, tbl, crs, List.map, reduceIte, Nat.reduceLT, Nat.reduceLeDiff, Nat.reduceEqDiff, Nat.reduceAdd, Nat.reduceMul, Nat.reduceSub]
  refine ⟨fun h => ⟨Grow.refl _, false, rfl, ?_⟩, fun h => ⟨fun h2 => ⟨Grow.refl _, false, rfl, ?_⟩, fun h2 => ⟨Grow.refl _, true, rfl, ?_⟩⟩⟩
  all_goals simp_all
theorem eq40 (x y : Val) (w : World) : (Op.equalIn 10000 40 (.agg [.int .i64 x.kind, .int .i64 x.num, .string x.text].toArray) (.agg [.int .i64 y.kind, .int .i64 y.num, .string y.text].toArray)).run Try.prog w = .ok (decide (x = y)) w := by
  refine equalIn_fk (ks := [(0, .int), (1, .int), (2, .str)]) (by kernel_rfl) (by kernel_rfl) (by kernel_rfl) ?_ w
  simp only [eqFK, List.getElem?_cons_zero, List.getElem?_cons_succ, Val.ext']
  by_cases h1 : x.kind = y.kind <;> by_cases h2 : x.num = y.num <;> by_cases h3 : x.text = y.text <;> simp [h1, h2, h3]
theorem eq31 (a b : Int) (s t : ByteArray) (w : World) : (Op.equalIn 10000 31 (.agg [.int .i64 a, .string s].toArray) (.agg [.int .i64 b, .string t].toArray)).run Try.prog w = .ok (decide (a = b ∧ s = t)) w := by
  refine equalIn_fk (ks := [(0, .int), (1, .str)]) (by kernel_rfl) (by kernel_rfl) (by kernel_rfl) ?_ w
  simp only [eqFK, List.getElem?_cons_zero, List.getElem?_cons_succ]
  by_cases h1 : a = b <;> by_cases h2 : s = t <;> simp [h1, h2]

theorem eqValueS (es fs : List Val)  (m : World) (v u : Value) (F G : List Nat) (h : CellF m (.sl es.length (es.flatMap Val.row)) v F) (k : CellF m (.sl fs.length (fs.flatMap Val.row)) u G) :
   FCalls Try.prog 118 #[v, u] m fun r m' => Grow m m' ∧ ∃ b, r = .bool b ∧ (b = true ↔ es = fs) := by
  obtain ⟨a, cap, rfl, hcap, hmax, _⟩ := h.slice
  obtain ⟨a', cap', rfl, hcap', hmax', _⟩ := k.slice
  have hmax1 : cap ≤ 9223372036854775807 := hmax
  refine fcalls_of_vc (args := [_, _]) follows_mixed Try.func118 rfl (by kernel_rfl) (by simp [Try.f118]) ?_
  simp only [Try.f118, vcs, tbl, crs, List.map, reduceIte, Nat.reduceLT, Nat.reduceLeDiff, Nat.reduceEqDiff, Nat.reduceAdd, Nat.reduceMul, Nat.reduceSub]
  refine ⟨fun h => ⟨Grow.refl _, false, rfl, by simp; intro e; subst e; simp at h⟩, fun hl => ?_⟩
  have hl : es.length = fs.length := by simp at hl; omega
  refine vcLoop.intro (fun f L m1 => ∃ (k : Nat), f 5 = .c (.v (.int .i64 k)) ∧ L = [] ∧ k ≤ es.length ∧ Grow m m1 ∧ es.take k = fs.take k)
    (fun f _ _ => (es.length - ixS (f 5)).toNat) ⟨[], Sub.nil _, 0, ?_⟩ ?_
  · simp only [vcs, tbl, crs, List.map, reduceIte, Nat.reduceLT, Nat.reduceLeDiff, Nat.reduceEqDiff, Nat.reduceAdd, Nat.reduceMul, Nat.reduceSub]
    first | exact ⟨rfl, by omega, Grow.refl _, by simp⟩ | exact ⟨rfl, by omega, Grow.refl _⟩
  · rintro g L1 m1 ⟨i, h5, rfl, hi, hg, heq⟩
    simp only [vcs, tbl, crs, List.map, reduceIte, Nat.reduceLT, Nat.reduceLeDiff, Nat.reduceEqDiff, Nat.reduceAdd, Nat.reduceMul, Nat.reduceSub] at h5
    simp only [vcs, tbl, crs, List.map, reduceIte, Nat.reduceLT, Nat.reduceLeDiff, Nat.reduceEqDiff, Nat.reduceAdd, Nat.reduceMul, Nat.reduceSub, h5]
    refine ⟨fun hlt => ?_, fun hge => ?_⟩
    · have hlt : i < es.length := by omega
      have hlt' : i < fs.length := by omega
      obtain ⟨ada, vsa, Fka, haa, hlena, hcella, hva, _⟩ := h.elem Val.row_len (by decide) (List.getElem?_eq_getElem hlt)
      obtain ⟨adb, vsb, Fkb, hab, hlenb, hcellb, hvb, _⟩ := k.elem Val.row_len (by decide) (List.getElem?_eq_getElem hlt')
      refine vcDrawn.intro (.take 0 (.take 1 (.take 2 (.take 3 (.take 4 (.take 5 (.take 6 (.take 7 (.br 8 (.take 9 .done) .nobr))))))))) (by kernel_rfl) ?_
      simp only [vcs, tbl, crs, List.map, reduceIte, Nat.reduceLT, Nat.reduceLeDiff, Nat.reduceEqDiff, Nat.reduceAdd, Nat.reduceMul, Nat.reduceSub, h5]
      have next : es[i] = fs[i] → es.take (i + 1) = fs.take (i + 1) := fun e => by
        rw [List.take_add_one, List.take_add_one, heq, List.getElem?_eq_getElem hlt, List.getElem?_eq_getElem hlt', e]
      have diff : es[i] ≠ fs[i] → es ≠ fs := fun e he => e (by subst he; rfl)
      refine ⟨by omega, by omega, ada, haa, _, hlena, fun j v hj => hg.cell (by simpa using hcella j v hj), ?_⟩
      simp only [vcs, tbl, crs, List.map, reduceIte, Nat.reduceLT, Nat.reduceLeDiff, Nat.reduceEqDiff, Nat.reduceAdd, Nat.reduceMul, Nat.reduceSub, h5]
      refine ⟨by omega, by omega, adb, hab, _, hlenb, fun j v hj => hg.cell (by simpa using hcellb j v hj), ?_⟩
      simp only [vcs, tbl, crs, List.map, reduceIte, Nat.reduceLT, Nat.reduceLeDiff, Nat.reduceEqDiff, Nat.reduceAdd, Nat.reduceMul, Nat.reduceSub, h5]
      refine (eqValue _ _ _ _ _ _ _ (hva.grow hg) (hvb.grow hg)).mono ?_
      rintro r m2 ⟨hg2, b, rfl, hb⟩
      refine ⟨hg2, ?_⟩
      simp only [vcs, tbl, crs, List.map, reduceIte, Nat.reduceLT, Nat.reduceLeDiff, Nat.reduceEqDiff, Nat.reduceAdd, Nat.reduceMul, Nat.reduceSub, h5]
      refine ⟨fun hn => ⟨hg.trans hg2, false, rfl, ?_⟩, fun hn => ?_⟩
      · have hb' : b = false := by simpa using hn
        subst hb'
        simp only [Bool.false_eq_true, false_iff]
        exact diff fun e => by simp [e] at hb
      · have hb' : b = true := by simpa using hn
        rw [wrap_id (by omega) (by omega)]
        exact ⟨[], Sub.nil _, ⟨i + 1, by simp, rfl, by omega, hg.trans hg2, next (hb.1 hb')⟩, by omega⟩
    · have : i = es.length := by omega
      subst this
      exact ⟨hg, true, rfl, by simp; rw [List.take_length] at heq; rw [heq, hl, List.take_length]⟩

theorem eqValueSS (es fs : List (List Val))  (m : World) (v u : Value) (F G : List Nat) (h : CellF m (.sl es.length (es.flatMap vrow)) v F) (k : CellF m (.sl fs.length (fs.flatMap vrow)) u G) :
   FCalls Try.prog 49 #[v, u] m fun r m' => Grow m m' ∧ ∃ b, r = .bool b ∧ (b = true ↔ es = fs) := by
  obtain ⟨a, cap, rfl, hcap, hmax, _⟩ := h.slice
  obtain ⟨a', cap', rfl, hcap', hmax', _⟩ := k.slice
  have hmax1 : cap ≤ 9223372036854775807 := hmax
  refine fcalls_of_vc (args := [_, _]) follows_mixed Try.func49 rfl (by kernel_rfl) (by simp [Try.f49]) ?_
  simp only [Try.f49, vcs, tbl, crs, List.map, reduceIte, Nat.reduceLT, Nat.reduceLeDiff, Nat.reduceEqDiff, Nat.reduceAdd, Nat.reduceMul, Nat.reduceSub]
  refine ⟨fun h => ⟨Grow.refl _, false, rfl, by simp; intro e; subst e; simp at h⟩, fun hl => ?_⟩
  have hl : es.length = fs.length := by simp at hl; omega
  refine vcLoop.intro (fun f L m1 => ∃ (k : Nat), f 5 = .c (.v (.int .i64 k)) ∧ L = [] ∧ k ≤ es.length ∧ Grow m m1 ∧ es.take k = fs.take k)
    (fun f _ _ => (es.length - ixS (f 5)).toNat) ⟨[], Sub.nil _, 0, ?_⟩ ?_
  · simp only [vcs, tbl, crs, List.map, reduceIte, Nat.reduceLT, Nat.reduceLeDiff, Nat.reduceEqDiff, Nat.reduceAdd, Nat.reduceMul, Nat.reduceSub]
    first | exact ⟨rfl, by omega, Grow.refl _, by simp⟩ | exact ⟨rfl, by omega, Grow.refl _⟩
  · rintro g L1 m1 ⟨i, h5, rfl, hi, hg, heq⟩
    simp only [vcs, tbl, crs, List.map, reduceIte, Nat.reduceLT, Nat.reduceLeDiff, Nat.reduceEqDiff, Nat.reduceAdd, Nat.reduceMul, Nat.reduceSub] at h5
    simp only [vcs, tbl, crs, List.map, reduceIte, Nat.reduceLT, Nat.reduceLeDiff, Nat.reduceEqDiff, Nat.reduceAdd, Nat.reduceMul, Nat.reduceSub, h5]
    refine ⟨fun hlt => ?_, fun hge => ?_⟩
    · have hlt : i < es.length := by omega
      have hlt' : i < fs.length := by omega
      obtain ⟨ada, vsa, Fka, haa, hlena, hcella, hva, _⟩ := h.elem vrow_len (by decide) (List.getElem?_eq_getElem hlt)
      obtain ⟨adb, vsb, Fkb, hab, hlenb, hcellb, hvb, _⟩ := k.elem vrow_len (by decide) (List.getElem?_eq_getElem hlt')
      obtain ⟨ua, hua⟩ : ∃ u, vsa[0]? = some u := ⟨vsa[0]'(by omega), List.getElem?_eq_getElem _⟩
      have hcua := hg.cell (hcella 0 ua hua)
      rw [add0] at hcua
      have hvua := (ValsF.one hva hua).grow hg
      obtain ⟨ub, hub⟩ : ∃ u, vsb[0]? = some u := ⟨vsb[0]'(by omega), List.getElem?_eq_getElem _⟩
      have hcub := hg.cell (hcellb 0 ub hub)
      rw [add0] at hcub
      have hvub := (ValsF.one hvb hub).grow hg
      refine vcDrawn.intro (.take 0 (.take 1 (.take 2 (.take 3 (.take 4 (.take 5 (.take 6 (.take 7 (.br 8 (.take 9 .done) .nobr))))))))) (by kernel_rfl) ?_
      simp only [vcs, tbl, crs, List.map, reduceIte, Nat.reduceLT, Nat.reduceLeDiff, Nat.reduceEqDiff, Nat.reduceAdd, Nat.reduceMul, Nat.reduceSub, h5]
      have next : es[i] = fs[i] → es.take (i + 1) = fs.take (i + 1) := fun e => by
        rw [List.take_add_one, List.take_add_one, heq, List.getElem?_eq_getElem hlt, List.getElem?_eq_getElem hlt', e]
      have diff : es[i] ≠ fs[i] → es ≠ fs := fun e he => e (by subst he; rfl)
      refine ⟨by omega, by omega, ada, haa, ua, hcua, ?_⟩
      simp only [vcs, tbl, crs, List.map, reduceIte, Nat.reduceLT, Nat.reduceLeDiff, Nat.reduceEqDiff, Nat.reduceAdd, Nat.reduceMul, Nat.reduceSub, h5]
      refine ⟨by omega, by omega, adb, hab, ub, hcub, ?_⟩
      simp only [vcs, tbl, crs, List.map, reduceIte, Nat.reduceLT, Nat.reduceLeDiff, Nat.reduceEqDiff, Nat.reduceAdd, Nat.reduceMul, Nat.reduceSub, h5]
      refine (eqValueS _ _ _ _ _ _ _ hvua hvub).mono ?_
      rintro r m2 ⟨hg2, b, rfl, hb⟩
      refine ⟨hg2, ?_⟩
      simp only [vcs, tbl, crs, List.map, reduceIte, Nat.reduceLT, Nat.reduceLeDiff, Nat.reduceEqDiff, Nat.reduceAdd, Nat.reduceMul, Nat.reduceSub, h5]
      refine ⟨fun hn => ⟨hg.trans hg2, false, rfl, ?_⟩, fun hn => ?_⟩
      · have hb' : b = false := by simpa using hn
        subst hb'
        simp only [Bool.false_eq_true, false_iff]
        exact diff fun e => by simp [e] at hb
      · have hb' : b = true := by simpa using hn
        rw [wrap_id (by omega) (by omega)]
        exact ⟨[], Sub.nil _, ⟨i + 1, by simp, rfl, by omega, hg.trans hg2, next (hb.1 hb')⟩, by omega⟩
    · have : i = es.length := by omega
      subst this
      exact ⟨hg, true, rfl, by simp; rw [List.take_length] at heq; rw [heq, hl, List.take_length]⟩

end Go.Proofs.Ytklligemdfnimaa
set_option linter.unusedVariables false
set_option linter.unusedSimpArgs false
namespace Go.Proofs.Ytklligemdfnimaa
open Go Go.Vc
mutual
inductive PExpr where
  | mk (kind op : Int) (nt : Bool) (val : Val) (up at_ : Int) (kids : List PExpr) (sub : List Plan)
inductive Plan where
  | mk (tables : List Int) (on : List (List PExpr)) (whr : List PExpr) (order : List PSort) (items : List PExpr) (names : List ByteArray) (distinct : Bool) (limit : Int)
inductive PSort where
  | mk (e : PExpr) (desc : Bool)
end
/-- Induction over the trees. -/
theorem tree_ind {A : PExpr → Prop} {B : Plan → Prop} {C : PSort → Prop}
    (hA : ∀ k o n v u a ks ss, (∀ e ∈ ks, A e) → (∀ p ∈ ss, B p) → A (.mk k o n v u a ks ss))
    (hB : ∀ t on wh or it nm ds li, (∀ l ∈ on, ∀ e ∈ l, A e) → (∀ e ∈ wh, A e) → (∀ s ∈ or, C s) → (∀ e ∈ it, A e) → B (.mk t on wh or it nm ds li))
    (hC : ∀ e d, A e → C (.mk e d)) : (∀ e, A e) ∧ (∀ p, B p) ∧ (∀ s, C s) := by
  have main : ∀ n : Nat, (∀ e : PExpr, SizeOf.sizeOf e < n → A e) ∧ (∀ p : Plan, SizeOf.sizeOf p < n → B p) ∧ (∀ s : PSort, SizeOf.sizeOf s < n → C s) := by
    intro n
    induction n with
    | zero => exact ⟨fun _ h => absurd h (Nat.not_lt_zero _), fun _ h => absurd h (Nat.not_lt_zero _), fun _ h => absurd h (Nat.not_lt_zero _)⟩
    | succ n ih =>
      refine ⟨fun e h => ?_, fun p h => ?_, fun s h => ?_⟩
      · cases e with
        | mk k o nt v u a ks ss =>
          simp only [PExpr.mk.sizeOf_spec] at h
          exact hA _ _ _ _ _ _ _ _ (fun e he => ih.1 e (by have := List.sizeOf_lt_of_mem he; omega)) (fun p hp => ih.2.1 p (by have := List.sizeOf_lt_of_mem hp; omega))
      · cases p with
        | mk t on wh or it nm ds li =>
          simp only [Plan.mk.sizeOf_spec] at h
          exact hB _ _ _ _ _ _ _ _ (fun l hl e he => ih.1 e (by have := List.sizeOf_lt_of_mem he; have := List.sizeOf_lt_of_mem hl; omega)) (fun e he => ih.1 e (by have := List.sizeOf_lt_of_mem he; omega))
            (fun e he => ih.2.2 e (by have := List.sizeOf_lt_of_mem he; omega)) (fun e he => ih.1 e (by have := List.sizeOf_lt_of_mem he; omega))
      · cases s with
        | mk e d =>
          simp only [PSort.mk.sizeOf_spec] at h
          exact hC _ _ (ih.1 e (by omega))
  exact ⟨fun e => (main (SizeOf.sizeOf e + 1)).1 e (Nat.lt_succ_self _), fun e => (main (SizeOf.sizeOf e + 1)).2.1 e (Nat.lt_succ_self _), fun e => (main (SizeOf.sizeOf e + 1)).2.2 e (Nat.lt_succ_self _)⟩

def irow (n : Int) : List D := [int n]
def srow (s : ByteArray) : List D := [str s]
theorem irow_len (n : Int) : (irow n).length = 1 := rfl
theorem srow_len (n : ByteArray) : (srow n).length = 1 := rfl
mutual
def PExpr.row : PExpr → List D
  | .mk k o n v u a ks ss => [int k, int o, bool n, int v.kind, int v.num, str v.text, int u, int a, .sl ks.length (rowsE ks), .sl ss.length (rowsP ss)]
def rowsE : List PExpr → List D
  | [] => []
  | e :: es => e.row ++ rowsE es
def Plan.row : Plan → List D
  | .mk t on wh or it nm ds li => [.sl t.length (t.flatMap irow), .sl on.length (rowsEE on), .sl wh.length (rowsE wh), .sl or.length (rowsS or), .sl it.length (rowsE it), .sl nm.length (nm.flatMap srow), bool ds, int li]
def rowsP : List Plan → List D
  | [] => []
  | e :: es => e.row ++ rowsP es
def rowsEE : List (List PExpr) → List D
  | [] => []
  | e :: es => .sl e.length (rowsE e) :: rowsEE es
def PSort.row : PSort → List D
  | .mk e d => e.row ++ [bool d]
def rowsS : List PSort → List D
  | [] => []
  | e :: es => e.row ++ rowsS es
end
theorem rowsE_eq : ∀ es, rowsE es = es.flatMap PExpr.row
  | [] => by simp [rowsE]
  | e :: es => by simp [rowsE, rowsE_eq es]
theorem rowsP_eq : ∀ es, rowsP es = es.flatMap Plan.row
  | [] => by simp [rowsP]
  | e :: es => by simp [rowsP, rowsP_eq es]
theorem rowsS_eq : ∀ es, rowsS es = es.flatMap PSort.row
  | [] => by simp [rowsS]
  | e :: es => by simp [rowsS, rowsS_eq es]
def erow (l : List PExpr) : List D := [.sl l.length (l.flatMap PExpr.row)]
theorem rowsEE_eq : ∀ es, rowsEE es = es.flatMap erow
  | [] => by simp [rowsEE]
  | e :: es => by simp [rowsEE, rowsEE_eq es, erow, rowsE_eq]
theorem erow_len (l : List PExpr) : (erow l).length = 1 := rfl
theorem PExpr.row_len (e : PExpr) : e.row.length = 10 := by cases e; simp [PExpr.row]
theorem Plan.row_len (e : Plan) : e.row.length = 8 := by cases e; simp [Plan.row]
theorem PSort.row_len (e : PSort) : e.row.length = 11 := by cases e; simp [PSort.row, PExpr.row_len]

theorem PExpr.vals {m : World} {k o n v u a ks ss} {vs : List Value} {F : List Nat} (h : ValsF m (PExpr.mk k o n v u a ks ss).row vs F) :
    ∃ x y F1 F2, vs = [.int .i64 k, .int .i64 o, .bool n, .int .i64 v.kind, .int .i64 v.num, .string v.text, .int .i64 u, .int .i64 a, x, y] ∧ v.text.size ≤ maxLen ∧
      CellF m (.sl ks.length (ks.flatMap PExpr.row)) x F1 ∧ CellF m (.sl ss.length (ss.flatMap Plan.row)) y F2 ∧ F = F1 ++ F2 := by
  rw [PExpr.row, rowsE_eq, rowsP_eq] at h
  obtain ⟨r1, rfl, h1, _⟩ := valsF_lit h
  obtain ⟨r2, rfl, h2, _⟩ := valsF_lit h1
  obtain ⟨r3, rfl, h3, _⟩ := valsF_lit h2
  obtain ⟨r4, rfl, h4, _⟩ := valsF_lit h3
  obtain ⟨r5, rfl, h5, _⟩ := valsF_lit h4
  obtain ⟨r6, rfl, h6, ho⟩ := valsF_lit h5
  obtain ⟨r7, rfl, h7, _⟩ := valsF_lit h6
  obtain ⟨r8, rfl, h8, _⟩ := valsF_lit h7
  obtain ⟨x, r9, F1, F2, rfl, h9, h10, rfl⟩ := valsF_cons h8
  obtain ⟨y, r10, F3, F4, rfl, h11, h12, rfl⟩ := valsF_cons h10
  obtain ⟨rfl, rfl⟩ := valsF_nil h12
  exact ⟨x, y, F1, F3, rfl, ho, h9, h11, by simp⟩
theorem valsF_mk {m : World} {u : Value} {ds : List D} {vs : List Value} {F : List Nat} (h : ValsF m ds vs F) (ho : okV u) : ValsF m (.lit u :: ds) (u :: vs) F := ⟨[], F, ⟨rfl, rfl, ho⟩, h, by simp⟩
theorem PExpr.mk_vals {m : World} {k o : Int} {n : Bool} {v : Val} {u a : Int} {ks : List PExpr} {ss : List Plan} {x y : Value} {F1 F2 : List Nat} (hv : v.text.size ≤ maxLen)
    (h1 : CellF m (.sl ks.length (ks.flatMap PExpr.row)) x F1) (h2 : CellF m (.sl ss.length (ss.flatMap Plan.row)) y F2) :
    ValsF m (PExpr.mk k o n v u a ks ss).row [.int .i64 k, .int .i64 o, .bool n, .int .i64 v.kind, .int .i64 v.num, .string v.text, .int .i64 u, .int .i64 a, x, y] (F1 ++ F2) := by
  rw [PExpr.row, rowsE_eq, rowsP_eq]
  refine valsF_mk (valsF_mk (valsF_mk (valsF_mk (valsF_mk (valsF_mk (valsF_mk (valsF_mk ?_ trivial) trivial) hv) trivial) trivial) trivial) trivial) trivial
  exact ⟨F1, F2, h1, ValsF.single h2, rfl⟩
theorem Plan.vals {m : World} {t on wh or it nm ds li} {vs : List Value} {F : List Nat} (h : ValsF m (Plan.mk t on wh or it nm ds li).row vs F) :
    ∃ a b c d e f F1 F2 F3 F4 F5 F6, vs = [a, b, c, d, e, f, .bool ds, .int .i64 li] ∧ CellF m (.sl t.length (t.flatMap irow)) a F1 ∧ CellF m (.sl on.length (on.flatMap erow)) b F2 ∧
      CellF m (.sl wh.length (wh.flatMap PExpr.row)) c F3 ∧ CellF m (.sl or.length (or.flatMap PSort.row)) d F4 ∧ CellF m (.sl it.length (it.flatMap PExpr.row)) e F5 ∧ CellF m (.sl nm.length (nm.flatMap srow)) f F6 ∧
      F = F1 ++ (F2 ++ (F3 ++ (F4 ++ (F5 ++ F6)))) := by
  rw [Plan.row, rowsEE_eq, rowsE_eq, rowsS_eq, rowsE_eq] at h
  obtain ⟨a, r1, F1, G1, rfl, h1, k1, rfl⟩ := valsF_cons h
  obtain ⟨b, r2, F2, G2, rfl, h2, k2, rfl⟩ := valsF_cons k1
  obtain ⟨c, r3, F3, G3, rfl, h3, k3, rfl⟩ := valsF_cons k2
  obtain ⟨d, r4, F4, G4, rfl, h4, k4, rfl⟩ := valsF_cons k3
  obtain ⟨e, r5, F5, G5, rfl, h5, k5, rfl⟩ := valsF_cons k4
  obtain ⟨f, r6, F6, G6, rfl, h6, k6, rfl⟩ := valsF_cons k5
  obtain ⟨r7, rfl, k7, _⟩ := valsF_lit k6
  obtain ⟨r8, rfl, k8, _⟩ := valsF_lit k7
  obtain ⟨rfl, rfl⟩ := valsF_nil k8
  exact ⟨a, b, c, d, e, f, F1, F2, F3, F4, F5, F6, rfl, h1, h2, h3, h4, h5, h6, by simp⟩
theorem Plan.mk_vals {m : World} {t on wh or it nm ds li} {a b c d e f : Value} {F1 F2 F3 F4 F5 F6 : List Nat} (h1 : CellF m (.sl t.length (t.flatMap irow)) a F1) (h2 : CellF m (.sl on.length (on.flatMap erow)) b F2)
    (h3 : CellF m (.sl wh.length (wh.flatMap PExpr.row)) c F3) (h4 : CellF m (.sl or.length (or.flatMap PSort.row)) d F4) (h5 : CellF m (.sl it.length (it.flatMap PExpr.row)) e F5) (h6 : CellF m (.sl nm.length (nm.flatMap srow)) f F6) :
    ValsF m (Plan.mk t on wh or it nm ds li).row [a, b, c, d, e, f, .bool ds, .int .i64 li] (F1 ++ (F2 ++ (F3 ++ (F4 ++ (F5 ++ F6))))) := by
  rw [Plan.row, rowsEE_eq, rowsE_eq, rowsS_eq, rowsE_eq]
  refine ⟨F1, _, h1, ⟨F2, _, h2, ⟨F3, _, h3, ⟨F4, _, h4, ⟨F5, _, h5, ⟨F6, [], h6, valsF_mk (valsF_mk rfl trivial) trivial, by simp⟩, rfl⟩, rfl⟩, rfl⟩, rfl⟩, rfl⟩
theorem PSort.vals {m : World} {e d} {vs : List Value} {F : List Nat} (h : ValsF m (PSort.mk e d).row vs F) : ∃ us, vs = us ++ [.bool d] ∧ us.length = 10 ∧ ValsF m e.row us F := by
  rw [PSort.row] at h
  obtain ⟨va, vb, Fa, Fb, rfl, rfl, h1, h2⟩ := h.split
  obtain ⟨r, rfl, h3, _⟩ := valsF_lit h2
  obtain ⟨rfl, rfl⟩ := valsF_nil h3
  exact ⟨va, rfl, by rw [h1.length, PExpr.row_len], by simpa using h1⟩
theorem PSort.mk_vals {m : World} {e d} {us : List Value} {F : List Nat} (h : ValsF m e.row us F) : ValsF m (PSort.mk e d).row (us ++ [.bool d]) F := by
  rw [PSort.row]
  have := h.join (valsF_mk (u := .bool d) (ValsF.nil_nil m) trivial)
  simpa [bool] using this

mutual
inductive ESmall : PExpr → Prop
  | mk {k o n v u a ks ss} : v.small → ks.length ≤ 1048576 → (∀ e ∈ ks, ESmall e) → ss.length ≤ 1048576 → (∀ p ∈ ss, PSmall p) → ESmall (.mk k o n v u a ks ss)
inductive PSmall : Plan → Prop
  | mk {t on wh or it nm ds li} : t.length ≤ 1048576 → on.length ≤ 1048576 → (∀ l ∈ on, l.length ≤ 1048576) → (∀ l ∈ on, ∀ e ∈ l, ESmall e) → wh.length ≤ 1048576 → (∀ e ∈ wh, ESmall e) → or.length ≤ 1048576 → (∀ s ∈ or, SSmall s) →
      it.length ≤ 1048576 → (∀ e ∈ it, ESmall e) → nm.length ≤ 1048576 → PSmall (.mk t on wh or it nm ds li)
inductive SSmall : PSort → Prop
  | mk {e d} : ESmall e → SSmall (.mk e d)
end
end Go.Proofs.Ytklligemdfnimaa

set_option linter.unusedVariables false
set_option linter.unusedSimpArgs false
set_option maxRecDepth 4000
namespace Go.Proofs.Ytklligemdfnimaa
open Go Go.Vc
def against (o : Int) : Int := if o = 3 then 4 else if o = 4 then 3 else if o = 5 then 8 else if o = 8 then 5 else if o = 6 then 7 else if o = 7 then 6 else if o = 1 then 2 else if o = 2 then 1 else 0
theorem implAgainst_c (o : Int) (m : World) : FCalls Try.prog 11 #[.int .i64 o] m fun r m' => Grow m m' ∧ r = .int .i64 (against o) := by
  refine fcalls_of_vc (args := [_]) follows_mixed Try.func11 rfl (by kernel_rfl) (by simp [Try.f11]) ?_
  simp only [Try.f11, vcs, tbl, crs, List.map, reduceIte, Nat.reduceLT, Nat.reduceLeDiff, Nat.reduceEqDiff, Nat.reduceAdd, Nat.reduceMul, Nat.reduceSub, List.all_cons, List.all_nil, Bool.and_true, Bool.and_self, ne_eq, reduceCtorEq, not_false_eq_true, and_self]
  refine ⟨fun h1 => ⟨Grow.refl _, by simp [against, h1]⟩, fun h1 => ?_⟩
  refine ⟨fun h2 => ⟨Grow.refl _, by simp [against, h1, h2]⟩, fun h2 => ?_⟩
  refine ⟨fun h3 => ⟨Grow.refl _, by simp [against, h1, h2, h3]⟩, fun h3 => ?_⟩
  refine ⟨fun h4 => ⟨Grow.refl _, by simp [against, h1, h2, h3, h4]⟩, fun h4 => ?_⟩
  refine ⟨fun h5 => ⟨Grow.refl _, by simp [against, h1, h2, h3, h4, h5]⟩, fun h5 => ?_⟩
  refine ⟨fun h6 => ⟨Grow.refl _, by simp [against, h1, h2, h3, h4, h5, h6]⟩, fun h6 => ?_⟩
  refine ⟨fun h7 => ⟨Grow.refl _, by simp [against, h1, h2, h3, h4, h5, h6, h7]⟩, fun h7 => ?_⟩
  refine ⟨fun h8 => ⟨Grow.refl _, by simp [against, h1, h2, h3, h4, h5, h6, h7, h8]⟩, fun h8 => ?_⟩
  exact ⟨Grow.refl _, by simp [against, h1, h2, h3, h4, h5, h6, h7, h8]⟩
end Go.Proofs.Ytklligemdfnimaa
set_option linter.unusedVariables false
set_option linter.unusedSimpArgs false
set_option maxRecDepth 4000
namespace Go.Proofs.Ytklligemdfnimaa
open Go Go.Vc
theorem l1In_c (x lo hi : Int) (m : World) : FCalls Try.prog 41 #[.int .i64 x, .int .i64 lo, .int .i64 hi] m fun r m' => m' = m ∧ r = .bool (decide (lo ≤ x ∧ x ≤ hi)) := by
  refine fcalls_of_vc (args := [_, _, _]) follows_mixed Try.func41 rfl (by kernel_rfl) (by simp [Try.f41]) ?_
  simp only [Try.f41, vcs, tbl, crs, List.map, reduceIte, Nat.reduceLT, Nat.reduceLeDiff, Nat.reduceEqDiff, Nat.reduceAdd, Nat.reduceMul, Nat.reduceSub, List.all_cons, List.all_nil, Bool.and_true, Bool.and_self, ne_eq, reduceCtorEq, not_false_eq_true, and_self]
  refine ⟨fun h1 => ?_, fun h1 => ?_⟩
  · simp only [vcs, tbl, crs, List.map, reduceIte, Nat.reduceLT, Nat.reduceLeDiff, Nat.reduceEqDiff, Nat.reduceAdd, Nat.reduceMul, Nat.reduceSub, List.all_cons, List.all_nil, Bool.and_true, Bool.and_self, ne_eq, reduceCtorEq, not_false_eq_true, and_self]
    simp_all
  · simp only [vcs, tbl, crs, List.map, reduceIte, Nat.reduceLT, Nat.reduceLeDiff, Nat.reduceEqDiff, Nat.reduceAdd, Nat.reduceMul, Nat.reduceSub, List.all_cons, List.all_nil, Bool.and_true, Bool.and_self, ne_eq, reduceCtorEq, not_false_eq_true, and_self]
    simp_all; try omega
theorem specAgainst_c (o : Int) (m : World) : FCalls Try.prog 10 #[.int .i64 o] m fun r m' => Grow m m' ∧ r = .int .i64 (against o) := by
  refine fcalls_of_vc (args := [_]) follows_mixed Try.func10 rfl (by kernel_rfl) (by simp [Try.f10]) ?_
  simp only [Try.f10, vcs, tbl, crs, List.map, reduceIte, Nat.reduceLT, Nat.reduceLeDiff, Nat.reduceEqDiff, Nat.reduceAdd, Nat.reduceMul, Nat.reduceSub, List.all_cons, List.all_nil, Bool.and_true, Bool.and_self, ne_eq, reduceCtorEq, not_false_eq_true, and_self]
  refine (l1In_c o 1 8 m).mono ?_
  rintro r m1 ⟨rfl, rfl⟩
  have hr9 : List.range 9 = [0, 1, 2, 3, 4, 5, 6, 7, 8] := rfl
  have hz9 : (List.replicate 9 [Value.int .i64 0]).flatten = [.int .i64 0, .int .i64 0, .int .i64 0, .int .i64 0, .int .i64 0, .int .i64 0, .int .i64 0, .int .i64 0, .int .i64 0] := rfl
  by_cases hb : 1 ≤ o ∧ o ≤ 8
  · have hd : decide (1 ≤ o ∧ o ≤ 8) = true := by simpa using hb
    rw [hd]
    have h8 : o = 1 ∨ o = 2 ∨ o = 3 ∨ o = 4 ∨ o = 5 ∨ o = 6 ∨ o = 7 ∨ o = 8 := by omega
    rcases h8 with rfl | rfl | rfl | rfl | rfl | rfl | rfl | rfl
    all_goals
      simp only [vcs, tbl, crs, List.map, reduceIte, Nat.reduceLT, Nat.reduceLeDiff, Nat.reduceEqDiff, Nat.reduceAdd, Nat.reduceMul, Nat.reduceSub, List.all_cons, List.all_nil, Bool.and_true, Bool.and_self, ne_eq, reduceCtorEq, not_false_eq_true, and_self, hr9, hz9, Bool.not_true]
      refine ⟨fun h => h.elim, fun _ => ?_⟩
      exact ⟨by omega, by omega, _, rfl, Grow.refl _, by simp [against]⟩
  · have hd : decide (1 ≤ o ∧ o ≤ 8) = false := by simpa using hb
    rw [hd]
    simp only [vcs, tbl, crs, List.map, reduceIte, Nat.reduceLT, Nat.reduceLeDiff, Nat.reduceEqDiff, Nat.reduceAdd, Nat.reduceMul, Nat.reduceSub, List.all_cons, List.all_nil, Bool.and_true, Bool.and_self, ne_eq, reduceCtorEq, not_false_eq_true, and_self, Bool.not_false]
    have : against o = 0 := by rw [against, if_neg (by omega), if_neg (by omega), if_neg (by omega), if_neg (by omega), if_neg (by omega), if_neg (by omega), if_neg (by omega), if_neg (by omega)]
    rw [this]
    exact ⟨fun _ => ⟨Grow.refl _, rfl⟩, fun h => h.elim⟩

end Go.Proofs.Ytklligemdfnimaa
namespace Go.Vc
open Go Go.RowKit
section
variable {P : Program} {n : Nat} {d : Option Nat} {K : K0} {f : Regs} {L : Lst} {m : World}
def shrI (k : IntKind) (a b : Int) : Int := a.fdiv (2 ^ min b.toNat k.bits)
def xorI (k : IntKind) (a b : Int) : Int := k.wrap (BitVec.ofInt k.bits a ^^^ BitVec.ofInt k.bits b).toNat
def andI (k : IntKind) (a b : Int) : Int := k.wrap (BitVec.ofInt k.bits a &&& BitVec.ofInt k.bits b).toNat
theorem pure_shr {k yk : IntKind} {t : TypeId} {x y : Operand} {a b : Int} (h : 0 ≤ b) : vcPure P n d (do eqGuard .shr t x y (.int k a) (.int yk b); binOp .shr t (.int k a) (.int yk b)) K f L m = K (put n f d (.c (.v (.int k (shrI k a b))))) L m :=
  vcPure_of fun w => by rw [run_eqGuard rfl]; have : ¬ b < 0 := by omega
                        simp [binOp, Op.shift, this, shrI]
theorem pure_xor {k : IntKind} {t : TypeId} {x y : Operand} {a b : Int} : vcPure P n d (do eqGuard .xor t x y (.int k a) (.int k b); binOp .xor t (.int k a) (.int k b)) K f L m = K (put n f d (.c (.v (.int k (xorI k a b))))) L m :=
  vcPure_of fun w => by rw [run_eqGuard rfl]; simp [binOp, Op.intBits, xorI]
theorem pure_and {k : IntKind} {t : TypeId} {x y : Operand} {a b : Int} : vcPure P n d (do eqGuard .and t x y (.int k a) (.int k b); binOp .and t (.int k a) (.int k b)) K f L m = K (put n f d (.c (.v (.int k (andI k a b))))) L m :=
  vcPure_of fun w => by rw [run_eqGuard rfl]; simp [binOp, Op.intBits, andI]
theorem and255 (x : Int) : 0 ≤ andI .i64 x 255 ∧ andI .i64 x 255 ≤ 255 := by
  have h : (BitVec.ofInt 64 x &&& BitVec.ofInt 64 255).toNat ≤ 255 := by
    rw [BitVec.toNat_and]
    exact Nat.le_trans Nat.and_le_right (by decide)
  unfold andI
  have hb : IntKind.i64.bits = 64 := rfl
  rw [hb]
  rw [IntWalk.i64_in _ (by omega)]
  omega
end
def brow (b : Int) : List D := [.lit (.int .u8 b)]
theorem brow_len (b : Int) : (brow b).length = 1 := rfl
/-- A cursor over the bytes of a draw. -/
def Cu (m : World) (bc : Nat) : Prop := ∃ (a : Option Addr) (cap : Nat) (bs : List Int) (i h : Int) (F : List Nat), Cells m bc 0 [.slice a bs.length cap, .int .i64 i, .int .i64 h] ∧ 0 ≤ i ∧ CellF m (.sl bs.length (bs.flatMap brow)) (.slice a bs.length cap) F ∧ bc ∉ F ∧ Own m [bc]
theorem cu_put {m : World} {bc : Nat} {vs : List Value} (hcl : Cells m bc 0 vs) (how : Own m [bc]) (j : Nat) (v : Value) (hj : j < vs.length) :
    (∀ j', j' < 1 → (m.cell? ⟨bc, j + j', none⟩).isSome = true ∧ m.frozen? ⟨bc, j + j', none⟩ = false) ∧ ∃ m', setCells m ⟨bc, j, none⟩ [v] = m' ∧ Chg [bc] m m' ∧ Cells m' bc 0 (vs.set j v) ∧ Own m' [bc] := by
  refine ⟨fun j' hj' => ?_, _, rfl, Chg.store, ?_, how.store⟩
  · obtain rfl : j' = 0 := by omega
    have := hcl j vs[j] (List.getElem?_eq_getElem hj)
    rw [Nat.zero_add] at this
    exact ⟨by rw [Nat.add_zero, this]; rfl, how.frozen (by simp)⟩
  · have := hcl.store (v := v) hj
    rw [Nat.zero_add] at this; exact this
theorem Cu.grow {m m' : World} {bc : Nat} (g : Grow m m') (h : Cu m bc) : Cu m' bc := by
  obtain ⟨a, cap, bs, i, hh, F, h1, h2, h3, h4, h5⟩ := h
  exact ⟨a, cap, bs, i, hh, F, h1.grow g, h2, h3.grow g, h4, h5.grow g⟩
end Go.Vc

set_option linter.unusedVariables false
set_option linter.unusedSimpArgs false
set_option maxRecDepth 4000
namespace Go.Proofs.Ytklligemdfnimaa
open Go Go.Vc
theorem intKind3 : Try.prog.intKind 3 = .i64 := by kernel_rfl
def CuC (fn : FuncId) (args : List Value) (R : Value → Prop) : Prop := ∀ (m : World) (bc : Nat), Cu m bc → FCalls Try.prog fn (Value.pointer (some ⟨bc, 0, none⟩) :: args).toArray m fun r m' => Chg [bc] m m' ∧ Cu m' bc ∧ R r
theorem l1Byte_c : CuC 119 [] fun r => ∃ k : Int, r = .int .i64 k ∧ 0 ≤ k ∧ k ≤ 255 := by
  rintro m bc ⟨a, cap, bs, i, h, F, hcl, hi, hF, hb, how⟩
  have h0 := hcl 0 _ rfl
  have h1 := hcl 1 _ rfl
  have h2 := hcl 2 _ rfl
  simp only [Nat.zero_add] at h0 h1 h2
  refine fcalls_of_vc (args := [_]) follows_mixed Try.func119 rfl (by kernel_rfl) (by simp [Try.f119]) ?_
  simp only [Try.f119, vcs, tbl, crs, List.map, reduceIte, Nat.reduceLT, Nat.reduceLeDiff, Nat.reduceEqDiff, Nat.reduceAdd, Nat.reduceMul, Nat.reduceSub, List.all_cons, List.all_nil, Bool.and_true, Bool.and_self, ne_eq, reduceCtorEq, not_false_eq_true, and_self]
  simp only [vcs, tbl, crs, List.map, reduceIte, Nat.reduceLT, Nat.reduceLeDiff, Nat.reduceEqDiff, Nat.reduceAdd, Nat.reduceMul, Nat.reduceSub, List.all_cons, List.all_nil, Bool.and_true, Bool.and_self, ne_eq, reduceCtorEq, not_false_eq_true, and_self, add_lit0, pure_fieldAt, Nat.add_zero, Nat.zero_add]
  refine ⟨_, h2, ?_⟩
  simp only [vcs, tbl, crs, List.map, reduceIte, Nat.reduceLT, Nat.reduceLeDiff, Nat.reduceEqDiff, Nat.reduceAdd, Nat.reduceMul, Nat.reduceSub, List.all_cons, List.all_nil, Bool.and_true, Bool.and_self, ne_eq, reduceCtorEq, not_false_eq_true, and_self, add_lit0, pure_fieldAt, Nat.add_zero, Nat.zero_add]
  obtain ⟨q1, w1, e1, c1, hcl, how⟩ := cu_put hcl how 2 (.int .i64 (IntKind.i64.wrap (IntKind.i64.wrap (h * 6364136223846793005) + 1442695040888963407))) (by simp)
  refine ⟨by simp [oneCell], q1, ?_⟩
  rw [e1]
  have hF1 := hF.chg c1 (by simp; intro x hx e; exact hb (e ▸ hx))
  generalize IntKind.i64.wrap (IntKind.i64.wrap (h * 6364136223846793005) + 1442695040888963407) = h' at hcl
  simp only [List.set_cons_succ, List.set_cons_zero] at hcl
  have h0 := hcl 0 _ rfl
  have h1 := hcl 1 _ rfl
  have h2 := hcl 2 _ rfl
  simp only [Nat.zero_add] at h0 h1 h2
  refine vcDrawn.introL (.take 0 (.take 1 (.take 2 (.take 3 (.take 4 (.take 5 (.take 6 (.take 7 (.take 8 (.take 9 (.take 10 (.take 11 (.take 12 .done))))))))))))) (by kernel_rfl) ?_
  simp only [vcs, tbl, crs, List.map, reduceIte, Nat.reduceLT, Nat.reduceLeDiff, Nat.reduceEqDiff, Nat.reduceAdd, Nat.reduceMul, Nat.reduceSub, List.all_cons, List.all_nil, Bool.and_true, Bool.and_self, ne_eq, reduceCtorEq, not_false_eq_true, and_self, add_lit0, pure_fieldAt, Nat.add_zero, Nat.zero_add]
  refine ⟨_, h2, ?_⟩
  simp only [vcs, tbl, crs, List.map, reduceIte, Nat.reduceLT, Nat.reduceLeDiff, Nat.reduceEqDiff, Nat.reduceAdd, Nat.reduceMul, Nat.reduceSub, List.all_cons, List.all_nil, Bool.and_true, Bool.and_self, ne_eq, reduceCtorEq, not_false_eq_true, and_self, add_lit0, pure_fieldAt, Nat.add_zero, Nat.zero_add]
  rw [pure_shr (by decide)]
  simp only [vcs, tbl, crs, List.map, reduceIte, Nat.reduceLT, Nat.reduceLeDiff, Nat.reduceEqDiff, Nat.reduceAdd, Nat.reduceMul, Nat.reduceSub, List.all_cons, List.all_nil, Bool.and_true, Bool.and_self, ne_eq, reduceCtorEq, not_false_eq_true, and_self, add_lit0, pure_fieldAt, Nat.add_zero, Nat.zero_add]
  refine ⟨_, h2, ?_⟩
  simp only [vcs, tbl, crs, List.map, reduceIte, Nat.reduceLT, Nat.reduceLeDiff, Nat.reduceEqDiff, Nat.reduceAdd, Nat.reduceMul, Nat.reduceSub, List.all_cons, List.all_nil, Bool.and_true, Bool.and_self, ne_eq, reduceCtorEq, not_false_eq_true, and_self, add_lit0, pure_fieldAt, Nat.add_zero, Nat.zero_add]
  rw [pure_shr (by decide)]
  simp only [vcs, tbl, crs, List.map, reduceIte, Nat.reduceLT, Nat.reduceLeDiff, Nat.reduceEqDiff, Nat.reduceAdd, Nat.reduceMul, Nat.reduceSub, List.all_cons, List.all_nil, Bool.and_true, Bool.and_self, ne_eq, reduceCtorEq, not_false_eq_true, and_self, add_lit0, pure_fieldAt, Nat.add_zero, Nat.zero_add, pure_xor, pure_and]
  generalize xorI .i64 _ _ = xx
  have hx := and255 xx
  generalize andI .i64 xx 255 = x0 at hx
  refine vcDrawn.introL (.take 0 (.take 1 (.take 2 (.take 3 (.take 4 (.take 5 (.take 6 (.take 7 (.take 8 (.take 9 .done)))))))))) (by kernel_rfl) ?_
  simp only [vcs, tbl, crs, List.map, reduceIte, Nat.reduceLT, Nat.reduceLeDiff, Nat.reduceEqDiff, Nat.reduceAdd, Nat.reduceMul, Nat.reduceSub, List.all_cons, List.all_nil, Bool.and_true, Bool.and_self, ne_eq, reduceCtorEq, not_false_eq_true, and_self, add_lit0, pure_fieldAt, Nat.add_zero, Nat.zero_add]
  refine ⟨_, h1, ?_⟩
  simp only [vcs, tbl, crs, List.map, reduceIte, Nat.reduceLT, Nat.reduceLeDiff, Nat.reduceEqDiff, Nat.reduceAdd, Nat.reduceMul, Nat.reduceSub, List.all_cons, List.all_nil, Bool.and_true, Bool.and_self, ne_eq, reduceCtorEq, not_false_eq_true, and_self, add_lit0, pure_fieldAt, Nat.add_zero, Nat.zero_add]
  refine ⟨_, h0, ?_⟩
  simp only [vcs, tbl, crs, List.map, reduceIte, Nat.reduceLT, Nat.reduceLeDiff, Nat.reduceEqDiff, Nat.reduceAdd, Nat.reduceMul, Nat.reduceSub, List.all_cons, List.all_nil, Bool.and_true, Bool.and_self, ne_eq, reduceCtorEq, not_false_eq_true, and_self, add_lit0, pure_fieldAt, Nat.add_zero, Nat.zero_add]
  refine ⟨fun hlt => ?_, fun hge => ?_⟩
  · refine vcDrawn.introL (.take 0 (.take 1 (.take 2 (.take 3 (.take 4 (.take 5 (.take 6 (.take 7 (.take 8 (.take 9 (.take 10 (.take 11 (.take 12 (.take 13 (.take 14 .done))))))))))))))) (by kernel_rfl) ?_
    simp only [vcs, tbl, crs, List.map, reduceIte, Nat.reduceLT, Nat.reduceLeDiff, Nat.reduceEqDiff, Nat.reduceAdd, Nat.reduceMul, Nat.reduceSub, List.all_cons, List.all_nil, Bool.and_true, Bool.and_self, ne_eq, reduceCtorEq, not_false_eq_true, and_self, add_lit0, pure_fieldAt, Nat.add_zero, Nat.zero_add]
    refine ⟨_, h0, ?_⟩
    simp only [vcs, tbl, crs, List.map, reduceIte, Nat.reduceLT, Nat.reduceLeDiff, Nat.reduceEqDiff, Nat.reduceAdd, Nat.reduceMul, Nat.reduceSub, List.all_cons, List.all_nil, Bool.and_true, Bool.and_self, ne_eq, reduceCtorEq, not_false_eq_true, and_self, add_lit0, pure_fieldAt, Nat.add_zero, Nat.zero_add]
    refine ⟨_, h1, ?_⟩
    simp only [vcs, tbl, crs, List.map, reduceIte, Nat.reduceLT, Nat.reduceLeDiff, Nat.reduceEqDiff, Nat.reduceAdd, Nat.reduceMul, Nat.reduceSub, List.all_cons, List.all_nil, Bool.and_true, Bool.and_self, ne_eq, reduceCtorEq, not_false_eq_true, and_self, add_lit0, pure_fieldAt, Nat.add_zero, Nat.zero_add]
    have hlt' : i.toNat < bs.length := by omega
    obtain ⟨ad, vs, Fk, ha, hvl, hcell, hv, _⟩ := hF1.elem brow_len (by decide) (List.getElem?_eq_getElem hlt')
    obtain ⟨r1, rfl, hv1, _⟩ := valsF_lit hv
    have hcu := hcell 0 _ rfl
    rw [add0] at hcu
    refine ⟨by omega, by omega, ad, ha, _, hcu, ?_⟩
    simp only [vcs, tbl, crs, List.map, reduceIte, Nat.reduceLT, Nat.reduceLeDiff, Nat.reduceEqDiff, Nat.reduceAdd, Nat.reduceMul, Nat.reduceSub, List.all_cons, List.all_nil, Bool.and_true, Bool.and_self, ne_eq, reduceCtorEq, not_false_eq_true, and_self, add_lit0, pure_fieldAt, Nat.add_zero, Nat.zero_add]
    rw [pure_cint (by kernel_rfl) (by kernel_rfl), intKind3]
    simp only [vcs, tbl, crs, List.map, reduceIte, Nat.reduceLT, Nat.reduceLeDiff, Nat.reduceEqDiff, Nat.reduceAdd, Nat.reduceMul, Nat.reduceSub, List.all_cons, List.all_nil, Bool.and_true, Bool.and_self, ne_eq, reduceCtorEq, not_false_eq_true, and_self, add_lit0, pure_fieldAt, Nat.add_zero, Nat.zero_add, pure_xor, pure_and]
    generalize IntKind.i64.wrap (x0 + _) = yy
    have hy := and255 yy
    generalize andI .i64 yy 255 = y0 at hy
    refine ⟨_, h1, ?_⟩
    simp only [vcs, tbl, crs, List.map, reduceIte, Nat.reduceLT, Nat.reduceLeDiff, Nat.reduceEqDiff, Nat.reduceAdd, Nat.reduceMul, Nat.reduceSub, List.all_cons, List.all_nil, Bool.and_true, Bool.and_self, ne_eq, reduceCtorEq, not_false_eq_true, and_self, add_lit0, pure_fieldAt, Nat.add_zero, Nat.zero_add]
    obtain ⟨q2, w2, e2, c2, hcl2, how2⟩ := cu_put hcl how 1 (.int .i64 (IntKind.i64.wrap (i + 1))) (by simp)
    refine ⟨by simp [oneCell], q2, ?_⟩
    rw [e2]
    have hml : cap ≤ 9223372036854775807 := by obtain ⟨_, _, h1, _, h2, _⟩ := hF; injection h1 with _ _ e; subst e; exact h2
    have hlc : bs.length ≤ cap := by obtain ⟨_, _, h1, h2, _⟩ := hF; injection h1 with _ _ e; subst e; exact h2
    refine ⟨c1.trans c2, ⟨a, cap, bs, _, h', F, by simpa using hcl2, by rw [wrap_id (by omega) (by omega)]; omega, hF1.chg c2 (by simp; intro x hx e; exact hb (e ▸ hx)), hb, how2⟩, y0, rfl, hy.1, hy.2⟩
  · exact ⟨c1, ⟨a, cap, bs, i, h', F, hcl, hi, hF1, hb, how⟩, x0, rfl, hx.1, hx.2⟩

end Go.Proofs.Ytklligemdfnimaa
set_option linter.unusedVariables false
set_option linter.unusedSimpArgs false
set_option maxRecDepth 4000
namespace Go.Proofs.Ytklligemdfnimaa
open Go Go.Vc
def IntR (lo hi : Int) (r : Value) : Prop := ∃ k : Int, r = .int .i64 k ∧ lo ≤ k ∧ k ≤ hi
theorem l1Below_c (n : Int) (hn : n ≤ 4294967296) : CuC 51 [.int .i64 n] (IntR 0 (if n ≤ 0 then 0 else n - 1)) := by
  intro m bc cu0
  refine fcalls_of_vc (args := [_, _]) follows_mixed Try.func51 rfl (by kernel_rfl) (by simp [Try.f51]) ?_
  simp only [Try.f51, vcs, tbl, crs, List.map, reduceIte, Nat.reduceLT, Nat.reduceLeDiff, Nat.reduceEqDiff, Nat.reduceAdd, Nat.reduceMul, Nat.reduceSub, List.all_cons, List.all_nil, Bool.and_true, Bool.and_self, ne_eq, reduceCtorEq, not_false_eq_true, and_self]
  refine ⟨fun h0 => ⟨Chg.refl _ _, cu0, 0, rfl, Int.le_refl _, by rw [if_pos h0]; exact Int.le_refl _⟩, fun h0 => ?_⟩
  rw [if_neg h0]
  refine ⟨fun h1 => ?_, fun h1 => ?_⟩
  · refine (l1Byte_c m bc cu0).mono ?_
    rintro r m1 ⟨g1, cu1, b1, rfl, p1, q1⟩
    simp only [vcs, tbl, crs, List.map, reduceIte, Nat.reduceLT, Nat.reduceLeDiff, Nat.reduceEqDiff, Nat.reduceAdd, Nat.reduceMul, Nat.reduceSub, List.all_cons, List.all_nil, Bool.and_true, Bool.and_self, ne_eq, reduceCtorEq, not_false_eq_true, and_self]
    rw [pure_rem (by omega)]
    simp only [vcs, tbl, crs, List.map, reduceIte, Nat.reduceLT, Nat.reduceLeDiff, Nat.reduceEqDiff, Nat.reduceAdd, Nat.reduceMul, Nat.reduceSub, List.all_cons, List.all_nil, Bool.and_true, Bool.and_self, ne_eq, reduceCtorEq, not_false_eq_true, and_self]
    have t1 := Int.tmod_nonneg n p1
    have t2 := Int.tmod_lt_of_pos b1 (show 0 < n by omega)
    exact ⟨g1, cu1, _, rfl, t1, by omega⟩
  · refine (l1Byte_c m bc cu0).mono ?_
    rintro r m1 ⟨g1, cu1, b1, rfl, p1, q1⟩
    simp only [vcs, tbl, crs, List.map, reduceIte, Nat.reduceLT, Nat.reduceLeDiff, Nat.reduceEqDiff, Nat.reduceAdd, Nat.reduceMul, Nat.reduceSub, List.all_cons, List.all_nil, Bool.and_true, Bool.and_self, ne_eq, reduceCtorEq, not_false_eq_true, and_self]
    refine (l1Byte_c m1 bc cu1).mono ?_
    rintro r m2 ⟨g2, cu2, b2, rfl, p2, q2⟩
    simp only [vcs, tbl, crs, List.map, reduceIte, Nat.reduceLT, Nat.reduceLeDiff, Nat.reduceEqDiff, Nat.reduceAdd, Nat.reduceMul, Nat.reduceSub, List.all_cons, List.all_nil, Bool.and_true, Bool.and_self, ne_eq, reduceCtorEq, not_false_eq_true, and_self]
    refine (l1Byte_c m2 bc cu2).mono ?_
    rintro r m3 ⟨g3, cu3, b3, rfl, p3, q3⟩
    simp only [vcs, tbl, crs, List.map, reduceIte, Nat.reduceLT, Nat.reduceLeDiff, Nat.reduceEqDiff, Nat.reduceAdd, Nat.reduceMul, Nat.reduceSub, List.all_cons, List.all_nil, Bool.and_true, Bool.and_self, ne_eq, reduceCtorEq, not_false_eq_true, and_self]
    refine (l1Byte_c m3 bc cu3).mono ?_
    rintro r m4 ⟨g4, cu4, b4, rfl, p4, q4⟩
    simp only [vcs, tbl, crs, List.map, reduceIte, Nat.reduceLT, Nat.reduceLeDiff, Nat.reduceEqDiff, Nat.reduceAdd, Nat.reduceMul, Nat.reduceSub, List.all_cons, List.all_nil, Bool.and_true, Bool.and_self, ne_eq, reduceCtorEq, not_false_eq_true, and_self]
    rw [wrap_id (n := b1 * 16777216) (by omega) (by omega), wrap_id (n := b2 * 65536) (by omega) (by omega), wrap_id (n := b3 * 256) (by omega) (by omega), wrap_id (n := b1 * 16777216 + b2 * 65536) (by omega) (by omega), wrap_id (n := b1 * 16777216 + b2 * 65536 + b3 * 256) (by omega) (by omega), wrap_id (n := b1 * 16777216 + b2 * 65536 + b3 * 256 + b4) (by omega) (by omega)]
    rw [pure_rem (by omega)]
    simp only [vcs, tbl, crs, List.map, reduceIte, Nat.reduceLT, Nat.reduceLeDiff, Nat.reduceEqDiff, Nat.reduceAdd, Nat.reduceMul, Nat.reduceSub, List.all_cons, List.all_nil, Bool.and_true, Bool.and_self, ne_eq, reduceCtorEq, not_false_eq_true, and_self]
    have t1 := Int.tmod_nonneg n (show 0 ≤ b1 * 16777216 + b2 * 65536 + b3 * 256 + b4 by omega)
    have t2 := Int.tmod_lt_of_pos (b1 * 16777216 + b2 * 65536 + b3 * 256 + b4) (show 0 < n by omega)
    exact ⟨((g1.trans g2).trans g3).trans g4, cu4, _, rfl, t1, by omega⟩
def BoolR (r : Value) : Prop := ∃ b : Bool, r = .bool b
theorem l1Once_c (n : Int) (hn : n ≤ 4294967296) : CuC 52 [.int .i64 n] BoolR := by
  intro m bc cu
  refine fcalls_of_vc (args := [_, _]) follows_mixed Try.func52 rfl (by kernel_rfl) (by simp [Try.f52]) ?_
  simp only [Try.f52, vcs, tbl, crs, List.map, reduceIte, Nat.reduceLT, Nat.reduceLeDiff, Nat.reduceEqDiff, Nat.reduceAdd, Nat.reduceMul, Nat.reduceSub, List.all_cons, List.all_nil, Bool.and_true, Bool.and_self, ne_eq, reduceCtorEq, not_false_eq_true, and_self]
  refine (l1Below_c n hn m bc cu).mono ?_
  rintro r m1 ⟨g1, cu1, k, rfl, _, _⟩
  simp only [vcs, tbl, crs, List.map, reduceIte, Nat.reduceLT, Nat.reduceLeDiff, Nat.reduceEqDiff, Nat.reduceAdd, Nat.reduceMul, Nat.reduceSub, List.all_cons, List.all_nil, Bool.and_true, Bool.and_self, ne_eq, reduceCtorEq, not_false_eq_true, and_self]
  exact ⟨g1, cu1, _, rfl⟩
theorem l1PickInt_c (es : List Int) (h0 : 0 < es.length) (h1 : es.length ≤ 1000) (m : World) (bc : Nat) (v : Value) (F : List Nat) (cu : Cu m bc) (h : CellF m (.sl es.length (es.flatMap irow)) v F) (hb : bc ∉ F) :
   FCalls Try.prog 56 #[.pointer (some ⟨bc, 0, none⟩), v] m fun r m' => Chg [bc] m m' ∧ Cu m' bc ∧ ∃ k : Int, r = .int .i64 k ∧ k ∈ es := by
  obtain ⟨a, cap, rfl, hcap, hmax, hz⟩ := h.slice
  refine fcalls_of_vc (args := [_, _]) follows_mixed Try.func56 rfl (by kernel_rfl) (by simp [Try.f56]) ?_
  simp only [Try.f56, vcs, tbl, crs, List.map, reduceIte, Nat.reduceLT, Nat.reduceLeDiff, Nat.reduceEqDiff, Nat.reduceAdd, Nat.reduceMul, Nat.reduceSub, List.all_cons, List.all_nil, Bool.and_true, Bool.and_self, ne_eq, reduceCtorEq, not_false_eq_true, and_self]
  refine (l1Below_c es.length (by omega) m bc cu).mono ?_
  rintro r m1 ⟨g1, cu1, k, rfl, p, q⟩
  rw [if_neg (by omega)] at q
  have h' := h.chg g1 (by simp; intro x hx e; exact hb (e ▸ hx))
  simp only [vcs, tbl, crs, List.map, reduceIte, Nat.reduceLT, Nat.reduceLeDiff, Nat.reduceEqDiff, Nat.reduceAdd, Nat.reduceMul, Nat.reduceSub, List.all_cons, List.all_nil, Bool.and_true, Bool.and_self, ne_eq, reduceCtorEq, not_false_eq_true, and_self]
  have hlt : k.toNat < es.length := by omega
  obtain ⟨ad, vs, Fk, ha, hvl, hcell, hv, _⟩ := h'.elem irow_len (by decide) (List.getElem?_eq_getElem hlt)
  obtain ⟨r1, rfl, hv1, _⟩ := valsF_lit hv
  have hcu := hcell 0 _ rfl
  rw [add0] at hcu
  refine ⟨by omega, by omega, ad, ha, _, hcu, ?_⟩
  simp only [vcs, tbl, crs, List.map, reduceIte, Nat.reduceLT, Nat.reduceLeDiff, Nat.reduceEqDiff, Nat.reduceAdd, Nat.reduceMul, Nat.reduceSub, List.all_cons, List.all_nil, Bool.and_true, Bool.and_self, ne_eq, reduceCtorEq, not_false_eq_true, and_self]
  exact ⟨g1, cu1, _, rfl, List.getElem_mem _⟩
theorem l1Pick_c (es : List ByteArray) (h0 : 0 < es.length) (h1 : es.length ≤ 1000) (m : World) (bc : Nat) (v : Value) (F : List Nat) (cu : Cu m bc) (h : CellF m (.sl es.length (es.flatMap srow)) v F) (hb : bc ∉ F) :
   FCalls Try.prog 58 #[.pointer (some ⟨bc, 0, none⟩), v] m fun r m' => Chg [bc] m m' ∧ Cu m' bc ∧ ∃ k : ByteArray, r = .string k ∧ k ∈ es := by
  obtain ⟨a, cap, rfl, hcap, hmax, hz⟩ := h.slice
  refine fcalls_of_vc (args := [_, _]) follows_mixed Try.func58 rfl (by kernel_rfl) (by simp [Try.f58]) ?_
  simp only [Try.f58, vcs, tbl, crs, List.map, reduceIte, Nat.reduceLT, Nat.reduceLeDiff, Nat.reduceEqDiff, Nat.reduceAdd, Nat.reduceMul, Nat.reduceSub, List.all_cons, List.all_nil, Bool.and_true, Bool.and_self, ne_eq, reduceCtorEq, not_false_eq_true, and_self]
  refine (l1Below_c es.length (by omega) m bc cu).mono ?_
  rintro r m1 ⟨g1, cu1, k, rfl, p, q⟩
  rw [if_neg (by omega)] at q
  have h' := h.chg g1 (by simp; intro x hx e; exact hb (e ▸ hx))
  simp only [vcs, tbl, crs, List.map, reduceIte, Nat.reduceLT, Nat.reduceLeDiff, Nat.reduceEqDiff, Nat.reduceAdd, Nat.reduceMul, Nat.reduceSub, List.all_cons, List.all_nil, Bool.and_true, Bool.and_self, ne_eq, reduceCtorEq, not_false_eq_true, and_self]
  have hlt : k.toNat < es.length := by omega
  obtain ⟨ad, vs, Fk, ha, hvl, hcell, hv, _⟩ := h'.elem srow_len (by decide) (List.getElem?_eq_getElem hlt)
  obtain ⟨r1, rfl, hv1, _⟩ := valsF_lit hv
  have hcu := hcell 0 _ rfl
  rw [add0] at hcu
  refine ⟨by omega, by omega, ad, ha, _, hcu, ?_⟩
  simp only [vcs, tbl, crs, List.map, reduceIte, Nat.reduceLT, Nat.reduceLeDiff, Nat.reduceEqDiff, Nat.reduceAdd, Nat.reduceMul, Nat.reduceSub, List.all_cons, List.all_nil, Bool.and_true, Bool.and_self, ne_eq, reduceCtorEq, not_false_eq_true, and_self]
  exact ⟨g1, cu1, _, rfl, List.getElem_mem _⟩
def VR (r : Value) : Prop := ∃ x : Val, r = .agg #[.int .i64 x.kind, .int .i64 x.num, .string x.text] ∧ x.text.size ≤ 2000
theorem IntValue_c (n : Int) (m : World) : FCalls Try.prog 55 #[.int .i64 n] m fun r m' => m' = m ∧ VR r := by
  refine fcalls_of_vc (args := [_]) follows_mixed Try.func55 rfl (by kernel_rfl) (by simp [Try.f55]) ?_
  simp only [Try.f55, vcs, tbl, crs, List.map, reduceIte, Nat.reduceLT, Nat.reduceLeDiff, Nat.reduceEqDiff, Nat.reduceAdd, Nat.reduceMul, Nat.reduceSub, List.all_cons, List.all_nil, Bool.and_true, Bool.and_self, ne_eq, reduceCtorEq, not_false_eq_true, and_self]
  exact ⟨⟨1, n, ByteArray.empty⟩, rfl, Nat.zero_le _⟩
theorem TextValue_c (s : ByteArray) (hs : s.size ≤ 2000) (m : World) : FCalls Try.prog 57 #[.string s] m fun r m' => m' = m ∧ r = .agg #[.int .i64 2, .int .i64 0, .string s] := by
  refine fcalls_of_vc (args := [_]) follows_mixed Try.func57 rfl (by kernel_rfl) (by simp [Try.f57]) ?_
  simp only [Try.f57, vcs, tbl, crs, List.map, reduceIte, Nat.reduceLT, Nat.reduceLeDiff, Nat.reduceEqDiff, Nat.reduceAdd, Nat.reduceMul, Nat.reduceSub, List.all_cons, List.all_nil, Bool.and_true, Bool.and_self, ne_eq, reduceCtorEq, not_false_eq_true, and_self]
theorem BoolValue_c (b : Bool) (m : World) : FCalls Try.prog 122 #[.bool b] m fun r m' => m' = m ∧ VR r := by
  refine fcalls_of_vc (args := [_]) follows_mixed Try.func122 rfl (by kernel_rfl) (by simp [Try.f122]) ?_
  simp only [Try.f122, vcs, tbl, crs, List.map, reduceIte, Nat.reduceLT, Nat.reduceLeDiff, Nat.reduceEqDiff, Nat.reduceAdd, Nat.reduceMul, Nat.reduceSub, List.all_cons, List.all_nil, Bool.and_true, Bool.and_self, ne_eq, reduceCtorEq, not_false_eq_true, and_self]
  exact ⟨fun _ => ⟨⟨3, 1, ByteArray.empty⟩, rfl, by decide⟩, fun _ => ⟨⟨3, 0, ByteArray.empty⟩, rfl, by decide⟩⟩

end Go.Proofs.Ytklligemdfnimaa
set_option linter.unusedVariables false
set_option linter.unusedSimpArgs false
set_option maxRecDepth 4000
namespace Go.Proofs.Ytklligemdfnimaa
open Go Go.Vc
theorem range3 : List.range 3 = [0, 1, 2] := rfl
theorem rep3 (z : Value) : (List.replicate 3 [z]).flatten = [z, z, z] := rfl
theorem range4 : List.range 4 = [0, 1, 2, 3] := rfl
theorem rep4 (z : Value) : (List.replicate 4 [z]).flatten = [z, z, z, z] := rfl
theorem range6 : List.range 6 = [0, 1, 2, 3, 4, 5] := rfl
theorem rep6 (z : Value) : (List.replicate 6 [z]).flatten = [z, z, z, z, z, z] := rfl
theorem range14 : List.range 14 = [0, 1, 2, 3, 4, 5, 6, 7, 8, 9, 10, 11, 12, 13] := rfl
theorem rep14 (z : Value) : (List.replicate 14 [z]).flatten = [z, z, z, z, z, z, z, z, z, z, z, z, z, z] := rfl
theorem valspickI (m : World) : ∀ es : List Int, ValsF m (es.flatMap irow) (es.map (Value.int .i64)) []
  | [] => rfl
  | e :: es => ⟨[], [], ⟨rfl, rfl, trivial⟩, valspickI m es, rfl⟩
theorem pickI_c (es : List Int) (h0 : 0 < es.length) (h1 : es.length ≤ 1000) {m m1 : World} {b bc : Nat} {ty : TypeId} (hp : Pub m m1 b ty (es.map (Value.int .i64))) (cu : Cu m bc) :
   FCalls Try.prog 56 #[.pointer (some ⟨bc, 0, none⟩), .slice (some ⟨b, 0, none⟩) es.length es.length] m1 fun r m' => Chg [bc] m m' ∧ Cu m' bc ∧ ∃ k : Int, r = Value.int .i64 k ∧ k ∈ es := by
  have hc := CellF.of_pubN (n := es.length) (cap := es.length) hp (valspickI m es) (fun e => by have := congrArg List.length e; rw [flatMap_len irow_len, List.length_nil] at this; omega) (Nat.le_refl _) (Nat.le_trans h1 (by decide))
  have hb : bc ∉ [b] := by
    intro h
    obtain rfl := List.mem_singleton.1 h
    obtain ⟨_, _, _, _, _, _, _, _, _, _, how⟩ := cu
    exact hp.new (how.vis _ (by simp))
  refine (l1PickInt_c es h0 h1 m1 bc _ _ (cu.grow hp.grow) hc hb).mono ?_
  rintro r m2 ⟨g, cu2, k, rfl, hk⟩
  exact ⟨(hp.grow.chg _).trans g, cu2, k, rfl, hk⟩

theorem valspickS (m : World) : ∀ es : List ByteArray, (∀ e ∈ es, e.size ≤ 2000) → ValsF m (es.flatMap srow) (es.map (Value.string)) []
  | [], _ => rfl
  | e :: es, h => ⟨[], [], ⟨rfl, rfl, Nat.le_trans (h e (by simp)) (by decide)⟩, valspickS m es fun x hx => h x (by simp [hx]), rfl⟩
theorem pickS_c (es : List ByteArray) (h0 : 0 < es.length) (h1 : es.length ≤ 1000) (hs : ∀ e ∈ es, e.size ≤ 2000) {m m1 : World} {b bc : Nat} {ty : TypeId} (hp : Pub m m1 b ty (es.map (Value.string))) (cu : Cu m bc) :
   FCalls Try.prog 58 #[.pointer (some ⟨bc, 0, none⟩), .slice (some ⟨b, 0, none⟩) es.length es.length] m1 fun r m' => Chg [bc] m m' ∧ Cu m' bc ∧ ∃ k : ByteArray, r = Value.string k ∧ k.size ≤ 2000 := by
  have hc := CellF.of_pubN (n := es.length) (cap := es.length) hp (valspickS m es hs) (fun e => by have := congrArg List.length e; rw [flatMap_len srow_len, List.length_nil] at this; omega) (Nat.le_refl _) (Nat.le_trans h1 (by decide))
  have hb : bc ∉ [b] := by
    intro h
    obtain rfl := List.mem_singleton.1 h
    obtain ⟨_, _, _, _, _, _, _, _, _, _, how⟩ := cu
    exact hp.new (how.vis _ (by simp))
  refine (l1Pick_c es h0 h1 m1 bc _ _ (cu.grow hp.grow) hc hb).mono ?_
  rintro r m2 ⟨g, cu2, k, rfl, hk⟩
  exact ⟨(hp.grow.chg _).trans g, cu2, k, rfl, hs k hk⟩
theorem l1Whole_c : CuC 121 [] fun r => ∃ k : Int, r = .int .i64 k := by
  intro m bc cu0
  refine fcalls_of_vc (args := [_]) follows_mixed Try.func121 rfl (by kernel_rfl) (by simp [Try.f121]) ?_
  simp only [Try.f121, vcs, tbl, crs, List.map, reduceIte, Nat.reduceLT, Nat.reduceLeDiff, Nat.reduceEqDiff, Nat.reduceAdd, Nat.reduceMul, Nat.reduceSub, List.all_cons, List.all_nil, Bool.and_true, Bool.and_self, ne_eq, reduceCtorEq, not_false_eq_true, and_self]
  refine (l1Below_c 3 (by decide) m bc cu0).mono ?_
  rintro r m1 ⟨g1, cu1, b1, rfl, p1, q1⟩
  simp only [vcs, tbl, crs, List.map, reduceIte, Nat.reduceLT, Nat.reduceLeDiff, Nat.reduceEqDiff, Nat.reduceAdd, Nat.reduceMul, Nat.reduceSub, List.all_cons, List.all_nil, Bool.and_true, Bool.and_self, ne_eq, reduceCtorEq, not_false_eq_true, and_self]
  refine ⟨fun h0 => ?_, fun h0 => ?_⟩
  · simp only [vcs, tbl, crs, List.map, reduceIte, Nat.reduceLT, Nat.reduceLeDiff, Nat.reduceEqDiff, Nat.reduceAdd, Nat.reduceMul, Nat.reduceSub, List.all_cons, List.all_nil, Bool.and_true, Bool.and_self, ne_eq, reduceCtorEq, not_false_eq_true, and_self, add_lit0, Nat.zero_mul, Nat.zero_add, Nat.add_zero, Nat.le_refl, range14, range4, range6, range3, rep14, rep4, rep6, rep3]
    intro b m2 hp
    refine (pickI_c [0, 1, -1, 63, 64, -64, -65, 127, 128, 16383, 16384, 9223372036854775807, -9223372036854775808, 4611686018427387904] (by decide) (by decide) hp cu1).mono ?_
    rintro r m3 ⟨g2, cu2, b2, rfl, _⟩
    simp only [vcs, tbl, crs, List.map, reduceIte, Nat.reduceLT, Nat.reduceLeDiff, Nat.reduceEqDiff, Nat.reduceAdd, Nat.reduceMul, Nat.reduceSub, List.all_cons, List.all_nil, Bool.and_true, Bool.and_self, ne_eq, reduceCtorEq, not_false_eq_true, and_self]
    exact ⟨g1.trans g2, cu2, _, rfl⟩
  · refine ⟨fun h1 => ?_, fun h1 => ?_⟩
    · refine (l1Below_c 1000000 (by decide) m1 bc cu1).mono ?_
      rintro r m2 ⟨g2, cu2, b2, rfl, p2, q2⟩
      simp only [vcs, tbl, crs, List.map, reduceIte, Nat.reduceLT, Nat.reduceLeDiff, Nat.reduceEqDiff, Nat.reduceAdd, Nat.reduceMul, Nat.reduceSub, List.all_cons, List.all_nil, Bool.and_true, Bool.and_self, ne_eq, reduceCtorEq, not_false_eq_true, and_self]
      exact ⟨g1.trans g2, cu2, _, rfl⟩
    · refine (l1Below_c 20 (by decide) m1 bc cu1).mono ?_
      rintro r m2 ⟨g2, cu2, b2, rfl, p2, q2⟩
      simp only [vcs, tbl, crs, List.map, reduceIte, Nat.reduceLT, Nat.reduceLeDiff, Nat.reduceEqDiff, Nat.reduceAdd, Nat.reduceMul, Nat.reduceSub, List.all_cons, List.all_nil, Bool.and_true, Bool.and_self, ne_eq, reduceCtorEq, not_false_eq_true, and_self]
      exact ⟨g1.trans g2, cu2, _, rfl⟩

theorem l6Typed_c (kind : Int) : CuC 54 [.int .i64 kind] VR := by
  intro m bc cu0
  refine fcalls_of_vc (args := [_, _]) follows_mixed Try.func54 rfl (by kernel_rfl) (by simp [Try.f54]) ?_
  simp only [Try.f54, vcs, tbl, crs, List.map, reduceIte, Nat.reduceLT, Nat.reduceLeDiff, Nat.reduceEqDiff, Nat.reduceAdd, Nat.reduceMul, Nat.reduceSub, List.all_cons, List.all_nil, Bool.and_true, Bool.and_self, ne_eq, reduceCtorEq, not_false_eq_true, and_self]
  refine (l1Once_c 6 (by decide) m bc cu0).mono ?_
  rintro r m1 ⟨g1, cu1, b1, rfl⟩
  simp only [vcs, tbl, crs, List.map, reduceIte, Nat.reduceLT, Nat.reduceLeDiff, Nat.reduceEqDiff, Nat.reduceAdd, Nat.reduceMul, Nat.reduceSub, List.all_cons, List.all_nil, Bool.and_true, Bool.and_self, ne_eq, reduceCtorEq, not_false_eq_true, and_self]
  refine ⟨fun h0 => ?_, fun h0 => ?_⟩
  · exact ⟨g1, cu1, ⟨0, 0, ByteArray.empty⟩, rfl, by decide⟩
  · refine ⟨fun h1 => ?_, fun h1 => ?_⟩
    · simp only [vcs, tbl, crs, List.map, reduceIte, Nat.reduceLT, Nat.reduceLeDiff, Nat.reduceEqDiff, Nat.reduceAdd, Nat.reduceMul, Nat.reduceSub, List.all_cons, List.all_nil, Bool.and_true, Bool.and_self, ne_eq, reduceCtorEq, not_false_eq_true, and_self, add_lit0, Nat.zero_mul, Nat.zero_add, Nat.add_zero, Nat.le_refl, range14, range4, range6, range3, rep14, rep4, rep6, rep3]
      intro b m2 hp
      refine (pickS_c [⟨#[]⟩, ⟨#[97]⟩, ⟨#[98]⟩, ⟨#[97, 98]⟩] (by decide) (by decide) (by decide) hp cu1).mono ?_
      rintro r m3 ⟨g2, cu2, b2, rfl, hb2⟩
      simp only [vcs, tbl, crs, List.map, reduceIte, Nat.reduceLT, Nat.reduceLeDiff, Nat.reduceEqDiff, Nat.reduceAdd, Nat.reduceMul, Nat.reduceSub, List.all_cons, List.all_nil, Bool.and_true, Bool.and_self, ne_eq, reduceCtorEq, not_false_eq_true, and_self]
      refine (TextValue_c b2 hb2 m3).mono ?_
      rintro r m9 ⟨rfl, rfl⟩
      simp only [vcs, tbl, crs, List.map, reduceIte, Nat.reduceLT, Nat.reduceLeDiff, Nat.reduceEqDiff, Nat.reduceAdd, Nat.reduceMul, Nat.reduceSub, List.all_cons, List.all_nil, Bool.and_true, Bool.and_self, ne_eq, reduceCtorEq, not_false_eq_true, and_self]
      exact ⟨g1.trans g2, cu2, ⟨2, 0, b2⟩, rfl, hb2⟩
    · refine ⟨fun h2 => ?_, fun h2 => ?_⟩
      · refine (l1Once_c 2 (by decide) m1 bc cu1).mono ?_
        rintro r m2 ⟨g2, cu2, b2, rfl⟩
        simp only [vcs, tbl, crs, List.map, reduceIte, Nat.reduceLT, Nat.reduceLeDiff, Nat.reduceEqDiff, Nat.reduceAdd, Nat.reduceMul, Nat.reduceSub, List.all_cons, List.all_nil, Bool.and_true, Bool.and_self, ne_eq, reduceCtorEq, not_false_eq_true, and_self]
        refine (BoolValue_c b2 m2).mono ?_
        rintro r m9 ⟨rfl, x, rfl, hx⟩
        simp only [vcs, tbl, crs, List.map, reduceIte, Nat.reduceLT, Nat.reduceLeDiff, Nat.reduceEqDiff, Nat.reduceAdd, Nat.reduceMul, Nat.reduceSub, List.all_cons, List.all_nil, Bool.and_true, Bool.and_self, ne_eq, reduceCtorEq, not_false_eq_true, and_self]
        exact ⟨(g1).trans g2, cu2, x, rfl, hx⟩
      · refine (l1Whole_c m1 bc cu1).mono ?_
        rintro r m2 ⟨g2, cu2, b2, rfl⟩
        simp only [vcs, tbl, crs, List.map, reduceIte, Nat.reduceLT, Nat.reduceLeDiff, Nat.reduceEqDiff, Nat.reduceAdd, Nat.reduceMul, Nat.reduceSub, List.all_cons, List.all_nil, Bool.and_true, Bool.and_self, ne_eq, reduceCtorEq, not_false_eq_true, and_self]
        refine (IntValue_c b2 m2).mono ?_
        rintro r m9 ⟨rfl, x, rfl, hx⟩
        simp only [vcs, tbl, crs, List.map, reduceIte, Nat.reduceLT, Nat.reduceLeDiff, Nat.reduceEqDiff, Nat.reduceAdd, Nat.reduceMul, Nat.reduceSub, List.all_cons, List.all_nil, Bool.and_true, Bool.and_self, ne_eq, reduceCtorEq, not_false_eq_true, and_self]
        exact ⟨(g1).trans g2, cu2, x, rfl, hx⟩

theorem l5Right_c : CuC 120 [] VR := by
  intro m bc cu0
  refine fcalls_of_vc (args := [_]) follows_mixed Try.func120 rfl (by kernel_rfl) (by simp [Try.f120]) ?_
  simp only [Try.f120, vcs, tbl, crs, List.map, reduceIte, Nat.reduceLT, Nat.reduceLeDiff, Nat.reduceEqDiff, Nat.reduceAdd, Nat.reduceMul, Nat.reduceSub, List.all_cons, List.all_nil, Bool.and_true, Bool.and_self, ne_eq, reduceCtorEq, not_false_eq_true, and_self]
  refine (l1Below_c 6 (by decide) m bc cu0).mono ?_
  rintro r m1 ⟨g1, cu1, b1, rfl, p1, q1⟩
  simp only [vcs, tbl, crs, List.map, reduceIte, Nat.reduceLT, Nat.reduceLeDiff, Nat.reduceEqDiff, Nat.reduceAdd, Nat.reduceMul, Nat.reduceSub, List.all_cons, List.all_nil, Bool.and_true, Bool.and_self, ne_eq, reduceCtorEq, not_false_eq_true, and_self]
  refine ⟨fun h0 => ?_, fun h0 => ?_⟩
  · exact ⟨g1, cu1, ⟨0, 0, ByteArray.empty⟩, rfl, by decide⟩
  · refine ⟨fun h1 => ?_, fun h1 => ?_⟩
    · simp only [vcs, tbl, crs, List.map, reduceIte, Nat.reduceLT, Nat.reduceLeDiff, Nat.reduceEqDiff, Nat.reduceAdd, Nat.reduceMul, Nat.reduceSub, List.all_cons, List.all_nil, Bool.and_true, Bool.and_self, ne_eq, reduceCtorEq, not_false_eq_true, and_self, add_lit0, Nat.zero_mul, Nat.zero_add, Nat.add_zero, Nat.le_refl, range14, range4, range6, range3, rep14, rep4, rep6, rep3]
      intro b m2 hp
      refine (pickS_c [⟨#[]⟩, ⟨#[97]⟩, ⟨#[98]⟩, ⟨#[105, 116, 39, 115]⟩, ⟨#[97, 98]⟩, ⟨#[255]⟩] (by decide) (by decide) (by decide) hp cu1).mono ?_
      rintro r m3 ⟨g2, cu2, b2, rfl, hb2⟩
      simp only [vcs, tbl, crs, List.map, reduceIte, Nat.reduceLT, Nat.reduceLeDiff, Nat.reduceEqDiff, Nat.reduceAdd, Nat.reduceMul, Nat.reduceSub, List.all_cons, List.all_nil, Bool.and_true, Bool.and_self, ne_eq, reduceCtorEq, not_false_eq_true, and_self]
      refine (TextValue_c b2 hb2 m3).mono ?_
      rintro r m9 ⟨rfl, rfl⟩
      simp only [vcs, tbl, crs, List.map, reduceIte, Nat.reduceLT, Nat.reduceLeDiff, Nat.reduceEqDiff, Nat.reduceAdd, Nat.reduceMul, Nat.reduceSub, List.all_cons, List.all_nil, Bool.and_true, Bool.and_self, ne_eq, reduceCtorEq, not_false_eq_true, and_self]
      exact ⟨g1.trans g2, cu2, ⟨2, 0, b2⟩, rfl, hb2⟩
    · refine ⟨fun h2 => ?_, fun h2 => ?_⟩
      · refine (l1Once_c 2 (by decide) m1 bc cu1).mono ?_
        rintro r m2 ⟨g2, cu2, b2, rfl⟩
        simp only [vcs, tbl, crs, List.map, reduceIte, Nat.reduceLT, Nat.reduceLeDiff, Nat.reduceEqDiff, Nat.reduceAdd, Nat.reduceMul, Nat.reduceSub, List.all_cons, List.all_nil, Bool.and_true, Bool.and_self, ne_eq, reduceCtorEq, not_false_eq_true, and_self]
        refine (BoolValue_c b2 m2).mono ?_
        rintro r m9 ⟨rfl, x, rfl, hx⟩
        simp only [vcs, tbl, crs, List.map, reduceIte, Nat.reduceLT, Nat.reduceLeDiff, Nat.reduceEqDiff, Nat.reduceAdd, Nat.reduceMul, Nat.reduceSub, List.all_cons, List.all_nil, Bool.and_true, Bool.and_self, ne_eq, reduceCtorEq, not_false_eq_true, and_self]
        exact ⟨(g1).trans g2, cu2, x, rfl, hx⟩
      · refine ⟨fun h3 => ?_, fun h3 => ?_⟩
        · refine (l1Whole_c m1 bc cu1).mono ?_
          rintro r m2 ⟨g2, cu2, b2, rfl⟩
          simp only [vcs, tbl, crs, List.map, reduceIte, Nat.reduceLT, Nat.reduceLeDiff, Nat.reduceEqDiff, Nat.reduceAdd, Nat.reduceMul, Nat.reduceSub, List.all_cons, List.all_nil, Bool.and_true, Bool.and_self, ne_eq, reduceCtorEq, not_false_eq_true, and_self]
          refine (IntValue_c b2 m2).mono ?_
          rintro r m9 ⟨rfl, x, rfl, hx⟩
          simp only [vcs, tbl, crs, List.map, reduceIte, Nat.reduceLT, Nat.reduceLeDiff, Nat.reduceEqDiff, Nat.reduceAdd, Nat.reduceMul, Nat.reduceSub, List.all_cons, List.all_nil, Bool.and_true, Bool.and_self, ne_eq, reduceCtorEq, not_false_eq_true, and_self]
          exact ⟨(g1).trans g2, cu2, x, rfl, hx⟩
        · refine (l1Below_c 7 (by decide) m1 bc cu1).mono ?_
          rintro r m2 ⟨g2, cu2, b2, rfl, p2, q2⟩
          simp only [vcs, tbl, crs, List.map, reduceIte, Nat.reduceLT, Nat.reduceLeDiff, Nat.reduceEqDiff, Nat.reduceAdd, Nat.reduceMul, Nat.reduceSub, List.all_cons, List.all_nil, Bool.and_true, Bool.and_self, ne_eq, reduceCtorEq, not_false_eq_true, and_self]
          refine (IntValue_c _ m2).mono ?_
          rintro r m9 ⟨rfl, x, rfl, hx⟩
          simp only [vcs, tbl, crs, List.map, reduceIte, Nat.reduceLT, Nat.reduceLeDiff, Nat.reduceEqDiff, Nat.reduceAdd, Nat.reduceMul, Nat.reduceSub, List.all_cons, List.all_nil, Bool.and_true, Bool.and_self, ne_eq, reduceCtorEq, not_false_eq_true, and_self]
          exact ⟨(g1).trans g2, cu2, x, rfl, hx⟩

end Go.Proofs.Ytklligemdfnimaa
set_option linter.unusedVariables false
set_option linter.unusedSimpArgs false
set_option maxRecDepth 4000
namespace Go.Proofs.Ytklligemdfnimaa
open Go Go.Vc
def bentMu : Lst → Nat
  | (_, .str _ [_, _, .v (.string s)]) :: _ => 400 - s.size
  | _ => 0
theorem l5Bent_c : CuC 53 [] VR := by
  intro m bc cu0
  refine fcalls_of_vc (args := [_]) follows_mixed Try.func53 rfl (by kernel_rfl) (by simp [Try.f53]) ?_
  simp only [Try.f53, vcs, tbl, crs, List.map, reduceIte, Nat.reduceLT, Nat.reduceLeDiff, Nat.reduceEqDiff, Nat.reduceAdd, Nat.reduceMul, Nat.reduceSub, List.all_cons, List.all_nil, Bool.and_true, Bool.and_self, ne_eq, reduceCtorEq, not_false_eq_true, and_self]
  refine (l5Right_c m bc cu0).mono ?_
  rintro r m1 ⟨g1, cu1, ⟨xk, xn, xt⟩, rfl, hx⟩
  simp only [vcs, tbl, crs, List.map, reduceIte, Nat.reduceLT, Nat.reduceLeDiff, Nat.reduceEqDiff, Nat.reduceAdd, Nat.reduceMul, Nat.reduceSub, List.all_cons, List.all_nil, Bool.and_true, Bool.and_self, ne_eq, reduceCtorEq, not_false_eq_true, and_self]
  refine (l1Below_c 14 (by decide) m1 bc cu1).mono ?_
  rintro r m2 ⟨g2, cu2, b2, rfl, p2, q2⟩
  simp only [vcs, tbl, crs, List.map, reduceIte, Nat.reduceLT, Nat.reduceLeDiff, Nat.reduceEqDiff, Nat.reduceAdd, Nat.reduceMul, Nat.reduceSub, List.all_cons, List.all_nil, Bool.and_true, Bool.and_self, ne_eq, reduceCtorEq, not_false_eq_true, and_self]
  refine ⟨fun h0 => ?_, fun h0 => ?_⟩
  · refine (l1Below_c 6 (by decide) m2 bc cu2).mono ?_
    rintro r m3 ⟨g3, cu3, b3, rfl, p3, q3⟩
    simp only [vcs, tbl, crs, List.map, reduceIte, Nat.reduceLT, Nat.reduceLeDiff, Nat.reduceEqDiff, Nat.reduceAdd, Nat.reduceMul, Nat.reduceSub, List.all_cons, List.all_nil, Bool.and_true, Bool.and_self, ne_eq, reduceCtorEq, not_false_eq_true, and_self]
    exact ⟨(g1.trans g2).trans g3, cu3, ⟨_, _, _⟩, rfl, hx⟩
  · refine ⟨fun h1 => ?_, fun h1 => ?_⟩
    · refine (l1Whole_c m2 bc cu2).mono ?_
      rintro r m3 ⟨g3, cu3, b3, rfl⟩
      simp only [vcs, tbl, crs, List.map, reduceIte, Nat.reduceLT, Nat.reduceLeDiff, Nat.reduceEqDiff, Nat.reduceAdd, Nat.reduceMul, Nat.reduceSub, List.all_cons, List.all_nil, Bool.and_true, Bool.and_self, ne_eq, reduceCtorEq, not_false_eq_true, and_self]
      exact ⟨(g1.trans g2).trans g3, cu3, ⟨_, _, _⟩, rfl, hx⟩
    · refine ⟨fun h2 => ?_, fun h2 => ?_⟩
      · simp only [vcs, tbl, crs, List.map, reduceIte, Nat.reduceLT, Nat.reduceLeDiff, Nat.reduceEqDiff, Nat.reduceAdd, Nat.reduceMul, Nat.reduceSub, List.all_cons, List.all_nil, Bool.and_true, Bool.and_self, ne_eq, reduceCtorEq, not_false_eq_true, and_self, add_lit0, Nat.zero_mul, Nat.zero_add, Nat.add_zero, Nat.le_refl, range14, range4, range6, range3, rep14, rep4, rep6, rep3]
        intro b m3 hp
        refine (pickS_c [⟨#[120]⟩, ⟨#[]⟩, ⟨#[108, 111, 110, 103]⟩] (by decide) (by decide) (by decide) hp cu2).mono ?_
        rintro r m4 ⟨g3, cu3, b3, rfl, hb3⟩
        simp only [vcs, tbl, crs, List.map, reduceIte, Nat.reduceLT, Nat.reduceLeDiff, Nat.reduceEqDiff, Nat.reduceAdd, Nat.reduceMul, Nat.reduceSub, List.all_cons, List.all_nil, Bool.and_true, Bool.and_self, ne_eq, reduceCtorEq, not_false_eq_true, and_self]
        refine vcLoop.intro (fun f L m' => ∃ s : ByteArray, L = [(3, .str 40 [.v (.int .i64 xk), .v (.int .i64 xn), .v (.string s)]), (2, .str 40 [.v (.int .i64 0), .v (.int .i64 0), .v (.string ByteArray.empty)])] ∧ s.size ≤ 2000 ∧ Chg [bc] m m' ∧ Cu m' bc)
          (fun _ L _ => bentMu L) ⟨[(3, .str 40 [.v (.int .i64 xk), .v (.int .i64 xn), .v (.string b3)]), (2, .str 40 [.v (.int .i64 0), .v (.int .i64 0), .v (.string ByteArray.empty)])], ?_, b3, ?_⟩ ?_
        · exact Sub.at 3 rfl (Sub.at 2 rfl (Sub.nil _))
        · exact ⟨rfl, hb3, (g1.trans g2).trans g3, cu3⟩
        · rintro g L1 m5 ⟨s, rfl, hs, g5, cu5⟩
          simp only [vcs, tbl, crs, List.map, reduceIte, Nat.reduceLT, Nat.reduceLeDiff, Nat.reduceEqDiff, Nat.reduceAdd, Nat.reduceMul, Nat.reduceSub, List.all_cons, List.all_nil, Bool.and_true, Bool.and_self, ne_eq, reduceCtorEq, not_false_eq_true, and_self]
          refine (l1Once_c 2 (by decide) m5 bc cu5).mono ?_
          rintro r m6 ⟨g6, cu6, t, rfl⟩
          simp only [vcs, tbl, crs, List.map, reduceIte, Nat.reduceLT, Nat.reduceLeDiff, Nat.reduceEqDiff, Nat.reduceAdd, Nat.reduceMul, Nat.reduceSub, List.all_cons, List.all_nil, Bool.and_true, Bool.and_self, ne_eq, reduceCtorEq, not_false_eq_true, and_self]
          cases t
          · simp only [vcs, tbl, crs, List.map, reduceIte, Nat.reduceLT, Nat.reduceLeDiff, Nat.reduceEqDiff, Nat.reduceAdd, Nat.reduceMul, Nat.reduceSub, List.all_cons, List.all_nil, Bool.and_true, Bool.and_self, ne_eq, reduceCtorEq, not_false_eq_true, and_self]
            exact ⟨fun h => h.elim, fun _ => ⟨g5.trans g6, cu6, ⟨_, _, _⟩, rfl, hs⟩⟩
          · simp only [vcs, tbl, crs, List.map, reduceIte, Nat.reduceLT, Nat.reduceLeDiff, Nat.reduceEqDiff, Nat.reduceAdd, Nat.reduceMul, Nat.reduceSub, List.all_cons, List.all_nil, Bool.and_true, Bool.and_self, ne_eq, reduceCtorEq, not_false_eq_true, and_self]
            refine ⟨fun hlt => ?_, fun hge => ?_⟩
            · have hz : (⟨#[48, 49, 50, 51, 52, 53, 54, 55, 56, 57]⟩ : ByteArray).size = 10 := rfl
              rw [pure_sadd (by omega)]
              simp only [vcs, tbl, crs, List.map, reduceIte, Nat.reduceLT, Nat.reduceLeDiff, Nat.reduceEqDiff, Nat.reduceAdd, Nat.reduceMul, Nat.reduceSub, List.all_cons, List.all_nil, Bool.and_true, Bool.and_self, ne_eq, reduceCtorEq, not_false_eq_true, and_self]
              rw [pure_sadd (by rw [ByteArray.size_append, hz]; omega)]
              simp only [vcs, tbl, crs, List.map, reduceIte, Nat.reduceLT, Nat.reduceLeDiff, Nat.reduceEqDiff, Nat.reduceAdd, Nat.reduceMul, Nat.reduceSub, List.all_cons, List.all_nil, Bool.and_true, Bool.and_self, ne_eq, reduceCtorEq, not_false_eq_true, and_self]
              refine ⟨[(3, .str 40 [.v (.int .i64 xk), .v (.int .i64 xn), .v (.string (s ++ s ++ ⟨#[48, 49, 50, 51, 52, 53, 54, 55, 56, 57]⟩))]), (2, .str 40 [.v (.int .i64 0), .v (.int .i64 0), .v (.string ByteArray.empty)])], ?_, ⟨_, rfl, ?_, g5.trans g6, cu6⟩, ?_⟩
              · exact Sub.at 3 rfl (Sub.at 2 rfl (Sub.nil _))
              · rw [ByteArray.size_append, ByteArray.size_append, hz]; omega
              · show 400 - (s ++ s ++ ⟨#[48, 49, 50, 51, 52, 53, 54, 55, 56, 57]⟩ : ByteArray).size < 400 - s.size
                rw [ByteArray.size_append, ByteArray.size_append, hz]; omega
            · exact ⟨g5.trans g6, cu6, ⟨_, _, _⟩, rfl, hs⟩
      · exact ⟨g1.trans g2, cu2, ⟨_, _, _⟩, rfl, hx⟩

end Go.Proofs.Ytklligemdfnimaa
set_option linter.unusedVariables false
set_option linter.unusedSimpArgs false
set_option maxRecDepth 4000
namespace Go.Proofs.Ytklligemdfnimaa
open Go Go.Vc
theorem big_c (n : Nat) (bs : List Int) (hn : bs.length = n) (m : World) (v : Value) (F : List Nat) (h : CellF m (.sl n (bs.flatMap brow)) v F) :
   FCalls Try.prog 17 #[v] m fun r m' => m' = m ∧ r = .bool (decide (1048576 < (n : Int))) := by
  obtain ⟨a, cap, rfl, hcap, hmax, hz⟩ := h.slice
  refine fcalls_of_vc (args := [_]) follows_mixed Try.func17 rfl (by kernel_rfl) (by simp [Try.f17]) ?_
  simp only [Try.f17, vcs, tbl, crs, List.map, reduceIte, Nat.reduceLT, Nat.reduceLeDiff, Nat.reduceEqDiff, Nat.reduceAdd, Nat.reduceMul, Nat.reduceSub, List.all_cons, List.all_nil, Bool.and_true, Bool.and_self, ne_eq, reduceCtorEq, not_false_eq_true, and_self]
theorem l1New_c (bs : List Int) (m : World) (v : Value) (F : List Nat) (h : CellF m (.sl bs.length (bs.flatMap brow)) v F) :
   FCalls Try.prog 50 #[v] m fun r m' => Grow m m' ∧ ∃ bc, r = .pointer (some ⟨bc, 0, none⟩) ∧ Cu m' bc ∧ ¬ Go.Vc.vis m bc := by
  have hml : maxLen = 9223372036854775807 := rfl
  obtain ⟨a, cap, rfl, hcap, hmax, hz⟩ := h.slice
  refine fcalls_of_vc (args := [_]) follows_mixed Try.func50 rfl (by kernel_rfl) (by simp [Try.f50]) ?_
  simp only [Try.f50, vcs, tbl, crs, List.map, reduceIte, Nat.reduceLT, Nat.reduceLeDiff, Nat.reduceEqDiff, Nat.reduceAdd, Nat.reduceMul, Nat.reduceSub, List.all_cons, List.all_nil, Bool.and_true, Bool.and_self, ne_eq, reduceCtorEq, not_false_eq_true, and_self]
  refine vcLoop.intro (fun f L m' => ∃ (i : Nat) (x : Int), f 4 = .c (.v (.int .i64 i)) ∧ f 3 = .c (.v (.int .i64 x)) ∧ L = [] ∧ i ≤ bs.length ∧ m' = m)
    (fun f _ _ => (bs.length - ixS (f 4)).toNat) ⟨[], Sub.nil _, 0, IntKind.i64.wrap (28322 + bs.length), ?_⟩ ?_
  · simp only [vcs, tbl, crs, List.map, reduceIte, Nat.reduceLT, Nat.reduceLeDiff, Nat.reduceEqDiff, Nat.reduceAdd, Nat.reduceMul, Nat.reduceSub, List.all_cons, List.all_nil, Bool.and_true, Bool.and_self, ne_eq, reduceCtorEq, not_false_eq_true, and_self]
    exact ⟨by simp, by omega⟩
  · rintro g L1 m5 ⟨i, x, h4, h3, rfl, hi, rfl⟩
    simp only [vcs, tbl, crs, List.map, reduceIte, Nat.reduceLT, Nat.reduceLeDiff, Nat.reduceEqDiff, Nat.reduceAdd, Nat.reduceMul, Nat.reduceSub, List.all_cons, List.all_nil, Bool.and_true, Bool.and_self, ne_eq, reduceCtorEq, not_false_eq_true, and_self] at h4 h3
    simp only [vcs, tbl, crs, List.map, reduceIte, Nat.reduceLT, Nat.reduceLeDiff, Nat.reduceEqDiff, Nat.reduceAdd, Nat.reduceMul, Nat.reduceSub, List.all_cons, List.all_nil, Bool.and_true, Bool.and_self, ne_eq, reduceCtorEq, not_false_eq_true, and_self, h4, h3]
    by_cases hlt : (i : Int) < (bs.length : Int)
    · have hd : decide ((i : Int) < (bs.length : Int)) = true := by simpa using hlt
      simp only [vcs, tbl, crs, List.map, reduceIte, Nat.reduceLT, Nat.reduceLeDiff, Nat.reduceEqDiff, Nat.reduceAdd, Nat.reduceMul, Nat.reduceSub, List.all_cons, List.all_nil, Bool.and_true, Bool.and_self, ne_eq, reduceCtorEq, not_false_eq_true, and_self, h4, h3, hd]
      refine ⟨fun h40 => ?_, fun h40 => ?_⟩
      · have hlt' : i < bs.length := by omega
        obtain ⟨ad, vs, Fk, ha, hvl, hcell, hv, _⟩ := h.elem brow_len (by decide) (List.getElem?_eq_getElem hlt')
        obtain ⟨r1, rfl, hv1, _⟩ := valsF_lit hv
        have hcu := hcell 0 _ rfl
        rw [add0] at hcu
        refine ⟨by omega, by omega, ad, ha, _, hcu, ?_⟩
        simp only [vcs, tbl, crs, List.map, reduceIte, Nat.reduceLT, Nat.reduceLeDiff, Nat.reduceEqDiff, Nat.reduceAdd, Nat.reduceMul, Nat.reduceSub, List.all_cons, List.all_nil, Bool.and_true, Bool.and_self, ne_eq, reduceCtorEq, not_false_eq_true, and_self, h4, h3, hd]
        rw [pure_cint (by kernel_rfl) (by kernel_rfl), intKind3]
        simp only [vcs, tbl, crs, List.map, reduceIte, Nat.reduceLT, Nat.reduceLeDiff, Nat.reduceEqDiff, Nat.reduceAdd, Nat.reduceMul, Nat.reduceSub, List.all_cons, List.all_nil, Bool.and_true, Bool.and_self, ne_eq, reduceCtorEq, not_false_eq_true, and_self, h4, h3, hd, pure_and]
        rw [wrap_id (n := (i : Int) + 1) (by omega) (by omega)]
        exact ⟨[], Sub.nil _, ⟨i + 1, _, by simp, rfl, rfl, by omega⟩, by omega⟩
      · intro b m9 hp
        have hc9 := h.grow hp.grow
        exact ⟨hp.grow, _, rfl, ⟨a, cap, bs, _, _, F, fun j v hj => by rw [Nat.zero_add]; exact hp.cell hj, Int.le_refl _, hc9, fun hb => hp.new (h.vis _ b hb), Own.pub hp (Own.nil _)⟩, hp.new⟩
    · have hd : decide ((i : Int) < (bs.length : Int)) = false := by simpa using hlt
      simp only [vcs, tbl, crs, List.map, reduceIte, Nat.reduceLT, Nat.reduceLeDiff, Nat.reduceEqDiff, Nat.reduceAdd, Nat.reduceMul, Nat.reduceSub, List.all_cons, List.all_nil, Bool.and_true, Bool.and_self, ne_eq, reduceCtorEq, not_false_eq_true, and_self, h4, h3, hd]
      refine ⟨fun h => h.elim, fun _ => ?_⟩
      intro b m9 hp
      have hc9 := h.grow hp.grow
      exact ⟨hp.grow, _, rfl, ⟨a, cap, bs, _, _, F, fun j v hj => by rw [Nat.zero_add]; exact hp.cell hj, Int.le_refl _, hc9, fun hb => hp.new (h.vis _ b hb), Own.pub hp (Own.nil _)⟩, hp.new⟩

end Go.Proofs.Ytklligemdfnimaa