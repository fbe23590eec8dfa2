/-
  Trees in order, first half.
  Conditions: none.
-/
import Derived.Test.YtoegnikpokgbfaaGreatDoorPCA
set_option linter.unusedVariables false
set_option linter.unusedSimpArgs false
set_option linter.unusedSectionVars false
set_option linter.unnecessarySimpa false
set_option maxRecDepth 8000
namespace Go.Proofs.YtoegnikpokgbfaaGreatDoor
open Go Go.Dv
open Go.Vc (D shrI xorI andI and255)
def Item.star : Item → Bool | .mk s _ _ _ => s
def Item.e : Item → Expr | .mk _ _ e _ => e
def Source.on : Source → List Expr | .mk _ _ o => o
def SortKey.e : SortKey → Expr | .mk e _ => e
def exprsI (l : List Item) : List Expr := (l.filter fun x => !x.star).map Item.e
def exprsQ : Query → List Expr | .mk _ items from_ where_ order _ => exprsI items ++ from_.flatMap Source.on ++ where_ ++ order.map SortKey.e
theorem exprsI_step {l : List Item} {i : Nat} (h : i < l.length) : exprsI (l.take (i + 1)) = exprsI (l.take i) ++ if l[i].star = true then [] else [l[i].e] := by
 unfold exprsI
 rw [List.take_succ_eq_append_getElem h, List.filter_append, List.map_append]
 congr 1
 simp only [List.filter_cons, List.filter_nil]
 cases l[i].star <;> rfl
theorem on_step {l : List Source} {i : Nat} (h : i < l.length) : (l.take (i + 1)).flatMap Source.on = (l.take i).flatMap Source.on ++ l[i].on := by
 rw [List.take_succ_eq_append_getElem h, List.flatMap_append]; simp
theorem key_step {l : List SortKey} {i : Nat} (h : i < l.length) : (l.take (i + 1)).map SortKey.e = (l.take i).map SortKey.e ++ [l[i].e] := by
 rw [List.take_succ_eq_append_getElem h, List.map_append]; rfl
theorem exprsI_len (l : List Item) : (exprsI l).length ≤ l.length := by
 unfold exprsI
 rw [List.length_map]; exact List.length_filter_le _ _
theorem on_len : ∀ l : List Source, (l.flatMap Source.on).length + l.length ≤ szSources l
 | [] => by simp [szSources]
 | .mk t a o :: r => by
  have := on_len r
  rw [szSources, szSource_mk, List.flatMap_cons, List.length_append, List.length_cons, szExprs_eq]
  show o.length + _ + _ ≤ _
  omega
theorem take_on_len (l : List Source) (i : Nat) : ((l.take i).flatMap Source.on).length ≤ (l.flatMap Source.on).length := by
 conv => rhs; rw [← List.take_append_drop i l]
 rw [List.flatMap_append, List.length_append]; omega
theorem mem_sz {α : Type} (g : α → Nat) {l : List α} {x : α} (h : x ∈ l) : g x ≤ (l.map g).sum := by
 induction l with
 | nil => cases h
 | cons y r ih =>
  rw [List.map_cons, List.sum_cons]
  rcases List.mem_cons.1 h with rfl | h
  ·omega
  ·have := ih h; omega
theorem exprsQ_sz {q : Query} {x : Expr} (h : x ∈ exprsQ q) : szExpr x ≤ szQuery q := by
 obtain ⟨d, it, fr, wh, or, li⟩ := q
 rw [szQuery_mk, szItems_eq, szSources_eq, szExprs_eq, szSortKeys_eq]
 simp only [exprsQ, List.mem_append] at h
 rcases h with ((h | h) | h) | h
 ·simp only [exprsI, List.mem_map, List.mem_filter] at h
  obtain ⟨⟨s, q, e, a⟩, ⟨hm, _⟩, rfl⟩ := h
  have := mem_sz szItem hm
  rw [szItem_mk] at this
  show szExpr e ≤ _
  omega
 ·simp only [List.mem_flatMap] at h
  obtain ⟨⟨t, a, o⟩, hm, hx⟩ := h
  have := mem_sz szSource hm
  have h2 := mem_sz szExpr (show x ∈ o from hx)
  rw [szSource_mk, szExprs_eq] at this
  omega
 ·have := mem_sz szExpr h; omega
 ·simp only [List.mem_map] at h
  obtain ⟨⟨e, d⟩, hm, rfl⟩ := h
  have := mem_sz szSortKey hm
  rw [szSortKey_mk] at this
  show szExpr e ≤ _
  omega
theorem exprsQ_lt {q : Query} {x : Expr} (h : x ∈ exprsQ q) : SizeOf.sizeOf x < SizeOf.sizeOf q := by
 obtain ⟨d, it, fr, wh, or, li⟩ := q
 rw [Query.mk.sizeOf_spec]
 simp only [exprsQ, List.mem_append] at h
 rcases h with ((h | h) | h) | h
 ·simp only [exprsI, List.mem_map, List.mem_filter] at h
  obtain ⟨⟨s, q, e, a⟩, ⟨hm, _⟩, rfl⟩ := h
  have := List.sizeOf_lt_of_mem hm
  rw [Item.mk.sizeOf_spec] at this
  show SizeOf.sizeOf e < _
  omega
 ·simp only [List.mem_flatMap] at h
  obtain ⟨⟨t, a, o⟩, hm, hx⟩ := h
  have := List.sizeOf_lt_of_mem hm
  have h2 := List.sizeOf_lt_of_mem (show x ∈ o from hx)
  rw [Source.mk.sizeOf_spec] at this
  omega
 ·have := List.sizeOf_lt_of_mem h; omega
 ·simp only [List.mem_map] at h
  obtain ⟨⟨e, d⟩, hm, rfl⟩ := h
  have := List.sizeOf_lt_of_mem hm
  rw [SortKey.mk.sizeOf_spec] at this
  show SizeOf.sizeOf e < _
  omega
theorem exprsQ_len (q : Query) : (exprsQ q).length ≤ szQuery q := by
 obtain ⟨d, it, fr, wh, or, li⟩ := q
 have h1 := exprsI_len it
 have h2 := on_len fr
 rw [szQuery_mk, szItems_eq, szExprs_eq, szSortKeys_eq]
 simp only [exprsQ, List.length_append, List.length_map]
 omega
def below (x e : Expr) : Prop := x ∈ e.kids ∨ ∃ q ∈ e.sub, x ∈ exprsQ q
theorem below_lt {x e : Expr} (h : below x e) : SizeOf.sizeOf x < SizeOf.sizeOf e := by
 obtain ⟨k, o, n, v, q, m, ks, ss⟩ := e
 rw [Expr.mk.sizeOf_spec]
 rcases h with h | ⟨y, hy, h⟩
 ·have := List.sizeOf_lt_of_mem (show x ∈ ks from h); omega
 ·have := List.sizeOf_lt_of_mem (show y ∈ ss from hy)
  have := exprsQ_lt h
  omega
theorem below_sz {x e : Expr} (h : below x e) : szExpr x ≤ szExpr e := by
 obtain ⟨k, o, n, v, q, m, ks, ss⟩ := e
 rw [szExpr_mk, szExprs_eq, szQuerys_eq]
 rcases h with h | ⟨y, hy, h⟩
 ·have := mem_sz szExpr (show x ∈ ks from h); omega
 ·have := mem_sz szQuery (show y ∈ ss from hy)
  have := exprsQ_sz h
  omega
theorem sub_sz {q : Query} {e : Expr} (h : q ∈ e.sub) : szQuery q ≤ szExpr e := by
 obtain ⟨k, o, n, v, q', m, ks, ss⟩ := e
 rw [szExpr_mk, szExprs_eq, szQuerys_eq]
 have := mem_sz szQuery (show q ∈ ss from h); omega
noncomputable def foldE {α : Type} [Inhabited α] (F : (Expr → α) → Expr → α) (e : Expr) : α := F (fun x => if h : SizeOf.sizeOf x < SizeOf.sizeOf e then foldE F x else default) e
termination_by SizeOf.sizeOf e
theorem foldE_ind {α : Type} [Inhabited α] {F : (Expr → α) → Expr → α} {P : Expr → α → Prop} (h : ∀ e g, (∀ x, below x e → P x (g x)) → P e (F g e)) (e : Expr) : P e (foldE F e) := by
 suffices H : ∀ n : Nat, ∀ e : Expr, SizeOf.sizeOf e < n → P e (foldE F e) from H _ e (Nat.lt_succ_self _)
 intro n
 induction n with
 | zero => exact fun _ h => absurd h (Nat.not_lt_zero _)
 | succ n ih =>
  intro e he
  rw [foldE]
  refine h e _ fun x hx => ?_
  have := below_lt hx
  simp only [dif_pos this]
  exact ih x (by omega)
theorem l7Exprs_d (distinct : Bool) (items : List Item) (from_ : List Source) (where_ : List Expr) (order : List SortKey) (limit : Int) (hsz : szQuery (Query.mk distinct items from_ where_ order limit) ≤ 1048576) : Cl Tryz.prog 102 [.ag (csOf (Query.mk distinct items from_ where_ order limit).row)] [] fun r _ => r = .c (.sl (exprsQ (Query.mk distinct items from_ where_ order limit)).length ((exprsQ (Query.mk distinct items from_ where_ order limit)).flatMap Expr.row) none) := by
 have hlen := exprsQ_len (Query.mk distinct items from_ where_ order limit)
 have q0 : exprsQ (Query.mk distinct items from_ where_ order limit) = exprsI items ++ from_.flatMap Source.on ++ where_ ++ order.map SortKey.e := rfl
 rw [q0] at hlen ⊢
 simp only [List.length_append, List.length_map] at hlen
 have htot := Nat.le_trans hlen hsz
 have hil := exprsI_len items
 rw [szQuery_mk, szItems_eq, szSources_eq, szExprs_eq, szSortKeys_eq] at hsz
 rw [Query.row_mk]
 refine cl_of_d follows_mixed false Tryz.func102 rfl (by kernel_rfl) ?_
 simp only [Tryz.f102, tt, seval]
 refine dLoop.gh [.ren 7 30] ⟨by decide, by decide, ?_⟩
 refine dLoop0.intro (fun f L p => ∃ (i : Nat) (es : List Expr), f 4 = vi i ∧ f 3 = .c (.s 30 es.length) ∧ i ≤ items.length ∧ es = exprsI (items.take i) ∧ L = [(1, .str [.v (.bool distinct), .sl items.length (items.flatMap Item.row) none, .sl from_.length (from_.flatMap Source.row) none, .sl where_.length (where_.flatMap Expr.row) none, .sl order.length (order.flatMap SortKey.row) none, .v (.int .i64 limit)]), (30, .arr 29 es.length (es.flatMap Expr.row) none)] ∧ p = none) (fun f _ _ => (items.length - ixS (f 4)).toNat) [(1, .str [.v (.bool distinct), .sl items.length (items.flatMap Item.row) none, .sl from_.length (from_.flatMap Source.row) none, .sl where_.length (where_.flatMap Expr.row) none, .sl order.length (order.flatMap SortKey.row) none, .v (.int .i64 limit)]), (30, .arr 29 0 [] none)] none ⟨SubO.cons rfl (SubO.cons rfl (SubO.nil _)), PoSub.none _, ?_⟩ ?_
 ·simp only [tt, seval]
  exact ⟨0, [], rfl, rfl, by omega, rfl, rfl⟩
 ·rintro g L p ⟨i, es, hi4, h3, hi, hes, rfl, rfl⟩
  simp only [tt, seval] at hi4 h3
  simp only [tt, seval, hi4, Int.ofNat_lt]
  refine fun _ => ?_
  refine And.intro (fun hlt => ?_) (fun hge => ?_)
  ·have hlt : i < items.length := by omega
   have hst := exprsI_step hlt
   have hel : es.length ≤ items.length := by rw [hes]; exact Nat.le_trans (exprsI_len _) (by rw [List.length_take]; omega)
   have hei : es.length ≤ i := by rw [hes]; exact Nat.le_trans (exprsI_len _) (by rw [List.length_take]; omega)
   obtain ⟨it, hit⟩ : ∃ it, it = items[i] := ⟨_, rfl⟩
   rw [← hit] at hst
   refine ⟨by omega, by omega, _, drop_row Item.row_len (List.getElem?_eq_getElem hlt), Item.ne _ _, ?_⟩
   obtain ⟨star, qual, ⟨k, o, n, v, q, m, ks, ss⟩, as_⟩ := it
   rw [← hit, Item.row_mk, Expr.row_mk]
   simp only [tt, seval, hi4, h3, Int.ofNat_lt]
   refine And.intro (fun hs => ?_) (fun hs => ?_)
   ·have hs : star = false := by simpa only [Bool.not_eq_true'] using hs
    refine ⟨by omega, by omega, _, drop_row Item.row_len (List.getElem?_eq_getElem hlt), Item.ne _ _, ?_⟩
    rw [← hit, Item.row_mk, Expr.row_mk]
    simp only [tt, seval, hi4]
    refine ⟨by kernel_rfl, ⟨by simp only [maxLen]; omega, by omega⟩, ?_⟩
    have e : es.flatMap Expr.row ++ [int k, int o, bool n, int v.kind, int v.num, str v.text, str q, str m, .sl ks.length (ks.flatMap Expr.row), .sl ss.length (ss.flatMap Query.row)] = (es ++ [Expr.mk k o n v q m ks ss]).flatMap Expr.row := by rw [List.flatMap_append]; simp [Expr.row_mk]
    have e2 : es.length + 1 = (es ++ [Expr.mk k o n v q m ks ss]).length := by simp
    rw [e, e2]
    try rw [wrS i (by omega)]
    exact ⟨_, none, SubO.cons rfl (SubO.cons rfl (SubO.nil _)), PoSub.none _, ⟨i + 1, _, rfl, rfl, by omega, by rw [hst, hes]; subst hs; rfl, rfl, rfl⟩, by simp only [ixS]; omega⟩
   ·have hs : star = true := by simpa only [Bool.not_eq_false'] using hs
    try rw [wrS i (by omega)]
    exact ⟨_, none, SubO.cons rfl (SubO.cons rfl (SubO.nil _)), PoSub.none _, ⟨i + 1, es, rfl, rfl, by omega, by rw [hst, hes]; subst hs; simp [Item.star], rfl, rfl⟩, by simp only [ixS]; omega⟩
  ·have hie : i = items.length := by omega
   subst hie
   rw [List.take_length] at hes
   subst hes
   refine dLoop.gh [.ren 30 45] ⟨by decide, by decide, ?_⟩
   refine dLoop0.intro (fun f L p => ∃ (i : Nat) (es : List Expr), f 5 = vi i ∧ f 3 = .c (.s 45 es.length) ∧ i ≤ from_.length ∧ es = exprsI items ++ (from_.take i).flatMap Source.on ∧ L = [(1, .str [.v (.bool distinct), .sl items.length (items.flatMap Item.row) none, .sl from_.length (from_.flatMap Source.row) none, .sl where_.length (where_.flatMap Expr.row) none, .sl order.length (order.flatMap SortKey.row) none, .v (.int .i64 limit)]), (45, .arr 29 es.length (es.flatMap Expr.row) none)] ∧ p = none) (fun f _ _ => (from_.length - ixS (f 5)).toNat) [(1, .str [.v (.bool distinct), .sl items.length (items.flatMap Item.row) none, .sl from_.length (from_.flatMap Source.row) none, .sl where_.length (where_.flatMap Expr.row) none, .sl order.length (order.flatMap SortKey.row) none, .v (.int .i64 limit)]), (45, .arr 29 (exprsI items).length ((exprsI items).flatMap Expr.row) none)] none ⟨SubO.cons rfl (SubO.cons rfl (SubO.nil _)), PoSub.none _, ?_⟩ ?_
   ·simp only [tt, seval, h3]
    exact ⟨0, exprsI items, rfl, rfl, by omega, by simp, rfl⟩
   ·rintro g L p ⟨i, es, hi5, h3, hi, hes, rfl, rfl⟩
    simp only [tt, seval] at hi5 h3
    simp only [tt, seval, hi5, h3, Int.ofNat_lt]
    refine fun _ => ?_
    refine And.intro (fun hlt => ?_) (fun hge => ?_)
    ·have hlt : i < from_.length := by omega
     have hst := on_step hlt
     have hel : es.length ≤ (exprsI items).length + (from_.flatMap Source.on).length := by have := take_on_len from_ i; rw [hes, List.length_append]; omega
     obtain ⟨it, hit⟩ : ∃ it, it = from_[i] := ⟨_, rfl⟩
     rw [← hit] at hst
     have hon : it.on.length ≤ 1048576 := by
      have h1 := mem_sz szSource (List.getElem_mem hlt)
      rw [← hit] at h1
      obtain ⟨table, as_, on⟩ := it
      rw [szSource_mk, szExprs_eq] at h1
      show on.length ≤ _
      omega
     refine ⟨by omega, by omega, _, drop_row Source.row_len (List.getElem?_eq_getElem hlt), Source.ne _ _, ?_⟩
     obtain ⟨table, as_, on⟩ := it
     have hon : on.length ≤ 1048576 := hon
     rw [← hit, Source.row_mk]
     simp only [tt, seval]
     refine ⟨by kernel_rfl, by rw [flatMap_len Expr.row_len], ⟨by simp only [maxLen]; omega, by omega⟩, ?_⟩
     have e2 : es.length + on.length = (es ++ on).length := by simp
     rw [← List.flatMap_append, e2]
     try rw [wrS i (by omega)]
     exact ⟨_, none, SubO.cons rfl (SubO.cons rfl (SubO.nil _)), PoSub.none _, ⟨i + 1, _, rfl, rfl, by omega, by rw [hst, hes, List.append_assoc]; rfl, rfl, rfl⟩, by simp only [ixS]; omega⟩
    ·have hie : i = from_.length := by omega
     subst hie
     rw [List.take_length] at hes
     have hel : es.length = (exprsI items).length + (from_.flatMap Source.on).length := by rw [hes, List.length_append]
     refine ⟨by kernel_rfl, by rw [flatMap_len Expr.row_len], ⟨by simp only [maxLen]; omega, by omega⟩, ?_⟩
     have e2 : es.length + where_.length = (es ++ where_).length := by simp
     rw [← List.flatMap_append, e2]
     obtain ⟨fs, hfs⟩ : ∃ fs, fs = es ++ where_ := ⟨_, rfl⟩
     have hfl : fs.length = (exprsI items).length + (from_.flatMap Source.on).length + where_.length := by rw [hfs, List.length_append, hel]
     have hfs' : fs = exprsI items ++ from_.flatMap Source.on ++ where_ := by rw [hfs, hes]
     rw [← hfs]
     refine dLoop.gh [.ren 49 65] ⟨by decide, by decide, ?_⟩
     refine dLoop0.intro (fun f L p => ∃ (i : Nat) (es : List Expr), f 6 = vi i ∧ f 3 = .c (.s 65 es.length) ∧ i ≤ order.length ∧ es = fs ++ (order.take i).map SortKey.e ∧ L = [(1, .str [.v (.bool distinct), .sl items.length (items.flatMap Item.row) none, .sl from_.length (from_.flatMap Source.row) none, .sl where_.length (where_.flatMap Expr.row) none, .sl order.length (order.flatMap SortKey.row) none, .v (.int .i64 limit)]), (65, .arr 29 es.length (es.flatMap Expr.row) none)] ∧ p = none) (fun f _ _ => (order.length - ixS (f 6)).toNat) [(1, .str [.v (.bool distinct), .sl items.length (items.flatMap Item.row) none, .sl from_.length (from_.flatMap Source.row) none, .sl where_.length (where_.flatMap Expr.row) none, .sl order.length (order.flatMap SortKey.row) none, .v (.int .i64 limit)]), (65, .arr 29 fs.length (fs.flatMap Expr.row) none)] none ⟨SubO.cons rfl (SubO.cons rfl (SubO.nil _)), PoSub.none _, ?_⟩ ?_
     ·simp only [tt, seval]
      exact ⟨0, fs, rfl, rfl, by omega, by simp, rfl⟩
     ·rintro g L p ⟨i, es, hi6, h3, hi, hes, rfl, rfl⟩
      simp only [tt, seval] at hi6 h3
      simp only [tt, seval, hi6, h3, Int.ofNat_lt]
      refine fun _ => ?_
      refine And.intro (fun hlt => ?_) (fun hge => ?_)
      ·have hlt : i < order.length := by omega
       have hst := key_step hlt
       have hel : es.length = fs.length + i := by rw [hes, List.length_append, List.length_map, List.length_take]; omega
       obtain ⟨it, hit⟩ : ∃ it, it = order[i] := ⟨_, rfl⟩
       rw [← hit] at hst
       refine ⟨by omega, by omega, _, drop_row SortKey.row_len (List.getElem?_eq_getElem hlt), SortKey.ne _ _, ?_⟩
       obtain ⟨⟨k, o, n, v, q, m, ks, ss⟩, desc⟩ := it
       rw [← hit, SortKey.row_mk, Expr.row_mk]
       simp only [tt, seval, hi6]
       refine ⟨by kernel_rfl, ⟨by simp only [maxLen]; omega, by omega⟩, ?_⟩
       have e : es.flatMap Expr.row ++ [int k, int o, bool n, int v.kind, int v.num, str v.text, str q, str m, .sl ks.length (ks.flatMap Expr.row), .sl ss.length (ss.flatMap Query.row)] = (es ++ [Expr.mk k o n v q m ks ss]).flatMap Expr.row := by rw [List.flatMap_append]; simp [Expr.row_mk]
       have e2 : es.length + 1 = (es ++ [Expr.mk k o n v q m ks ss]).length := by simp
       rw [e, e2]
       try rw [wrS i (by omega)]
       exact ⟨_, none, SubO.cons rfl (SubO.cons rfl (SubO.nil _)), PoSub.none _, ⟨i + 1, _, rfl, rfl, by omega, by rw [hst, hes, List.append_assoc]; rfl, rfl, rfl⟩, by simp only [ixS]; omega⟩
      ·have hie : i = order.length := by omega
       subst hie
       rw [List.take_length] at hes
       refine ⟨_, [], rfl, endOk ?_⟩
       simp only [tt, seval]
       rw [hes, hfs']
       exact ⟨rfl, rfl⟩
theorem iexprs_d (distinct : Bool) (items : List Item) (from_ : List Source) (where_ : List Expr) (order : List SortKey) (limit : Int) (hsz : szQuery (Query.mk distinct items from_ where_ order limit) ≤ 1048576) : Cl Tryz.prog 101 [.ag (csOf (Query.mk distinct items from_ where_ order limit).row)] [] fun r _ => r = .c (.sl (exprsQ (Query.mk distinct items from_ where_ order limit)).length ((exprsQ (Query.mk distinct items from_ where_ order limit)).flatMap Expr.row) none) := by
 have hlen := exprsQ_len (Query.mk distinct items from_ where_ order limit)
 have q0 : exprsQ (Query.mk distinct items from_ where_ order limit) = exprsI items ++ from_.flatMap Source.on ++ where_ ++ order.map SortKey.e := rfl
 rw [q0] at hlen ⊢
 simp only [List.length_append, List.length_map] at hlen
 have htot := Nat.le_trans hlen hsz
 have hil := exprsI_len items
 rw [szQuery_mk, szItems_eq, szSources_eq, szExprs_eq, szSortKeys_eq] at hsz
 rw [Query.row_mk]
 refine cl_of_d follows_mixed false Tryz.func101 rfl (by kernel_rfl) ?_
 simp only [Tryz.f101, tt, seval]
 refine fun _ => ?_
 refine dLoop.gh [.ren 10 25] ⟨by decide, by decide, ?_⟩
 refine dLoop0.intro (fun f L p => ∃ (i : Nat) (es : List Expr), f 14 = vi i ∧ f 3 = .c (.s 25 es.length) ∧ i ≤ items.length ∧ es = exprsI (items.take i) ∧ L = [(1, .str [.v (.bool distinct), .sl items.length (items.flatMap Item.row) none, .sl from_.length (from_.flatMap Source.row) none, .sl where_.length (where_.flatMap Expr.row) none, .sl order.length (order.flatMap SortKey.row) none, .v (.int .i64 limit)]), (25, .arr 29 es.length (es.flatMap Expr.row) none)] ∧ p = none) (fun f _ _ => (items.length - ixS (f 14)).toNat) [(1, .str [.v (.bool distinct), .sl items.length (items.flatMap Item.row) none, .sl from_.length (from_.flatMap Source.row) none, .sl where_.length (where_.flatMap Expr.row) none, .sl order.length (order.flatMap SortKey.row) none, .v (.int .i64 limit)]), (25, .arr 29 0 [] none)] none ⟨SubO.cons rfl (SubO.cons rfl (SubO.nil _)), PoSub.none _, ?_⟩ ?_
 ·simp only [tt, seval]
  exact ⟨0, [], rfl, rfl, by omega, rfl, rfl⟩
 ·rintro g L p ⟨i, es, hi4, h3, hi, hes, rfl, rfl⟩
  simp only [tt, seval] at hi4 h3
  simp only [tt, seval, hi4, Int.ofNat_lt]
  refine And.intro (fun hlt => ?_) (fun hge => ?_)
  ·have hlt : i < items.length := by omega
   have hst := exprsI_step hlt
   have hel : es.length ≤ items.length := by rw [hes]; exact Nat.le_trans (exprsI_len _) (by rw [List.length_take]; omega)
   have hei : es.length ≤ i := by rw [hes]; exact Nat.le_trans (exprsI_len _) (by rw [List.length_take]; omega)
   obtain ⟨it, hit⟩ : ∃ it, it = items[i] := ⟨_, rfl⟩
   rw [← hit] at hst
   refine ⟨by omega, by omega, _, drop_row Item.row_len (List.getElem?_eq_getElem hlt), Item.ne _ _, ?_⟩
   obtain ⟨star, qual, ⟨k, o, n, v, q, m, ks, ss⟩, as_⟩ := it
   rw [← hit, Item.row_mk, Expr.row_mk]
   simp only [tt, seval, hi4, h3]
   refine And.intro (fun hs => ?_) (fun hs => ?_)
   ·have hs : star = false := by simpa only [Bool.not_eq_true'] using hs
    refine ⟨by kernel_rfl, ⟨by simp only [maxLen]; omega, by omega⟩, ?_⟩
    have e : es.flatMap Expr.row ++ [int k, int o, bool n, int v.kind, int v.num, str v.text, str q, str m, .sl ks.length (ks.flatMap Expr.row), .sl ss.length (ss.flatMap Query.row)] = (es ++ [Expr.mk k o n v q m ks ss]).flatMap Expr.row := by rw [List.flatMap_append]; simp [Expr.row_mk]
    have e2 : es.length + 1 = (es ++ [Expr.mk k o n v q m ks ss]).length := by simp
    rw [e, e2]
    try rw [wrS i (by omega)]
    exact ⟨_, none, SubO.cons rfl (SubO.cons rfl (SubO.nil _)), PoSub.none _, ⟨i + 1, _, rfl, rfl, by omega, by rw [hst, hes]; subst hs; rfl, rfl, rfl⟩, by simp only [ixS]; omega⟩
   ·have hs : star = true := by simpa only [Bool.not_eq_false'] using hs
    try rw [wrS i (by omega)]
    exact ⟨_, none, SubO.cons rfl (SubO.cons rfl (SubO.nil _)), PoSub.none _, ⟨i + 1, es, rfl, rfl, by omega, by rw [hst, hes]; subst hs; simp [Item.star], rfl, rfl⟩, by simp only [ixS]; omega⟩
  ·have hie : i = items.length := by omega
   subst hie
   rw [List.take_length] at hes
   subst hes
   refine fun _ => ?_
   refine dLoop.gh [.ren 25 37] ⟨by decide, by decide, ?_⟩
   refine dLoop0.intro (fun f L p => ∃ (i : Nat) (es : List Expr), f 30 = vi i ∧ f 3 = .c (.s 37 es.length) ∧ i ≤ from_.length ∧ es = exprsI items ++ (from_.take i).flatMap Source.on ∧ L = [(1, .str [.v (.bool distinct), .sl items.length (items.flatMap Item.row) none, .sl from_.length (from_.flatMap Source.row) none, .sl where_.length (where_.flatMap Expr.row) none, .sl order.length (order.flatMap SortKey.row) none, .v (.int .i64 limit)]), (37, .arr 29 es.length (es.flatMap Expr.row) none)] ∧ p = none) (fun f _ _ => (from_.length - ixS (f 30)).toNat) [(1, .str [.v (.bool distinct), .sl items.length (items.flatMap Item.row) none, .sl from_.length (from_.flatMap Source.row) none, .sl where_.length (where_.flatMap Expr.row) none, .sl order.length (order.flatMap SortKey.row) none, .v (.int .i64 limit)]), (37, .arr 29 (exprsI items).length ((exprsI items).flatMap Expr.row) none)] none ⟨SubO.cons rfl (SubO.cons rfl (SubO.nil _)), PoSub.none _, ?_⟩ ?_
   ·simp only [tt, seval, h3]
    exact ⟨0, exprsI items, rfl, rfl, by omega, by simp, rfl⟩
   ·rintro g L p ⟨i, es, hi5, h3, hi, hes, rfl, rfl⟩
    simp only [tt, seval] at hi5 h3
    simp only [tt, seval, hi5, h3, Int.ofNat_lt]
    refine And.intro (fun hlt => ?_) (fun hge => ?_)
    ·have hlt : i < from_.length := by omega
     have hst := on_step hlt
     have hel : es.length ≤ (exprsI items).length + (from_.flatMap Source.on).length := by have := take_on_len from_ i; rw [hes, List.length_append]; omega
     obtain ⟨it, hit⟩ : ∃ it, it = from_[i] := ⟨_, rfl⟩
     rw [← hit] at hst
     have hon : it.on.length ≤ 1048576 := by
      have h1 := mem_sz szSource (List.getElem_mem hlt)
      rw [← hit] at h1
      obtain ⟨table, as_, on⟩ := it
      rw [szSource_mk, szExprs_eq] at h1
      show on.length ≤ _
      omega
     refine ⟨by omega, by omega, _, drop_row Source.row_len (List.getElem?_eq_getElem hlt), Source.ne _ _, ?_⟩
     obtain ⟨table, as_, on⟩ := it
     have hon : on.length ≤ 1048576 := hon
     rw [← hit, Source.row_mk]
     simp only [tt, seval]
     refine ⟨by kernel_rfl, by rw [flatMap_len Expr.row_len], ⟨by simp only [maxLen]; omega, by omega⟩, ?_⟩
     have e2 : es.length + on.length = (es ++ on).length := by simp
     rw [← List.flatMap_append, e2]
     try rw [wrS i (by omega)]
     exact ⟨_, none, SubO.cons rfl (SubO.cons rfl (SubO.nil _)), PoSub.none _, ⟨i + 1, _, rfl, rfl, by omega, by rw [hst, hes, List.append_assoc]; rfl, rfl, rfl⟩, by simp only [ixS]; omega⟩
    ·have hie : i = from_.length := by omega
     subst hie
     rw [List.take_length] at hes
     have hel : es.length = (exprsI items).length + (from_.flatMap Source.on).length := by rw [hes, List.length_append]
     refine ⟨by kernel_rfl, by rw [flatMap_len Expr.row_len], ⟨by simp only [maxLen]; omega, by omega⟩, ?_⟩
     have e2 : es.length + where_.length = (es ++ where_).length := by simp
     rw [← List.flatMap_append, e2]
     obtain ⟨fs, hfs⟩ : ∃ fs, fs = es ++ where_ := ⟨_, rfl⟩
     have hfl : fs.length = (exprsI items).length + (from_.flatMap Source.on).length + where_.length := by rw [hfs, List.length_append, hel]
     have hfs' : fs = exprsI items ++ from_.flatMap Source.on ++ where_ := by rw [hfs, hes]
     rw [← hfs]
     refine fun _ => ?_
     refine dLoop.gh [.ren 42 54] ⟨by decide, by decide, ?_⟩
     refine dLoop0.intro (fun f L p => ∃ (i : Nat) (es : List Expr), f 46 = vi i ∧ f 3 = .c (.s 54 es.length) ∧ i ≤ order.length ∧ es = fs ++ (order.take i).map SortKey.e ∧ L = [(1, .str [.v (.bool distinct), .sl items.length (items.flatMap Item.row) none, .sl from_.length (from_.flatMap Source.row) none, .sl where_.length (where_.flatMap Expr.row) none, .sl order.length (order.flatMap SortKey.row) none, .v (.int .i64 limit)]), (54, .arr 29 es.length (es.flatMap Expr.row) none)] ∧ p = none) (fun f _ _ => (order.length - ixS (f 46)).toNat) [(1, .str [.v (.bool distinct), .sl items.length (items.flatMap Item.row) none, .sl from_.length (from_.flatMap Source.row) none, .sl where_.length (where_.flatMap Expr.row) none, .sl order.length (order.flatMap SortKey.row) none, .v (.int .i64 limit)]), (54, .arr 29 fs.length (fs.flatMap Expr.row) none)] none ⟨SubO.cons rfl (SubO.cons rfl (SubO.nil _)), PoSub.none _, ?_⟩ ?_
     ·simp only [tt, seval]
      exact ⟨0, fs, rfl, rfl, by omega, by simp, rfl⟩
     ·rintro g L p ⟨i, es, hi6, h3, hi, hes, rfl, rfl⟩
      simp only [tt, seval] at hi6 h3
      simp only [tt, seval, hi6, h3, Int.ofNat_lt]
      refine And.intro (fun hlt => ?_) (fun hge => ?_)
      ·have hlt : i < order.length := by omega
       have hst := key_step hlt
       have hel : es.length = fs.length + i := by rw [hes, List.length_append, List.length_map, List.length_take]; omega
       obtain ⟨it, hit⟩ : ∃ it, it = order[i] := ⟨_, rfl⟩
       rw [← hit] at hst
       refine ⟨by omega, by omega, _, drop_row SortKey.row_len (List.getElem?_eq_getElem hlt), SortKey.ne _ _, ?_⟩
       obtain ⟨⟨k, o, n, v, q, m, ks, ss⟩, desc⟩ := it
       rw [← hit, SortKey.row_mk, Expr.row_mk]
       simp only [tt, seval, hi6]
       refine ⟨by kernel_rfl, ⟨by simp only [maxLen]; omega, by omega⟩, ?_⟩
       have e : es.flatMap Expr.row ++ [int k, int o, bool n, int v.kind, int v.num, str v.text, str q, str m, .sl ks.length (ks.flatMap Expr.row), .sl ss.length (ss.flatMap Query.row)] = (es ++ [Expr.mk k o n v q m ks ss]).flatMap Expr.row := by rw [List.flatMap_append]; simp [Expr.row_mk]
       have e2 : es.length + 1 = (es ++ [Expr.mk k o n v q m ks ss]).length := by simp
       rw [e, e2]
       try rw [wrS i (by omega)]
       exact ⟨_, none, SubO.cons rfl (SubO.cons rfl (SubO.nil _)), PoSub.none _, ⟨i + 1, _, rfl, rfl, by omega, by rw [hst, hes, List.append_assoc]; rfl, rfl, rfl⟩, by simp only [ixS]; omega⟩
      ·have hie : i = order.length := by omega
       subst hie
       rw [List.take_length] at hes
       refine ⟨_, [], rfl, endOk ?_⟩
       simp only [tt, seval]
       rw [hes, hfs']
       exact ⟨rfl, rfl⟩
def maxL (l : List Nat) : Nat := l.foldl max 0
theorem maxL_snoc (l : List Nat) (x : Nat) : maxL (l ++ [x]) = max (maxL l) x := by simp [maxL]
theorem maxL_le {l : List Nat} {b : Nat} (h : ∀ x ∈ l, x ≤ b) : maxL l ≤ b := by
 unfold maxL
 suffices H : ∀ (l : List Nat) (a : Nat), a ≤ b → (∀ x ∈ l, x ≤ b) → l.foldl max a ≤ b from H l 0 (Nat.zero_le _) h
 intro l
 induction l with
 | nil => exact fun a h _ => h
 | cons y r ih => exact fun a h hx => ih _ (Nat.max_le.2 ⟨h, hx y (by simp)⟩) fun x hm => hx x (by simp [hm])
theorem take_map_step {α : Type} (g : α → Nat) {l : List α} {i : Nat} (h : i < l.length) : (l.take (i + 1)).map g = (l.take i).map g ++ [g l[i]] := by
 rw [List.take_succ_eq_append_getElem h, List.map_append]; rfl
theorem imax (a b : Nat) : (if (b : Int) > (a : Int) then (b : Int) else (a : Int)) = ((max a b : Nat) : Int) := by split <;> omega
theorem kid_sz1 {x e : Expr} (h : x ∈ e.kids) : szExpr x + 1 ≤ szExpr e := by
 obtain ⟨k, o, n, v, q, m, ks, ss⟩ := e
 have h : x ∈ ks := h
 rw [szExpr_mk, szExprs_eq]
 have := mem_sz szExpr h
 have := List.length_pos_of_mem h
 omega
theorem sub_sz1 {q : Query} {e : Expr} (h : q ∈ e.sub) : szQuery q + 1 ≤ szExpr e := by
 obtain ⟨k, o, n, v, q', m, ks, ss⟩ := e
 have h : q ∈ ss := h
 rw [szExpr_mk, szQuerys_eq]
 have := mem_sz szQuery h
 have := List.length_pos_of_mem h
 omega
theorem below_sz1 {x e : Expr} (h : below x e) : szExpr x + 1 ≤ szExpr e := by
 rcases h with h | ⟨q, hq, h⟩
 ·exact kid_sz1 h
 ·have := sub_sz1 hq; have := exprsQ_sz h; omega
def dpF (g : Expr → Nat) (e : Expr) : Nat := 1 + maxL (e.kids.map g ++ e.sub.map fun q => maxL ((exprsQ q).map g))
noncomputable def dpE : Expr → Nat := foldE dpF
theorem dp_le {e : Expr} {g : Expr → Nat} (h : ∀ x, below x e → g x ≤ szExpr x + 1) : dpF g e ≤ szExpr e + 1 := by
 unfold dpF
 have : maxL (e.kids.map g ++ e.sub.map fun q => maxL ((exprsQ q).map g)) ≤ szExpr e := maxL_le fun y hy => by
  rcases List.mem_append.1 hy with hy | hy
  ·obtain ⟨x, hx, rfl⟩ := List.mem_map.1 hy
   have := h x (.inl hx); have := below_sz1 (.inl hx : below x e); omega
  ·obtain ⟨q, hq, rfl⟩ := List.mem_map.1 hy
   refine maxL_le fun z hz => ?_
   obtain ⟨x, hx, rfl⟩ := List.mem_map.1 hz
   have := h x (.inr ⟨q, hq, hx⟩); have := below_sz1 (.inr ⟨q, hq, hx⟩ : below x e); omega
 omega
theorem l1Max_d (a b : Nat) : Cl Tryz.prog 105 [vi a, vi b] [] fun r _ => r = vi (max a b : Nat) := by
 refine cl_of_d follows_mixed false Tryz.func105 rfl (by kernel_rfl) ?_
 simp only [Tryz.f105, tt, seval]
 refine And.intro (fun h => ?_) (fun h => ?_)
 ·exact ⟨_, _, viE (by omega), end0 rfl⟩
 ·exact ⟨_, _, viE (by omega), end0 rfl⟩
theorem deepestOf_d (l : List Expr) (g : Expr → Nat) (h : ∀ x ∈ l, Cl Tryz.prog 75 [.ag (csOf x.row)] [] fun r _ => r = vi (g x : Nat)) (hl : l.length ≤ 1048576) : Cl Tryz.prog 197 [.c (.sl l.length (l.flatMap Expr.row) none)] [] fun r _ => r = vi (maxL (l.map g) : Nat) := by
 refine cl_of_d follows_mixed false Tryz.func197 rfl (by kernel_rfl) ?_
 simp only [Tryz.f197, tt, seval]
 refine fun _ => ?_
 refine dLoop.intro (fun f L p => ∃ i : Nat, f 8 = vi i ∧ i ≤ l.length ∧ f 3 = vi (maxL ((l.take i).map g) : Nat) ∧ L = [] ∧ p = none) (fun f _ _ => (l.length - ixS (f 8)).toNat) [] none ⟨SubO.nil _, PoSub.none _, ?_⟩ ?_
 ·simp only [tt, seval]
  exact ⟨0, rfl, by omega, by simp [maxL]⟩
 ·rintro g' L p ⟨i, hix, hi, hac, rfl, rfl⟩
  simp only [tt, seval] at hix hac
  simp only [tt, seval, hix, hac, Int.ofNat_lt]
  refine And.intro (fun hlt => ?_) (fun hge => ?_)
  ·have hlt : i < l.length := by omega
   obtain ⟨it, hit⟩ : ∃ it, it = l[i] := ⟨_, rfl⟩
   have hmem : it ∈ l := by rw [hit]; exact List.getElem_mem hlt
   refine ⟨by omega, by omega, _, drop_row Expr.row_len (List.getElem?_eq_getElem hlt), Expr.ne _ _, ?_⟩
   have hstep : maxL ((l.take (i + 1)).map g) = max (maxL ((l.take i).map g)) (g l[i]) := by rw [take_map_step g hlt, maxL_snoc]
   rw [← hit] at hstep
   obtain ⟨k, o, n, v, q, m, ks, ss⟩ := it
   rw [← hit, Expr.row_mk]
   simp only [tt, seval]
   refine cZ (h _ hmem) (by decide) ?_ ?_ <;> simp only [tt, seval, hix, Expr.row_mk]
   rw [imax, wrap_id (n := (i : Int) + 1) (by omega) (by omega)]
   exact ⟨_, none, SubO.nil _, PoSub.none _, ⟨i + 1, rfl, by omega, viE (by rw [hstep]), rfl, rfl⟩, by simp only [ixS]; omega⟩
  ·have hie : i = l.length := by omega
   subst hie
   rw [List.take_length] at hac
   try rw [List.take_length]
   exact ⟨_, _, rfl, end0 rfl⟩
theorem iDepthOfQ (q : Query) (g : Expr → Nat) (h : ∀ x ∈ exprsQ q, Cl Tryz.prog 75 [.ag (csOf x.row)] [] fun r _ => r = vi (g x : Nat)) (hsz : szQuery q ≤ 1048576) : Cl Tryz.prog 133 [.ag (csOf q.row)] [] fun r _ => r = vi (maxL ((exprsQ q).map g) : Nat) := by
 have hlen := exprsQ_len q
 obtain ⟨distinct, items, from_, where_, order, limit⟩ := q
 rw [Query.row_mk]
 refine cl_of_d follows_mixed false Tryz.func133 rfl (by kernel_rfl) ?_
 simp only [Tryz.f133, tt, seval]
 refine cZ (iexprs_d distinct items from_ where_ order limit hsz) (by decide) ?_ ?_ <;> simp only [tt, seval, Query.row_mk]
 generalize exprsQ (Query.mk distinct items from_ where_ order limit) = l at *
 refine cZ (deepestOf_d l g h (by omega)) (by decide) ?_ ?_ <;> simp only [tt, seval]
 exact ⟨_, _, rfl, end0 rfl⟩
theorem iDepthOf_step (kind op : Int) (not : Bool) (val : Val) (qual name : ByteArray) (kids : List Expr) (sub : List Query) (g : Expr → Nat) (hg : ∀ x, below x (Expr.mk kind op not val qual name kids sub) → (Cl Tryz.prog 75 [.ag (csOf x.row)] [] fun r _ => r = vi (g x : Nat)) ∧ g x ≤ szExpr x + 1) (hsz : szExpr (Expr.mk kind op not val qual name kids sub) ≤ 1048576) : Cl Tryz.prog 75 [.ag (csOf (Expr.mk kind op not val qual name kids sub).row)] [] fun r _ => r = vi (dpF g (Expr.mk kind op not val qual name kids sub) : Nat) := by
 have hdl := dp_le (g := g) (fun x hx => (hg x hx).2)
 have e : dpF g (Expr.mk kind op not val qual name kids sub) = 1 + maxL (kids.map g ++ sub.map fun q => maxL ((exprsQ q).map g)) := rfl
 rw [e] at hdl ⊢
 rw [Expr.row_mk]
 refine cl_of_d follows_mixed false Tryz.func75 rfl (by kernel_rfl) ?_
 simp only [Tryz.f75, tt, seval]
 refine fun _ => ?_
 refine dLoop.intro (fun f L p => ∃ i : Nat, f 11 = vi i ∧ i ≤ kids.length ∧ f 3 = vi (maxL ((kids.take i).map g) : Nat) ∧ L = [(1, .str [.v (.int .i64 kind), .v (.int .i64 op), .v (.bool not), .v (.int .i64 val.kind), .v (.int .i64 val.num), .v (.string val.text), .v (.string qual), .v (.string name), .sl kids.length (kids.flatMap Expr.row) none, .sl sub.length (sub.flatMap Query.row) none])] ∧ p = none) (fun f _ _ => (kids.length - ixS (f 11)).toNat) [(1, .str [.v (.int .i64 kind), .v (.int .i64 op), .v (.bool not), .v (.int .i64 val.kind), .v (.int .i64 val.num), .v (.string val.text), .v (.string qual), .v (.string name), .sl kids.length (kids.flatMap Expr.row) none, .sl sub.length (sub.flatMap Query.row) none])] none ⟨SubO.cons rfl (SubO.nil _), PoSub.none _, ?_⟩ ?_
 ·simp only [tt, seval]
  exact ⟨0, rfl, by omega, by simp [maxL]⟩
 ·rintro g' L p ⟨i, hix, hi, hac, rfl, rfl⟩
  simp only [tt, seval] at hix hac
  simp only [tt, seval, hix, hac, Int.ofNat_lt]
  refine And.intro (fun hlt => ?_) (fun hge => ?_)
  ·have hlt : i < kids.length := by omega
   obtain ⟨it, hit⟩ : ∃ it, it = kids[i] := ⟨_, rfl⟩
   have hmem : it ∈ kids := by rw [hit]; exact List.getElem_mem hlt
   refine ⟨by omega, by omega, _, drop_row Expr.row_len (List.getElem?_eq_getElem hlt), Expr.ne _ _, ?_⟩
   have hstep : maxL ((kids.take (i + 1)).map g) = max (maxL ((kids.take i).map g)) (g kids[i]) := by rw [take_map_step g hlt, maxL_snoc]
   rw [← hit] at hstep
   obtain ⟨k, o, n, v, q, m, ks, ss⟩ := it
   rw [← hit, Expr.row_mk]
   simp only [tt, seval]
   refine cZ ((hg _ (.inl hmem)).1) (by decide) ?_ ?_ <;> simp only [tt, seval, hix, Expr.row_mk]
   rw [imax, wrap_id (n := (i : Int) + 1) (by omega) (by omega)]
   exact ⟨_, none, SubO.cons rfl (SubO.nil _), PoSub.none _, ⟨i + 1, rfl, by omega, viE (by rw [hstep]), rfl, rfl⟩, by simp only [ixS]; omega⟩
  ·have hie : i = kids.length := by omega
   subst hie
   rw [List.take_length] at hac
   refine fun _ => ?_
   refine dLoop.intro (fun f L p => ∃ i : Nat, f 23 = vi i ∧ i ≤ sub.length ∧ f 3 = vi (maxL (kids.map g ++ (sub.take i).map fun q => maxL ((exprsQ q).map g)) : Nat) ∧ L = [(1, .str [.v (.int .i64 kind), .v (.int .i64 op), .v (.bool not), .v (.int .i64 val.kind), .v (.int .i64 val.num), .v (.string val.text), .v (.string qual), .v (.string name), .sl kids.length (kids.flatMap Expr.row) none, .sl sub.length (sub.flatMap Query.row) none])] ∧ p = none) (fun f _ _ => (sub.length - ixS (f 23)).toNat) [(1, .str [.v (.int .i64 kind), .v (.int .i64 op), .v (.bool not), .v (.int .i64 val.kind), .v (.int .i64 val.num), .v (.string val.text), .v (.string qual), .v (.string name), .sl kids.length (kids.flatMap Expr.row) none, .sl sub.length (sub.flatMap Query.row) none])] none ⟨SubO.cons rfl (SubO.nil _), PoSub.none _, ?_⟩ ?_
   ·simp only [tt, seval, hac]
    exact ⟨0, rfl, by omega, by simp [maxL]⟩
   ·rintro g' L p ⟨i, hix, hi, hac, rfl, rfl⟩
    simp only [tt, seval] at hix hac
    simp only [tt, seval, hix, hac, Int.ofNat_lt]
    refine And.intro (fun hlt => ?_) (fun hge => ?_)
    ·have hlt : i < sub.length := by omega
     obtain ⟨it, hit⟩ : ∃ it, it = sub[i] := ⟨_, rfl⟩
     have hmem : it ∈ sub := by rw [hit]; exact List.getElem_mem hlt
     refine ⟨by omega, by omega, _, drop_row Query.row_len (List.getElem?_eq_getElem hlt), Query.ne _ _, ?_⟩
     have hstep : maxL (kids.map g ++ (sub.take (i + 1)).map fun q => maxL ((exprsQ q).map g)) = max (maxL (kids.map g ++ (sub.take i).map fun q => maxL ((exprsQ q).map g))) (maxL ((exprsQ sub[i]).map g)) := by rw [take_map_step _ hlt, ← List.append_assoc, maxL_snoc]
     rw [← hit] at hstep
     obtain ⟨ds, its, frs, whs, ods, lim⟩ := it
     rw [← hit, Query.row_mk]
     simp only [tt, seval]
     refine cZ (iDepthOfQ (Query.mk ds its frs whs ods lim) g (fun x hx => (hg x (.inr ⟨_, hmem, hx⟩)).1) (Nat.le_trans (sub_sz (e := (Expr.mk kind op not val qual name kids sub)) hmem) hsz)) (by decide) ?_ ?_ <;> simp only [tt, seval, hix, Query.row_mk]
     rw [imax, wrap_id (n := (i : Int) + 1) (by omega) (by omega)]
     exact ⟨_, none, SubO.cons rfl (SubO.nil _), PoSub.none _, ⟨i + 1, rfl, by omega, viE (by rw [hstep]), rfl, rfl⟩, by simp only [ixS]; omega⟩
    ·have hie : i = sub.length := by omega
     subst hie
     rw [List.take_length] at hac
     try rw [List.take_length]
     rw [wrap_id (by omega) (by omega)]
     exact ⟨_, _, viE (by omega), end0 rfl⟩
theorem iDepthOf_d (e : Expr) : (szExpr e ≤ 1048576 → Cl Tryz.prog 75 [.ag (csOf e.row)] [] fun r _ => r = vi (dpE e : Nat)) ∧ dpE e ≤ szExpr e + 1 := by
 refine foldE_ind (P := fun e d => (szExpr e ≤ 1048576 → Cl Tryz.prog 75 [.ag (csOf e.row)] [] fun r _ => r = vi (d : Nat)) ∧ d ≤ szExpr e + 1) (fun e g hg => ⟨fun hsz => ?_, dp_le fun x hx => (hg x hx).2⟩) e
 obtain ⟨kind, op, not, val, qual, name, kids, sub⟩ := e
 exact iDepthOf_step kind op not val qual name kids sub g (fun x hx => ⟨(hg x hx).1 (Nat.le_trans (below_sz hx) hsz), (hg x hx).2⟩) hsz
theorem DepthOfQ (q : Query) (g : Expr → Nat) (h : ∀ x ∈ exprsQ q, Cl Tryz.prog 46 [.ag (csOf x.row)] [] fun r _ => r = vi (g x : Nat)) (hsz : szQuery q ≤ 1048576) : Cl Tryz.prog 106 [.ag (csOf q.row)] [] fun r _ => r = vi (maxL ((exprsQ q).map g) : Nat) := by
 have hlen := exprsQ_len q
 obtain ⟨distinct, items, from_, where_, order, limit⟩ := q
 rw [Query.row_mk]
 refine cl_of_d follows_mixed false Tryz.func106 rfl (by kernel_rfl) ?_
 simp only [Tryz.f106, tt, seval]
 refine cZ (l7Exprs_d distinct items from_ where_ order limit hsz) (by decide) ?_ ?_ <;> simp only [tt, seval, Query.row_mk]
 generalize exprsQ (Query.mk distinct items from_ where_ order limit) = l at *
 refine dLoop.intro (fun f L p => ∃ i : Nat, f 5 = vi i ∧ i ≤ l.length ∧ f 3 = vi (maxL ((l.take i).map g) : Nat) ∧ L = [(1, .str [.v (.bool distinct), .sl items.length (items.flatMap Item.row) none, .sl from_.length (from_.flatMap Source.row) none, .sl where_.length (where_.flatMap Expr.row) none, .sl order.length (order.flatMap SortKey.row) none, .v (.int .i64 limit)])] ∧ p = none) (fun f _ _ => (l.length - ixS (f 5)).toNat) [(1, .str [.v (.bool distinct), .sl items.length (items.flatMap Item.row) none, .sl from_.length (from_.flatMap Source.row) none, .sl where_.length (where_.flatMap Expr.row) none, .sl order.length (order.flatMap SortKey.row) none, .v (.int .i64 limit)])] none ⟨SubO.cons rfl (SubO.nil _), PoSub.none _, ?_⟩ ?_
 ·simp only [tt, seval]
  exact ⟨0, rfl, by omega, by simp [maxL]⟩
 ·rintro g' L p ⟨i, hix, hi, hac, rfl, rfl⟩
  simp only [tt, seval] at hix hac
  simp only [tt, seval, hix, hac, Int.ofNat_lt]
  refine fun _ => ?_
  refine And.intro (fun hlt => ?_) (fun hge => ?_)
  ·have hlt : i < l.length := by omega
   have hmem : l[i] ∈ l := List.getElem_mem hlt
   refine ⟨by omega, by omega, _, drop_row Expr.row_len (List.getElem?_eq_getElem hlt), Expr.ne _ _, ?_⟩
   simp only [seval, Expr.tk, Expr.row_len]
   refine cZ (h _ hmem) (by decide) ?_ ?_ <;> simp only [tt, seval]
   refine cZ (l1Max_d (maxL ((l.take i).map g)) (g l[i])) (by decide) ?_ ?_ <;> simp only [tt, seval, hix]
   rw [wrS i (by omega)]
   have hstep : maxL ((l.take (i + 1)).map g) = max (maxL ((l.take i).map g)) (g l[i]) := by rw [take_map_step g hlt, maxL_snoc]
   exact ⟨_, none, SubO.cons rfl (SubO.nil _), PoSub.none _, ⟨i + 1, rfl, by omega, viE (by rw [hstep]), rfl, rfl⟩, by simp only [ixS]; omega⟩
  ·have hie : i = l.length := by omega
   subst hie
   rw [List.take_length] at hac
   try rw [List.take_length]
   exact ⟨_, _, rfl, end0 rfl⟩
theorem DepthOf_step (kind op : Int) (not : Bool) (val : Val) (qual name : ByteArray) (kids : List Expr) (sub : List Query) (g : Expr → Nat) (hg : ∀ x, below x (Expr.mk kind op not val qual name kids sub) → (Cl Tryz.prog 46 [.ag (csOf x.row)] [] fun r _ => r = vi (g x : Nat)) ∧ g x ≤ szExpr x + 1) (hsz : szExpr (Expr.mk kind op not val qual name kids sub) ≤ 1048576) : Cl Tryz.prog 46 [.ag (csOf (Expr.mk kind op not val qual name kids sub).row)] [] fun r _ => r = vi (dpF g (Expr.mk kind op not val qual name kids sub) : Nat) := by
 have hdl := dp_le (g := g) (fun x hx => (hg x hx).2)
 have e : dpF g (Expr.mk kind op not val qual name kids sub) = 1 + maxL (kids.map g ++ sub.map fun q => maxL ((exprsQ q).map g)) := rfl
 rw [e] at hdl ⊢
 rw [Expr.row_mk]
 refine cl_of_d follows_mixed false Tryz.func46 rfl (by kernel_rfl) ?_
 simp only [Tryz.f46, tt, seval]
 refine dLoop.intro (fun f L p => ∃ i : Nat, f 4 = vi i ∧ i ≤ kids.length ∧ f 3 = vi (maxL ((kids.take i).map g) : Nat) ∧ L = [(1, .str [.v (.int .i64 kind), .v (.int .i64 op), .v (.bool not), .v (.int .i64 val.kind), .v (.int .i64 val.num), .v (.string val.text), .v (.string qual), .v (.string name), .sl kids.length (kids.flatMap Expr.row) none, .sl sub.length (sub.flatMap Query.row) none])] ∧ p = none) (fun f _ _ => (kids.length - ixS (f 4)).toNat) [(1, .str [.v (.int .i64 kind), .v (.int .i64 op), .v (.bool not), .v (.int .i64 val.kind), .v (.int .i64 val.num), .v (.string val.text), .v (.string qual), .v (.string name), .sl kids.length (kids.flatMap Expr.row) none, .sl sub.length (sub.flatMap Query.row) none])] none ⟨SubO.cons rfl (SubO.nil _), PoSub.none _, ?_⟩ ?_
 ·simp only [tt, seval]
  exact ⟨0, rfl, by omega, by simp [maxL]⟩
 ·rintro g' L p ⟨i, hix, hi, hac, rfl, rfl⟩
  simp only [tt, seval] at hix hac
  simp only [tt, seval, hix, hac, Int.ofNat_lt]
  refine fun _ => ?_
  refine And.intro (fun hlt => ?_) (fun hge => ?_)
  ·have hlt : i < kids.length := by omega
   have hmem : kids[i] ∈ kids := List.getElem_mem hlt
   refine ⟨by omega, by omega, _, drop_row Expr.row_len (List.getElem?_eq_getElem hlt), Expr.ne _ _, ?_⟩
   simp only [seval, Expr.tk, Expr.row_len]
   refine cZ ((hg _ (.inl hmem)).1) (by decide) ?_ ?_ <;> simp only [tt, seval]
   refine cZ (l1Max_d (maxL ((kids.take i).map g)) (g kids[i])) (by decide) ?_ ?_ <;> simp only [tt, seval, hix]
   rw [wrS i (by omega)]
   have hstep : maxL ((kids.take (i + 1)).map g) = max (maxL ((kids.take i).map g)) (g kids[i]) := by rw [take_map_step g hlt, maxL_snoc]
   exact ⟨_, none, SubO.cons rfl (SubO.nil _), PoSub.none _, ⟨i + 1, rfl, by omega, viE (by rw [hstep]), rfl, rfl⟩, by simp only [ixS]; omega⟩
  ·have hie : i = kids.length := by omega
   subst hie
   rw [List.take_length] at hac
   refine dLoop.intro (fun f L p => ∃ i : Nat, f 5 = vi i ∧ i ≤ sub.length ∧ f 3 = vi (maxL (kids.map g ++ (sub.take i).map fun q => maxL ((exprsQ q).map g)) : Nat) ∧ L = [(1, .str [.v (.int .i64 kind), .v (.int .i64 op), .v (.bool not), .v (.int .i64 val.kind), .v (.int .i64 val.num), .v (.string val.text), .v (.string qual), .v (.string name), .sl kids.length (kids.flatMap Expr.row) none, .sl sub.length (sub.flatMap Query.row) none])] ∧ p = none) (fun f _ _ => (sub.length - ixS (f 5)).toNat) [(1, .str [.v (.int .i64 kind), .v (.int .i64 op), .v (.bool not), .v (.int .i64 val.kind), .v (.int .i64 val.num), .v (.string val.text), .v (.string qual), .v (.string name), .sl kids.length (kids.flatMap Expr.row) none, .sl sub.length (sub.flatMap Query.row) none])] none ⟨SubO.cons rfl (SubO.nil _), PoSub.none _, ?_⟩ ?_
   ·simp only [tt, seval, hac]
    exact ⟨0, rfl, by omega, by simp [maxL]⟩
   ·rintro g' L p ⟨i, hix, hi, hac, rfl, rfl⟩
    simp only [tt, seval] at hix hac
    simp only [tt, seval, hix, hac, Int.ofNat_lt]
    refine fun _ => ?_
    refine And.intro (fun hlt => ?_) (fun hge => ?_)
    ·have hlt : i < sub.length := by omega
     have hmem : sub[i] ∈ sub := List.getElem_mem hlt
     refine ⟨by omega, by omega, _, drop_row Query.row_len (List.getElem?_eq_getElem hlt), Query.ne _ _, ?_⟩
     simp only [seval, Query.tk, Query.row_len]
     refine cZ (DepthOfQ (sub[i]) g (fun x hx => (hg x (.inr ⟨_, hmem, hx⟩)).1) (Nat.le_trans (sub_sz (e := (Expr.mk kind op not val qual name kids sub)) hmem) hsz)) (by decide) ?_ ?_ <;> simp only [tt, seval]
     refine cZ (l1Max_d (maxL (kids.map g ++ (sub.take i).map fun q => maxL ((exprsQ q).map g))) (maxL ((exprsQ sub[i]).map g))) (by decide) ?_ ?_ <;> simp only [tt, seval, hix]
     rw [wrS i (by omega)]
     have hstep : maxL (kids.map g ++ (sub.take (i + 1)).map fun q => maxL ((exprsQ q).map g)) = max (maxL (kids.map g ++ (sub.take i).map fun q => maxL ((exprsQ q).map g))) (maxL ((exprsQ sub[i]).map g)) := by rw [take_map_step _ hlt, ← List.append_assoc, maxL_snoc]
     exact ⟨_, none, SubO.cons rfl (SubO.nil _), PoSub.none _, ⟨i + 1, rfl, by omega, viE (by rw [hstep]), rfl, rfl⟩, by simp only [ixS]; omega⟩
    ·have hie : i = sub.length := by omega
     subst hie
     rw [List.take_length] at hac
     try rw [List.take_length]
     rw [wrap_id (by omega) (by omega)]
     exact ⟨_, _, viE (by omega), end0 rfl⟩
theorem DepthOf_d (e : Expr) : (szExpr e ≤ 1048576 → Cl Tryz.prog 46 [.ag (csOf e.row)] [] fun r _ => r = vi (dpE e : Nat)) ∧ dpE e ≤ szExpr e + 1 := by
 refine foldE_ind (P := fun e d => (szExpr e ≤ 1048576 → Cl Tryz.prog 46 [.ag (csOf e.row)] [] fun r _ => r = vi (d : Nat)) ∧ d ≤ szExpr e + 1) (fun e g hg => ⟨fun hsz => ?_, dp_le fun x hx => (hg x hx).2⟩) e
 obtain ⟨kind, op, not, val, qual, name, kids, sub⟩ := e
 exact DepthOf_step kind op not val qual name kids sub g (fun x hx => ⟨(hg x hx).1 (Nat.le_trans (below_sz hx) hsz), (hg x hx).2⟩) hsz
def ndF (g : Expr → Nat) (e : Expr) : Nat := 1 + (e.kids.map g).sum + (e.sub.map fun q => ((exprsQ q).map g).sum).sum
noncomputable def ndE : Expr → Nat := foldE ndF
theorem sum_snoc {α : Type} (g : α → Nat) {l : List α} {i : Nat} (h : i < l.length) : ((l.take (i + 1)).map g).sum = ((l.take i).map g).sum + g l[i] := take_succ_sum g h
theorem sum_le {α : Type} {f g : α → Nat} : ∀ {l : List α}, (∀ x ∈ l, f x ≤ g x) → (l.map f).sum ≤ (l.map g).sum
 | [], _ => Nat.le_refl _
 | x :: r, h => by
  have h1 := h x (by simp)
  have h2 := sum_le (l := r) fun y hy => h y (by simp [hy])
  simp only [List.map_cons, List.sum_cons]; omega
theorem sum_add1 {α : Type} (f : α → Nat) : ∀ l : List α, (l.map fun x => f x + 1).sum = l.length + (l.map f).sum
 | [] => rfl
 | x :: r => by simp only [List.map_cons, List.sum_cons, sum_add1 f r, List.length_cons]; omega
theorem exprsI_sum : ∀ l : List Item, ((exprsI l).map fun x => szExpr x + 1).sum ≤ szItems l
 | [] => by simp [exprsI]
 | .mk s q e a :: r => by
  have := exprsI_sum r
  rw [szItems, szItem_mk]
  cases s with
  | true =>
   have h : exprsI (.mk true q e a :: r) = exprsI r := rfl
   rw [h]; omega
  | false =>
   have h : exprsI (.mk false q e a :: r) = e :: exprsI r := rfl
   rw [h, List.map_cons, List.sum_cons]; omega
theorem on_sum : ∀ l : List Source, ((l.flatMap Source.on).map fun x => szExpr x + 1).sum ≤ szSources l
 | [] => by simp
 | .mk t a o :: r => by
  have := on_sum r
  rw [szSources, szSource_mk, List.flatMap_cons, List.map_append, List.sum_append, szExprs_eq]
  have h : (Source.mk t a o).on = o := rfl
  rw [h, sum_add1]; omega
theorem key_sum : ∀ l : List SortKey, ((l.map SortKey.e).map fun x => szExpr x + 1).sum ≤ szSortKeys l
 | [] => by simp
 | .mk e d :: r => by
  have := key_sum r
  rw [szSortKeys, szSortKey_mk, List.map_cons, List.map_cons, List.sum_cons]
  have h : (SortKey.mk e d).e = e := rfl
  rw [h]; omega
theorem exprsQ_sum (q : Query) : ((exprsQ q).map fun x => szExpr x + 1).sum ≤ szQuery q := by
 obtain ⟨d, it, fr, wh, or, li⟩ := q
 have h1 := exprsI_sum it
 have h2 := on_sum fr
 have h3 := key_sum or
 rw [szQuery_mk, szExprs_eq]
 have e : exprsQ (.mk d it fr wh or li) = exprsI it ++ fr.flatMap Source.on ++ wh ++ or.map SortKey.e := rfl
 rw [e, List.map_append, List.map_append, List.map_append, List.sum_append, List.sum_append, List.sum_append, sum_add1 szExpr wh]
 omega
theorem nd_le {e : Expr} {g : Expr → Nat} (h : ∀ x, below x e → g x ≤ szExpr x + 1) : ndF g e ≤ szExpr e + 1 := by
 obtain ⟨k, o, n, v, q, m, ks, ss⟩ := e
 have e1 : ndF g (.mk k o n v q m ks ss) = 1 + (ks.map g).sum + (ss.map fun q => ((exprsQ q).map g).sum).sum := rfl
 rw [e1, szExpr_mk, szExprs_eq, szQuerys_eq]
 have h1 := sum_le (l := ks) (f := g) (g := fun x => szExpr x + 1) fun x hx => h x (.inl hx)
 have h2 := sum_le (l := ss) (f := fun q => ((exprsQ q).map g).sum) (g := szQuery) fun q hq => Nat.le_trans (sum_le fun x hx => h x (.inr ⟨q, hq, hx⟩)) (exprsQ_sum q)
 rw [sum_add1] at h1
 omega
theorem sizeOfAll_d (l : List Expr) (g : Expr → Nat) (h : ∀ x ∈ l, Cl Tryz.prog 76 [.ag (csOf x.row)] [] fun r _ => r = vi (g x : Nat)) (hl : l.length ≤ 1048576) (hs : (l.map g).sum ≤ 2097152) : Cl Tryz.prog 134 [.c (.sl l.length (l.flatMap Expr.row) none)] [] fun r _ => r = vi ((l.map g).sum : Nat) := by
 refine cl_of_d follows_mixed false Tryz.func134 rfl (by kernel_rfl) ?_
 simp only [Tryz.f134, tt, seval]
 refine fun _ => ?_
 refine dLoop.intro (fun f L p => ∃ i : Nat, f 8 = vi i ∧ i ≤ l.length ∧ f 3 = vi (((l.take i).map g).sum : Nat) ∧ L = [] ∧ p = none) (fun f _ _ => (l.length - ixS (f 8)).toNat) [] none ⟨SubO.nil _, PoSub.none _, ?_⟩ ?_
 ·simp only [tt, seval]
  exact ⟨0, rfl, by omega, by simp []⟩
 ·rintro g' L p ⟨i, hix, hi, hac, rfl, rfl⟩
  simp only [tt, seval] at hix hac
  simp only [tt, seval, hix, hac, Int.ofNat_lt]
  refine And.intro (fun hlt => ?_) (fun hge => ?_)
  ·have hlt : i < l.length := by omega
   obtain ⟨it, hit⟩ : ∃ it, it = l[i] := ⟨_, rfl⟩
   have hmem : it ∈ l := by rw [hit]; exact List.getElem_mem hlt
   refine ⟨by omega, by omega, _, drop_row Expr.row_len (List.getElem?_eq_getElem hlt), Expr.ne _ _, ?_⟩
   have hstep : ((l.take (i + 1)).map g).sum = ((l.take i).map g).sum + g l[i] := sum_snoc g hlt
   rw [← hit] at hstep
   obtain ⟨k, o, n, v, q, m, ks, ss⟩ := it
   rw [← hit, Expr.row_mk]
   simp only [tt, seval]
   refine cZ (h _ hmem) (by decide) ?_ ?_ <;> simp only [tt, seval, hix, Expr.row_mk]
   obtain ⟨rst, hrst⟩ := take_sum_le g l (i + 1)
   rw [wrS i (by omega)]
   rw [wrap_id (by omega) (by omega)]
   exact ⟨_, none, SubO.nil _, PoSub.none _, ⟨i + 1, rfl, by omega, viE (by rw [hstep]; omega), rfl, rfl⟩, by simp only [ixS]; omega⟩
  ·have hie : i = l.length := by omega
   subst hie
   rw [List.take_length] at hac
   try rw [List.take_length]
   exact ⟨_, _, rfl, end0 rfl⟩
theorem QuerySize_d (q : Query) (g : Expr → Nat) (h : ∀ x ∈ exprsQ q, Cl Tryz.prog 76 [.ag (csOf x.row)] [] fun r _ => r = vi (g x : Nat)) (hsz : szQuery q ≤ 1048576) (hs : ((exprsQ q).map g).sum ≤ 2097152) : Cl Tryz.prog 135 [.ag (csOf q.row)] [] fun r _ => r = vi (((exprsQ q).map g).sum : Nat) := by
 have hlen := exprsQ_len q
 obtain ⟨distinct, items, from_, where_, order, limit⟩ := q
 rw [Query.row_mk]
 refine cl_of_d follows_mixed false Tryz.func135 rfl (by kernel_rfl) ?_
 simp only [Tryz.f135, tt, seval]
 refine cZ (iexprs_d distinct items from_ where_ order limit hsz) (by decide) ?_ ?_ <;> simp only [tt, seval, Query.row_mk]
 generalize exprsQ (Query.mk distinct items from_ where_ order limit) = l at *
 refine cZ (sizeOfAll_d l g h (by omega) hs) (by decide) ?_ ?_ <;> simp only [tt, seval]
 exact ⟨_, _, rfl, end0 rfl⟩
theorem SizeOf_step (kind op : Int) (not : Bool) (val : Val) (qual name : ByteArray) (kids : List Expr) (sub : List Query) (g : Expr → Nat) (hg : ∀ x, below x (Expr.mk kind op not val qual name kids sub) → (Cl Tryz.prog 76 [.ag (csOf x.row)] [] fun r _ => r = vi (g x : Nat)) ∧ g x ≤ szExpr x + 1) (hsz : szExpr (Expr.mk kind op not val qual name kids sub) ≤ 1048576) : Cl Tryz.prog 76 [.ag (csOf (Expr.mk kind op not val qual name kids sub).row)] [] fun r _ => r = vi (ndF g (Expr.mk kind op not val qual name kids sub) : Nat) := by
 have hdl := nd_le (g := g) (fun x hx => (hg x hx).2)
 have hks := hsz
 rw [szExpr_mk, szExprs_eq, szQuerys_eq] at hks
 have e : ndF g (Expr.mk kind op not val qual name kids sub) = 1 + (kids.map g).sum + (sub.map fun q => ((exprsQ q).map g).sum).sum := rfl
 rw [e] at hdl ⊢
 rw [Expr.row_mk]
 refine cl_of_d follows_mixed false Tryz.func76 rfl (by kernel_rfl) ?_
 simp only [Tryz.f76, tt, seval]
 refine cZ (sizeOfAll_d kids g (fun x hx => (hg x (.inl hx)).1) (by omega) (by omega)) (by decide) ?_ ?_ <;> simp only [tt, seval]
 rw [wrap_id (by omega) (by omega)]
 refine fun _ => ?_
 refine dLoop.intro (fun f L p => ∃ i : Nat, f 13 = vi i ∧ i ≤ sub.length ∧ f 3 = vi ((1 + (kids.map g).sum + ((sub.take i).map fun q => ((exprsQ q).map g).sum).sum) : Nat) ∧ L = [(1, .str [.v (.int .i64 kind), .v (.int .i64 op), .v (.bool not), .v (.int .i64 val.kind), .v (.int .i64 val.num), .v (.string val.text), .v (.string qual), .v (.string name), .sl kids.length (kids.flatMap Expr.row) none, .sl sub.length (sub.flatMap Query.row) none])] ∧ p = none) (fun f _ _ => (sub.length - ixS (f 13)).toNat) [(1, .str [.v (.int .i64 kind), .v (.int .i64 op), .v (.bool not), .v (.int .i64 val.kind), .v (.int .i64 val.num), .v (.string val.text), .v (.string qual), .v (.string name), .sl kids.length (kids.flatMap Expr.row) none, .sl sub.length (sub.flatMap Query.row) none])] none ⟨SubO.cons rfl (SubO.nil _), PoSub.none _, ?_⟩ ?_
 ·simp only [tt, seval]
  exact ⟨0, rfl, by omega, by simp⟩
 ·rintro g' L p ⟨i, hix, hi, hac, rfl, rfl⟩
  simp only [tt, seval] at hix hac
  simp only [tt, seval, hix, hac, Int.ofNat_lt]
  refine And.intro (fun hlt => ?_) (fun hge => ?_)
  ·have hlt : i < sub.length := by omega
   obtain ⟨it, hit⟩ : ∃ it, it = sub[i] := ⟨_, rfl⟩
   have hmem : it ∈ sub := by rw [hit]; exact List.getElem_mem hlt
   refine ⟨by omega, by omega, _, drop_row Query.row_len (List.getElem?_eq_getElem hlt), Query.ne _ _, ?_⟩
   have hstep : ((sub.take (i + 1)).map fun q => ((exprsQ q).map g).sum).sum = ((sub.take i).map fun q => ((exprsQ q).map g).sum).sum + ((exprsQ sub[i]).map g).sum := sum_snoc _ hlt
   rw [← hit] at hstep
   obtain ⟨ds, its, frs, whs, ods, lim⟩ := it
   rw [← hit, Query.row_mk]
   simp only [tt, seval]
   obtain ⟨rst, hrst⟩ := take_sum_le (fun q => ((exprsQ q).map g).sum) sub (i + 1)
   refine cZ (QuerySize_d (Query.mk ds its frs whs ods lim) g (fun x hx => (hg x (.inr ⟨_, hmem, hx⟩)).1) (Nat.le_trans (sub_sz (e := (Expr.mk kind op not val qual name kids sub)) hmem) hsz) (by omega)) (by decide) ?_ ?_ <;> simp only [tt, seval, hix, Query.row_mk]
   rw [wrS i (by omega)]
   rw [wrap_id (by omega) (by omega)]
   exact ⟨_, none, SubO.cons rfl (SubO.nil _), PoSub.none _, ⟨i + 1, rfl, by omega, viE (by rw [hstep]; omega), rfl, rfl⟩, by simp only [ixS]; omega⟩
  ·have hie : i = sub.length := by omega
   subst hie
   rw [List.take_length] at hac
   try rw [List.take_length]
   exact ⟨_, _, rfl, end0 rfl⟩
theorem SizeOf_d (e : Expr) : (szExpr e ≤ 1048576 → Cl Tryz.prog 76 [.ag (csOf e.row)] [] fun r _ => r = vi (ndE e : Nat)) ∧ ndE e ≤ szExpr e + 1 := by
 refine foldE_ind (P := fun e d => (szExpr e ≤ 1048576 → Cl Tryz.prog 76 [.ag (csOf e.row)] [] fun r _ => r = vi (d : Nat)) ∧ d ≤ szExpr e + 1) (fun e g hg => ⟨fun hsz => ?_, nd_le fun x hx => (hg x hx).2⟩) e
 obtain ⟨kind, op, not, val, qual, name, kids, sub⟩ := e
 exact SizeOf_step kind op not val qual name kids sub g (fun x hx => ⟨(hg x hx).1 (Nat.le_trans (below_sz hx) hsz), (hg x hx).2⟩) hsz
theorem l7Exprs_q (q : Query) (hsz : szQuery q ≤ 1048576) : Cl Tryz.prog 102 [.ag (csOf q.row)] [] fun r _ => r = .c (.sl (exprsQ q).length ((exprsQ q).flatMap Expr.row) none) := by
 obtain ⟨distinct, items, from_, where_, order, limit⟩ := q
 exact l7Exprs_d distinct items from_ where_ order limit hsz
theorem subL_one {l : Int} (h : 0 ≤ l) : subL l 1 = l - 1 := by unfold subL; split <;> omega
theorem l7Left_step (kind op : Int) (not : Bool) (val : Val) (qual name : ByteArray) (kids : List Expr) (sub : List Query) (g : Expr → Nat) (hg : ∀ x, below x (Expr.mk kind op not val qual name kids sub) → ∀ l : Int, 0 ≤ l → l ≤ 200 → Cl Tryz.prog 44 [.ag (csOf x.row), vi l] [] fun r _ => r = vi (subL l (g x))) (hsz : szExpr (Expr.mk kind op not val qual name kids sub) ≤ 1048576) (l0 : Int) (hl0 : 0 ≤ l0) (hl1 : l0 ≤ 200) : Cl Tryz.prog 44 [.ag (csOf (Expr.mk kind op not val qual name kids sub).row), vi l0] [] fun r _ => r = vi (subL l0 (ndF g (Expr.mk kind op not val qual name kids sub))) := by
 have hks := hsz
 rw [szExpr_mk, szExprs_eq, szQuerys_eq] at hks
 have e : ndF g (Expr.mk kind op not val qual name kids sub) = 1 + (kids.map g).sum + (sub.map fun q => ((exprsQ q).map g).sum).sum := rfl
 rw [e]
 rw [Expr.row_mk]
 refine cl_of_d follows_mixed false Tryz.func44 rfl (by kernel_rfl) ?_
 simp only [Tryz.f44, tt, seval]
 rw [wrap_id (by omega) (by omega)]
 refine dLoop.intro (fun f L p => ∃ i : Nat, f 5 = vi i ∧ i ≤ kids.length ∧ f 1 = vi (subL l0 (1 + ((kids.take i).map g).sum)) ∧ L = [(2, .str [.v (.int .i64 kind), .v (.int .i64 op), .v (.bool not), .v (.int .i64 val.kind), .v (.int .i64 val.num), .v (.string val.text), .v (.string qual), .v (.string name), .sl kids.length (kids.flatMap Expr.row) none, .sl sub.length (sub.flatMap Query.row) none])] ∧ p = none) (fun f _ _ => (kids.length - ixS (f 5)).toNat) [(2, .str [.v (.int .i64 kind), .v (.int .i64 op), .v (.bool not), .v (.int .i64 val.kind), .v (.int .i64 val.num), .v (.string val.text), .v (.string qual), .v (.string name), .sl kids.length (kids.flatMap Expr.row) none, .sl sub.length (sub.flatMap Query.row) none])] none ⟨SubO.cons rfl (SubO.nil _), PoSub.none _, ?_⟩ ?_
 ·simp only [tt, seval]
  exact ⟨0, rfl, by omega, by simp [subL_one hl0]⟩
 ·rintro g' L p ⟨i, hix, hi, hac, rfl, rfl⟩
  simp only [tt, seval] at hix hac
  simp only [tt, seval, hix]
  refine fun _ => ?_
  have hc : (i < kids.length ∧ 0 ≤ subL l0 (1 + ((kids.take i).map g).sum)) ∨ (subL l0 (1 + ((kids.take i).map g).sum) = subL l0 (1 + (kids.map g).sum) ∧ i < kids.length ∧ ¬ 0 ≤ subL l0 (1 + ((kids.take i).map g).sum)) ∨ (subL l0 (1 + ((kids.take i).map g).sum) = subL l0 (1 + (kids.map g).sum) ∧ ¬ i < kids.length) := by
   by_cases h1 : i < kids.length
   ·by_cases h2 : 0 ≤ subL l0 (1 + ((kids.take i).map g).sum)
    ·exact .inl ⟨h1, h2⟩
    ·obtain ⟨rst, hrst⟩ := take_sum_le (g) kids i
     have hb := subL_bounds (s := (1 + ((kids.take i).map g).sum)) hl0
     have h3 := subL_neg (b := rst) (by omega : subL l0 (1 + ((kids.take i).map g).sum) < 0) hl0
     refine .inr (.inl ⟨?_, h1, h2⟩)
     rw [show (1 + (kids.map g).sum) = (1 + ((kids.take i).map g).sum) + rst by omega, h3]; omega
   ·refine .inr (.inr ⟨?_, h1⟩)
    have : i = kids.length := by omega
    subst this
    rw [List.take_length]
  rcases hc with ⟨hlt, hp⟩ | ⟨he, hlt, hn⟩ | ⟨he, hge⟩
  ·simp only [tt, seval, decide_eq_true (show (i : Int) < kids.length by omega), hix, hac]
   refine And.intro (fun _ => ?_) (fun hn => absurd hp hn)
   refine ⟨by omega, by omega, _, drop_row Expr.row_len (List.getElem?_eq_getElem hlt), Expr.ne _ _, ?_⟩
   have hmem : kids[i] ∈ kids := List.getElem_mem hlt
   simp only [seval, Expr.tk, Expr.row_len]
   have hb := subL_bounds (s := (1 + ((kids.take i).map g).sum)) hl0
   refine cZ (hg kids[i] (.inl hmem) (subL l0 (1 + ((kids.take i).map g).sum)) hp (by omega)) (by decide) ?_ ?_ <;> simp only [tt, seval, hix]
   rw [wrap_id (n := (i : Int) + 1) (by omega) (by omega), ← subL_add hp]
   exact ⟨_, none, SubO.cons rfl (SubO.nil _), PoSub.none _, ⟨i + 1, rfl, by omega, viE (by rw [sum_snoc g hlt, Nat.add_assoc]), rfl, rfl⟩, by simp only [ixS]; omega⟩
  case' inr.inl =>
   simp only [tt, seval, decide_eq_true (show (i : Int) < kids.length by omega), hix, hac]
   refine And.intro (fun hp => absurd hp hn) (fun _ => ?_)
  case' inr.inr =>
   simp only [tt, seval, decide_eq_false (show ¬ (i : Int) < kids.length by omega), hix, hac]
  all_goals
   rw [he] at hac
   try rw [he]
   refine dLoop.intro (fun f L p => ∃ i : Nat, f 6 = vi i ∧ i ≤ sub.length ∧ f 1 = vi (subL l0 (1 + (kids.map g).sum + ((sub.take i).map fun q => ((exprsQ q).map g).sum).sum)) ∧ L = [(2, .str [.v (.int .i64 kind), .v (.int .i64 op), .v (.bool not), .v (.int .i64 val.kind), .v (.int .i64 val.num), .v (.string val.text), .v (.string qual), .v (.string name), .sl kids.length (kids.flatMap Expr.row) none, .sl sub.length (sub.flatMap Query.row) none])] ∧ p = none) (fun f _ _ => (sub.length - ixS (f 6)).toNat) [(2, .str [.v (.int .i64 kind), .v (.int .i64 op), .v (.bool not), .v (.int .i64 val.kind), .v (.int .i64 val.num), .v (.string val.text), .v (.string qual), .v (.string name), .sl kids.length (kids.flatMap Expr.row) none, .sl sub.length (sub.flatMap Query.row) none])] none ⟨SubO.cons rfl (SubO.nil _), PoSub.none _, ?_⟩ ?_
   ·simp only [tt, seval, hac]
    exact ⟨0, rfl, by omega, by simp⟩
   ·rintro g' L p ⟨i, hix, hi, hac, rfl, rfl⟩
    simp only [tt, seval] at hix hac
    simp only [tt, seval, hix]
    refine fun _ => ?_
    have hc : (i < sub.length ∧ 0 ≤ subL l0 (1 + (kids.map g).sum + ((sub.take i).map fun q => ((exprsQ q).map g).sum).sum)) ∨ (subL l0 (1 + (kids.map g).sum + ((sub.take i).map fun q => ((exprsQ q).map g).sum).sum) = subL l0 (1 + (kids.map g).sum + (sub.map fun q => ((exprsQ q).map g).sum).sum) ∧ i < sub.length ∧ ¬ 0 ≤ subL l0 (1 + (kids.map g).sum + ((sub.take i).map fun q => ((exprsQ q).map g).sum).sum)) ∨ (subL l0 (1 + (kids.map g).sum + ((sub.take i).map fun q => ((exprsQ q).map g).sum).sum) = subL l0 (1 + (kids.map g).sum + (sub.map fun q => ((exprsQ q).map g).sum).sum) ∧ ¬ i < sub.length) := by
     by_cases h1 : i < sub.length
     ·by_cases h2 : 0 ≤ subL l0 (1 + (kids.map g).sum + ((sub.take i).map fun q => ((exprsQ q).map g).sum).sum)
      ·exact .inl ⟨h1, h2⟩
      ·obtain ⟨rst, hrst⟩ := take_sum_le (fun q => ((exprsQ q).map g).sum) sub i
       have hb := subL_bounds (s := (1 + (kids.map g).sum + ((sub.take i).map fun q => ((exprsQ q).map g).sum).sum)) hl0
       have h3 := subL_neg (b := rst) (by omega : subL l0 (1 + (kids.map g).sum + ((sub.take i).map fun q => ((exprsQ q).map g).sum).sum) < 0) hl0
       refine .inr (.inl ⟨?_, h1, h2⟩)
       rw [show (1 + (kids.map g).sum + (sub.map fun q => ((exprsQ q).map g).sum).sum) = (1 + (kids.map g).sum + ((sub.take i).map fun q => ((exprsQ q).map g).sum).sum) + rst by omega, h3]; omega
     ·refine .inr (.inr ⟨?_, h1⟩)
      have : i = sub.length := by omega
      subst this
      rw [List.take_length]
    rcases hc with ⟨hlt, hp⟩ | ⟨he, hlt, hn⟩ | ⟨he, hge⟩
    ·simp only [tt, seval, decide_eq_true (show (i : Int) < sub.length by omega), hix, hac]
     refine And.intro (fun _ => ?_) (fun hn => absurd hp hn)
     refine ⟨by omega, by omega, _, drop_row Query.row_len (List.getElem?_eq_getElem hlt), Query.ne _ _, ?_⟩
     have hmem : sub[i] ∈ sub := List.getElem_mem hlt
     have hqs := sub_sz (e := (Expr.mk kind op not val qual name kids sub)) hmem
     have hql := exprsQ_len sub[i]
     simp only [seval, Query.tk, Query.row_len]
     refine cZ (l7Exprs_q sub[i] (by omega)) (by decide) ?_ ?_ <;> simp only [tt, seval]
     have hl : ∀ x ∈ exprsQ sub[i], ∀ l : Int, 0 ≤ l → l ≤ 200 → Cl Tryz.prog 44 [.ag (csOf x.row), vi l] [] fun r _ => r = vi (subL l (g x)) := fun x hx => hg x (.inr ⟨_, hmem, hx⟩)
     have hstep2 : ((sub.take (i + 1)).map fun q => ((exprsQ q).map g).sum).sum = ((sub.take i).map fun q => ((exprsQ q).map g).sum).sum + ((exprsQ sub[i]).map g).sum := sum_snoc _ hlt
     generalize exprsQ sub[i] = l at *
     have hac2 := hac
     obtain ⟨S, hS⟩ : ∃ S, S = (1 + (kids.map g).sum + ((sub.take i).map fun q => ((exprsQ q).map g).sum).sum) := ⟨_, rfl⟩
     rw [← hS] at hac2
     try rw [← hS]
     refine dLoop.intro (fun f L p => ∃ k : Nat, f 8 = vi k ∧ k ≤ l.length ∧ f 1 = vi (subL l0 (S + ((l.take k).map g).sum)) ∧ L = [(2, .str [.v (.int .i64 kind), .v (.int .i64 op), .v (.bool not), .v (.int .i64 val.kind), .v (.int .i64 val.num), .v (.string val.text), .v (.string qual), .v (.string name), .sl kids.length (kids.flatMap Expr.row) none, .sl sub.length (sub.flatMap Query.row) none])] ∧ p = none) (fun f _ _ => (l.length - ixS (f 8)).toNat) [(2, .str [.v (.int .i64 kind), .v (.int .i64 op), .v (.bool not), .v (.int .i64 val.kind), .v (.int .i64 val.num), .v (.string val.text), .v (.string qual), .v (.string name), .sl kids.length (kids.flatMap Expr.row) none, .sl sub.length (sub.flatMap Query.row) none])] none ⟨SubO.cons rfl (SubO.nil _), PoSub.none _, ?_⟩ ?_
     ·simp only [tt, seval, hac2]
      exact ⟨0, rfl, by omega, by simp⟩
     ·rintro g' L p ⟨k, hkx, hk0, hac3, rfl, rfl⟩
      simp only [tt, seval] at hkx hac3
      simp only [tt, seval, hkx]
      refine fun _ => ?_
      have hc3 : (k < l.length ∧ 0 ≤ subL l0 (S + ((l.take k).map g).sum)) ∨ (subL l0 (S + ((l.take k).map g).sum) = subL l0 (S + (l.map g).sum) ∧ k < l.length ∧ ¬ 0 ≤ subL l0 (S + ((l.take k).map g).sum)) ∨ (subL l0 (S + ((l.take k).map g).sum) = subL l0 (S + (l.map g).sum) ∧ ¬ k < l.length) := by
       by_cases h1 : k < l.length
       ·by_cases h2 : 0 ≤ subL l0 (S + ((l.take k).map g).sum)
        ·exact .inl ⟨h1, h2⟩
        ·obtain ⟨rst3, hrst3⟩ := take_sum_le (g) l k
         have hb3 := subL_bounds (s := (S + ((l.take k).map g).sum)) hl0
         have h3 := subL_neg (b := rst3) (by omega : subL l0 (S + ((l.take k).map g).sum) < 0) hl0
         refine .inr (.inl ⟨?_, h1, h2⟩)
         rw [show (S + (l.map g).sum) = (S + ((l.take k).map g).sum) + rst3 by omega, h3]; omega
       ·refine .inr (.inr ⟨?_, h1⟩)
        have : k = l.length := by omega
        subst this
        rw [List.take_length]
      rcases hc3 with ⟨hlt3, hp3⟩ | ⟨he3, hlt3, hn3⟩ | ⟨he3, hge3⟩
      ·simp only [tt, seval, decide_eq_true (show (k : Int) < l.length by omega), hkx, hac3]
       refine And.intro (fun _ => ?_) (fun hn3 => absurd hp3 hn3)
       refine ⟨by omega, by omega, _, drop_row Expr.row_len (List.getElem?_eq_getElem hlt3), Expr.ne _ _, ?_⟩
       simp only [seval, Expr.tk, Expr.row_len]
       have hb3 := subL_bounds (s := (S + ((l.take k).map g).sum)) hl0
       refine cZ (hl l[k] (List.getElem_mem hlt3) (subL l0 (S + ((l.take k).map g).sum)) hp3 (by omega)) (by decide) ?_ ?_ <;> simp only [tt, seval, hkx]
       rw [wrap_id (n := (k : Int) + 1) (by omega) (by omega), ← subL_add hp3]
       exact ⟨_, none, SubO.cons rfl (SubO.nil _), PoSub.none _, ⟨k + 1, rfl, by omega, viE (by rw [sum_snoc g hlt3, Nat.add_assoc]), rfl, rfl⟩, by simp only [ixS]; omega⟩
      case' inr.inl =>
       simp only [tt, seval, decide_eq_true (show (k : Int) < l.length by omega), hkx, hac3]
       refine And.intro (fun hp3 => absurd hp3 hn3) (fun _ => ?_)
      case' inr.inr =>
       simp only [tt, seval, decide_eq_false (show ¬ (k : Int) < l.length by omega), hkx, hac3]
      all_goals
       rw [he3] at hac3
       try rw [he3]
       simp only [tt, seval, hix, hac3]
       try rw [wrS i (by omega)]
       exact ⟨_, none, SubO.cons rfl (SubO.nil _), PoSub.none _, ⟨i + 1, rfl, by omega, viE (by rw [hstep2, hS]; congr 1; omega), rfl, rfl⟩, by simp only [ixS]; omega⟩
    case' inr.inl =>
     simp only [tt, seval, decide_eq_true (show (i : Int) < sub.length by omega), hix, hac]
     refine And.intro (fun hp => absurd hp hn) (fun _ => ?_)
    case' inr.inr =>
     simp only [tt, seval, decide_eq_false (show ¬ (i : Int) < sub.length by omega), hix, hac]
    all_goals
     rw [he] at hac
     try rw [he]
     exact ⟨_, _, rfl, end0 rfl⟩
theorem l7Left_d (e : Expr) : szExpr e ≤ 1048576 → ∀ l : Int, 0 ≤ l → l ≤ 200 → Cl Tryz.prog 44 [.ag (csOf e.row), vi l] [] fun r _ => r = vi (subL l (ndE e)) := by
 refine foldE_ind (P := fun e d => szExpr e ≤ 1048576 → ∀ l : Int, 0 ≤ l → l ≤ 200 → Cl Tryz.prog 44 [.ag (csOf e.row), vi l] [] fun r _ => r = vi (subL l d)) (fun e g hg hsz l h0 h1 => ?_) e
 obtain ⟨kind, op, not, val, qual, name, kids, sub⟩ := e
 exact l7Left_step kind op not val qual name kids sub g (fun x hx => hg x hx (Nat.le_trans (below_sz hx) hsz)) hsz l h0 h1
theorem bqs : ((true == false) = false) ∧ ((false == true) = false) ∧ ((false == false) = true) ∧ ((true == true) = true) := ⟨rfl, rfl, rfl, rfl⟩
def zV (v : Val) : Bool := decide (v.kind = 0) && (decide (v.num = 0) && decide (v.text = ⟨#[]⟩))
def zeroB (kind op : Int) (not : Bool) (val : Val) (qual name : ByteArray) (nk ns : Nat) : Bool :=
 decide (kind = 0) && (decide (op = 0) && (decide (not = false) && (zV val && (decide (qual = ⟨#[]⟩) && (decide (name = ⟨#[]⟩) && (decide (nk = 0) && decide (ns = 0)))))))
theorem eqValZ (v : Val) (w : World) : (Op.equalIn 10000 25 (.agg [.int .i64 v.kind, .int .i64 v.num, .string v.text].toArray) (.agg [.int .i64 0, .int .i64 0, .string ⟨#[]⟩].toArray)).run Tryz.prog w = .ok (zV v) w := by
 refine Go.Vc.equalIn_fk (ks := [(0, .int), (1, .int), (2, .str)]) (by kernel_rfl) (by kernel_rfl) (by kernel_rfl) ?_ w
 simp only [Go.Vc.eqFK, List.getElem?_cons_zero, List.getElem?_cons_succ, zV]
 by_cases h1 : v.kind = 0 <;> by_cases h2 : v.num = 0 <;> by_cases h3 : v.text = ⟨#[]⟩ <;> simp [h1, h2, h3]
def litB (v : Val) : Bool := valOk v && ((decide (¬ v.kind = 1) || decide (0 ≤ v.num)) && decide (v.text.size ≤ 40))
def nameB (s : ByteArray) : Bool := decide (1 ≤ s.size ∧ s.size ≤ 20)
def mayB (s : ByteArray) : Bool := decide (s = ⟨#[]⟩) || nameB s
theorem l7Lit_d (v : Val) : Cl Tryz.prog 165 [.ag (csOf v.row)] [] fun r _ => r = vb (litB v) := by
 obtain ⟨zb, hzb⟩ : ∃ zb, zb = litB v := ⟨_, rfl⟩
 rw [← hzb, Val.row]
 refine cl_of_d follows_mixed false Tryz.func165 rfl (by kernel_rfl) ?_
 simp only [Tryz.f165, tt, seval]
 refine cZ (ValueOk_d v) (by decide) ?_ ?_ <;> simp only [tt, seval, Val.row]
 cases hv : valOk v <;> by_cases h1 : v.kind = 1 <;> by_cases h2 : 0 ≤ v.num
 all_goals try simp only [tt, seval, h1, h2]
 all_goals try refine fun _ => ?_
 all_goals exact ⟨_, _, vbE (by rw [hzb]; simp [litB, hv, h1, h2]; try omega), end0 rfl⟩
theorem isLit_d (v : Val) : Cl Tryz.prog 198 [.ag (csOf v.row)] [] fun r _ => r = vb (litB v) := by
 obtain ⟨zb, hzb⟩ : ∃ zb, zb = litB v := ⟨_, rfl⟩
 rw [← hzb, Val.row]
 refine cl_of_d follows_mixed false Tryz.func198 rfl (by kernel_rfl) ?_
 simp only [Tryz.f198, tt, seval]
 refine cZ (iValueOk_d v) (by decide) ?_ ?_ <;> simp only [tt, seval, Val.row]
 cases hv : valOk v <;> by_cases h1 : v.kind = 1 <;> by_cases h2 : 0 ≤ v.num
 all_goals try simp only [tt, seval, h1, h2]
 all_goals try refine fun _ => ?_
 all_goals exact ⟨_, _, vbE (by rw [hzb]; simp [litB, hv, h1, h2]; try omega), end0 rfl⟩
theorem l7Maybe_d (s : ByteArray) : Cl Tryz.prog 167 [vs s] [] fun r _ => r = vb (mayB s) := by
 refine cl_of_d follows_mixed false Tryz.func167 rfl (by kernel_rfl) ?_
 simp only [Tryz.f167, tt, seval]
 by_cases h : s = ⟨#[]⟩
 ·simp only [tt, seval, decide_eq_true h]
  exact ⟨_, _, vbE (by simp [mayB, h]), end0 rfl⟩
 ·simp only [tt, seval, decide_eq_false h]
  refine cZ (NameOk_d s) (by decide) ?_ ?_ <;> simp only [tt, seval]
  exact ⟨_, _, vbE (by simp [mayB, h, nameB]), end0 rfl⟩
theorem isAs_d (s : ByteArray) : Cl Tryz.prog 202 [vs s] [] fun r _ => r = vb (mayB s) := by
 refine cl_of_d follows_mixed false Tryz.func202 rfl (by kernel_rfl) ?_
 simp only [Tryz.f202, tt, seval]
 by_cases h : s = ⟨#[]⟩
 ·simp only [tt, seval, decide_eq_true h]
  exact ⟨_, _, vbE (by simp [mayB, h]), end0 rfl⟩
 ·simp only [tt, seval, decide_eq_false h]
  refine cZ (iNameOk_d s) (by decide) ?_ ?_ <;> simp only [tt, seval]
  exact ⟨_, _, vbE (by simp [mayB, h, nameB]), end0 rfl⟩
theorem EqE0_d (l : List Expr) (fg : FuncId) : Cl Tryz.prog 176 [.c (.sl l.length (l.flatMap Expr.row) none), .c (.sl 0 [] none), .c (.fn fg [] [])] [] fun r _ => r = vb (decide (l.length = 0)) := by
 refine cl_of_d follows_mixed false Tryz.func176 rfl (by kernel_rfl) ?_
 simp only [Tryz.f176, tt, seval]
 refine fun _ => ?_
 by_cases h : l.length = 0
 case neg =>
  simp only [tt, seval, decide_eq_false (show ¬ (l.length : Int) = 0 by omega)]
  exact ⟨_, _, vbE (decide_eq_false h).symm, end0 rfl⟩
 have hs : l = [] := List.eq_nil_of_length_eq_zero h
 subst hs
 simp only [tt, seval]
 refine dLoop.intro (fun f L p => f 17 = vi 0 ∧ L = [] ∧ p = none) (fun _ _ _ => 0) [] none ⟨SubO.nil _, PoSub.none _, ?_⟩ ?_
 ·simp only [tt, seval]
 ·rintro g L p ⟨h5', rfl, rfl⟩
  simp only [tt, seval] at h5'
  simp only [tt, seval, h5']
  exact ⟨_, _, rfl, end0 rfl⟩
theorem EqQ0_d (l : List Query) (fg : FuncId) : Cl Tryz.prog 119 [.c (.sl l.length (l.flatMap Query.row) none), .c (.sl 0 [] none), .c (.fn fg [] [])] [] fun r _ => r = vb (decide (l.length = 0)) := by
 refine cl_of_d follows_mixed false Tryz.func119 rfl (by kernel_rfl) ?_
 simp only [Tryz.f119, tt, seval]
 refine fun _ => ?_
 by_cases h : l.length = 0
 case neg =>
  simp only [tt, seval, decide_eq_false (show ¬ (l.length : Int) = 0 by omega)]
  exact ⟨_, _, vbE (decide_eq_false h).symm, end0 rfl⟩
 have hs : l = [] := List.eq_nil_of_length_eq_zero h
 subst hs
 simp only [tt, seval]
 refine dLoop.intro (fun f L p => f 17 = vi 0 ∧ L = [] ∧ p = none) (fun _ _ _ => 0) [] none ⟨SubO.nil _, PoSub.none _, ?_⟩ ?_
 ·simp only [tt, seval]
 ·rintro g L p ⟨h5', rfl, rfl⟩
  simp only [tt, seval] at h5'
  simp only [tt, seval, h5']
  exact ⟨_, _, rfl, end0 rfl⟩
theorem l7Same0_d (l : List Expr) : Cl Tryz.prog 59 [.c (.sl l.length (l.flatMap Expr.row) none), .c (.sl 0 [] none)] [] fun r _ => r = vb (decide (l.length = 0)) := by
 refine cl_of_d follows_mixed false Tryz.func59 rfl (by kernel_rfl) ?_
 simp only [Tryz.f59, tt, seval]
 refine fun _ => ?_
 by_cases h : l.length = 0
 case neg =>
  simp only [tt, seval, decide_eq_false (show ¬ (l.length : Int) = 0 by omega)]
  exact ⟨_, _, vbE (decide_eq_false h).symm, end0 rfl⟩
 have hs : l = [] := List.eq_nil_of_length_eq_zero h
 subst hs
 simp only [tt, seval]
 refine dLoop.intro (fun f L p => f 5 = vi 0 ∧ L = [] ∧ p = none) (fun _ _ _ => 0) [] none ⟨SubO.nil _, PoSub.none _, ?_⟩ ?_
 ·simp only [tt, seval]
 ·rintro g L p ⟨h5', rfl, rfl⟩
  simp only [tt, seval] at h5'
  simp only [tt, seval, h5']
  exact ⟨_, _, rfl, end0 rfl⟩
theorem sameExprs0_d (l : List Expr) : Cl Tryz.prog 118 [.c (.sl l.length (l.flatMap Expr.row) none), .c (.sl 0 [] none)] [] fun r _ => r = vb (decide (l.length = 0)) := by
 refine cl_of_d follows_mixed false Tryz.func118 rfl (by kernel_rfl) ?_
 simp only [Tryz.f118, tt, seval]
 refine cZ (EqE0_d l 55) (by decide) ?_ ?_ <;> simp only [tt, seval]
 exact ⟨_, _, rfl, end0 rfl⟩
theorem iSameZ_d (kind op : Int) (not : Bool) (val : Val) (qual name : ByteArray) (kids : List Expr) (sub : List Query) : Cl Tryz.prog 55 [.ag (csOf (Expr.mk kind op not val qual name kids sub).row), .ag (csOf (Expr.mk 0 0 false ⟨0, 0, ⟨#[]⟩⟩ ⟨#[]⟩ ⟨#[]⟩ [] []).row)] [] fun r _ => r = vb (zeroB kind op not val qual name kids.length sub.length) := by
 obtain ⟨zb, hzb⟩ : ∃ zb, zb = zeroB kind op not val qual name kids.length sub.length := ⟨_, rfl⟩
 rw [← hzb, Expr.row_mk, Expr.row_mk]
 refine cl_of_d follows_mixed false Tryz.func55 rfl (by kernel_rfl) ?_
 simp only [Tryz.f55, tt, seval]
 by_cases h1 : kind = 0
 case neg =>
  simp only [tt, seval, h1]
  exact ⟨_, _, vbE (by rw [hzb]; simp [zeroB, h1]), end0 rfl⟩
 simp only [tt, seval, h1]
 by_cases h2 : op = 0
 case neg =>
  simp only [tt, seval, h2]
  exact ⟨_, _, vbE (by rw [hzb]; simp [zeroB, h1, h2]), end0 rfl⟩
 simp only [tt, seval, h2]
 by_cases h3 : not = false
 case neg =>
  simp only [tt, seval, (Bool.not_eq_false _ ▸ h3 : not = true), bqs]
  exact ⟨_, _, vbE (by rw [hzb]; simp [zeroB, h1, h2, h3]), end0 rfl⟩
 simp only [tt, seval, h3]
 rw [pu_eqagg (by kernel_rfl) (eqValZ val)]
 simp only [tt, seval]
 by_cases h4 : zV val = true
 case neg =>
  simp only [tt, seval, (Bool.not_eq_true _ ▸ h4 : zV val = false)]
  exact ⟨_, _, vbE (by rw [hzb]; simp [zeroB, h1, h2, h3, h4]), end0 rfl⟩
 simp only [tt, seval, h4]
 by_cases h5 : qual = ⟨#[]⟩
 case neg =>
  simp only [tt, seval, h5]
  exact ⟨_, _, vbE (by rw [hzb]; simp [zeroB, h1, h2, h3, h4, h5]), end0 rfl⟩
 simp only [tt, seval, h5]
 by_cases h6 : name = ⟨#[]⟩
 case neg =>
  simp only [tt, seval, h6]
  exact ⟨_, _, vbE (by rw [hzb]; simp [zeroB, h1, h2, h3, h4, h5, h6]), end0 rfl⟩
 simp only [tt, seval, h6]
 refine cZ (sameExprs0_d kids) (by decide) ?_ ?_ <;> simp only [tt, seval]
 by_cases h7 : kids.length = 0
 case neg =>
  simp only [tt, seval, h7]
  exact ⟨_, _, vbE (by rw [hzb]; simp [zeroB, h1, h2, h3, h4, h5, h6, h7]), end0 rfl⟩
 simp only [tt, seval, decide_eq_true h7]
 refine cZ (EqQ0_d sub 120) (by decide) ?_ ?_ <;> simp only [tt, seval]
 exact ⟨_, _, vbE (by rw [hzb]; simp [zeroB, h1, h2, h3, h4, h5, h6, h7]), end0 rfl⟩
theorem SameZ_d (kind op : Int) (not : Bool) (val : Val) (qual name : ByteArray) (kids : List Expr) (sub : List Query) : Cl Tryz.prog 20 [.ag (csOf (Expr.mk kind op not val qual name kids sub).row), .ag (csOf (Expr.mk 0 0 false ⟨0, 0, ⟨#[]⟩⟩ ⟨#[]⟩ ⟨#[]⟩ [] []).row)] [] fun r _ => r = vb (zeroB kind op not val qual name kids.length sub.length) := by
 obtain ⟨zb, hzb⟩ : ∃ zb, zb = zeroB kind op not val qual name kids.length sub.length := ⟨_, rfl⟩
 rw [← hzb, Expr.row_mk, Expr.row_mk]
 refine cl_of_d follows_mixed false Tryz.func20 rfl (by kernel_rfl) ?_
 simp only [Tryz.f20, tt, seval]
 by_cases h1 : kind = 0
 case neg =>
  simp only [tt, seval, h1]
  exact ⟨_, _, vbE (by rw [hzb]; simp [zeroB, h1]), end0 rfl⟩
 simp only [tt, seval, h1]
 by_cases h2 : op = 0
 case neg =>
  simp only [tt, seval, h2]
  exact ⟨_, _, vbE (by rw [hzb]; simp [zeroB, h1, h2]), end0 rfl⟩
 simp only [tt, seval, h2]
 by_cases h3 : not = false
 case neg =>
  simp only [tt, seval, (Bool.not_eq_false _ ▸ h3 : not = true), bqs]
  exact ⟨_, _, vbE (by rw [hzb]; simp [zeroB, h1, h2, h3]), end0 rfl⟩
 simp only [tt, seval, h3]
 rw [pu_neagg (by kernel_rfl) (eqValZ val)]
 simp only [tt, seval]
 by_cases h4 : zV val = true
 case neg =>
  simp only [tt, seval, (Bool.not_eq_true _ ▸ h4 : zV val = false)]
  exact ⟨_, _, vbE (by rw [hzb]; simp [zeroB, h1, h2, h3, h4]), end0 rfl⟩
 simp only [tt, seval, h4]
 by_cases h5 : qual = ⟨#[]⟩
 case neg =>
  simp only [tt, seval, h5]
  exact ⟨_, _, vbE (by rw [hzb]; simp [zeroB, h1, h2, h3, h4, h5]), end0 rfl⟩
 simp only [tt, seval, h5]
 by_cases h6 : name = ⟨#[]⟩
 case neg =>
  simp only [tt, seval, h6]
  exact ⟨_, _, vbE (by rw [hzb]; simp [zeroB, h1, h2, h3, h4, h5, h6]), end0 rfl⟩
 simp only [tt, seval, h6]
 refine fun _ => ?_
 by_cases h8 : sub.length = 0
 case neg =>
  simp only [tt, seval, decide_eq_false (show ¬ (sub.length : Int) = 0 by omega)]
  exact ⟨_, _, vbE (by rw [hzb]; simp [zeroB, h1, h2, h3, h4, h5, h6, h8]), end0 rfl⟩
 simp only [tt, seval, show (sub.length : Int) = 0 from by omega]
 refine cZ (l7Same0_d kids) (by decide) ?_ ?_ <;> simp only [tt, seval]
 by_cases h7 : kids.length = 0
 case neg =>
  simp only [tt, seval, h7]
  exact ⟨_, _, vbE (by rw [hzb]; simp [zeroB, h1, h2, h3, h4, h5, h6, h7]), end0 rfl⟩
 simp only [tt, seval, decide_eq_true h7]
 have hs : sub = [] := List.eq_nil_of_length_eq_zero h8
 subst hs
 refine dLoop.intro (fun f L p => f 5 = vi 0 ∧ L = [(2, .str [.v (.int .i64 0), .v (.int .i64 0), .v (.bool false), .v (.int .i64 val.kind), .v (.int .i64 val.num), .v (.string val.text), .v (.string ⟨#[]⟩), .v (.string ⟨#[]⟩), .sl kids.length (kids.flatMap Expr.row) none, .sl 0 [] none])] ∧ p = none) (fun _ _ _ => 0) [(2, .str [.v (.int .i64 0), .v (.int .i64 0), .v (.bool false), .v (.int .i64 val.kind), .v (.int .i64 val.num), .v (.string val.text), .v (.string ⟨#[]⟩), .v (.string ⟨#[]⟩), .sl kids.length (kids.flatMap Expr.row) none, .sl 0 [] none])] none ⟨SubO.cons rfl (SubO.nil _), PoSub.none _, ?_⟩ ?_
 ·simp only [tt, seval]
 ·rintro g L p ⟨h5', rfl, rfl⟩
  simp only [tt, seval] at h5'
  simp only [tt, seval, h5']
  exact ⟨_, _, vbE (by rw [hzb]; simp [zeroB, h1, h2, h3, h4, h5, h6, h7]), end0 rfl⟩
theorem eqValE (v : Val) (w : World) : (Op.equalIn 10000 25 (.agg [.int .i64 v.kind, .int .i64 v.num, .string v.text].toArray) (.agg [.int .i64 0, .int .i64 0, .string ByteArray.empty].toArray)).run Tryz.prog w = .ok (zV v) w := eqValZ v w
def fmT (kind : Int) : Bool × Bool × Bool × Bool × Int × Int × Int :=
 if kind = 1 then (false, false, true, false, 0, 0, 0) else if kind = 2 then (false, false, false, true, 0, 0, 0) else if kind = 3 then (true, false, false, false, 1, 1, 0) else if kind = 4 then (true, false, false, false, 2, 2, 0)
 else if kind = 5 then (false, true, false, false, 1, 1, 0) else if kind = 6 then (false, true, false, false, 3, 3, 0) else if kind = 7 then (false, true, false, false, 2, 9, 0) else if kind = 8 then (false, true, false, false, 1, 1, 1)
 else if kind = 9 then (false, false, false, false, 0, 0, 1) else (false, false, false, false, 0, 0, 0)
def okF (kind op : Int) (val : Val) (qual name : ByteArray) : Bool :=
 if kind = 1 then litB val else if kind = 2 then (nameB name && mayB qual) else if kind = 3 then (decide (op = 15) || decide (op = 16)) else if kind = 4 then decide (1 ≤ op ∧ op ≤ 14) else decide (5 ≤ kind ∧ kind ≤ 9)
def shapeB (kind op : Int) (not : Bool) (val : Val) (qual name : ByteArray) (nk ns : Int) : Bool :=
 okF kind op val qual name && (((fmT kind).1 || decide (op = 0)) && (((fmT kind).2.1 || !not) && (((fmT kind).2.2.1 || zV val) && (((fmT kind).2.2.2.1 || (decide (qual = ⟨#[]⟩) && decide (name = ⟨#[]⟩))) &&
  (decide ((fmT kind).2.2.2.2.1 ≤ nk ∧ nk ≤ (fmT kind).2.2.2.2.2.1) && decide (ns = (fmT kind).2.2.2.2.2.2))))))
set_option maxHeartbeats 4000000 in
theorem l7Shape_d (kind op : Int) (not : Bool) (val : Val) (qual name : ByteArray) (kids : List Expr) (sub : List Query) (hkl : kids.length ≤ 1048576) (hsl : sub.length ≤ 1048576) : Cl Tryz.prog 103 [.ag (csOf (Expr.mk kind op not val qual name kids sub).row)] [] fun r _ => r = vb (shapeB kind op not val qual name kids.length sub.length) := by
 obtain ⟨zb, hzb⟩ : ∃ zb, zb = shapeB kind op not val qual name kids.length sub.length := ⟨_, rfl⟩
 rw [← hzb, Expr.row_mk]
 refine cl_of_d follows_mixed false Tryz.func103 rfl (by kernel_rfl) ?_
 simp only [Tryz.f103, tt, seval]
 refine fun _ _ => ?_
 have hk0 : 0 ≤ (kids.length : Int) ∧ (kids.length : Int) ≤ 1048576 := by omega
 have hs0 : 0 ≤ (sub.length : Int) ∧ (sub.length : Int) ≤ 1048576 := by omega
 generalize (kids.length : Int) = nk at *
 generalize (sub.length : Int) = ns at *
 rcases (show kind = 1 ∨ kind = 2 ∨ kind = 3 ∨ kind = 4 ∨ kind = 5 ∨ kind = 6 ∨ kind = 7 ∨ kind = 8 ∨ kind = 9 ∨ (kind < 1 ∨ 9 < kind) by omega) with rfl | rfl | rfl | rfl | rfl | rfl | rfl | rfl | rfl | hk
 ·try simp only [tt, seval]
  by_cases hq : qual = ⟨#[]⟩
  case neg =>
   simp only [tt, seval, hq]
   exact ⟨_, _, vbE (by rw [hzb]; simp [shapeB, okF, fmT, hq]; try omega), end0 rfl⟩
  simp only [tt, seval, hq]
  by_cases hn : name = ⟨#[]⟩
  case neg =>
   simp only [tt, seval, hn]
   exact ⟨_, _, vbE (by rw [hzb]; simp [shapeB, okF, fmT, hq, hn]; try omega), end0 rfl⟩
  simp only [tt, seval, hn]
  by_cases ho : op = 0
  case neg =>
   simp only [tt, seval, ho]
   exact ⟨_, _, vbE (by rw [hzb]; simp [shapeB, okF, fmT, hq, hn, ho]; try omega), end0 rfl⟩
  simp only [tt, seval, ho]
  cases not
  case true =>
   simp only [tt, seval]
   refine cZ (l1In_d 1 5 8) (by decide) ?_ ?_ <;> simp only [tt, seval]
   exact ⟨_, _, vbE (by rw [hzb]; simp [shapeB, okF, fmT, hq, hn, ho]; try omega), end0 rfl⟩
  simp only [tt, seval]
  refine cZ (l7Lit_d val) (by decide) ?_ ?_ <;> simp only [tt, seval, Val.row]
  cases hl : litB val
  case false =>
   simp only [tt, seval]
   exact ⟨_, _, vbE (by rw [hzb]; simp [shapeB, okF, fmT, hq, hn, ho, hl]; try omega), end0 rfl⟩
  simp only [tt, seval]
  rw [wrap_id (by omega) (by omega)]
  by_cases hz : nk + ns = 0
  case neg =>
   simp only [tt, seval, hz]
   exact ⟨_, _, vbE (by rw [hzb]; simp [shapeB, okF, fmT, hq, hn, ho, hl]; try omega), end0 rfl⟩
  simp only [tt, seval, hz]
  exact ⟨_, _, vbE (by rw [hzb]; simp [shapeB, okF, fmT, hq, hn, ho, hl]; try omega), end0 rfl⟩
 ·try simp only [tt, seval]
  rw [pu_neagg (by kernel_rfl) (eqValE val)]
  simp only [tt, seval]
  cases hv : zV val
  case false =>
   simp only [tt, seval]
   exact ⟨_, _, vbE (by rw [hzb]; simp [shapeB, okF, fmT, nameB, hv]; try omega), end0 rfl⟩
  simp only [tt, seval]
  by_cases ho : op = 0
  case neg =>
   simp only [tt, seval, ho]
   exact ⟨_, _, vbE (by rw [hzb]; simp [shapeB, okF, fmT, nameB, hv, ho]; try omega), end0 rfl⟩
  simp only [tt, seval, ho]
  cases not
  case true =>
   simp only [tt, seval]
   refine cZ (l1In_d 2 5 8) (by decide) ?_ ?_ <;> simp only [tt, seval]
   exact ⟨_, _, vbE (by rw [hzb]; simp [shapeB, okF, fmT, nameB, hv, ho]; try omega), end0 rfl⟩
  simp only [tt, seval]
  refine cZ (NameOk_d name) (by decide) ?_ ?_ <;> simp only [tt, seval]
  cases hnb : decide (1 ≤ name.size ∧ name.size ≤ 20)
  case false =>
   simp only [tt, seval]
   exact ⟨_, _, vbE (by rw [hzb]; simp [shapeB, okF, fmT, nameB, hv, ho, hnb]; try omega), end0 rfl⟩
  simp only [tt, seval]
  refine cZ (l7Maybe_d qual) (by decide) ?_ ?_ <;> simp only [tt, seval]
  cases hmb : mayB qual
  case false =>
   simp only [tt, seval]
   exact ⟨_, _, vbE (by rw [hzb]; simp [shapeB, okF, fmT, nameB, hv, ho, hnb, hmb]; try omega), end0 rfl⟩
  simp only [tt, seval]
  rw [wrap_id (by omega) (by omega)]
  by_cases hz : nk + ns = 0
  case neg =>
   simp only [tt, seval, hz]
   exact ⟨_, _, vbE (by rw [hzb]; simp [shapeB, okF, fmT, nameB, hv, ho, hnb, hmb]; try omega), end0 rfl⟩
  simp only [tt, seval, hz]
  exact ⟨_, _, vbE (by rw [hzb]; simp [shapeB, okF, fmT, nameB, hv, ho, hnb, hmb]; try omega), end0 rfl⟩
 ·try simp only [tt, seval]
  by_cases hq : qual = ⟨#[]⟩
  case neg =>
   simp only [tt, seval, hq]
   exact ⟨_, _, vbE (by rw [hzb]; simp [shapeB, okF, fmT, hq]; try omega), end0 rfl⟩
  simp only [tt, seval, hq]
  by_cases hn : name = ⟨#[]⟩
  case neg =>
   simp only [tt, seval, hn]
   exact ⟨_, _, vbE (by rw [hzb]; simp [shapeB, okF, fmT, hq, hn]; try omega), end0 rfl⟩
  simp only [tt, seval, hn]
  rw [pu_neagg (by kernel_rfl) (eqValE val)]
  simp only [tt, seval]
  cases hv : zV val
  case false =>
   simp only [tt, seval]
   exact ⟨_, _, vbE (by rw [hzb]; simp [shapeB, okF, fmT, hq, hn, hv]; try omega), end0 rfl⟩
  simp only [tt, seval]
  cases not
  case true =>
   simp only [tt, seval]
   refine cZ (l1In_d 3 5 8) (by decide) ?_ ?_ <;> simp only [tt, seval]
   exact ⟨_, _, vbE (by rw [hzb]; simp [shapeB, okF, fmT, hq, hn, hv]; try omega), end0 rfl⟩
  simp only [tt, seval]
  by_cases ho15 : op = 15
  case' neg =>
   simp only [tt, seval, ho15]
   by_cases ho16 : op = 16
   case neg =>
    simp only [tt, seval, ho16]
    exact ⟨_, _, vbE (by rw [hzb]; simp [shapeB, okF, fmT, hq, hn, hv, ho15, ho16]; try omega), end0 rfl⟩
   simp only [tt, seval, ho16]
  case' pos => try simp only [tt, seval, ho15]
  all_goals
   by_cases hk1 : nk = 1
   case neg =>
    simp only [tt, seval, hk1]
    exact ⟨_, _, vbE (by rw [hzb]; simp [shapeB, okF, fmT, *]; try omega), end0 rfl⟩
   simp only [tt, seval, hk1]
   by_cases hs0 : ns = 0
   case neg =>
    simp only [tt, seval, hs0]
    exact ⟨_, _, vbE (by rw [hzb]; simp [shapeB, okF, fmT, *]; try omega), end0 rfl⟩
   simp only [tt, seval, hs0]
   exact ⟨_, _, vbE (by rw [hzb]; simp [shapeB, okF, fmT, *]; try omega), end0 rfl⟩
 ·try simp only [tt, seval]
  by_cases hq : qual = ⟨#[]⟩
  case neg =>
   simp only [tt, seval, hq]
   exact ⟨_, _, vbE (by rw [hzb]; simp [shapeB, okF, fmT, hq]; try omega), end0 rfl⟩
  simp only [tt, seval, hq]
  by_cases hn : name = ⟨#[]⟩
  case neg =>
   simp only [tt, seval, hn]
   exact ⟨_, _, vbE (by rw [hzb]; simp [shapeB, okF, fmT, hq, hn]; try omega), end0 rfl⟩
  simp only [tt, seval, hn]
  rw [pu_neagg (by kernel_rfl) (eqValE val)]
  simp only [tt, seval]
  cases hv : zV val
  case false =>
   simp only [tt, seval]
   exact ⟨_, _, vbE (by rw [hzb]; simp [shapeB, okF, fmT, hq, hn, hv]; try omega), end0 rfl⟩
  simp only [tt, seval]
  cases not
  case true =>
   simp only [tt, seval]
   refine cZ (l1In_d 4 5 8) (by decide) ?_ ?_ <;> simp only [tt, seval]
   exact ⟨_, _, vbE (by rw [hzb]; simp [shapeB, okF, fmT, hq, hn, hv]; try omega), end0 rfl⟩
  simp only [tt, seval]
  refine cZ (l1In_d op 1 14) (by decide) ?_ ?_ <;> simp only [tt, seval]
  cases hop : decide ((1 : Int) ≤ op ∧ op ≤ 14)
  case false =>
   simp only [tt, seval]
   exact ⟨_, _, vbE (by rw [hzb]; simp [shapeB, okF, fmT, hq, hn, hv, hop]; try omega), end0 rfl⟩
  simp only [tt, seval]
  by_cases hk2 : nk = 2
  case neg =>
   simp only [tt, seval, hk2]
   exact ⟨_, _, vbE (by rw [hzb]; simp [shapeB, okF, fmT, hq, hn, hv, hop]; try omega), end0 rfl⟩
  simp only [tt, seval, hk2]
  by_cases hs0 : ns = 0
  case neg =>
   simp only [tt, seval, hs0]
   exact ⟨_, _, vbE (by rw [hzb]; simp [shapeB, okF, fmT, hq, hn, hv, hop, hk2, hs0]; try omega), end0 rfl⟩
  simp only [tt, seval, hs0]
  exact ⟨_, _, vbE (by rw [hzb]; simp [shapeB, okF, fmT, hq, hn, hv, hop, hk2, hs0]; try omega), end0 rfl⟩
 ·try simp only [tt, seval]
  by_cases hq : qual = ⟨#[]⟩
  case neg =>
   simp only [tt, seval, hq]
   exact ⟨_, _, vbE (by rw [hzb]; simp [shapeB, okF, fmT, hq]; try omega), end0 rfl⟩
  simp only [tt, seval, hq]
  by_cases hn : name = ⟨#[]⟩
  case neg =>
   simp only [tt, seval, hn]
   exact ⟨_, _, vbE (by rw [hzb]; simp [shapeB, okF, fmT, hq, hn]; try omega), end0 rfl⟩
  simp only [tt, seval, hn]
  rw [pu_neagg (by kernel_rfl) (eqValE val)]
  simp only [tt, seval]
  cases hv : zV val
  case false =>
   simp only [tt, seval]
   exact ⟨_, _, vbE (by rw [hzb]; simp [shapeB, okF, fmT, hq, hn, hv]; try omega), end0 rfl⟩
  simp only [tt, seval]
  by_cases ho : op = 0
  case neg =>
   simp only [tt, seval, ho]
   exact ⟨_, _, vbE (by rw [hzb]; simp [shapeB, okF, fmT, hq, hn, hv, ho]; try omega), end0 rfl⟩
  simp only [tt, seval, ho]
  cases not
  case' true =>
   simp only [tt, seval]
   refine cZ (l1In_d 5 5 8) (by decide) ?_ ?_ <;> simp only [tt, seval]
  case' false => try simp only [tt, seval]
  all_goals
   by_cases hk1 : nk = 1
   case neg =>
    simp only [tt, seval, hk1]
    exact ⟨_, _, vbE (by rw [hzb]; simp [shapeB, okF, fmT, hq, hn, hv, ho]; try omega), end0 rfl⟩
   simp only [tt, seval, hk1]
   by_cases hs0 : ns = 0
   case neg =>
    simp only [tt, seval, hs0]
    exact ⟨_, _, vbE (by rw [hzb]; simp [shapeB, okF, fmT, hq, hn, hv, ho, hk1, hs0]; try omega), end0 rfl⟩
   simp only [tt, seval, hs0]
   exact ⟨_, _, vbE (by rw [hzb]; simp [shapeB, okF, fmT, hq, hn, hv, ho, hk1, hs0]; try omega), end0 rfl⟩
 ·try simp only [tt, seval]
  by_cases hq : qual = ⟨#[]⟩
  case neg =>
   simp only [tt, seval, hq]
   exact ⟨_, _, vbE (by rw [hzb]; simp [shapeB, okF, fmT, hq]; try omega), end0 rfl⟩
  simp only [tt, seval, hq]
  by_cases hn : name = ⟨#[]⟩
  case neg =>
   simp only [tt, seval, hn]
   exact ⟨_, _, vbE (by rw [hzb]; simp [shapeB, okF, fmT, hq, hn]; try omega), end0 rfl⟩
  simp only [tt, seval, hn]
  rw [pu_neagg (by kernel_rfl) (eqValE val)]
  simp only [tt, seval]
  cases hv : zV val
  case false =>
   simp only [tt, seval]
   exact ⟨_, _, vbE (by rw [hzb]; simp [shapeB, okF, fmT, hq, hn, hv]; try omega), end0 rfl⟩
  simp only [tt, seval]
  by_cases ho : op = 0
  case neg =>
   simp only [tt, seval, ho]
   exact ⟨_, _, vbE (by rw [hzb]; simp [shapeB, okF, fmT, hq, hn, hv, ho]; try omega), end0 rfl⟩
  simp only [tt, seval, ho]
  cases not
  case' true =>
   simp only [tt, seval]
   refine cZ (l1In_d 6 5 8) (by decide) ?_ ?_ <;> simp only [tt, seval]
  case' false => try simp only [tt, seval]
  all_goals
   by_cases hk3 : nk = 3
   case neg =>
    simp only [tt, seval, hk3]
    exact ⟨_, _, vbE (by rw [hzb]; simp [shapeB, okF, fmT, hq, hn, hv, ho]; try omega), end0 rfl⟩
   simp only [tt, seval, hk3]
   by_cases hs0 : ns = 0
   case neg =>
    simp only [tt, seval, hs0]
    exact ⟨_, _, vbE (by rw [hzb]; simp [shapeB, okF, fmT, hq, hn, hv, ho, hk3, hs0]; try omega), end0 rfl⟩
   simp only [tt, seval, hs0]
   exact ⟨_, _, vbE (by rw [hzb]; simp [shapeB, okF, fmT, hq, hn, hv, ho, hk3, hs0]; try omega), end0 rfl⟩
 ·try simp only [tt, seval]
  by_cases hq : qual = ⟨#[]⟩
  case neg =>
   simp only [tt, seval, hq]
   exact ⟨_, _, vbE (by rw [hzb]; simp [shapeB, okF, fmT, hq]; try omega), end0 rfl⟩
  simp only [tt, seval, hq]
  by_cases hn : name = ⟨#[]⟩
  case neg =>
   simp only [tt, seval, hn]
   exact ⟨_, _, vbE (by rw [hzb]; simp [shapeB, okF, fmT, hq, hn]; try omega), end0 rfl⟩
  simp only [tt, seval, hn]
  rw [pu_neagg (by kernel_rfl) (eqValE val)]
  simp only [tt, seval]
  cases hv : zV val
  case false =>
   simp only [tt, seval]
   exact ⟨_, _, vbE (by rw [hzb]; simp [shapeB, okF, fmT, hq, hn, hv]; try omega), end0 rfl⟩
  simp only [tt, seval]
  by_cases ho : op = 0
  case neg =>
   simp only [tt, seval, ho]
   exact ⟨_, _, vbE (by rw [hzb]; simp [shapeB, okF, fmT, hq, hn, hv, ho]; try omega), end0 rfl⟩
  simp only [tt, seval, ho]
  cases not
  case' true =>
   simp only [tt, seval]
   refine cZ (l1In_d 7 5 8) (by decide) ?_ ?_ <;> simp only [tt, seval]
  case' false => try simp only [tt, seval]
  all_goals
   refine cZ (l1In_d nk 2 9) (by decide) ?_ ?_ <;> simp only [tt, seval]
   cases hkr : decide ((2 : Int) ≤ nk ∧ nk ≤ 9)
   case false =>
    simp only [tt, seval]
    exact ⟨_, _, vbE (by rw [hzb]; simp [shapeB, okF, fmT, hq, hn, hv, ho, hkr]; try omega), end0 rfl⟩
   simp only [tt, seval]
   by_cases hs0 : ns = 0
   case neg =>
    simp only [tt, seval, hs0]
    exact ⟨_, _, vbE (by rw [hzb]; simp [shapeB, okF, fmT, hq, hn, hv, ho, hkr, hs0]; try omega), end0 rfl⟩
   simp only [tt, seval, hs0]
   exact ⟨_, _, vbE (by rw [hzb]; simp [shapeB, okF, fmT, hq, hn, hv, ho, hkr, hs0]; try omega), end0 rfl⟩
 ·try simp only [tt, seval]
  by_cases hq : qual = ⟨#[]⟩
  case neg =>
   simp only [tt, seval, hq]
   exact ⟨_, _, vbE (by rw [hzb]; simp [shapeB, okF, fmT, hq]; try omega), end0 rfl⟩
  simp only [tt, seval, hq]
  by_cases hn : name = ⟨#[]⟩
  case neg =>
   simp only [tt, seval, hn]
   exact ⟨_, _, vbE (by rw [hzb]; simp [shapeB, okF, fmT, hq, hn]; try omega), end0 rfl⟩
  simp only [tt, seval, hn]
  rw [pu_neagg (by kernel_rfl) (eqValE val)]
  simp only [tt, seval]
  cases hv : zV val
  case false =>
   simp only [tt, seval]
   exact ⟨_, _, vbE (by rw [hzb]; simp [shapeB, okF, fmT, hq, hn, hv]; try omega), end0 rfl⟩
  simp only [tt, seval]
  by_cases ho : op = 0
  case neg =>
   simp only [tt, seval, ho]
   exact ⟨_, _, vbE (by rw [hzb]; simp [shapeB, okF, fmT, hq, hn, hv, ho]; try omega), end0 rfl⟩
  simp only [tt, seval, ho]
  cases not
  case' true =>
   simp only [tt, seval]
   refine cZ (l1In_d 8 5 8) (by decide) ?_ ?_ <;> simp only [tt, seval]
  case' false => try simp only [tt, seval]
  all_goals
   by_cases hk1 : nk = 1
   case neg =>
    simp only [tt, seval, hk1]
    exact ⟨_, _, vbE (by rw [hzb]; simp [shapeB, okF, fmT, hq, hn, hv, ho]; try omega), end0 rfl⟩
   simp only [tt, seval, hk1]
   by_cases hs1 : ns = 1
   case neg =>
    simp only [tt, seval, hs1]
    exact ⟨_, _, vbE (by rw [hzb]; simp [shapeB, okF, fmT, hq, hn, hv, ho, hk1, hs1]; try omega), end0 rfl⟩
   simp only [tt, seval, hs1]
   exact ⟨_, _, vbE (by rw [hzb]; simp [shapeB, okF, fmT, hq, hn, hv, ho, hk1, hs1]; try omega), end0 rfl⟩
 ·try simp only [tt, seval]
  by_cases hq : qual = ⟨#[]⟩
  case neg =>
   simp only [tt, seval, hq]
   exact ⟨_, _, vbE (by rw [hzb]; simp [shapeB, okF, fmT, hq]; try omega), end0 rfl⟩
  simp only [tt, seval, hq]
  by_cases hn : name = ⟨#[]⟩
  case neg =>
   simp only [tt, seval, hn]
   exact ⟨_, _, vbE (by rw [hzb]; simp [shapeB, okF, fmT, hq, hn]; try omega), end0 rfl⟩
  simp only [tt, seval, hn]
  rw [pu_neagg (by kernel_rfl) (eqValE val)]
  simp only [tt, seval]
  cases hv : zV val
  case false =>
   simp only [tt, seval]
   exact ⟨_, _, vbE (by rw [hzb]; simp [shapeB, okF, fmT, hq, hn, hv]; try omega), end0 rfl⟩
  simp only [tt, seval]
  by_cases ho : op = 0
  case neg =>
   simp only [tt, seval, ho]
   exact ⟨_, _, vbE (by rw [hzb]; simp [shapeB, okF, fmT, hq, hn, hv, ho]; try omega), end0 rfl⟩
  simp only [tt, seval, ho]
  cases not
  case true =>
   simp only [tt, seval]
   refine cZ (l1In_d 9 5 8) (by decide) ?_ ?_ <;> simp only [tt, seval]
   exact ⟨_, _, vbE (by rw [hzb]; simp [shapeB, okF, fmT, hq, hn, hv, ho]; try omega), end0 rfl⟩
  simp only [tt, seval]
  by_cases hk0 : nk = 0
  case neg =>
   simp only [tt, seval, hk0]
   exact ⟨_, _, vbE (by rw [hzb]; simp [shapeB, okF, fmT, hq, hn, hv, ho]; try omega), end0 rfl⟩
  simp only [tt, seval, hk0]
  by_cases hs1 : ns = 1
  case neg =>
   simp only [tt, seval, hs1]
   exact ⟨_, _, vbE (by rw [hzb]; simp [shapeB, okF, fmT, hq, hn, hv, ho, hk0, hs1]; try omega), end0 rfl⟩
  simp only [tt, seval, hs1]
  exact ⟨_, _, vbE (by rw [hzb]; simp [shapeB, okF, fmT, hq, hn, hv, ho, hk0, hs1]; try omega), end0 rfl⟩
 ·have n1 : ¬ kind = 1 := by omega
  have n2 : ¬ kind = 2 := by omega
  have n3 : ¬ kind = 3 := by omega
  have n4 : ¬ kind = 4 := by omega
  have n5 : ¬ kind = 5 := by omega
  have n6 : ¬ kind = 6 := by omega
  have n7 : ¬ kind = 7 := by omega
  have n8 : ¬ kind = 8 := by omega
  have n9 : ¬ kind = 9 := by omega
  have hk58 : decide ((5 : Int) ≤ kind ∧ kind ≤ 8) = false := decide_eq_false (by omega)
  simp only [tt, seval, n2]
  by_cases hq : qual = ⟨#[]⟩
  case neg =>
   simp only [tt, seval, hq, n3, n4]
   exact ⟨_, _, vbE (by rw [hzb]; simp [shapeB, okF, fmT, n1, n2, n3, n4, n5, n6, n7, n8, n9, hq]; try omega), end0 rfl⟩
  simp only [tt, seval, hq]
  by_cases hn : name = ⟨#[]⟩
  case neg =>
   simp only [tt, seval, hn, n3, n4]
   exact ⟨_, _, vbE (by rw [hzb]; simp [shapeB, okF, fmT, n1, n2, n3, n4, n5, n6, n7, n8, n9, hq, hn]; try omega), end0 rfl⟩
  simp only [tt, seval, hn, n1]
  rw [pu_neagg (by kernel_rfl) (eqValE val)]
  simp only [tt, seval, n3, n4]
  cases hv : zV val
  case false =>
   simp only [tt, seval]
   exact ⟨_, _, vbE (by rw [hzb]; simp [shapeB, okF, fmT, n1, n2, n3, n4, n5, n6, n7, n8, n9, hq, hn, hv]; try omega), end0 rfl⟩
  simp only [tt, seval]
  by_cases ho : op = 0
  case neg =>
   simp only [tt, seval, ho, n1, n2, n3, n4, n5, n6, n7, n8, n9]
   exact ⟨_, _, vbE (by rw [hzb]; simp [shapeB, okF, fmT, n1, n2, n3, n4, n5, n6, n7, n8, n9, hq, hn, hv, ho]; try omega), end0 rfl⟩
  simp only [tt, seval, ho]
  cases not
  case true =>
   simp only [tt, seval]
   refine cZ (l1In_d kind 5 8) (by decide) ?_ ?_ <;> simp only [tt, seval]
   simp only [tt, seval, hk58]
   exact ⟨_, _, vbE (by rw [hzb]; simp [shapeB, okF, fmT, n1, n2, n3, n4, n5, n6, n7, n8, n9]; try omega), end0 rfl⟩
  case false =>
   simp only [tt, seval, n1, n2, n3, n4, n5, n6, n7, n8, n9]
   exact ⟨_, _, vbE (by rw [hzb]; simp [shapeB, okF, fmT, n1, n2, n3, n4, n5, n6, n7, n8, n9]; try omega), end0 rfl⟩
def formS (kind op : Int) (val : Val) (qual name : ByteArray) : S := .tu [([.v (.bool (fmT kind).1), .v (.bool (fmT kind).2.1), .v (.bool (fmT kind).2.2.1), .v (.bool (fmT kind).2.2.2.1), .v (.int .i64 (fmT kind).2.2.2.2.1), .v (.int .i64 (fmT kind).2.2.2.2.2.1), .v (.int .i64 (fmT kind).2.2.2.2.2.2)], false), ([.v (.bool (okF kind op val qual name))], true)]
set_option maxHeartbeats 2000000 in
theorem formOf_d (kind op : Int) (not : Bool) (val : Val) (qual name : ByteArray) (kids : List Expr) (sub : List Query) : Cl Tryz.prog 136 [.ag (csOf (Expr.mk kind op not val qual name kids sub).row)] [] fun r _ => r = formS kind op val qual name := by
 obtain ⟨zs, hzs⟩ : ∃ zs, zs = formS kind op val qual name := ⟨_, rfl⟩
 rw [← hzs, Expr.row_mk]
 refine cl_of_d follows_mixed false Tryz.func136 rfl (by kernel_rfl) ?_
 simp only [Tryz.f136, tt, seval]
 rcases (show kind = 1 ∨ kind = 2 ∨ kind = 3 ∨ kind = 4 ∨ kind = 5 ∨ kind = 6 ∨ kind = 7 ∨ kind = 8 ∨ kind = 9 ∨ (kind < 1 ∨ 9 < kind) by omega) with rfl | rfl | rfl | rfl | rfl | rfl | rfl | rfl | rfl | hk
 ·try simp only [tt, seval]
  refine cZ (isLit_d val) (by decide) ?_ ?_ <;> simp only [tt, seval, Val.row]
  exact ⟨_, _, (by rw [hzs]; simp [formS, okF, fmT, ]), end0 rfl⟩
 ·try simp only [tt, seval]
  refine cZ (iNameOk_d name) (by decide) ?_ ?_ <;> simp only [tt, seval]
  cases hnb : decide (1 ≤ name.size ∧ name.size ≤ 20)
  case false =>
   simp only [tt, seval]
   exact ⟨_, _, (by rw [hzs]; simp [formS, okF, fmT, nameB, mayB, hnb]), end0 rfl⟩
  simp only [tt, seval]
  by_cases hq : qual = ⟨#[]⟩
  case pos =>
   simp only [tt, seval, hq]
   exact ⟨_, _, (by rw [hzs]; simp [formS, okF, fmT, nameB, mayB, hnb, hq]), end0 rfl⟩
  simp only [tt, seval, hq]
  refine cZ (iNameOk_d qual) (by decide) ?_ ?_ <;> simp only [tt, seval]
  exact ⟨_, _, (by rw [hzs]; simp [formS, okF, fmT, nameB, mayB, hnb, hq]), end0 rfl⟩
 ·try simp only [tt, seval]
  refine dDrawn.intro [] (.take 0 (.take 1 (.take 2 (.take 3 (.take 4 (.take 5 (.br 6 (.take 7 (.take 8 (.br 9 (.take 10 .done) .nobr))) (.br 9 (.take 6 (.take 7 (.take 8 (.take 10 .done)))) .nobr)))))))) (by kernel_rfl) ?_
  simp only [tt, seval]
  by_cases h15 : op = 15
  case pos =>
   simp only [tt, seval, decide_eq_true h15]
   refine And.intro ?_ ?_ <;> exact ⟨_, _, (by rw [hzs]; simp [formS, okF, fmT, h15]), end0 rfl⟩
  simp only [tt, seval, decide_eq_false h15]
  refine And.intro ?_ ?_ <;> exact ⟨_, _, (by rw [hzs]; simp [formS, okF, fmT, h15]), end0 rfl⟩
 ·try simp only [tt, seval]
  refine dDrawn.intro [] (.take 0 (.take 1 (.take 2 (.take 3 (.take 4 (.take 5 (.br 6 (.take 7 (.take 8 (.br 9 (.take 10 .done) .nobr))) (.br 9 (.take 6 (.take 7 (.take 8 (.take 10 .done)))) .nobr)))))))) (by kernel_rfl) ?_
  simp only [tt, seval]
  by_cases h1 : 1 ≤ op
  case neg =>
   simp only [tt, seval, decide_eq_false h1]
   refine And.intro ?_ ?_ <;> exact ⟨_, _, (by rw [hzs]; simp [formS, okF, fmT, h1]), end0 rfl⟩
  simp only [tt, seval, decide_eq_true h1]
  refine And.intro ?_ ?_ <;> exact ⟨_, _, (by rw [hzs]; simp [formS, okF, fmT, h1]), end0 rfl⟩
 ·try simp only [tt, seval]
  exact ⟨_, _, (by rw [hzs]; simp [formS, okF, fmT, ]), end0 rfl⟩
 ·try simp only [tt, seval]
  exact ⟨_, _, (by rw [hzs]; simp [formS, okF, fmT, ]), end0 rfl⟩
 ·try simp only [tt, seval]
  exact ⟨_, _, (by rw [hzs]; simp [formS, okF, fmT, ]), end0 rfl⟩
 ·try simp only [tt, seval]
  exact ⟨_, _, (by rw [hzs]; simp [formS, okF, fmT, ]), end0 rfl⟩
 ·try simp only [tt, seval]
  exact ⟨_, _, (by rw [hzs]; simp [formS, okF, fmT, ]), end0 rfl⟩
 ·have n1 : ¬ kind = 1 := by omega
  have n2 : ¬ kind = 2 := by omega
  have n3 : ¬ kind = 3 := by omega
  have n4 : ¬ kind = 4 := by omega
  have n5 : ¬ kind = 5 := by omega
  have n6 : ¬ kind = 6 := by omega
  have n7 : ¬ kind = 7 := by omega
  have n8 : ¬ kind = 8 := by omega
  have n9 : ¬ kind = 9 := by omega
  simp only [tt, seval, n1, n2, n3, n4, n5, n6, n7, n8, n9]
  exact ⟨_, _, (by rw [hzs]; simp [formS, okF, fmT, n1, n2, n3, n4, n5, n6, n7, n8, n9]; omega), end0 rfl⟩
end Go.Proofs.YtoegnikpokgbfaaGreatDoor
