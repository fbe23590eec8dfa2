/-
  Statements that are in order.
  Conditions: none.
-/
import Derived.Test.YthhkmmcgjnecbaaGreatDoorVTextF
set_option linter.unusedVariables false
set_option linter.unusedSimpArgs false
set_option maxRecDepth 8000
namespace Go.Proofs.YthhkmmcgjnecbaaGreatDoor
open Go Go.Dv
open Go.Vc (D shrI xorI andI and255)
def Stmt.query : Stmt → Query | .mk _ q _ _ _ _ _ => q
def stExprs : Stmt → List Expr | .mk _ q _ rows _ sets w => exprsQ q ++ rows.flatMap ERow.l ++ sets ++ w
theorem take_flat {α β : Type} (f : α → List β) {l : List α} {i : Nat} (h : i < l.length) : (l.take (i + 1)).flatMap f = (l.take i).flatMap f ++ f l[i] := by
 rw [List.take_succ_eq_append_getElem h, List.flatMap_append]; simp
theorem flat_take_len {α β : Type} (f : α → List β) (l : List α) (i : Nat) : ((l.take i).flatMap f).length ≤ (l.flatMap f).length := by
 conv => rhs; rw [← List.take_append_drop i l]
 rw [List.flatMap_append, List.length_append]; omega
theorem rows_len (l : List ERow) : (l.flatMap ERow.l).length + l.length ≤ szERows l := by
 rw [szERows_eq]
 induction l with
 | nil => simp
 | cons x r ih =>
  rw [List.flatMap_cons, List.length_append, List.length_cons, List.map_cons, List.sum_cons, szERow_eq, szExprs_eq]
  omega
theorem l7Exprs_o (distinct : Bool) (items : List Item) (from_ : List Source) (where_ : List Expr) (order : List SortKey) (limit : Int) (hsz : szQuery (Query.mk distinct items from_ where_ order limit) ≤ 1048576) : Cl Tryz.prog 114 [.ag (csOf (Query.mk distinct items from_ where_ order limit).row)] [] fun r _ => r = .c (.ow 114 (exprsQ (Query.mk distinct items from_ where_ order limit)).length ((exprsQ (Query.mk distinct items from_ where_ order limit)).flatMap Expr.row) none) := by
 have hlen := exprsQ_len (Query.mk distinct items from_ where_ order limit)
 have q0 : exprsQ (Query.mk distinct items from_ where_ order limit) = exprsI items ++ from_.flatMap Source.on ++ where_ ++ order.map SortKey.e := rfl
 rw [q0] at hlen ⊢
 simp only [List.length_append, List.length_map] at hlen
 have htot := Nat.le_trans hlen hsz
 have hil := exprsI_len items
 rw [szQuery_mk, szItems_eq, szSources_eq, szExprs_eq, szSortKeys_eq] at hsz
 rw [Query.row_mk]
 refine cl_of_d follows_mixed false Tryz.func114 rfl (by kernel_rfl) ?_
 simp only [Tryz.f114, tt, seval]
 refine dLoop.gh [.ren 7 30] ⟨by decide, by decide, ?_⟩
 refine dLoop0.intro (fun f L p => ∃ (i : Nat) (es : List Expr), f 4 = vi i ∧ f 3 = .c (.s 30 es.length) ∧ i ≤ items.length ∧ es = exprsI (items.take i) ∧ L = [(1, .str [.v (.bool distinct), .sl items.length (items.flatMap Item.row) none, .sl from_.length (from_.flatMap Source.row) none, .sl where_.length (where_.flatMap Expr.row) none, .sl order.length (order.flatMap SortKey.row) none, .v (.int .i64 limit)]), (30, .arr 114 es.length (es.flatMap Expr.row) none)] ∧ p = none) (fun f _ _ => (items.length - ixS (f 4)).toNat) [(1, .str [.v (.bool distinct), .sl items.length (items.flatMap Item.row) none, .sl from_.length (from_.flatMap Source.row) none, .sl where_.length (where_.flatMap Expr.row) none, .sl order.length (order.flatMap SortKey.row) none, .v (.int .i64 limit)]), (30, .arr 114 0 [] none)] none ⟨SubO.cons rfl (SubO.cons rfl (SubO.nil _)), PoSub.none _, ?_⟩ ?_
 ·simp only [tt, seval]
  exact ⟨0, [], rfl, rfl, by omega, rfl, rfl⟩
 ·rintro g L p ⟨i, es, hi4, h3, hi, hes, rfl, rfl⟩
  simp only [tt, seval] at hi4 h3
  simp only [tt, seval, hi4, h3, Int.ofNat_lt]
  refine fun _ => ?_
  refine And.intro (fun hlt => ?_) (fun hge => ?_)
  ·have hlt : i < items.length := by omega
   have hst := exprsI_step hlt
   have hel : es.length ≤ items.length := by rw [hes]; exact Nat.le_trans (exprsI_len _) (by rw [List.length_take]; omega)
   have hei : es.length ≤ i := by rw [hes]; exact Nat.le_trans (exprsI_len _) (by rw [List.length_take]; omega)
   obtain ⟨it, hit⟩ : ∃ it, it = items[i] := ⟨_, rfl⟩
   rw [← hit] at hst
   refine ⟨by omega, by omega, _, drop_row Item.row_len (List.getElem?_eq_getElem hlt), Item.ne _ _, ?_⟩
   obtain ⟨star, qual, ⟨k, o, n, v, q, m, ks, ss⟩, as_⟩ := it
   rw [← hit, Item.row_mk, Expr.row_mk]
   simp only [tt, seval, hi4, h3, Int.ofNat_lt]
   refine And.intro (fun hs => ?_) (fun hs => ?_)
   ·have hs : star = false := by simpa only [Bool.not_eq_true'] using hs
    refine ⟨by omega, by omega, _, drop_row Item.row_len (List.getElem?_eq_getElem hlt), Item.ne _ _, ?_⟩
    rw [← hit, Item.row_mk, Expr.row_mk]
    simp only [tt, seval, hi4, h3, Int.ofNat_lt]
    refine ⟨by kernel_rfl, ⟨by simp only [maxLen]; omega, by omega⟩, ?_⟩
    have e : es.flatMap Expr.row ++ [int k, int o, bool n, int v.kind, int v.num, str v.text, str q, str m, .sl ks.length (ks.flatMap Expr.row), .sl ss.length (ss.flatMap Query.row)] = (es ++ [Expr.mk k o n v q m ks ss]).flatMap Expr.row := by rw [List.flatMap_append]; simp [Expr.row_mk]
    have e2 : es.length + 1 = (es ++ [Expr.mk k o n v q m ks ss]).length := by simp
    rw [e, e2]
    try rw [wrS i (by omega)]
    exact ⟨_, none, SubO.cons rfl (SubO.cons rfl (SubO.nil _)), PoSub.none _, ⟨i + 1, _, rfl, rfl, by omega, by rw [hst, hes]; subst hs; rfl, rfl, rfl⟩, by simp only [ixS]; omega⟩
   ·have hs : star = true := by simpa only [Bool.not_eq_false'] using hs
    try rw [wrS i (by omega)]
    exact ⟨_, none, SubO.cons rfl (SubO.cons rfl (SubO.nil _)), PoSub.none _, ⟨i + 1, es, rfl, rfl, by omega, by rw [hst, hes]; subst hs; simp [Item.star], rfl, rfl⟩, by simp only [ixS]; omega⟩
  ·have hie : i = items.length := by omega
   subst hie
   rw [List.take_length] at hes
   subst hes
   try simp only [tt, seval, hi4, h3]
   refine dLoop.gh [.ren 30 45] ⟨by decide, by decide, ?_⟩
   refine dLoop0.intro (fun f L p => ∃ (i : Nat) (es : List Expr), f 5 = vi i ∧ f 3 = .c (.s 45 es.length) ∧ i ≤ from_.length ∧ es = exprsI items ++ (from_.take i).flatMap Source.on ∧ L = [(1, .str [.v (.bool distinct), .sl items.length (items.flatMap Item.row) none, .sl from_.length (from_.flatMap Source.row) none, .sl where_.length (where_.flatMap Expr.row) none, .sl order.length (order.flatMap SortKey.row) none, .v (.int .i64 limit)]), (45, .arr 114 es.length (es.flatMap Expr.row) none)] ∧ p = none) (fun f _ _ => (from_.length - ixS (f 5)).toNat) [(1, .str [.v (.bool distinct), .sl items.length (items.flatMap Item.row) none, .sl from_.length (from_.flatMap Source.row) none, .sl where_.length (where_.flatMap Expr.row) none, .sl order.length (order.flatMap SortKey.row) none, .v (.int .i64 limit)]), (45, .arr 114 (exprsI items).length ((exprsI items).flatMap Expr.row) none)] none ⟨SubO.cons rfl (SubO.cons rfl (SubO.nil _)), PoSub.none _, ?_⟩ ?_
   ·simp only [tt, seval, h3]
    exact ⟨0, exprsI items, rfl, rfl, by omega, by simp, rfl⟩
   ·rintro g L p ⟨i, es, hi5, h3, hi, hes, rfl, rfl⟩
    simp only [tt, seval] at hi5 h3
    simp only [tt, seval, hi5, h3, Int.ofNat_lt]
    refine fun _ => ?_
    refine And.intro (fun hlt => ?_) (fun hge => ?_)
    ·have hlt : i < from_.length := by omega
     have hst := on_step hlt
     have hel : es.length ≤ (exprsI items).length + (from_.flatMap Source.on).length := by have := take_on_len from_ i; rw [hes, List.length_append]; omega
     obtain ⟨it, hit⟩ : ∃ it, it = from_[i] := ⟨_, rfl⟩
     rw [← hit] at hst
     have hon : it.on.length ≤ 1048576 := by
      have h1 := mem_sz szSource (List.getElem_mem hlt)
      rw [← hit] at h1
      obtain ⟨table, as_, on⟩ := it
      rw [szSource_mk, szExprs_eq] at h1
      show on.length ≤ _
      omega
     refine ⟨by omega, by omega, _, drop_row Source.row_len (List.getElem?_eq_getElem hlt), Source.ne _ _, ?_⟩
     obtain ⟨table, as_, on⟩ := it
     have hon : on.length ≤ 1048576 := hon
     rw [← hit, Source.row_mk]
     simp only [tt, seval, hi5, h3, Int.ofNat_lt]
     refine ⟨by kernel_rfl, by rw [flatMap_len Expr.row_len], ⟨by simp only [maxLen]; omega, by omega⟩, ?_⟩
     have e2 : es.length + on.length = (es ++ on).length := by simp
     rw [← List.flatMap_append, e2]
     try rw [wrS i (by omega)]
     exact ⟨_, none, SubO.cons rfl (SubO.cons rfl (SubO.nil _)), PoSub.none _, ⟨i + 1, _, rfl, rfl, by omega, by rw [hst, hes, List.append_assoc]; rfl, rfl, rfl⟩, by simp only [ixS]; omega⟩
    ·have hie : i = from_.length := by omega
     subst hie
     rw [List.take_length] at hes
     try simp only [tt, seval, hi5, h3]
     have hel : es.length = (exprsI items).length + (from_.flatMap Source.on).length := by rw [hes, List.length_append]
     refine ⟨by kernel_rfl, by rw [flatMap_len Expr.row_len], ⟨by simp only [maxLen]; omega, by omega⟩, ?_⟩
     have e2 : es.length + where_.length = (es ++ where_).length := by simp
     rw [← List.flatMap_append, e2]
     obtain ⟨fs, hfs⟩ : ∃ fs, fs = es ++ where_ := ⟨_, rfl⟩
     have hfl : fs.length = (exprsI items).length + (from_.flatMap Source.on).length + where_.length := by rw [hfs, List.length_append, hel]
     have hfs' : fs = exprsI items ++ from_.flatMap Source.on ++ where_ := by rw [hfs, hes]
     rw [← hfs]
     try simp only [tt, seval]
     refine dLoop.gh [.ren 49 65] ⟨by decide, by decide, ?_⟩
     refine dLoop0.intro (fun f L p => ∃ (i : Nat) (es : List Expr), f 6 = vi i ∧ f 3 = .c (.s 65 es.length) ∧ i ≤ order.length ∧ es = fs ++ (order.take i).map SortKey.e ∧ L = [(1, .str [.v (.bool distinct), .sl items.length (items.flatMap Item.row) none, .sl from_.length (from_.flatMap Source.row) none, .sl where_.length (where_.flatMap Expr.row) none, .sl order.length (order.flatMap SortKey.row) none, .v (.int .i64 limit)]), (65, .arr 114 es.length (es.flatMap Expr.row) none)] ∧ p = none) (fun f _ _ => (order.length - ixS (f 6)).toNat) [(1, .str [.v (.bool distinct), .sl items.length (items.flatMap Item.row) none, .sl from_.length (from_.flatMap Source.row) none, .sl where_.length (where_.flatMap Expr.row) none, .sl order.length (order.flatMap SortKey.row) none, .v (.int .i64 limit)]), (65, .arr 114 fs.length (fs.flatMap Expr.row) none)] none ⟨SubO.cons rfl (SubO.cons rfl (SubO.nil _)), PoSub.none _, ?_⟩ ?_
     ·simp only [tt, seval, h3]
      exact ⟨0, fs, rfl, rfl, by omega, by simp, rfl⟩
     ·rintro g L p ⟨i, es, hi6, h3, hi, hes, rfl, rfl⟩
      simp only [tt, seval] at hi6 h3
      simp only [tt, seval, hi6, h3, Int.ofNat_lt]
      refine fun _ => ?_
      refine And.intro (fun hlt => ?_) (fun hge => ?_)
      ·have hlt : i < order.length := by omega
       have hst := key_step hlt
       have hel : es.length = fs.length + i := by rw [hes, List.length_append, List.length_map, List.length_take]; omega
       obtain ⟨it, hit⟩ : ∃ it, it = order[i] := ⟨_, rfl⟩
       rw [← hit] at hst
       refine ⟨by omega, by omega, _, drop_row SortKey.row_len (List.getElem?_eq_getElem hlt), SortKey.ne _ _, ?_⟩
       obtain ⟨⟨k, o, n, v, q, m, ks, ss⟩, desc⟩ := it
       rw [← hit, SortKey.row_mk, Expr.row_mk]
       simp only [tt, seval, hi6, h3, Int.ofNat_lt]
       refine ⟨by kernel_rfl, ⟨by simp only [maxLen]; omega, by omega⟩, ?_⟩
       have e : es.flatMap Expr.row ++ [int k, int o, bool n, int v.kind, int v.num, str v.text, str q, str m, .sl ks.length (ks.flatMap Expr.row), .sl ss.length (ss.flatMap Query.row)] = (es ++ [Expr.mk k o n v q m ks ss]).flatMap Expr.row := by rw [List.flatMap_append]; simp [Expr.row_mk]
       have e2 : es.length + 1 = (es ++ [Expr.mk k o n v q m ks ss]).length := by simp
       rw [e, e2]
       try rw [wrS i (by omega)]
       exact ⟨_, none, SubO.cons rfl (SubO.cons rfl (SubO.nil _)), PoSub.none _, ⟨i + 1, _, rfl, rfl, by omega, by rw [hst, hes, List.append_assoc]; rfl, rfl, rfl⟩, by simp only [ixS]; omega⟩
      ·have hie : i = order.length := by omega
       subst hie
       rw [List.take_length] at hes
       try simp only [tt, seval, hi6, h3]
       refine ⟨_, [], rfl, endOk ?_⟩
       simp only [tt, seval]
       rw [hes, hfs']
       exact ⟨rfl, rfl, rfl⟩
theorem iexprs_o (distinct : Bool) (items : List Item) (from_ : List Source) (where_ : List Expr) (order : List SortKey) (limit : Int) (hsz : szQuery (Query.mk distinct items from_ where_ order limit) ≤ 1048576) : Cl Tryz.prog 128 [.ag (csOf (Query.mk distinct items from_ where_ order limit).row)] [] fun r _ => r = .c (.ow 114 (exprsQ (Query.mk distinct items from_ where_ order limit)).length ((exprsQ (Query.mk distinct items from_ where_ order limit)).flatMap Expr.row) none) := by
 have hlen := exprsQ_len (Query.mk distinct items from_ where_ order limit)
 have q0 : exprsQ (Query.mk distinct items from_ where_ order limit) = exprsI items ++ from_.flatMap Source.on ++ where_ ++ order.map SortKey.e := rfl
 rw [q0] at hlen ⊢
 simp only [List.length_append, List.length_map] at hlen
 have htot := Nat.le_trans hlen hsz
 have hil := exprsI_len items
 rw [szQuery_mk, szItems_eq, szSources_eq, szExprs_eq, szSortKeys_eq] at hsz
 rw [Query.row_mk]
 refine cl_of_d follows_mixed false Tryz.func128 rfl (by kernel_rfl) ?_
 simp only [Tryz.f128, tt, seval]
 refine fun _ => ?_
 refine dLoop.gh [.ren 10 25] ⟨by decide, by decide, ?_⟩
 refine dLoop0.intro (fun f L p => ∃ (i : Nat) (es : List Expr), f 14 = vi i ∧ f 3 = .c (.s 25 es.length) ∧ i ≤ items.length ∧ es = exprsI (items.take i) ∧ L = [(1, .str [.v (.bool distinct), .sl items.length (items.flatMap Item.row) none, .sl from_.length (from_.flatMap Source.row) none, .sl where_.length (where_.flatMap Expr.row) none, .sl order.length (order.flatMap SortKey.row) none, .v (.int .i64 limit)]), (25, .arr 114 es.length (es.flatMap Expr.row) none)] ∧ p = none) (fun f _ _ => (items.length - ixS (f 14)).toNat) [(1, .str [.v (.bool distinct), .sl items.length (items.flatMap Item.row) none, .sl from_.length (from_.flatMap Source.row) none, .sl where_.length (where_.flatMap Expr.row) none, .sl order.length (order.flatMap SortKey.row) none, .v (.int .i64 limit)]), (25, .arr 114 0 [] none)] none ⟨SubO.cons rfl (SubO.cons rfl (SubO.nil _)), PoSub.none _, ?_⟩ ?_
 ·simp only [tt, seval]
  exact ⟨0, [], rfl, rfl, by omega, rfl, rfl⟩
 ·rintro g L p ⟨i, es, hi4, h3, hi, hes, rfl, rfl⟩
  simp only [tt, seval] at hi4 h3
  simp only [tt, seval, hi4, h3, Int.ofNat_lt]
  refine And.intro (fun hlt => ?_) (fun hge => ?_)
  ·have hlt : i < items.length := by omega
   have hst := exprsI_step hlt
   have hel : es.length ≤ items.length := by rw [hes]; exact Nat.le_trans (exprsI_len _) (by rw [List.length_take]; omega)
   have hei : es.length ≤ i := by rw [hes]; exact Nat.le_trans (exprsI_len _) (by rw [List.length_take]; omega)
   obtain ⟨it, hit⟩ : ∃ it, it = items[i] := ⟨_, rfl⟩
   rw [← hit] at hst
   refine ⟨by omega, by omega, _, drop_row Item.row_len (List.getElem?_eq_getElem hlt), Item.ne _ _, ?_⟩
   obtain ⟨star, qual, ⟨k, o, n, v, q, m, ks, ss⟩, as_⟩ := it
   rw [← hit, Item.row_mk, Expr.row_mk]
   simp only [tt, seval, hi4, h3, Int.ofNat_lt]
   refine And.intro (fun hs => ?_) (fun hs => ?_)
   ·have hs : star = false := by simpa only [Bool.not_eq_true'] using hs
    refine ⟨by kernel_rfl, ⟨by simp only [maxLen]; omega, by omega⟩, ?_⟩
    have e : es.flatMap Expr.row ++ [int k, int o, bool n, int v.kind, int v.num, str v.text, str q, str m, .sl ks.length (ks.flatMap Expr.row), .sl ss.length (ss.flatMap Query.row)] = (es ++ [Expr.mk k o n v q m ks ss]).flatMap Expr.row := by rw [List.flatMap_append]; simp [Expr.row_mk]
    have e2 : es.length + 1 = (es ++ [Expr.mk k o n v q m ks ss]).length := by simp
    rw [e, e2]
    try rw [wrS i (by omega)]
    exact ⟨_, none, SubO.cons rfl (SubO.cons rfl (SubO.nil _)), PoSub.none _, ⟨i + 1, _, rfl, rfl, by omega, by rw [hst, hes]; subst hs; rfl, rfl, rfl⟩, by simp only [ixS]; omega⟩
   ·have hs : star = true := by simpa only [Bool.not_eq_false'] using hs
    try rw [wrS i (by omega)]
    exact ⟨_, none, SubO.cons rfl (SubO.cons rfl (SubO.nil _)), PoSub.none _, ⟨i + 1, es, rfl, rfl, by omega, by rw [hst, hes]; subst hs; simp [Item.star], rfl, rfl⟩, by simp only [ixS]; omega⟩
  ·have hie : i = items.length := by omega
   subst hie
   rw [List.take_length] at hes
   subst hes
   try simp only [tt, seval, hi4, h3]
   refine fun _ => ?_
   refine dLoop.gh [.ren 25 37] ⟨by decide, by decide, ?_⟩
   refine dLoop0.intro (fun f L p => ∃ (i : Nat) (es : List Expr), f 30 = vi i ∧ f 3 = .c (.s 37 es.length) ∧ i ≤ from_.length ∧ es = exprsI items ++ (from_.take i).flatMap Source.on ∧ L = [(1, .str [.v (.bool distinct), .sl items.length (items.flatMap Item.row) none, .sl from_.length (from_.flatMap Source.row) none, .sl where_.length (where_.flatMap Expr.row) none, .sl order.length (order.flatMap SortKey.row) none, .v (.int .i64 limit)]), (37, .arr 114 es.length (es.flatMap Expr.row) none)] ∧ p = none) (fun f _ _ => (from_.length - ixS (f 30)).toNat) [(1, .str [.v (.bool distinct), .sl items.length (items.flatMap Item.row) none, .sl from_.length (from_.flatMap Source.row) none, .sl where_.length (where_.flatMap Expr.row) none, .sl order.length (order.flatMap SortKey.row) none, .v (.int .i64 limit)]), (37, .arr 114 (exprsI items).length ((exprsI items).flatMap Expr.row) none)] none ⟨SubO.cons rfl (SubO.cons rfl (SubO.nil _)), PoSub.none _, ?_⟩ ?_
   ·simp only [tt, seval, h3]
    exact ⟨0, exprsI items, rfl, rfl, by omega, by simp, rfl⟩
   ·rintro g L p ⟨i, es, hi5, h3, hi, hes, rfl, rfl⟩
    simp only [tt, seval] at hi5 h3
    simp only [tt, seval, hi5, h3, Int.ofNat_lt]
    refine And.intro (fun hlt => ?_) (fun hge => ?_)
    ·have hlt : i < from_.length := by omega
     have hst := on_step hlt
     have hel : es.length ≤ (exprsI items).length + (from_.flatMap Source.on).length := by have := take_on_len from_ i; rw [hes, List.length_append]; omega
     obtain ⟨it, hit⟩ : ∃ it, it = from_[i] := ⟨_, rfl⟩
     rw [← hit] at hst
     have hon : it.on.length ≤ 1048576 := by
      have h1 := mem_sz szSource (List.getElem_mem hlt)
      rw [← hit] at h1
      obtain ⟨table, as_, on⟩ := it
      rw [szSource_mk, szExprs_eq] at h1
      show on.length ≤ _
      omega
     refine ⟨by omega, by omega, _, drop_row Source.row_len (List.getElem?_eq_getElem hlt), Source.ne _ _, ?_⟩
     obtain ⟨table, as_, on⟩ := it
     have hon : on.length ≤ 1048576 := hon
     rw [← hit, Source.row_mk]
     simp only [tt, seval, hi5, h3, Int.ofNat_lt]
     refine ⟨by kernel_rfl, by rw [flatMap_len Expr.row_len], ⟨by simp only [maxLen]; omega, by omega⟩, ?_⟩
     have e2 : es.length + on.length = (es ++ on).length := by simp
     rw [← List.flatMap_append, e2]
     try rw [wrS i (by omega)]
     exact ⟨_, none, SubO.cons rfl (SubO.cons rfl (SubO.nil _)), PoSub.none _, ⟨i + 1, _, rfl, rfl, by omega, by rw [hst, hes, List.append_assoc]; rfl, rfl, rfl⟩, by simp only [ixS]; omega⟩
    ·have hie : i = from_.length := by omega
     subst hie
     rw [List.take_length] at hes
     try simp only [tt, seval, hi5, h3]
     have hel : es.length = (exprsI items).length + (from_.flatMap Source.on).length := by rw [hes, List.length_append]
     refine ⟨by kernel_rfl, by rw [flatMap_len Expr.row_len], ⟨by simp only [maxLen]; omega, by omega⟩, ?_⟩
     have e2 : es.length + where_.length = (es ++ where_).length := by simp
     rw [← List.flatMap_append, e2]
     obtain ⟨fs, hfs⟩ : ∃ fs, fs = es ++ where_ := ⟨_, rfl⟩
     have hfl : fs.length = (exprsI items).length + (from_.flatMap Source.on).length + where_.length := by rw [hfs, List.length_append, hel]
     have hfs' : fs = exprsI items ++ from_.flatMap Source.on ++ where_ := by rw [hfs, hes]
     rw [← hfs]
     try simp only [tt, seval]
     refine fun _ => ?_
     refine dLoop.gh [.ren 42 54] ⟨by decide, by decide, ?_⟩
     refine dLoop0.intro (fun f L p => ∃ (i : Nat) (es : List Expr), f 46 = vi i ∧ f 3 = .c (.s 54 es.length) ∧ i ≤ order.length ∧ es = fs ++ (order.take i).map SortKey.e ∧ L = [(1, .str [.v (.bool distinct), .sl items.length (items.flatMap Item.row) none, .sl from_.length (from_.flatMap Source.row) none, .sl where_.length (where_.flatMap Expr.row) none, .sl order.length (order.flatMap SortKey.row) none, .v (.int .i64 limit)]), (54, .arr 114 es.length (es.flatMap Expr.row) none)] ∧ p = none) (fun f _ _ => (order.length - ixS (f 46)).toNat) [(1, .str [.v (.bool distinct), .sl items.length (items.flatMap Item.row) none, .sl from_.length (from_.flatMap Source.row) none, .sl where_.length (where_.flatMap Expr.row) none, .sl order.length (order.flatMap SortKey.row) none, .v (.int .i64 limit)]), (54, .arr 114 fs.length (fs.flatMap Expr.row) none)] none ⟨SubO.cons rfl (SubO.cons rfl (SubO.nil _)), PoSub.none _, ?_⟩ ?_
     ·simp only [tt, seval, h3]
      exact ⟨0, fs, rfl, rfl, by omega, by simp, rfl⟩
     ·rintro g L p ⟨i, es, hi6, h3, hi, hes, rfl, rfl⟩
      simp only [tt, seval] at hi6 h3
      simp only [tt, seval, hi6, h3, Int.ofNat_lt]
      refine And.intro (fun hlt => ?_) (fun hge => ?_)
      ·have hlt : i < order.length := by omega
       have hst := key_step hlt
       have hel : es.length = fs.length + i := by rw [hes, List.length_append, List.length_map, List.length_take]; omega
       obtain ⟨it, hit⟩ : ∃ it, it = order[i] := ⟨_, rfl⟩
       rw [← hit] at hst
       refine ⟨by omega, by omega, _, drop_row SortKey.row_len (List.getElem?_eq_getElem hlt), SortKey.ne _ _, ?_⟩
       obtain ⟨⟨k, o, n, v, q, m, ks, ss⟩, desc⟩ := it
       rw [← hit, SortKey.row_mk, Expr.row_mk]
       simp only [tt, seval, hi6, h3, Int.ofNat_lt]
       refine ⟨by kernel_rfl, ⟨by simp only [maxLen]; omega, by omega⟩, ?_⟩
       have e : es.flatMap Expr.row ++ [int k, int o, bool n, int v.kind, int v.num, str v.text, str q, str m, .sl ks.length (ks.flatMap Expr.row), .sl ss.length (ss.flatMap Query.row)] = (es ++ [Expr.mk k o n v q m ks ss]).flatMap Expr.row := by rw [List.flatMap_append]; simp [Expr.row_mk]
       have e2 : es.length + 1 = (es ++ [Expr.mk k o n v q m ks ss]).length := by simp
       rw [e, e2]
       try rw [wrS i (by omega)]
       exact ⟨_, none, SubO.cons rfl (SubO.cons rfl (SubO.nil _)), PoSub.none _, ⟨i + 1, _, rfl, rfl, by omega, by rw [hst, hes, List.append_assoc]; rfl, rfl, rfl⟩, by simp only [ixS]; omega⟩
      ·have hie : i = order.length := by omega
       subst hie
       rw [List.take_length] at hes
       try simp only [tt, seval, hi6, h3]
       refine ⟨_, [], rfl, endOk ?_⟩
       simp only [tt, seval]
       rw [hes, hfs']
       exact ⟨rfl, rfl, rfl⟩
theorem l8Exprs_d (kind : Int) (distinct : Bool) (items : List Item) (from_ : List Source) (where_ : List Expr) (order : List SortKey) (limit : Int) (table : ByteArray) (rows : List ERow) (cols : List ByteArray) (sets where2 : List Expr) (hsz : szStmt (Stmt.mk kind (Query.mk distinct items from_ where_ order limit) table rows cols sets where2) ≤ 1048576) : Cl Tryz.prog 143 [.ag (csOf (Stmt.mk kind (Query.mk distinct items from_ where_ order limit) table rows cols sets where2).row)] [] fun r _ => r = .c (.sl (stExprs (Stmt.mk kind (Query.mk distinct items from_ where_ order limit) table rows cols sets where2)).length ((stExprs (Stmt.mk kind (Query.mk distinct items from_ where_ order limit) table rows cols sets where2)).flatMap Expr.row) none) := by
 have hql := exprsQ_len (Query.mk distinct items from_ where_ order limit)
 have hrl := rows_len rows
 have q0 : stExprs (Stmt.mk kind (Query.mk distinct items from_ where_ order limit) table rows cols sets where2) = exprsQ (Query.mk distinct items from_ where_ order limit) ++ rows.flatMap ERow.l ++ sets ++ where2 := rfl
 rw [q0]
 rw [szStmt_mk] at hsz
 have hqs : szQuery (Query.mk distinct items from_ where_ order limit) ≤ 1048576 := by omega
 have hs1 : sets.length + where2.length + (rows.flatMap ERow.l).length + (exprsQ (Query.mk distinct items from_ where_ order limit)).length ≤ 1048576 := by
  rw [szExprs_eq, szExprs_eq] at hsz; omega
 have hrn : rows.length ≤ 1048576 := by omega
 have hqc := l7Exprs_o distinct items from_ where_ order limit hqs
 rw [Query.row_mk] at hqc
 generalize exprsQ (Query.mk distinct items from_ where_ order limit) = lq at *
 rw [Stmt.row_mk, Query.row_mk]
 simp only [List.cons_append, List.nil_append]
 refine cl_of_d follows_mixed false Tryz.func143 rfl (by kernel_rfl) ?_
 simp only [Tryz.f143, tt, seval]
 refine call0 (hqc) ?_ ?_ ?_
 ·decide
 ·simp only [tt, seval]
 rintro r rfl
 simp only [tt, seval]
 refine dLoop.gh [.ren 10007 21] ⟨by decide, by decide, ?_⟩
 refine dLoop0.intro (fun f L p => ∃ (i : Nat) (es : List Expr), f 4 = vi i ∧ f 3 = .c (.s 21 es.length) ∧ i ≤ rows.length ∧ es = lq ++ (rows.take i).flatMap ERow.l ∧ L = [(21, .arr 114 es.length (es.flatMap Expr.row) none), (1, .str [.v (.int .i64 kind), .v (.bool distinct), .sl items.length (items.flatMap Item.row) none, .sl from_.length (from_.flatMap Source.row) none, .sl where_.length (where_.flatMap Expr.row) none, .sl order.length (order.flatMap SortKey.row) none, .v (.int .i64 limit), .v (.string table), .sl rows.length (rows.flatMap ERow.row) none, .sl cols.length (cols.flatMap srow) none, .sl sets.length (sets.flatMap Expr.row) none, .sl where2.length (where2.flatMap Expr.row) none])] ∧ p = none) (fun f _ _ => (rows.length - ixS (f 4)).toNat) [(21, .arr 114 lq.length (lq.flatMap Expr.row) none), (1, .str [.v (.int .i64 kind), .v (.bool distinct), .sl items.length (items.flatMap Item.row) none, .sl from_.length (from_.flatMap Source.row) none, .sl where_.length (where_.flatMap Expr.row) none, .sl order.length (order.flatMap SortKey.row) none, .v (.int .i64 limit), .v (.string table), .sl rows.length (rows.flatMap ERow.row) none, .sl cols.length (cols.flatMap srow) none, .sl sets.length (sets.flatMap Expr.row) none, .sl where2.length (where2.flatMap Expr.row) none])] none ⟨SubO.cons rfl (SubO.cons rfl (SubO.nil _)), PoSub.none _, ?_⟩ ?_
 ·simp only [tt, seval]
  exact ⟨0, lq, rfl, rfl, by omega, by simp, rfl⟩
 ·rintro g L p ⟨i, es, h4, h3, hi, hes, rfl, rfl⟩
  simp only [tt, seval] at h4 h3
  simp only [tt, seval, h4, h3, Int.ofNat_lt]
  refine fun _ => ?_
  refine And.intro (fun hlt => ?_) (fun hge => ?_)
  ·have hlt : i < rows.length := by omega
   have hstp := take_flat ERow.l hlt
   have hel : es.length + rows[i].l.length ≤ lq.length + (rows.flatMap ERow.l).length := by
    have := flat_take_len ERow.l rows (i + 1)
    rw [hstp, List.length_append] at this
    rw [hes, List.length_append]; omega
   obtain ⟨it, hit⟩ : ∃ it, it = rows[i] := ⟨_, rfl⟩
   rw [← hit] at hstp hel
   refine ⟨by omega, by omega, _, drop_row ERow.row_len (List.getElem?_eq_getElem hlt), ERow.ne _ _, ?_⟩
   rw [← hit, erowE]
   simp only [tt, seval, h4, h3]
   refine ⟨by kernel_rfl, by rw [flatMap_len Expr.row_len], ⟨by simp only [maxLen]; omega, by omega⟩, ?_⟩
   have e2 : es.length + it.l.length = (es ++ it.l).length := by simp
   rw [← List.flatMap_append, e2]
   try rw [wrS i (by omega)]
   exact ⟨_, none, SubO.cons rfl (SubO.cons rfl (SubO.nil _)), PoSub.none _, ⟨i + 1, _, rfl, rfl, by omega, by rw [hstp, hes, List.append_assoc], rfl, rfl⟩, by simp only [ixS]; omega⟩
  ·have hie : i = rows.length := by omega
   subst hie
   rw [List.take_length] at hes
   have hel : es.length = lq.length + (rows.flatMap ERow.l).length := by rw [hes, List.length_append]
   rw [← hes]
   try simp only [tt, seval, h4, h3]
   refine ⟨by kernel_rfl, by rw [flatMap_len Expr.row_len], ⟨by simp only [maxLen]; omega, by omega⟩, ?_⟩
   have e2 : es.length + sets.length = (es ++ sets).length := by simp
   rw [← List.flatMap_append, e2]
   try simp only [tt, seval, h4, h3]
   refine ⟨by kernel_rfl, by rw [flatMap_len Expr.row_len], ⟨by simp only [maxLen, List.length_append]; omega, by simp only [List.length_append]; omega⟩, ?_⟩
   have e3 : (es ++ sets).length + where2.length = (es ++ sets ++ where2).length := by simp [Nat.add_assoc]
   rw [← List.flatMap_append, e3]
   refine ⟨_, [], rfl, endOk ?_⟩
   simp only [tt, seval]
theorem isexprs_d (kind : Int) (distinct : Bool) (items : List Item) (from_ : List Source) (where_ : List Expr) (order : List SortKey) (limit : Int) (table : ByteArray) (rows : List ERow) (cols : List ByteArray) (sets where2 : List Expr) (hsz : szStmt (Stmt.mk kind (Query.mk distinct items from_ where_ order limit) table rows cols sets where2) ≤ 1048576) : Cl Tryz.prog 101 [.ag (csOf (Stmt.mk kind (Query.mk distinct items from_ where_ order limit) table rows cols sets where2).row)] [] fun r _ => r = .c (.sl (stExprs (Stmt.mk kind (Query.mk distinct items from_ where_ order limit) table rows cols sets where2)).length ((stExprs (Stmt.mk kind (Query.mk distinct items from_ where_ order limit) table rows cols sets where2)).flatMap Expr.row) none) := by
 have hql := exprsQ_len (Query.mk distinct items from_ where_ order limit)
 have hrl := rows_len rows
 have q0 : stExprs (Stmt.mk kind (Query.mk distinct items from_ where_ order limit) table rows cols sets where2) = exprsQ (Query.mk distinct items from_ where_ order limit) ++ rows.flatMap ERow.l ++ sets ++ where2 := rfl
 rw [q0]
 rw [szStmt_mk] at hsz
 have hqs : szQuery (Query.mk distinct items from_ where_ order limit) ≤ 1048576 := by omega
 have hs1 : sets.length + where2.length + (rows.flatMap ERow.l).length + (exprsQ (Query.mk distinct items from_ where_ order limit)).length ≤ 1048576 := by
  rw [szExprs_eq, szExprs_eq] at hsz; omega
 have hrn : rows.length ≤ 1048576 := by omega
 have hqc := iexprs_o distinct items from_ where_ order limit hqs
 rw [Query.row_mk] at hqc
 generalize exprsQ (Query.mk distinct items from_ where_ order limit) = lq at *
 rw [Stmt.row_mk, Query.row_mk]
 simp only [List.cons_append, List.nil_append]
 refine cl_of_d follows_mixed false Tryz.func101 rfl (by kernel_rfl) ?_
 simp only [Tryz.f101, tt, seval]
 refine call0 (hqc) ?_ ?_ ?_
 ·decide
 ·simp only [tt, seval]
 rintro r rfl
 simp only [tt, seval]
 refine fun _ => ?_
 refine dLoop.gh [.ren 10008 18] ⟨by decide, by decide, ?_⟩
 refine dLoop0.intro (fun f L p => ∃ (i : Nat) (es : List Expr), f 12 = vi i ∧ f 3 = .c (.s 18 es.length) ∧ i ≤ rows.length ∧ es = lq ++ (rows.take i).flatMap ERow.l ∧ L = [(18, .arr 114 es.length (es.flatMap Expr.row) none), (1, .str [.v (.int .i64 kind), .v (.bool distinct), .sl items.length (items.flatMap Item.row) none, .sl from_.length (from_.flatMap Source.row) none, .sl where_.length (where_.flatMap Expr.row) none, .sl order.length (order.flatMap SortKey.row) none, .v (.int .i64 limit), .v (.string table), .sl rows.length (rows.flatMap ERow.row) none, .sl cols.length (cols.flatMap srow) none, .sl sets.length (sets.flatMap Expr.row) none, .sl where2.length (where2.flatMap Expr.row) none])] ∧ p = none) (fun f _ _ => (rows.length - ixS (f 12)).toNat) [(18, .arr 114 lq.length (lq.flatMap Expr.row) none), (1, .str [.v (.int .i64 kind), .v (.bool distinct), .sl items.length (items.flatMap Item.row) none, .sl from_.length (from_.flatMap Source.row) none, .sl where_.length (where_.flatMap Expr.row) none, .sl order.length (order.flatMap SortKey.row) none, .v (.int .i64 limit), .v (.string table), .sl rows.length (rows.flatMap ERow.row) none, .sl cols.length (cols.flatMap srow) none, .sl sets.length (sets.flatMap Expr.row) none, .sl where2.length (where2.flatMap Expr.row) none])] none ⟨SubO.cons rfl (SubO.cons rfl (SubO.nil _)), PoSub.none _, ?_⟩ ?_
 ·simp only [tt, seval]
  exact ⟨0, lq, rfl, rfl, by omega, by simp, rfl⟩
 ·rintro g L p ⟨i, es, h4, h3, hi, hes, rfl, rfl⟩
  simp only [tt, seval] at h4 h3
  simp only [tt, seval, h4, h3, Int.ofNat_lt]
  refine And.intro (fun hlt => ?_) (fun hge => ?_)
  ·have hlt : i < rows.length := by omega
   have hstp := take_flat ERow.l hlt
   have hel : es.length + rows[i].l.length ≤ lq.length + (rows.flatMap ERow.l).length := by
    have := flat_take_len ERow.l rows (i + 1)
    rw [hstp, List.length_append] at this
    rw [hes, List.length_append]; omega
   obtain ⟨it, hit⟩ : ∃ it, it = rows[i] := ⟨_, rfl⟩
   rw [← hit] at hstp hel
   refine ⟨by omega, by omega, _, drop_row ERow.row_len (List.getElem?_eq_getElem hlt), ERow.ne _ _, ?_⟩
   rw [← hit, erowE]
   simp only [tt, seval, h4, h3]
   refine ⟨by kernel_rfl, by rw [flatMap_len Expr.row_len], ⟨by simp only [maxLen]; omega, by omega⟩, ?_⟩
   have e2 : es.length + it.l.length = (es ++ it.l).length := by simp
   rw [← List.flatMap_append, e2]
   try rw [wrS i (by omega)]
   exact ⟨_, none, SubO.cons rfl (SubO.cons rfl (SubO.nil _)), PoSub.none _, ⟨i + 1, _, rfl, rfl, by omega, by rw [hstp, hes, List.append_assoc], rfl, rfl⟩, by simp only [ixS]; omega⟩
  ·have hie : i = rows.length := by omega
   subst hie
   rw [List.take_length] at hes
   have hel : es.length = lq.length + (rows.flatMap ERow.l).length := by rw [hes, List.length_append]
   rw [← hes]
   try simp only [tt, seval, h4, h3]
   refine ⟨by kernel_rfl, by rw [flatMap_len Expr.row_len], ⟨by simp only [maxLen]; omega, by omega⟩, ?_⟩
   have e2 : es.length + sets.length = (es ++ sets).length := by simp
   rw [← List.flatMap_append, e2]
   try simp only [tt, seval, h4, h3]
   refine ⟨by kernel_rfl, by rw [flatMap_len Expr.row_len], ⟨by simp only [maxLen, List.length_append]; omega, by simp only [List.length_append]; omega⟩, ?_⟩
   have e3 : (es ++ sets).length + where2.length = (es ++ sets ++ where2).length := by simp [Nat.add_assoc]
   rw [← List.flatMap_append, e3]
   refine ⟨_, [], rfl, endOk ?_⟩
   simp only [tt, seval]
theorem rows_sz (l : List ERow) {x : Expr} (h : x ∈ l.flatMap ERow.l) : szExpr x ≤ szERows l := by
 obtain ⟨y, hy, hx⟩ := List.mem_flatMap.1 h
 have h1 := mem_sz szERow hy
 have h2 := mem_sz szExpr hx
 rw [szERow_eq, szExprs_eq] at h1
 rw [szERows_eq]; omega
theorem rows_sum (l : List ERow) : ((l.flatMap ERow.l).map fun x => szExpr x + 1).sum ≤ szERows l := by
 rw [szERows_eq]
 induction l with
 | nil => simp
 | cons x r ih =>
  rw [List.flatMap_cons, List.map_append, List.sum_append, sum_add1, List.map_cons, List.sum_cons, List.length_cons, szERow_eq, szExprs_eq]
  omega
theorem stExprs_sz {s : Stmt} {x : Expr} (h : x ∈ stExprs s) : szExpr x ≤ szStmt s := by
 obtain ⟨kind, q, table, rows, cols, sets, where2⟩ := s
 rw [szStmt_mk, szExprs_eq, szExprs_eq]
 simp only [stExprs, List.mem_append] at h
 rcases h with ((h | h) | h) | h
 ·have := exprsQ_sz h; omega
 ·have := rows_sz rows h; omega
 ·have := mem_sz szExpr h; omega
 ·have := mem_sz szExpr h; omega
theorem stExprs_sum (s : Stmt) : ((stExprs s).map fun x => szExpr x + 1).sum ≤ szStmt s := by
 obtain ⟨kind, q, table, rows, cols, sets, where2⟩ := s
 rw [szStmt_mk, szExprs_eq, szExprs_eq]
 have h1 := exprsQ_sum q
 have h2 := rows_sum rows
 simp only [stExprs, List.map_append, List.sum_append, sum_add1 szExpr sets, sum_add1 szExpr where2]
 omega
theorem stExprs_len (s : Stmt) : (stExprs s).length ≤ szStmt s := by
 have h := stExprs_sum s
 rw [sum_add1] at h; omega
theorem spQuerySize_d (q : Query) (g : Expr → Nat) (h : ∀ x ∈ exprsQ q, Cl Tryz.prog 118 [.ag (csOf x.row)] [] fun r _ => r = vi (g x : Nat)) (hsz : szQuery q ≤ 1048576) (hs : ((exprsQ q).map g).sum ≤ 2097152) : Cl Tryz.prog 60 [.ag (csOf q.row)] [] fun r _ => r = vi (((exprsQ q).map g).sum : Nat) := by
 have hlen := exprsQ_len q
 obtain ⟨distinct, items, from_, where_, order, limit⟩ := q
 rw [Query.row_mk]
 refine cl_of_d follows_mixed false Tryz.func60 rfl (by kernel_rfl) ?_
 simp only [Tryz.f60, tt, seval]
 refine call0 (l7Exprs_d distinct items from_ where_ order limit hsz) ?_ ?_ ?_
 ·decide
 ·simp only [tt, seval, Query.row_mk]
 rintro r rfl
 simp only [tt, seval, Query.row_mk]
 generalize exprsQ (Query.mk distinct items from_ where_ order limit) = l at *
 refine dLoop.intro (fun f L p => ∃ i : Nat, f 5 = vi i ∧ i ≤ l.length ∧ f 3 = vi (((l.take i).map g).sum : Nat) ∧ L = [(1, .str [.v (.bool distinct), .sl items.length (items.flatMap Item.row) none, .sl from_.length (from_.flatMap Source.row) none, .sl where_.length (where_.flatMap Expr.row) none, .sl order.length (order.flatMap SortKey.row) none, .v (.int .i64 limit)])] ∧ p = none) (fun f _ _ => (l.length - ixS (f 5)).toNat) [(1, .str [.v (.bool distinct), .sl items.length (items.flatMap Item.row) none, .sl from_.length (from_.flatMap Source.row) none, .sl where_.length (where_.flatMap Expr.row) none, .sl order.length (order.flatMap SortKey.row) none, .v (.int .i64 limit)])] none ⟨SubO.cons rfl (SubO.nil _), PoSub.none _, ?_⟩ ?_
 ·simp only [tt, seval]
  exact ⟨0, rfl, by omega, by simp⟩
 ·rintro g' L p ⟨i, hix, hi, hac, rfl, rfl⟩
  simp only [tt, seval] at hix hac
  simp only [tt, seval, hix, hac, Int.ofNat_lt]
  refine fun _ => ?_
  refine And.intro (fun hlt => ?_) (fun hge => ?_)
  ·have hlt : i < l.length := by omega
   have hmem : l[i] ∈ l := List.getElem_mem hlt
   refine ⟨by omega, by omega, _, drop_row Expr.row_len (List.getElem?_eq_getElem hlt), Expr.ne _ _, ?_⟩
   simp only [tt, seval, hix, hac, Expr.tk, Expr.row_len]
   refine call0 (h _ hmem) ?_ ?_ ?_
   ·decide
   ·simp only [tt, seval, hix, hac]
   rintro r rfl
   simp only [tt, seval, hix, hac]
   obtain ⟨rst, hrst⟩ := take_sum_le g l (i + 1)
   rw [wrS i (by omega)]
   have hstep : ((l.take (i + 1)).map g).sum = ((l.take i).map g).sum + g l[i] := sum_snoc g hlt
   rw [wrap_id (by omega) (by omega)]
   skip
   exact ⟨_, none, SubO.cons rfl (SubO.nil _), PoSub.none _, ⟨i + 1, rfl, by omega, viE (by rw [hstep]; omega), rfl, rfl⟩, by simp only [ixS]; omega⟩
  ·have hie : i = l.length := by omega
   subst hie
   rw [List.take_length] at hac
   try simp only [tt, seval, hix, hac]
   try rw [List.take_length]
   exact ⟨_, _, rfl, end0 rfl⟩
theorem spSizeOf_step (kind op : Int) (not : Bool) (val : Val) (qual name : ByteArray) (kids : List Expr) (sub : List Query) (g : Expr → Nat) (hg : ∀ x, below x (Expr.mk kind op not val qual name kids sub) → (Cl Tryz.prog 118 [.ag (csOf x.row)] [] fun r _ => r = vi (g x : Nat)) ∧ g x ≤ szExpr x + 1) (hsz : szExpr (Expr.mk kind op not val qual name kids sub) ≤ 1048576) : Cl Tryz.prog 118 [.ag (csOf (Expr.mk kind op not val qual name kids sub).row)] [] fun r _ => r = vi (ndF g (Expr.mk kind op not val qual name kids sub) : Nat) := by
 have hdl := nd_le (g := g) (fun x hx => (hg x hx).2)
 have hks := hsz
 rw [szExpr_mk, szExprs_eq, szQuerys_eq] at hks
 have e : ndF g (Expr.mk kind op not val qual name kids sub) = 1 + (kids.map g).sum + (sub.map fun q => ((exprsQ q).map g).sum).sum := rfl
 rw [e] at hdl ⊢
 rw [Expr.row_mk]
 refine cl_of_d follows_mixed false Tryz.func118 rfl (by kernel_rfl) ?_
 simp only [Tryz.f118, tt, seval]
 refine dLoop.intro (fun f L p => ∃ i : Nat, f 4 = vi i ∧ i ≤ kids.length ∧ f 3 = vi ((1 + ((kids.take i).map g).sum) : Nat) ∧ L = [(1, .str [.v (.int .i64 kind), .v (.int .i64 op), .v (.bool not), .v (.int .i64 val.kind), .v (.int .i64 val.num), .v (.string val.text), .v (.string qual), .v (.string name), .sl kids.length (kids.flatMap Expr.row) none, .sl sub.length (sub.flatMap Query.row) none])] ∧ p = none) (fun f _ _ => (kids.length - ixS (f 4)).toNat) [(1, .str [.v (.int .i64 kind), .v (.int .i64 op), .v (.bool not), .v (.int .i64 val.kind), .v (.int .i64 val.num), .v (.string val.text), .v (.string qual), .v (.string name), .sl kids.length (kids.flatMap Expr.row) none, .sl sub.length (sub.flatMap Query.row) none])] none ⟨SubO.cons rfl (SubO.nil _), PoSub.none _, ?_⟩ ?_
 ·simp only [tt, seval]
  exact ⟨0, rfl, by omega, by simp⟩
 ·rintro g' L p ⟨i, hix, hi, hac, rfl, rfl⟩
  simp only [tt, seval] at hix hac
  simp only [tt, seval, hix, hac, Int.ofNat_lt]
  refine fun _ => ?_
  refine And.intro (fun hlt => ?_) (fun hge => ?_)
  ·have hlt : i < kids.length := by omega
   have hmem : kids[i] ∈ kids := List.getElem_mem hlt
   refine ⟨by omega, by omega, _, drop_row Expr.row_len (List.getElem?_eq_getElem hlt), Expr.ne _ _, ?_⟩
   simp only [tt, seval, hix, hac, Expr.tk, Expr.row_len]
   refine call0 ((hg _ (.inl hmem)).1) ?_ ?_ ?_
   ·decide
   ·simp only [tt, seval, hix, hac]
   rintro r rfl
   simp only [tt, seval, hix, hac]
   obtain ⟨rst, hrst⟩ := take_sum_le g kids (i + 1)
   rw [wrS i (by omega)]
   have hstep : ((kids.take (i + 1)).map g).sum = ((kids.take i).map g).sum + g kids[i] := sum_snoc g hlt
   rw [wrap_id (by omega) (by omega)]
   skip
   exact ⟨_, none, SubO.cons rfl (SubO.nil _), PoSub.none _, ⟨i + 1, rfl, by omega, viE (by rw [hstep]; omega), rfl, rfl⟩, by simp only [ixS]; omega⟩
  ·have hie : i = kids.length := by omega
   subst hie
   rw [List.take_length] at hac
   try simp only [tt, seval, hix, hac]
   try rw [List.take_length]
   refine dLoop.intro (fun f L p => ∃ i : Nat, f 5 = vi i ∧ i ≤ sub.length ∧ f 3 = vi ((1 + (kids.map g).sum + ((sub.take i).map fun q => ((exprsQ q).map g).sum).sum) : Nat) ∧ L = [(1, .str [.v (.int .i64 kind), .v (.int .i64 op), .v (.bool not), .v (.int .i64 val.kind), .v (.int .i64 val.num), .v (.string val.text), .v (.string qual), .v (.string name), .sl kids.length (kids.flatMap Expr.row) none, .sl sub.length (sub.flatMap Query.row) none])] ∧ p = none) (fun f _ _ => (sub.length - ixS (f 5)).toNat) [(1, .str [.v (.int .i64 kind), .v (.int .i64 op), .v (.bool not), .v (.int .i64 val.kind), .v (.int .i64 val.num), .v (.string val.text), .v (.string qual), .v (.string name), .sl kids.length (kids.flatMap Expr.row) none, .sl sub.length (sub.flatMap Query.row) none])] none ⟨SubO.cons rfl (SubO.nil _), PoSub.none _, ?_⟩ ?_
   ·simp only [tt, seval, hac]
    exact ⟨0, rfl, by omega, by simp⟩
   ·rintro g' L p ⟨i, hix, hi, hac, rfl, rfl⟩
    simp only [tt, seval] at hix hac
    simp only [tt, seval, hix, hac, Int.ofNat_lt]
    refine fun _ => ?_
    refine And.intro (fun hlt => ?_) (fun hge => ?_)
    ·have hlt : i < sub.length := by omega
     have hmem : sub[i] ∈ sub := List.getElem_mem hlt
     refine ⟨by omega, by omega, _, drop_row Query.row_len (List.getElem?_eq_getElem hlt), Query.ne _ _, ?_⟩
     simp only [tt, seval, hix, hac, Query.tk, Query.row_len]
     obtain ⟨rst, hrst⟩ := take_sum_le (fun q => ((exprsQ q).map g).sum) sub (i + 1)
     have hstep : ((sub.take (i + 1)).map fun q => ((exprsQ q).map g).sum).sum = ((sub.take i).map fun q => ((exprsQ q).map g).sum).sum + ((exprsQ sub[i]).map g).sum := sum_snoc _ hlt
     refine call0 (spQuerySize_d sub[i] g (fun x hx => (hg x (.inr ⟨_, hmem, hx⟩)).1) (Nat.le_trans (sub_sz (e := (Expr.mk kind op not val qual name kids sub)) hmem) hsz) (by omega)) ?_ ?_ ?_
     ·decide
     ·simp only [tt, seval, hix, hac]
     rintro r rfl
     simp only [tt, seval, hix, hac]
     rw [wrS i (by omega)]
     rw [wrap_id (by omega) (by omega)]
     skip
     exact ⟨_, none, SubO.cons rfl (SubO.nil _), PoSub.none _, ⟨i + 1, rfl, by omega, viE (by rw [hstep]; omega), rfl, rfl⟩, by simp only [ixS]; omega⟩
    ·have hie : i = sub.length := by omega
     subst hie
     rw [List.take_length] at hac
     try simp only [tt, seval, hix, hac]
     try rw [List.take_length]
     exact ⟨_, _, rfl, end0 rfl⟩
theorem spSizeOf_d (e : Expr) : (szExpr e ≤ 1048576 → Cl Tryz.prog 118 [.ag (csOf e.row)] [] fun r _ => r = vi (ndE e : Nat)) ∧ ndE e ≤ szExpr e + 1 := by
 refine foldE_ind (P := fun e d => (szExpr e ≤ 1048576 → Cl Tryz.prog 118 [.ag (csOf e.row)] [] fun r _ => r = vi (d : Nat)) ∧ d ≤ szExpr e + 1) (fun e g hg => ⟨fun hsz => ?_, nd_le fun x hx => (hg x hx).2⟩) e
 obtain ⟨kind, op, not, val, qual, name, kids, sub⟩ := e
 exact spSizeOf_step kind op not val qual name kids sub g (fun x hx => ⟨(hg x hx).1 (Nat.le_trans (below_sz hx) hsz), (hg x hx).2⟩) hsz
theorem StmtDepth_d (s : Stmt) (hsz : szStmt s ≤ 1048576) : Cl Tryz.prog 92 [.ag (csOf s.row)] [] fun r _ => r = vi (maxL ((stExprs s).map dpE) : Nat) := by
 have hlen := stExprs_len s
 have hm := fun x hx => stExprs_sz (s := s) (x := x) hx
 have hsum := stExprs_sum s
 obtain ⟨kind, ⟨distinct, items, from_, where_, order, limit⟩, table, rows, cols, sets, where2⟩ := s
 have hc := l8Exprs_d kind distinct items from_ where_ order limit table rows cols sets where2 hsz
 generalize stExprs (Stmt.mk kind (Query.mk distinct items from_ where_ order limit) table rows cols sets where2) = l at *
 have hd : ∀ x ∈ l, Cl Tryz.prog 117 [.ag (csOf x.row)] [] fun r _ => r = vi (dpE x : Nat) := fun x hx => (DepthOf_d x).1 (Nat.le_trans (hm x hx) hsz)
 have hsl : (l.map ndE).sum ≤ 2097152 := by
  have := sum_le (l := l) (f := ndE) (g := fun x => szExpr x + 1) fun x _ => (SizeOf_d x).2
  omega
 rw [Stmt.row_mk, Query.row_mk] at hc ⊢
 simp only [List.cons_append, List.nil_append] at hc ⊢
 refine cl_of_d follows_mixed false Tryz.func92 rfl (by kernel_rfl) ?_
 simp only [Tryz.f92, tt, seval]
 refine call0 (hc) ?_ ?_ ?_
 ·decide
 ·simp only [tt, seval]
 rintro r rfl
 simp only [tt, seval]
 refine dLoop.intro (fun f L p => ∃ i : Nat, f 5 = vi i ∧ i ≤ l.length ∧ f 3 = vi (maxL ((l.take i).map dpE) : Nat) ∧ L = [(1, .str [.v (.int .i64 kind), .v (.bool distinct), .sl items.length (items.flatMap Item.row) none, .sl from_.length (from_.flatMap Source.row) none, .sl where_.length (where_.flatMap Expr.row) none, .sl order.length (order.flatMap SortKey.row) none, .v (.int .i64 limit), .v (.string table), .sl rows.length (rows.flatMap ERow.row) none, .sl cols.length (cols.flatMap srow) none, .sl sets.length (sets.flatMap Expr.row) none, .sl where2.length (where2.flatMap Expr.row) none])] ∧ p = none) (fun f _ _ => (l.length - ixS (f 5)).toNat) [(1, .str [.v (.int .i64 kind), .v (.bool distinct), .sl items.length (items.flatMap Item.row) none, .sl from_.length (from_.flatMap Source.row) none, .sl where_.length (where_.flatMap Expr.row) none, .sl order.length (order.flatMap SortKey.row) none, .v (.int .i64 limit), .v (.string table), .sl rows.length (rows.flatMap ERow.row) none, .sl cols.length (cols.flatMap srow) none, .sl sets.length (sets.flatMap Expr.row) none, .sl where2.length (where2.flatMap Expr.row) none])] none ⟨SubO.cons rfl (SubO.nil _), PoSub.none _, ?_⟩ ?_
 ·simp only [tt, seval]
  exact ⟨0, rfl, by omega, by simp [maxL]⟩
 ·rintro g' L p ⟨i, hix, hi, hac, rfl, rfl⟩
  simp only [tt, seval] at hix hac
  simp only [tt, seval, hix, hac, Int.ofNat_lt]
  refine fun _ => ?_
  refine And.intro (fun hlt => ?_) (fun hge => ?_)
  ·have hlt : i < l.length := by omega
   have hmem : l[i] ∈ l := List.getElem_mem hlt
   refine ⟨by omega, by omega, _, drop_row Expr.row_len (List.getElem?_eq_getElem hlt), Expr.ne _ _, ?_⟩
   simp only [tt, seval, hix, hac, Expr.tk, Expr.row_len]
   refine call0 (hd _ hmem) ?_ ?_ ?_
   ·decide
   ·simp only [tt, seval, hix, hac]
   rintro r rfl
   simp only [tt, seval, hix, hac]
   refine call0 (l1Max_d (maxL ((l.take i).map dpE)) (dpE l[i])) ?_ ?_ ?_
   ·decide
   ·simp only [tt, seval, hix, hac]
   rintro r rfl
   simp only [tt, seval, hix, hac]
   rw [wrS i (by omega)]
   have hstep : maxL ((l.take (i + 1)).map dpE) = max (maxL ((l.take i).map dpE)) (dpE l[i]) := by rw [take_map_step dpE hlt, maxL_snoc]
   exact ⟨_, none, SubO.cons rfl (SubO.nil _), PoSub.none _, ⟨i + 1, rfl, by omega, viE (by rw [hstep]), rfl, rfl⟩, by simp only [ixS]; omega⟩
  ·have hie : i = l.length := by omega
   subst hie
   rw [List.take_length] at hac
   try simp only [tt, seval, hix, hac]
   try rw [List.take_length]
   exact ⟨_, _, rfl, end0 rfl⟩
theorem iStmtDepth_d (s : Stmt) (hsz : szStmt s ≤ 1048576) : Cl Tryz.prog 96 [.ag (csOf s.row)] [] fun r _ => r = vi (maxL ((stExprs s).map dpE) : Nat) := by
 have hlen := stExprs_len s
 have hm := fun x hx => stExprs_sz (s := s) (x := x) hx
 have hsum := stExprs_sum s
 obtain ⟨kind, ⟨distinct, items, from_, where_, order, limit⟩, table, rows, cols, sets, where2⟩ := s
 have hc := isexprs_d kind distinct items from_ where_ order limit table rows cols sets where2 hsz
 generalize stExprs (Stmt.mk kind (Query.mk distinct items from_ where_ order limit) table rows cols sets where2) = l at *
 have hd : ∀ x ∈ l, Cl Tryz.prog 163 [.ag (csOf x.row)] [] fun r _ => r = vi (dpE x : Nat) := fun x hx => (iDepthOf_d x).1 (Nat.le_trans (hm x hx) hsz)
 have hsl : (l.map ndE).sum ≤ 2097152 := by
  have := sum_le (l := l) (f := ndE) (g := fun x => szExpr x + 1) fun x _ => (SizeOf_d x).2
  omega
 rw [Stmt.row_mk, Query.row_mk] at hc ⊢
 simp only [List.cons_append, List.nil_append] at hc ⊢
 refine cl_of_d follows_mixed false Tryz.func96 rfl (by kernel_rfl) ?_
 simp only [Tryz.f96, tt, seval]
 refine call0 (hc) ?_ ?_ ?_
 ·decide
 ·simp only [tt, seval]
 rintro r rfl
 simp only [tt, seval]
 refine call0 (deepestOf_d l dpE hd (by omega)) ?_ ?_ ?_
 ·decide
 ·simp only [tt, seval]
 rintro r rfl
 simp only [tt, seval]
 exact ⟨_, _, rfl, end0 rfl⟩
theorem StmtSize_d (s : Stmt) (hsz : szStmt s ≤ 1048576) : Cl Tryz.prog 93 [.ag (csOf s.row)] [] fun r _ => r = vi (((stExprs s).map ndE).sum : Nat) := by
 have hlen := stExprs_len s
 have hm := fun x hx => stExprs_sz (s := s) (x := x) hx
 have hsum := stExprs_sum s
 obtain ⟨kind, ⟨distinct, items, from_, where_, order, limit⟩, table, rows, cols, sets, where2⟩ := s
 have hc := l8Exprs_d kind distinct items from_ where_ order limit table rows cols sets where2 hsz
 generalize stExprs (Stmt.mk kind (Query.mk distinct items from_ where_ order limit) table rows cols sets where2) = l at *
 have hd : ∀ x ∈ l, Cl Tryz.prog 118 [.ag (csOf x.row)] [] fun r _ => r = vi (ndE x : Nat) := fun x hx => (spSizeOf_d x).1 (Nat.le_trans (hm x hx) hsz)
 have hsl : (l.map ndE).sum ≤ 2097152 := by
  have := sum_le (l := l) (f := ndE) (g := fun x => szExpr x + 1) fun x _ => (SizeOf_d x).2
  omega
 rw [Stmt.row_mk, Query.row_mk] at hc ⊢
 simp only [List.cons_append, List.nil_append] at hc ⊢
 refine cl_of_d follows_mixed false Tryz.func93 rfl (by kernel_rfl) ?_
 simp only [Tryz.f93, tt, seval]
 refine call0 (hc) ?_ ?_ ?_
 ·decide
 ·simp only [tt, seval]
 rintro r rfl
 simp only [tt, seval]
 refine dLoop.intro (fun f L p => ∃ i : Nat, f 5 = vi i ∧ i ≤ l.length ∧ f 3 = vi (((l.take i).map ndE).sum : Nat) ∧ L = [(1, .str [.v (.int .i64 kind), .v (.bool distinct), .sl items.length (items.flatMap Item.row) none, .sl from_.length (from_.flatMap Source.row) none, .sl where_.length (where_.flatMap Expr.row) none, .sl order.length (order.flatMap SortKey.row) none, .v (.int .i64 limit), .v (.string table), .sl rows.length (rows.flatMap ERow.row) none, .sl cols.length (cols.flatMap srow) none, .sl sets.length (sets.flatMap Expr.row) none, .sl where2.length (where2.flatMap Expr.row) none])] ∧ p = none) (fun f _ _ => (l.length - ixS (f 5)).toNat) [(1, .str [.v (.int .i64 kind), .v (.bool distinct), .sl items.length (items.flatMap Item.row) none, .sl from_.length (from_.flatMap Source.row) none, .sl where_.length (where_.flatMap Expr.row) none, .sl order.length (order.flatMap SortKey.row) none, .v (.int .i64 limit), .v (.string table), .sl rows.length (rows.flatMap ERow.row) none, .sl cols.length (cols.flatMap srow) none, .sl sets.length (sets.flatMap Expr.row) none, .sl where2.length (where2.flatMap Expr.row) none])] none ⟨SubO.cons rfl (SubO.nil _), PoSub.none _, ?_⟩ ?_
 ·simp only [tt, seval]
  exact ⟨0, rfl, by omega, by simp⟩
 ·rintro g' L p ⟨i, hix, hi, hac, rfl, rfl⟩
  simp only [tt, seval] at hix hac
  simp only [tt, seval, hix, hac, Int.ofNat_lt]
  refine fun _ => ?_
  refine And.intro (fun hlt => ?_) (fun hge => ?_)
  ·have hlt : i < l.length := by omega
   have hmem : l[i] ∈ l := List.getElem_mem hlt
   refine ⟨by omega, by omega, _, drop_row Expr.row_len (List.getElem?_eq_getElem hlt), Expr.ne _ _, ?_⟩
   simp only [tt, seval, hix, hac, Expr.tk, Expr.row_len]
   refine call0 (hd _ hmem) ?_ ?_ ?_
   ·decide
   ·simp only [tt, seval, hix, hac]
   rintro r rfl
   simp only [tt, seval, hix, hac]
   obtain ⟨rst, hrst⟩ := take_sum_le ndE l (i + 1)
   rw [wrS i (by omega)]
   have hstep : ((l.take (i + 1)).map ndE).sum = ((l.take i).map ndE).sum + ndE l[i] := sum_snoc ndE hlt
   rw [wrap_id (by omega) (by omega)]
   skip
   exact ⟨_, none, SubO.cons rfl (SubO.nil _), PoSub.none _, ⟨i + 1, rfl, by omega, viE (by rw [hstep]; omega), rfl, rfl⟩, by simp only [ixS]; omega⟩
  ·have hie : i = l.length := by omega
   subst hie
   rw [List.take_length] at hac
   try simp only [tt, seval, hix, hac]
   try rw [List.take_length]
   exact ⟨_, _, rfl, end0 rfl⟩
theorem iStmtSize_d (s : Stmt) (hsz : szStmt s ≤ 1048576) : Cl Tryz.prog 97 [.ag (csOf s.row)] [] fun r _ => r = vi (((stExprs s).map ndE).sum : Nat) := by
 have hlen := stExprs_len s
 have hm := fun x hx => stExprs_sz (s := s) (x := x) hx
 have hsum := stExprs_sum s
 obtain ⟨kind, ⟨distinct, items, from_, where_, order, limit⟩, table, rows, cols, sets, where2⟩ := s
 have hc := isexprs_d kind distinct items from_ where_ order limit table rows cols sets where2 hsz
 generalize stExprs (Stmt.mk kind (Query.mk distinct items from_ where_ order limit) table rows cols sets where2) = l at *
 have hd : ∀ x ∈ l, Cl Tryz.prog 164 [.ag (csOf x.row)] [] fun r _ => r = vi (ndE x : Nat) := fun x hx => (SizeOf_d x).1 (Nat.le_trans (hm x hx) hsz)
 have hsl : (l.map ndE).sum ≤ 2097152 := by
  have := sum_le (l := l) (f := ndE) (g := fun x => szExpr x + 1) fun x _ => (SizeOf_d x).2
  omega
 rw [Stmt.row_mk, Query.row_mk] at hc ⊢
 simp only [List.cons_append, List.nil_append] at hc ⊢
 refine cl_of_d follows_mixed false Tryz.func97 rfl (by kernel_rfl) ?_
 simp only [Tryz.f97, tt, seval]
 refine call0 (hc) ?_ ?_ ?_
 ·decide
 ·simp only [tt, seval]
 rintro r rfl
 simp only [tt, seval]
 refine call0 (sizeOfAll_d l ndE hd (by omega) hsl) ?_ ?_ ?_
 ·decide
 ·simp only [tt, seval]
 rintro r rfl
 simp only [tt, seval]
 exact ⟨_, _, rfl, end0 rfl⟩
def zQb : Query → Bool | .mk distinct items from_ where_ order limit => decide (distinct = false) && (decide (limit = 0) && (decide (items.length = 0) && (decide (from_.length = 0) && (decide (where_.length = 0) && decide (order.length = 0)))))
theorem EqI0_d (l : List Item) (fg : FuncId) : Cl Tryz.prog 149 [.c (.sl l.length (l.flatMap Item.row) none), .c (.sl 0 [] none), .c (.fn fg [] [])] [] fun r _ => r = vb (decide (l.length = 0)) := by
 refine cl_of_d follows_mixed false Tryz.func149 rfl (by kernel_rfl) ?_
 simp only [Tryz.f149, tt, seval]
 refine fun _ => ?_
 by_cases h : l.length = 0
 case neg =>
  simp only [tt, seval, decide_eq_false (show ¬ (l.length : Int) = 0 by omega)]
  exact ⟨_, _, vbE (decide_eq_false h).symm, end0 rfl⟩
 have hs : l = [] := List.eq_nil_of_length_eq_zero h
 subst hs
 simp only [tt, seval, List.length_nil]
 refine dLoop.intro (fun f L p => f 17 = vi 0 ∧ L = [] ∧ p = none) (fun _ _ _ => 0) [] none ⟨SubO.nil _, PoSub.none _, ?_⟩ ?_
 ·simp only [tt, seval]
 ·rintro g L p ⟨h5', rfl, rfl⟩
  simp only [tt, seval] at h5'
  simp only [tt, seval, h5', List.length_nil]
  try refine fun _ => ?_
  exact ⟨_, _, rfl, end0 rfl⟩
theorem EqS0_d (l : List Source) (fg : FuncId) : Cl Tryz.prog 150 [.c (.sl l.length (l.flatMap Source.row) none), .c (.sl 0 [] none), .c (.fn fg [] [])] [] fun r _ => r = vb (decide (l.length = 0)) := by
 refine cl_of_d follows_mixed false Tryz.func150 rfl (by kernel_rfl) ?_
 simp only [Tryz.f150, tt, seval]
 refine fun _ => ?_
 by_cases h : l.length = 0
 case neg =>
  simp only [tt, seval, decide_eq_false (show ¬ (l.length : Int) = 0 by omega)]
  exact ⟨_, _, vbE (decide_eq_false h).symm, end0 rfl⟩
 have hs : l = [] := List.eq_nil_of_length_eq_zero h
 subst hs
 simp only [tt, seval, List.length_nil]
 refine dLoop.intro (fun f L p => f 17 = vi 0 ∧ L = [] ∧ p = none) (fun _ _ _ => 0) [] none ⟨SubO.nil _, PoSub.none _, ?_⟩ ?_
 ·simp only [tt, seval]
 ·rintro g L p ⟨h5', rfl, rfl⟩
  simp only [tt, seval] at h5'
  simp only [tt, seval, h5', List.length_nil]
  try refine fun _ => ?_
  exact ⟨_, _, rfl, end0 rfl⟩
theorem EqK0_d (l : List SortKey) (fg : FuncId) : Cl Tryz.prog 151 [.c (.sl l.length (l.flatMap SortKey.row) none), .c (.sl 0 [] none), .c (.fn fg [] [])] [] fun r _ => r = vb (decide (l.length = 0)) := by
 refine cl_of_d follows_mixed false Tryz.func151 rfl (by kernel_rfl) ?_
 simp only [Tryz.f151, tt, seval]
 refine fun _ => ?_
 by_cases h : l.length = 0
 case neg =>
  simp only [tt, seval, decide_eq_false (show ¬ (l.length : Int) = 0 by omega)]
  exact ⟨_, _, vbE (decide_eq_false h).symm, end0 rfl⟩
 have hs : l = [] := List.eq_nil_of_length_eq_zero h
 subst hs
 simp only [tt, seval, List.length_nil]
 refine dLoop.intro (fun f L p => f 17 = vi 0 ∧ L = [] ∧ p = none) (fun _ _ _ => 0) [] none ⟨SubO.nil _, PoSub.none _, ?_⟩ ?_
 ·simp only [tt, seval]
 ·rintro g L p ⟨h5', rfl, rfl⟩
  simp only [tt, seval] at h5'
  simp only [tt, seval, h5', List.length_nil]
  try refine fun _ => ?_
  exact ⟨_, _, rfl, end0 rfl⟩
theorem iSameQZ_d (distinct : Bool) (items : List Item) (from_ : List Source) (where_ : List Expr) (order : List SortKey) (limit : Int) : Cl Tryz.prog 98 [.ag (csOf (Query.mk distinct items from_ where_ order limit).row), .ag (csOf (Query.mk false [] [] [] [] 0).row)] [] fun r _ => r = vb (zQb (Query.mk distinct items from_ where_ order limit)) := by
 obtain ⟨zb, hzb⟩ : ∃ zb, zb = zQb (Query.mk distinct items from_ where_ order limit) := ⟨_, rfl⟩
 rw [← hzb, Query.row_mk, Query.row_mk]
 refine cl_of_d follows_mixed false Tryz.func98 rfl (by kernel_rfl) ?_
 simp only [Tryz.f98, tt, seval]
 cases hd : distinct
 case' true =>
  subst hd
  try simp only [tt, seval, bqs]
  exact ⟨_, _, vbE (by rw [hzb]; simp [zQb]), end0 rfl⟩
 try simp only [tt, seval, bqs]
 by_cases h1 : limit = 0
 case neg =>
  try simp only [tt, seval, decide_eq_false h1]
  exact ⟨_, _, vbE (by rw [hzb]; simp [zQb, hd, h1]), end0 rfl⟩
 try simp only [tt, seval, h1, decide_eq_true h1]
 refine call0 (EqI0_d items 144) ?_ ?_ ?_
 ·decide
 ·simp only [tt, seval, Query.row_mk]
 rintro r rfl
 simp only [tt, seval, Query.row_mk]
 by_cases h2 : items.length = 0
 case neg =>
  try simp only [tt, seval, decide_eq_false h2]
  exact ⟨_, _, vbE (by rw [hzb]; simp [zQb, hd, h1, h2]), end0 rfl⟩
 try simp only [tt, seval, decide_eq_true h2]
 refine call0 (EqS0_d from_ 146) ?_ ?_ ?_
 ·decide
 ·simp only [tt, seval, Query.row_mk]
 rintro r rfl
 simp only [tt, seval, Query.row_mk]
 by_cases h3 : from_.length = 0
 case neg =>
  try simp only [tt, seval, decide_eq_false h3]
  exact ⟨_, _, vbE (by rw [hzb]; simp [zQb, hd, h1, h2, h3]), end0 rfl⟩
 try simp only [tt, seval, decide_eq_true h3]
 refine call0 (sameExprs0_d where_) ?_ ?_ ?_
 ·decide
 ·simp only [tt, seval, Query.row_mk]
 rintro r rfl
 simp only [tt, seval, Query.row_mk]
 by_cases h4 : where_.length = 0
 case neg =>
  try simp only [tt, seval, decide_eq_false h4]
  exact ⟨_, _, vbE (by rw [hzb]; simp [zQb, hd, h1, h2, h3, h4]), end0 rfl⟩
 try simp only [tt, seval, decide_eq_true h4]
 refine call0 (EqK0_d order 148) ?_ ?_ ?_
 ·decide
 ·simp only [tt, seval, Query.row_mk]
 rintro r rfl
 simp only [tt, seval, Query.row_mk]
 exact ⟨_, _, vbE (by rw [hzb]; simp [zQb, hd, h1, h2, h3, h4]), end0 rfl⟩
theorem SameQZ_d (distinct : Bool) (items : List Item) (from_ : List Source) (where_ : List Expr) (order : List SortKey) (limit : Int) : Cl Tryz.prog 141 [.ag (csOf (Query.mk distinct items from_ where_ order limit).row), .ag (csOf (Query.mk false [] [] [] [] 0).row)] [] fun r _ => r = vb (zQb (Query.mk distinct items from_ where_ order limit)) := by
 obtain ⟨zb, hzb⟩ : ∃ zb, zb = zQb (Query.mk distinct items from_ where_ order limit) := ⟨_, rfl⟩
 rw [← hzb, Query.row_mk, Query.row_mk]
 refine cl_of_d follows_mixed false Tryz.func141 rfl (by kernel_rfl) ?_
 simp only [Tryz.f141, tt, seval]
 cases hd : distinct
 case' true =>
  subst hd
  try simp only [tt, seval, bqs]
  exact ⟨_, _, vbE (by rw [hzb]; simp [zQb]), end0 rfl⟩
 try simp only [tt, seval, bqs]
 by_cases h1 : limit = 0
 case neg =>
  try simp only [tt, seval, h1, decide_eq_false h1]
  exact ⟨_, _, vbE (by rw [hzb]; simp [zQb, hd, h1]), end0 rfl⟩
 try simp only [tt, seval, h1, decide_eq_true h1]
 refine fun _ => ?_
 by_cases h2 : items.length = 0
 case neg =>
  try simp only [tt, seval, decide_eq_false (show ¬ (items.length : Int) = 0 by omega)]
  exact ⟨_, _, vbE (by rw [hzb]; simp [zQb, hd, h1, h2]), end0 rfl⟩
 try simp only [tt, seval, show (items.length : Int) = 0 from by omega]
 refine fun _ => ?_
 by_cases h3 : from_.length = 0
 case neg =>
  try simp only [tt, seval, decide_eq_false (show ¬ (from_.length : Int) = 0 by omega)]
  exact ⟨_, _, vbE (by rw [hzb]; simp [zQb, hd, h1, h2, h3]), end0 rfl⟩
 try simp only [tt, seval, show (from_.length : Int) = 0 from by omega]
 refine fun _ => ?_
 by_cases h5 : order.length = 0
 case neg =>
  try simp only [tt, seval, decide_eq_false (show ¬ (order.length : Int) = 0 by omega)]
  exact ⟨_, _, vbE (by rw [hzb]; simp [zQb, hd, h1, h2, h3, h5]), end0 rfl⟩
 try simp only [tt, seval, show (order.length : Int) = 0 from by omega]
 refine call0 (l7Same0_d where_) ?_ ?_ ?_
 ·decide
 ·simp only [tt, seval, Query.row_mk]
 rintro r rfl
 simp only [tt, seval, Query.row_mk]
 by_cases h4 : where_.length = 0
 case neg =>
  try simp only [tt, seval, decide_eq_false h4, h4]
  exact ⟨_, _, vbE (by rw [hzb]; simp [zQb, hd, h1, h2, h3, h5, h4]), end0 rfl⟩
 try simp only [tt, seval, decide_eq_true h4]
 subst h1
 refine dLoop.intro (fun f L p => f 5 = vi 0 ∧ L = [(2, .str [.v (.bool false), .sl items.length (items.flatMap Item.row) none, .sl from_.length (from_.flatMap Source.row) none, .sl where_.length (where_.flatMap Expr.row) none, .sl order.length (order.flatMap SortKey.row) none, .v (.int .i64 0)]), (3, .str [.v (.bool false), .sl 0 [] none, .sl 0 [] none, .sl 0 [] none, .sl 0 [] none, .v (.int .i64 0)])] ∧ p = none) (fun _ _ _ => 0) [(2, .str [.v (.bool false), .sl items.length (items.flatMap Item.row) none, .sl from_.length (from_.flatMap Source.row) none, .sl where_.length (where_.flatMap Expr.row) none, .sl order.length (order.flatMap SortKey.row) none, .v (.int .i64 0)]), (3, .str [.v (.bool false), .sl 0 [] none, .sl 0 [] none, .sl 0 [] none, .sl 0 [] none, .v (.int .i64 0)])] none ⟨SubO.cons rfl (SubO.cons rfl (SubO.nil _)), PoSub.none _, ?_⟩ ?_
 ·try simp only [tt, seval]
  try exact ⟨rfl, rfl, rfl⟩
 ·rintro g1 L p ⟨h5', rfl, rfl⟩
  simp only [tt, seval] at h5'
  simp only [tt, seval, h5']
  refine fun _ => And.intro (fun hlt => absurd hlt (by omega)) (fun _ => ?_)
  try simp only [tt, seval, h5']
  refine dLoop.intro (fun f L p => f 8 = vi 0 ∧ L = [(2, .str [.v (.bool false), .sl items.length (items.flatMap Item.row) none, .sl from_.length (from_.flatMap Source.row) none, .sl where_.length (where_.flatMap Expr.row) none, .sl order.length (order.flatMap SortKey.row) none, .v (.int .i64 0)]), (3, .str [.v (.bool false), .sl 0 [] none, .sl 0 [] none, .sl 0 [] none, .sl 0 [] none, .v (.int .i64 0)])] ∧ p = none) (fun _ _ _ => 0) [(2, .str [.v (.bool false), .sl items.length (items.flatMap Item.row) none, .sl from_.length (from_.flatMap Source.row) none, .sl where_.length (where_.flatMap Expr.row) none, .sl order.length (order.flatMap SortKey.row) none, .v (.int .i64 0)]), (3, .str [.v (.bool false), .sl 0 [] none, .sl 0 [] none, .sl 0 [] none, .sl 0 [] none, .v (.int .i64 0)])] none ⟨SubO.cons rfl (SubO.cons rfl (SubO.nil _)), PoSub.none _, ?_⟩ ?_
  ·try simp only [tt, seval]
   try exact ⟨rfl, rfl, rfl⟩
  ·rintro g2 L p ⟨h8', rfl, rfl⟩
   simp only [tt, seval] at h8'
   simp only [tt, seval, h8']
   refine fun _ => And.intro (fun hlt => absurd hlt (by omega)) (fun _ => ?_)
   try simp only [tt, seval, h8']
   refine dLoop.intro (fun f L p => f 11 = vi 0 ∧ L = [(2, .str [.v (.bool false), .sl items.length (items.flatMap Item.row) none, .sl from_.length (from_.flatMap Source.row) none, .sl where_.length (where_.flatMap Expr.row) none, .sl order.length (order.flatMap SortKey.row) none, .v (.int .i64 0)]), (3, .str [.v (.bool false), .sl 0 [] none, .sl 0 [] none, .sl 0 [] none, .sl 0 [] none, .v (.int .i64 0)])] ∧ p = none) (fun _ _ _ => 0) [(2, .str [.v (.bool false), .sl items.length (items.flatMap Item.row) none, .sl from_.length (from_.flatMap Source.row) none, .sl where_.length (where_.flatMap Expr.row) none, .sl order.length (order.flatMap SortKey.row) none, .v (.int .i64 0)]), (3, .str [.v (.bool false), .sl 0 [] none, .sl 0 [] none, .sl 0 [] none, .sl 0 [] none, .v (.int .i64 0)])] none ⟨SubO.cons rfl (SubO.cons rfl (SubO.nil _)), PoSub.none _, ?_⟩ ?_
   ·try simp only [tt, seval]
    try exact ⟨rfl, rfl, rfl⟩
   ·rintro g3 L p ⟨h11', rfl, rfl⟩
    simp only [tt, seval] at h11'
    simp only [tt, seval, h11']
    refine fun _ => And.intro (fun hlt => absurd hlt (by omega)) (fun _ => ?_)
    try simp only [tt, seval, h11']
    exact ⟨_, _, vbE (by rw [hzb]; simp [zQb, hd, h2, h3, h5, h4]), end0 rfl⟩
noncomputable def smB (s : Stmt) : Bool := decide (maxL ((stExprs s).map dpE) ≤ 24) && decide (((stExprs s).map ndE).sum ≤ 200)
def r12 (x : ERow) : Bool := decide (1 ≤ x.l.length ∧ x.l.length ≤ 12)
def tail2 (f : Bool) (kind : Int) (rows : List ERow) (cols : List ByteArray) (sets where2 : List Expr) : Bool :=
 if kind = 2 then decide (cols.length = 0) && (decide (sets.length = 0) && (decide (where2.length = 0) && (decide (1 ≤ rows.length) && (decide (rows.length ≤ 5) && rows.all r12))))
 else if kind = 3 then decide (rows.length = 0) && (decide (1 ≤ cols.length) && (decide (cols.length ≤ 12) && (decide (sets.length = cols.length) && (decide (where2.length ≤ 1) && cols.all nameB))))
 else if kind = 4 then decide (rows.length = 0) && (decide (cols.length = 0) && (decide (sets.length = 0) && decide (where2.length ≤ 1))) else false
noncomputable def shI (s : Stmt) : Bool := match s with
 | .mk kind q table rows cols sets where2 => if kind = 1 then decide (table = ⟨#[]⟩) && (decide (rows.length = 0) && (decide (cols.length = 0) && (decide (sets.length = 0) && (decide (where2.length = 0) && fmQ fmE q))))
  else zQb q && (nameB table && ((stExprs s).all fmE && tail2 true kind rows cols sets where2))
noncomputable def stOk (s : Stmt) : Bool := smB s && shI s
theorem so1_d (x : ERow) (hl : x.l.length ≤ 1048576) : Cl Tryz.prog 103 [.c (.sl x.l.length (x.l.flatMap Expr.row) none)] [] fun r _ => r = vb (!r12 x) := by
 refine cl_of_d follows_mixed false Tryz.func103 rfl (by kernel_rfl) ?_
 simp only [Tryz.f103, tt, seval]
 refine fun _ => ?_
 by_cases h1 : (x.l.length : Int) < 1
 ·simp only [tt, seval, decide_eq_true h1]
  exact ⟨_, _, vbE (by unfold r12; rw [decide_eq_false (by omega)]; rfl), end0 rfl⟩
 ·simp only [tt, seval, decide_eq_false h1]
  refine fun _ => ?_
  by_cases h2 : (12 : Int) < x.l.length
  ·try simp only [tt, seval, decide_eq_true h2]
   exact ⟨_, _, vbE (by unfold r12; rw [decide_eq_false (by omega)]; simp [h2]), end0 rfl⟩
  ·try simp only [tt, seval, decide_eq_false h2]
   exact ⟨_, _, vbE (by unfold r12; rw [decide_eq_true (by omega)]; simp [h2]), end0 rfl⟩
theorem so2_d (s : ByteArray) : Cl Tryz.prog 105 [vs s] [] fun r _ => r = vb (!nameB s) := by
 refine cl_of_d follows_mixed false Tryz.func105 rfl (by kernel_rfl) ?_
 simp only [Tryz.f105, tt, seval]
 refine call0 (iNameOk_d s) ?_ ?_ ?_
 ·decide
 ·simp only [tt, seval]
 rintro r rfl
 simp only [tt, seval]
 exact ⟨_, _, rfl, end0 rfl⟩
theorem IndexR_d (l : List ERow) (g : ERow → Bool) (h : ∀ x ∈ l, Cl Tryz.prog 103 [.c (.sl x.l.length (x.l.flatMap Expr.row) none)] [] fun r _ => r = vb (!g x)) : Cl Tryz.prog 155 [.c (.sl l.length (l.flatMap ERow.row) none), .c (.fn 103 [] [])] [] fun r _ => ∃ n : Int, r = vi n ∧ decide (0 ≤ n) = !(l.all g) := by
 refine cl_of_d follows_mixed false Tryz.func155 rfl (by kernel_rfl) ?_
 simp only [Tryz.f155, tt, seval]
 refine fun _ => ?_
 refine dLoop.intro (fun f L p => ∃ i : Nat, f 8 = vi i ∧ i ≤ l.length ∧ (∀ j (hj : j < l.length), j < i → g l[j] = true) ∧ L = [] ∧ p = none) (fun f _ _ => (l.length - ixS (f 8)).toNat) [] none ⟨SubO.nil _, PoSub.none _, ?_⟩ ?_
 ·simp only [tt, seval]
  exact ⟨0, rfl, by omega, fun j _ h => absurd h (Nat.not_lt_zero _)⟩
 ·rintro g' L p ⟨i, hix, hi, hall, rfl, rfl⟩
  simp only [tt, seval] at hix
  simp only [tt, seval, hix, Int.ofNat_lt]
  refine And.intro (fun hlt => ?_) (fun hge => ?_)
  ·refine ⟨by omega, by omega, _, drop_row ERow.row_len (List.getElem?_eq_getElem hlt), ERow.ne _ _, ?_⟩
   simp only [tt, seval, hix, ERow.tk, ERow.row_len, erowE]
   refine call0 (h l[i] (List.getElem_mem hlt)) ?_ ?_ ?_
   ·decide
   ·simp only [tt, seval, hix]
   rintro r rfl
   simp only [tt, seval, hix]
   refine And.intro (fun hb => ?_) (fun hb => ?_)
   ·have hb : g l[i] = false := by simpa only [Bool.not_eq_true'] using hb
    refine ⟨vi i, [], ⟨i, rfl, ?_⟩, end0 rfl⟩
    rw [decide_eq_true (by omega), all_false (List.getElem_mem hlt) hb]; rfl
   ·have hb : g l[i] = true := by simpa only [Bool.not_eq_false'] using hb
    try rw [wrS i (by omega)]
    exact ⟨_, none, SubO.nil _, PoSub.none _, ⟨i + 1, rfl, by omega, fun j hj hji => by
     by_cases e : j = i
     ·subst e; exact hb
     ·exact hall j hj (by omega), rfl, rfl⟩, by simp only [ixS]; omega⟩
  ·refine ⟨vi (-1), [], ⟨-1, rfl, ?_⟩, end0 rfl⟩
   rw [all_true fun j hj => hall j hj (by omega)]; rfl
theorem ContainsR_d (l : List ERow) (g : ERow → Bool) (h : ∀ x ∈ l, Cl Tryz.prog 103 [.c (.sl x.l.length (x.l.flatMap Expr.row) none)] [] fun r _ => r = vb (!g x)) : Cl Tryz.prog 102 [.c (.sl l.length (l.flatMap ERow.row) none), .c (.fn 103 [] [])] [] fun r _ => r = vb (!(l.all g)) := by
 refine cl_of_d follows_mixed false Tryz.func102 rfl (by kernel_rfl) ?_
 simp only [Tryz.f102, tt, seval]
 refine call0 (IndexR_d l g h) ?_ ?_ ?_
 ·decide
 ·simp only [tt, seval]
 rintro r ⟨n, rfl, hn⟩
 simp only [tt, seval]
 exact ⟨_, _, vbE hn, end0 rfl⟩
theorem IndexT_d (l : List ByteArray) (g : ByteArray → Bool) (h : ∀ x ∈ l, Cl Tryz.prog 105 [vs x] [] fun r _ => r = vb (!g x)) : Cl Tryz.prog 156 [.c (.sl l.length (l.flatMap srow) none), .c (.fn 105 [] [])] [] fun r _ => ∃ n : Int, r = vi n ∧ decide (0 ≤ n) = !(l.all g) := by
 refine cl_of_d follows_mixed false Tryz.func156 rfl (by kernel_rfl) ?_
 simp only [Tryz.f156, tt, seval]
 refine fun _ => ?_
 refine dLoop.intro (fun f L p => ∃ i : Nat, f 8 = vi i ∧ i ≤ l.length ∧ (∀ j (hj : j < l.length), j < i → g l[j] = true) ∧ L = [] ∧ p = none) (fun f _ _ => (l.length - ixS (f 8)).toNat) [] none ⟨SubO.nil _, PoSub.none _, ?_⟩ ?_
 ·simp only [tt, seval]
  exact ⟨0, rfl, by omega, fun j _ h => absurd h (Nat.not_lt_zero _)⟩
 ·rintro g' L p ⟨i, hix, hi, hall, rfl, rfl⟩
  simp only [tt, seval] at hix
  simp only [tt, seval, hix, Int.ofNat_lt]
  refine And.intro (fun hlt => ?_) (fun hge => ?_)
  ·refine ⟨by omega, by omega, _, drop_row srow_len (List.getElem?_eq_getElem hlt), srow_ne _ _, ?_⟩
   simp only [tt, seval, hix, srow_tk, srow]
   refine call0 (h l[i] (List.getElem_mem hlt)) ?_ ?_ ?_
   ·decide
   ·simp only [tt, seval, hix]
   rintro r rfl
   simp only [tt, seval, hix]
   refine And.intro (fun hb => ?_) (fun hb => ?_)
   ·have hb : g l[i] = false := by simpa only [Bool.not_eq_true'] using hb
    refine ⟨vi i, [], ⟨i, rfl, ?_⟩, end0 rfl⟩
    rw [decide_eq_true (by omega), all_false (List.getElem_mem hlt) hb]; rfl
   ·have hb : g l[i] = true := by simpa only [Bool.not_eq_false'] using hb
    try rw [wrS i (by omega)]
    exact ⟨_, none, SubO.nil _, PoSub.none _, ⟨i + 1, rfl, by omega, fun j hj hji => by
     by_cases e : j = i
     ·subst e; exact hb
     ·exact hall j hj (by omega), rfl, rfl⟩, by simp only [ixS]; omega⟩
  ·refine ⟨vi (-1), [], ⟨-1, rfl, ?_⟩, end0 rfl⟩
   rw [all_true fun j hj => hall j hj (by omega)]; rfl
theorem ContT_d (l : List ByteArray) (g : ByteArray → Bool) (h : ∀ x ∈ l, Cl Tryz.prog 105 [vs x] [] fun r _ => r = vb (!g x)) : Cl Tryz.prog 104 [.c (.sl l.length (l.flatMap srow) none), .c (.fn 105 [] [])] [] fun r _ => r = vb (!(l.all g)) := by
 refine cl_of_d follows_mixed false Tryz.func104 rfl (by kernel_rfl) ?_
 simp only [Tryz.f104, tt, seval]
 refine call0 (IndexT_d l g h) ?_ ?_ ?_
 ·decide
 ·simp only [tt, seval]
 rintro r ⟨n, rfl, hn⟩
 simp only [tt, seval]
 exact ⟨_, _, vbE hn, end0 rfl⟩
set_option maxHeartbeats 2000000 in
theorem iStmtOk_d (s : Stmt) (hsz : szStmt s ≤ 1048576) : Cl Tryz.prog 48 [.ag (csOf s.row)] [] fun r _ => r = vb (stOk s) := by
 have cd := iStmtDepth_d s hsz
 have cs := iStmtSize_d s hsz
 have hex := fun x hx => stExprs_sz (s := s) (x := x) hx
 obtain ⟨zb, hzb⟩ : ∃ zb, zb = stOk s := ⟨_, rfl⟩
 rw [← hzb]
 have hsmd : smB s = (decide (maxL ((stExprs s).map dpE) ≤ 24) && decide (((stExprs s).map ndE).sum ≤ 200)) := rfl
 generalize maxL ((stExprs s).map dpE) = dp at *
 generalize ((stExprs s).map ndE).sum = nn at *
 obtain ⟨kind, ⟨distinct, items, from_, where_, order, limit⟩, table, rows, cols, sets, where2⟩ := s
 have ce := isexprs_d kind distinct items from_ where_ order limit table rows cols sets where2 hsz
 have hss := hsz
 rw [szStmt_mk] at hss
 have hqs : szQuery (Query.mk distinct items from_ where_ order limit) ≤ 1048576 := by omega
 have hrn := rows_len rows
 have hr9 : (rows.length ≤ 9223372036854775807) = True := eq_true (by omega)
 have hc9 : (cols.length ≤ 9223372036854775807) = True := eq_true (by unfold szTexts at hss; omega)
 have hs9 : (sets.length ≤ 9223372036854775807) = True := eq_true (by rw [szExprs_eq, szExprs_eq] at hss; omega)
 have hw9 : (where2.length ≤ 9223372036854775807) = True := eq_true (by rw [szExprs_eq, szExprs_eq] at hss; omega)
 have cq := isFormedQuery_d (Query.mk distinct items from_ where_ order limit) fmE (fun x hx => isFormed_d x (Nat.le_trans (exprsQ_sz hx) hqs)) hqs
 have ca := areFormed_d (stExprs (Stmt.mk kind (Query.mk distinct items from_ where_ order limit) table rows cols sets where2)) fmE (fun x hx => isFormed_d x (Nat.le_trans (hex x hx) hsz))
 have cz := iSameQZ_d distinct items from_ where_ order limit
 have cr := ContainsR_d rows r12 (fun x hx => so1_d x (by have := mem_sz szERow hx; rw [szERow_eq, szExprs_eq] at this; rw [szERows_eq] at hss; omega))
 have ct := ContT_d cols nameB (fun x _ => so2_d x)
 rw [Query.row_mk] at cq cz
 rw [Stmt.row_mk, Query.row_mk] at cd cs ce ⊢
 simp only [List.cons_append, List.nil_append] at cd cs ce ⊢
 refine cl_of_d follows_mixed false Tryz.func48 rfl (by kernel_rfl) ?_
 simp only [Tryz.f48, tt, seval]
 refine dDrawn.intro [] (pln [0, 4, 3, 7, 9, 10]) (by kernel_rfl) ?_
 simp only [tt, seval]
 refine call0 (cd) ?_ ?_ ?_
 ·decide
 ·simp only [tt, seval]
 rintro r rfl
 simp only [tt, seval]
 refine call0 (cs) ?_ ?_ ?_
 ·decide
 ·simp only [tt, seval]
 rintro r rfl
 simp only [tt, seval]
 refine call0 (isSmall_d dp nn) ?_ ?_ ?_
 ·decide
 ·simp only [tt, seval]
 rintro r rfl
 simp only [tt, seval]
 rw [← hsmd]
 cases hsm : smB (Stmt.mk kind (Query.mk distinct items from_ where_ order limit) table rows cols sets where2)
 case false =>
  simp only [tt, seval, hsm]
  exact ⟨_, _, vbE (by rw [hzb]; simp [stOk, hsm]), end0 rfl⟩
 simp only [tt, seval, hsm]
 refine And.intro (fun k1 => ?_) (fun k1 => ?_)
 ·try simp only [tt, seval]
  by_cases ht : table = ⟨#[]⟩
  case neg =>
   try simp only [tt, seval, decide_eq_false ht, hr9, hc9, hs9, hw9]
   exact ⟨_, _, vbE (by rw [hzb, stOk, hsm, Bool.true_and]; simp [shI, k1, ht]; try omega), end0 rfl⟩
  try simp only [tt, seval, decide_eq_true ht, hr9, hc9, hs9, hw9]
  by_cases h1 : rows.length = 0
  case neg =>
   try simp only [tt, seval, decide_eq_false (show ¬ (rows.length : Int) = 0 by omega), hr9, hc9, hs9, hw9]
   exact ⟨_, _, vbE (by rw [hzb, stOk, hsm, Bool.true_and]; simp [shI, k1, ht, h1]; try omega), end0 rfl⟩
  try simp only [tt, seval, decide_eq_true (show (rows.length : Int) = 0 by omega), hr9, hc9, hs9, hw9]
  by_cases h2 : cols.length = 0
  case neg =>
   try simp only [tt, seval, decide_eq_false (show ¬ (cols.length : Int) = 0 by omega), hr9, hc9, hs9, hw9]
   exact ⟨_, _, vbE (by rw [hzb, stOk, hsm, Bool.true_and]; simp [shI, k1, ht, h1, h2]; try omega), end0 rfl⟩
  try simp only [tt, seval, decide_eq_true (show (cols.length : Int) = 0 by omega), hr9, hc9, hs9, hw9]
  by_cases h3 : sets.length = 0
  case neg =>
   try simp only [tt, seval, decide_eq_false (show ¬ (sets.length : Int) = 0 by omega), hr9, hc9, hs9, hw9]
   exact ⟨_, _, vbE (by rw [hzb, stOk, hsm, Bool.true_and]; simp [shI, k1, ht, h1, h2, h3]; try omega), end0 rfl⟩
  try simp only [tt, seval, decide_eq_true (show (sets.length : Int) = 0 by omega), hr9, hc9, hs9, hw9]
  by_cases h4 : where2.length = 0
  case neg =>
   try simp only [tt, seval, decide_eq_false (show ¬ (where2.length : Int) = 0 by omega), hr9, hc9, hs9, hw9]
   exact ⟨_, _, vbE (by rw [hzb, stOk, hsm, Bool.true_and]; simp [shI, k1, ht, h1, h2, h3, h4]; try omega), end0 rfl⟩
  try simp only [tt, seval, decide_eq_true (show (where2.length : Int) = 0 by omega), hr9, hc9, hs9, hw9]
  refine call0 (cq) ?_ ?_ ?_
  ·decide
  ·simp only [tt, seval, Query.row_mk, hr9, hc9, hs9, hw9]
  rintro r rfl
  simp only [tt, seval, Query.row_mk, hr9, hc9, hs9, hw9]
  exact ⟨_, _, vbE (by rw [hzb, stOk, hsm, Bool.true_and]; simp [shI, k1, ht, h1, h2, h3, h4]; try omega), end0 rfl⟩
 try simp only [tt, seval]
 refine call0 (cz) ?_ ?_ ?_
 ·decide
 ·simp only [tt, seval, Query.row_mk, hr9, hc9, hs9, hw9]
 rintro r rfl
 simp only [tt, seval, Query.row_mk, hr9, hc9, hs9, hw9]
 cases hz : zQb (Query.mk distinct items from_ where_ order limit)
 case false =>
  simp only [tt, seval, hz, hr9, hc9, hs9, hw9]
  exact ⟨_, _, vbE (by rw [hzb, stOk, hsm, Bool.true_and]; simp [shI, k1, hz]; try omega), end0 rfl⟩
 simp only [tt, seval, hz, hr9, hc9, hs9, hw9]
 refine call0 (iNameOk_d table) ?_ ?_ ?_
 ·decide
 ·simp only [tt, seval, hr9, hc9, hs9, hw9]
 rintro r rfl
 simp only [tt, seval, hr9, hc9, hs9, hw9]
 cases hn : decide (1 ≤ table.size ∧ table.size ≤ 20)
 case false =>
  simp only [tt, seval, hn, hr9, hc9, hs9, hw9]
  exact ⟨_, _, vbE (by rw [hzb, stOk, hsm, Bool.true_and]; simp [shI, k1, hz, hn, nameB]; try omega), end0 rfl⟩
 simp only [tt, seval, hn, hr9, hc9, hs9, hw9]
 refine call0 (ce) ?_ ?_ ?_
 ·decide
 ·simp only [tt, seval, hr9, hc9, hs9, hw9]
 rintro r rfl
 simp only [tt, seval, hr9, hc9, hs9, hw9]
 refine call0 (ca) ?_ ?_ ?_
 ·decide
 ·simp only [tt, seval, hr9, hc9, hs9, hw9]
 rintro r rfl
 simp only [tt, seval, hr9, hc9, hs9, hw9]
 cases hf : (stExprs (Stmt.mk kind (Query.mk distinct items from_ where_ order limit) table rows cols sets where2)).all fmE
 case false =>
  simp only [tt, seval, hf, hr9, hc9, hs9, hw9]
  exact ⟨_, _, vbE (by rw [hzb, stOk, hsm, shI, if_neg k1, hz, hf, Bool.false_and, Bool.and_false]; rfl), end0 rfl⟩
 simp only [tt, seval, hf, hr9, hc9, hs9, hw9]
 have hzb : zb = tail2 true kind rows cols sets where2 := by rw [hzb, stOk, hsm, shI, if_neg k1, hz, hf, nameB, hn]; rfl
 refine And.intro (fun k2 => ?_) (fun k2 => ?_)
 ·try simp only [tt, seval, hr9, hc9, hs9, hw9]
  by_cases h2 : cols.length = 0
  case neg =>
   try simp only [tt, seval, decide_eq_false (show ¬ (cols.length : Int) = 0 by omega), hr9, hc9, hs9, hw9]
   exact ⟨_, _, vbE (by rw [hzb]; simp [tail2, k2, h2]; try omega), end0 rfl⟩
  try simp only [tt, seval, decide_eq_true (show (cols.length : Int) = 0 by omega), hr9, hc9, hs9, hw9]
  by_cases h3 : sets.length = 0
  case neg =>
   try simp only [tt, seval, decide_eq_false (show ¬ (sets.length : Int) = 0 by omega), hr9, hc9, hs9, hw9]
   exact ⟨_, _, vbE (by rw [hzb]; simp [tail2, k2, h2, h3]; try omega), end0 rfl⟩
  try simp only [tt, seval, decide_eq_true (show (sets.length : Int) = 0 by omega), hr9, hc9, hs9, hw9]
  by_cases h4 : where2.length = 0
  case neg =>
   try simp only [tt, seval, decide_eq_false (show ¬ (where2.length : Int) = 0 by omega), hr9, hc9, hs9, hw9]
   exact ⟨_, _, vbE (by rw [hzb]; simp [tail2, k2, h2, h3, h4]; try omega), end0 rfl⟩
  try simp only [tt, seval, decide_eq_true (show (where2.length : Int) = 0 by omega), hr9, hc9, hs9, hw9]
  by_cases h5 : 1 ≤ rows.length
  case neg =>
   try simp only [tt, seval, decide_eq_false (show ¬ (1 : Int) ≤ rows.length by omega), hr9, hc9, hs9, hw9]
   exact ⟨_, _, vbE (by rw [hzb]; simp [tail2, k2, h2, h3, h4, h5]; try omega), end0 rfl⟩
  try simp only [tt, seval, decide_eq_true (show (1 : Int) ≤ rows.length by omega), hr9, hc9, hs9, hw9]
  by_cases h6 : rows.length ≤ 5
  case neg =>
   try simp only [tt, seval, decide_eq_false (show ¬ (rows.length : Int) ≤ 5 by omega), hr9, hc9, hs9, hw9]
   exact ⟨_, _, vbE (by rw [hzb]; simp [tail2, k2, h2, h3, h4, h5, h6]; try omega), end0 rfl⟩
  try simp only [tt, seval, decide_eq_true (show (rows.length : Int) ≤ 5 by omega), hr9, hc9, hs9, hw9]
  refine call0 (cr) ?_ ?_ ?_
  ·decide
  ·simp only [tt, seval, hr9, hc9, hs9, hw9]
  rintro r rfl
  simp only [tt, seval, hr9, hc9, hs9, hw9]
  exact ⟨_, _, vbE (by rw [hzb]; simp [tail2, k2, h2, h3, h4, h5, h6]; try omega), end0 rfl⟩
 try simp only [tt, seval, hr9, hc9, hs9, hw9]
 refine And.intro (fun k3 => ?_) (fun k3 => ?_)
 ·try simp only [tt, seval, hr9, hc9, hs9, hw9]
  by_cases h1 : rows.length = 0
  case neg =>
   try simp only [tt, seval, decide_eq_false (show ¬ (rows.length : Int) = 0 by omega), hr9, hc9, hs9, hw9]
   exact ⟨_, _, vbE (by rw [hzb]; simp [tail2, k2, k3, h1]; try omega), end0 rfl⟩
  try simp only [tt, seval, decide_eq_true (show (rows.length : Int) = 0 by omega), hr9, hc9, hs9, hw9]
  by_cases h2 : 1 ≤ cols.length
  case neg =>
   try simp only [tt, seval, decide_eq_false (show ¬ (1 : Int) ≤ cols.length by omega), hr9, hc9, hs9, hw9]
   exact ⟨_, _, vbE (by rw [hzb]; simp [tail2, k2, k3, h1, h2]; try omega), end0 rfl⟩
  try simp only [tt, seval, decide_eq_true (show (1 : Int) ≤ cols.length by omega), hr9, hc9, hs9, hw9]
  by_cases h3 : cols.length ≤ 12
  case neg =>
   try simp only [tt, seval, decide_eq_false (show ¬ (cols.length : Int) ≤ 12 by omega), hr9, hc9, hs9, hw9]
   exact ⟨_, _, vbE (by rw [hzb]; simp [tail2, k2, k3, h1, h2, h3]; try omega), end0 rfl⟩
  try simp only [tt, seval, decide_eq_true (show (cols.length : Int) ≤ 12 by omega), hr9, hc9, hs9, hw9]
  by_cases h4 : sets.length = cols.length
  case neg =>
   try simp only [tt, seval, decide_eq_false (show ¬ (sets.length : Int) = cols.length by omega), hr9, hc9, hs9, hw9]
   exact ⟨_, _, vbE (by rw [hzb]; simp [tail2, k2, k3, h1, h2, h3, h4]; try omega), end0 rfl⟩
  try simp only [tt, seval, decide_eq_true (show (sets.length : Int) = cols.length by omega), hr9, hc9, hs9, hw9]
  by_cases h5 : where2.length ≤ 1
  case neg =>
   try simp only [tt, seval, decide_eq_false (show ¬ (where2.length : Int) ≤ 1 by omega), hr9, hc9, hs9, hw9]
   exact ⟨_, _, vbE (by rw [hzb]; simp [tail2, k2, k3, h1, h2, h3, h4, h5]; try omega), end0 rfl⟩
  try simp only [tt, seval, decide_eq_true (show (where2.length : Int) ≤ 1 by omega), hr9, hc9, hs9, hw9]
  refine call0 (ct) ?_ ?_ ?_
  ·decide
  ·simp only [tt, seval, hr9, hc9, hs9, hw9]
  rintro r rfl
  simp only [tt, seval, hr9, hc9, hs9, hw9]
  exact ⟨_, _, vbE (by rw [hzb]; simp [tail2, k2, k3, h1, h2, h3, h4, h5]; try omega), end0 rfl⟩
 try simp only [tt, seval, hr9, hc9, hs9, hw9]
 refine And.intro (fun k4 => ?_) (fun k4 => ?_)
 ·try simp only [tt, seval, hr9, hc9, hs9, hw9]
  by_cases h1 : rows.length = 0
  case neg =>
   try simp only [tt, seval, decide_eq_false (show ¬ (rows.length : Int) = 0 by omega), hr9, hc9, hs9, hw9]
   exact ⟨_, _, vbE (by rw [hzb]; simp [tail2, k2, k3, k4, h1]; try omega), end0 rfl⟩
  try simp only [tt, seval, decide_eq_true (show (rows.length : Int) = 0 by omega), hr9, hc9, hs9, hw9]
  by_cases h2 : cols.length = 0
  case neg =>
   try simp only [tt, seval, decide_eq_false (show ¬ (cols.length : Int) = 0 by omega), hr9, hc9, hs9, hw9]
   exact ⟨_, _, vbE (by rw [hzb]; simp [tail2, k2, k3, k4, h1, h2]; try omega), end0 rfl⟩
  try simp only [tt, seval, decide_eq_true (show (cols.length : Int) = 0 by omega), hr9, hc9, hs9, hw9]
  by_cases h3 : sets.length = 0
  case neg =>
   try simp only [tt, seval, decide_eq_false (show ¬ (sets.length : Int) = 0 by omega), hr9, hc9, hs9, hw9]
   exact ⟨_, _, vbE (by rw [hzb]; simp [tail2, k2, k3, k4, h1, h2, h3]; try omega), end0 rfl⟩
  try simp only [tt, seval, decide_eq_true (show (sets.length : Int) = 0 by omega), hr9, hc9, hs9, hw9]
  exact ⟨_, _, vbE (by rw [hzb]; simp [tail2, k2, k3, k4, h1, h2, h3]; try omega), end0 rfl⟩
 exact ⟨_, _, vbE (by rw [hzb]; simp [tail2, k2, k3, k4]; try omega), end0 rfl⟩
noncomputable def qokB (q : Query) : Bool := fmQ fmE q && (decide (maxL ((exprsQ q).map dpE) ≤ 24) && decide (((exprsQ q).map ndE).sum ≤ 200))
noncomputable def rS (x : ERow) : Bool := r12 x && x.l.all okE
noncomputable def shS (s : Stmt) : Bool := match s with
 | .mk kind q table rows cols sets where2 => if kind = 1 then qokB q && (decide (table = ⟨#[]⟩) && decide (rows.length + cols.length + sets.length + where2.length = 0))
  else if kind = 2 then rows.all rS && (zQb q && (nameB table && (decide (1 ≤ rows.length ∧ rows.length ≤ 5) && decide (cols.length + sets.length + where2.length = 0))))
  else if kind = 3 then cols.all nameB && (zQb q && (nameB table && (decide (rows.length = 0) && (decide (1 ≤ cols.length ∧ cols.length ≤ 12) && (decide (sets.length = cols.length) && (decide (where2.length ≤ 1) && (sets.all okE && where2.all okE)))))))
  else if kind = 4 then zQb q && (nameB table && (decide (rows.length + cols.length + sets.length = 0) && (decide (where2.length ≤ 1) && where2.all okE))) else false
theorem l8All_d (l : List Expr) (hl : l.length ≤ 1048576) (h : ∀ x ∈ l, szExpr x ≤ 1048576) : Cl Tryz.prog 142 [.c (.sl l.length (l.flatMap Expr.row) none)] [] fun r _ => r = vb (l.all okE) := by
 obtain ⟨zb, hzb⟩ : ∃ zb, zb = l.all okE := ⟨_, rfl⟩
 rw [← hzb]
 refine cl_of_d follows_mixed false Tryz.func142 rfl (by kernel_rfl) ?_
 simp only [Tryz.f142, tt, seval]
 refine dLoop.intro (fun f L p => ∃ i : Nat, f 3 = vi i ∧ i ≤ l.length ∧ (∀ j (hj : j < l.length), j < i → okE l[j] = true) ∧ L = [] ∧ p = none) (fun f _ _ => (l.length - ixS (f 3)).toNat) [] none ⟨SubO.nil _, PoSub.none _, ?_⟩ ?_
 ·simp only [tt, seval]
  exact ⟨0, rfl, by omega, fun j _ h => absurd h (Nat.not_lt_zero _)⟩
 ·rintro g' L p ⟨i, ix, hi, hal, rfl, rfl⟩
  simp only [tt, seval] at ix
  simp only [tt, seval, ix, Int.ofNat_lt]
  refine fun _ => And.intro (fun hlt => ?_) (fun hge => ?_)
  ·have hlt : i < l.length := by omega
   refine ⟨by omega, by omega, _, drop_row Expr.row_len (List.getElem?_eq_getElem hlt), Expr.ne _ _, ?_⟩
   simp only [tt, seval, ix, Expr.tk, Expr.row_len]
   refine call0 (ExprOk_d l[i] (h _ (List.getElem_mem hlt))) ?_ ?_ ?_
   ·decide
   ·simp only [tt, seval, ix]
   rintro r rfl
   simp only [tt, seval, ix]
   refine And.intro (fun hb => ?_) (fun hb => ?_)
   ·have hb : okE l[i] = false := by simpa only [Bool.not_eq_true'] using hb
    exact ⟨_, _, vbE (by rw [hzb, all_false (List.getElem_mem hlt) hb]), end0 rfl⟩
   ·have hb : okE l[i] = true := by simpa only [Bool.not_eq_false'] using hb
    try simp only [tt, seval, ix]
    try rw [wrS i (by omega)]
    exact ⟨_, none, SubO.nil _, PoSub.none _, ⟨i + 1, rfl, by omega, fun j hj hji => by
     by_cases e : j = i
     ·subst e; exact hb
     ·exact hal j hj (by omega), rfl, rfl⟩, by simp only [ixS]; omega⟩
  ·exact ⟨_, _, vbE (by rw [hzb, all_true fun j hj => hal j hj (by omega)]), end0 rfl⟩
theorem QueryOk_d (q : Query) (hsz : szQuery q ≤ 1048576) : Cl Tryz.prog 24 [.ag (csOf q.row)] [] fun r _ => r = vb (qokB q) := by
 have hx : ∀ x ∈ exprsQ q, szExpr x ≤ 1048576 := fun x hx => Nat.le_trans (exprsQ_sz hx) hsz
 have hsum := exprsQ_sum q
 have hs2 : ((exprsQ q).map ndE).sum ≤ 2097152 := by
  have := sum_le (l := exprsQ q) (f := ndE) (g := fun x => szExpr x + 1) fun x _ => (SizeOf_d x).2
  omega
 have c1 := l7RightQuery_d q fmE (fun x h => l7Right_d x (hx x h)) hsz
 have c2 := DepthOfQ q dpE (fun x h => (DepthOf_d x).1 (hx x h)) hsz
 have c3 := spQuerySize_d q ndE (fun x h => (spSizeOf_d x).1 (hx x h)) hsz hs2
 unfold qokB
 generalize maxL ((exprsQ q).map dpE) = dp at *
 generalize ((exprsQ q).map ndE).sum = nn at *
 generalize fmQ fmE q = fq at *
 obtain ⟨distinct, items, from_, where_, order, limit⟩ := q
 rw [Query.row_mk] at c1 c2 c3 ⊢
 refine cl_of_d follows_mixed false Tryz.func24 rfl (by kernel_rfl) ?_
 simp only [Tryz.f24, tt, seval]
 refine call0 (c1) ?_ ?_ ?_
 ·decide
 ·simp only [tt, seval]
 rintro r rfl
 simp only [tt, seval]
 cases fq
 case false =>
  try simp only [tt, seval]
  exact ⟨_, _, rfl, end0 rfl⟩
 try simp only [tt, seval]
 refine call0 (c2) ?_ ?_ ?_
 ·decide
 ·simp only [tt, seval]
 rintro r rfl
 simp only [tt, seval]
 by_cases h1 : (dp : Int) ≤ 24
 case neg =>
  simp only [tt, seval, decide_eq_false h1]
  exact ⟨_, _, vbE (by rw [decide_eq_false (show ¬ dp ≤ 24 by omega)]; rfl), end0 rfl⟩
 simp only [tt, seval, decide_eq_true h1]
 refine call0 (c3) ?_ ?_ ?_
 ·decide
 ·simp only [tt, seval]
 rintro r rfl
 simp only [tt, seval]
 exact ⟨_, _, vbE (by rw [decide_eq_true (show dp ≤ 24 by omega)]; exact decide_eq_decide.2 (by omega)), end0 rfl⟩
set_option maxHeartbeats 4000000 in
theorem l8Shape_d (s : Stmt) (hsz : szStmt s ≤ 1048576) : Cl Tryz.prog 91 [.ag (csOf s.row)] [] fun r _ => r = vb (shS s) := by
 have hex := fun x hx => stExprs_sz (s := s) (x := x) hx
 obtain ⟨zb, hzb⟩ : ∃ zb, zb = shS s := ⟨_, rfl⟩
 rw [← hzb]
 obtain ⟨kind, ⟨distinct, items, from_, where_, order, limit⟩, table, rows, cols, sets, where2⟩ := s
 have hss := hsz
 rw [szStmt_mk] at hss
 have hqs : szQuery (Query.mk distinct items from_ where_ order limit) ≤ 1048576 := by omega
 have hrn := rows_len rows
 have hcl : cols.length ≤ 1048576 := by unfold szTexts at hss; omega
 have hsl : sets.length ≤ 1048576 := by rw [szExprs_eq, szExprs_eq] at hss; omega
 have hwl : where2.length ≤ 1048576 := by rw [szExprs_eq, szExprs_eq] at hss; omega
 have hr9 : (rows.length ≤ 9223372036854775807) = True := eq_true (by omega)
 have hc9 : (cols.length ≤ 9223372036854775807) = True := eq_true (by omega)
 have hs9 : (sets.length ≤ 9223372036854775807) = True := eq_true (by omega)
 have hw9 : (where2.length ≤ 9223372036854775807) = True := eq_true (by omega)
 have w1 := wrap_id (n := (rows.length : Int) + cols.length) (by omega) (by omega)
 have w2 := wrap_id (n := (rows.length : Int) + cols.length + sets.length) (by omega) (by omega)
 have w3 := wrap_id (n := (rows.length : Int) + cols.length + sets.length + where2.length) (by omega) (by omega)
 have w4 := wrap_id (n := (cols.length : Int) + sets.length) (by omega) (by omega)
 have w5 := wrap_id (n := (cols.length : Int) + sets.length + where2.length) (by omega) (by omega)
 have cq := QueryOk_d (Query.mk distinct items from_ where_ order limit) hqs
 have cz := SameQZ_d distinct items from_ where_ order limit
 have cS := l8All_d sets hsl fun x hx => Nat.le_trans (mem_sz szExpr hx) (by rw [szExprs_eq, szExprs_eq] at hss; omega)
 have cW := l8All_d where2 hwl fun x hx => Nat.le_trans (mem_sz szExpr hx) (by rw [szExprs_eq, szExprs_eq] at hss; omega)
 have cR : ∀ x ∈ rows, x.l.length ≤ 1048576 ∧ Cl Tryz.prog 142 [.c (.sl x.l.length (x.l.flatMap Expr.row) none)] [] fun r _ => r = vb (x.l.all okE) := fun x hx => by
  have h1 := mem_sz szERow hx
  rw [szERow_eq, szExprs_eq] at h1
  rw [szERows_eq] at hss
  exact ⟨by omega, l8All_d x.l (by omega) fun y hy => Nat.le_trans (mem_sz szExpr hy) (by omega)⟩
 rw [Query.row_mk] at cq cz
 rw [Stmt.row_mk, Query.row_mk]
 simp only [List.cons_append, List.nil_append]
 refine cl_of_d follows_mixed false Tryz.func91 rfl (by kernel_rfl) ?_
 simp only [Tryz.f91, tt, seval]
 refine call0 (cz) ?_ ?_ ?_
 ·decide
 ·simp only [tt, seval, Query.row_mk]
 rintro r rfl
 simp only [tt, seval, Query.row_mk]
 refine call0 (NameOk_d table) ?_ ?_ ?_
 ·decide
 ·simp only [tt, seval]
 rintro r rfl
 simp only [tt, seval]
 refine dDrawn.intro [] (pln [0, 2, 4, 6, 8, 10, 12, 14, 16, 18, 20, 22, 24, 26, 28, 30]) (by kernel_rfl) ?_
 simp only [tt, seval]
 try simp only [tt, seval, hr9, hc9, hs9, hw9, w1, w2, w3, w4, w5]
 refine And.intro (fun k1 => ?_) (fun k1 => ?_)
 ·try simp only [tt, seval, hr9, hc9, hs9, hw9, w1, w2, w3, w4, w5]
  refine call0 (cq) ?_ ?_ ?_
  ·decide
  ·simp only [tt, seval, Query.row_mk, hr9, hc9, hs9, hw9, w1, w2, w3, w4, w5]
  rintro r rfl
  simp only [tt, seval, Query.row_mk, hr9, hc9, hs9, hw9, w1, w2, w3, w4, w5]
  by_cases hq : qokB (Query.mk distinct items from_ where_ order limit) = true
  case neg =>
   try simp only [tt, seval, (eq_false_of_ne_true hq), hr9, hc9, hs9, hw9, w1, w2, w3, w4, w5]
   exact ⟨_, _, vbE (by rw [hzb]; simp [shS, k1, hq]; try omega), end0 rfl⟩
  try simp only [tt, seval, hq, hr9, hc9, hs9, hw9, w1, w2, w3, w4, w5]
  by_cases ht : table = ⟨#[]⟩
  case neg =>
   try simp only [tt, seval, decide_eq_false ht, hr9, hc9, hs9, hw9, w1, w2, w3, w4, w5]
   exact ⟨_, _, vbE (by rw [hzb]; simp [shS, k1, hq, ht]; try omega), end0 rfl⟩
  try simp only [tt, seval, decide_eq_true ht, hr9, hc9, hs9, hw9, w1, w2, w3, w4, w5]
  exact ⟨_, _, vbE (by rw [hzb]; simp only [shS, if_pos k1, hq, decide_eq_true ht, Bool.true_and]; exact decide_eq_decide.2 (by omega)), end0 rfl⟩
 try simp only [tt, seval, hr9, hc9, hs9, hw9, w1, w2, w3, w4, w5]
 refine And.intro (fun k2 => ?_) (fun k2 => ?_)
 ·try simp only [tt, seval, hr9, hc9, hs9, hw9, w1, w2, w3, w4, w5]
  refine dLoop.intro (fun f L p => ∃ i : Nat, f 9 = vi i ∧ i ≤ rows.length ∧ (∀ j (hj : j < rows.length), j < i → rS rows[j] = true) ∧ L = [(1, .str [.v (.int .i64 kind), .v (.bool distinct), .sl items.length (items.flatMap Item.row) none, .sl from_.length (from_.flatMap Source.row) none, .sl where_.length (where_.flatMap Expr.row) none, .sl order.length (order.flatMap SortKey.row) none, .v (.int .i64 limit), .v (.string table), .sl rows.length (rows.flatMap ERow.row) none, .sl cols.length (cols.flatMap srow) none, .sl sets.length (sets.flatMap Expr.row) none, .sl where2.length (where2.flatMap Expr.row) none])] ∧ p = none) (fun f _ _ => (rows.length - ixS (f 9)).toNat) [(1, .str [.v (.int .i64 kind), .v (.bool distinct), .sl items.length (items.flatMap Item.row) none, .sl from_.length (from_.flatMap Source.row) none, .sl where_.length (where_.flatMap Expr.row) none, .sl order.length (order.flatMap SortKey.row) none, .v (.int .i64 limit), .v (.string table), .sl rows.length (rows.flatMap ERow.row) none, .sl cols.length (cols.flatMap srow) none, .sl sets.length (sets.flatMap Expr.row) none, .sl where2.length (where2.flatMap Expr.row) none])] none ⟨SubO.cons rfl (SubO.nil _), PoSub.none _, ?_⟩ ?_
  ·try simp only [tt, seval, hr9, hc9, hs9, hw9, w1, w2, w3, w4, w5]
   exact ⟨0, rfl, by omega, fun j _ h => absurd h (Nat.not_lt_zero _)⟩
  ·rintro g' L p ⟨i, ix, hi, hal, rfl, rfl⟩
   simp only [tt, seval] at ix
   simp only [tt, seval, ix, Int.ofNat_lt, hr9, hc9, hs9, hw9, w1, w2, w3, w4, w5]
   refine And.intro (fun hlt => ?_) (fun hge => ?_)
   ·have hlt : i < rows.length := by omega
    obtain ⟨it, hit⟩ : ∃ it, it = rows[i] := ⟨_, rfl⟩
    have hx : rows[i]? = some it := by rw [hit]; exact List.getElem?_eq_getElem hlt
    obtain ⟨hil, cri⟩ := cR it (by rw [hit]; exact List.getElem_mem hlt)
    have hbad : rS it = false → shS (Stmt.mk 2 (Query.mk distinct items from_ where_ order limit) table rows cols sets where2) = false := fun hb => by
     simp only [shS, if_neg (show ¬ (2 : Int) = 1 by decide), if_pos, all_false (List.getElem_mem hlt) (hit ▸ hb), Bool.false_and]
    have i0 : ((0 : Int) ≤ (i : Int)) = True := eq_true (by omega)
    have iL : ((i : Int) < (rows.length : Int)) = True := eq_true (by omega)
    have iT : (i < rows.length) = True := eq_true hlt
    have hl9 : (it.l.length ≤ 9223372036854775807) = True := eq_true (by omega)
    try simp only [tt, seval, ix, idxAt hx ERow.row_len, i0, iL, iT, erowE, hl9, hr9, hc9, hs9, hw9, w1, w2, w3, w4, w5]
    refine call0 (l1In_d it.l.length 1 12) ?_ ?_ ?_
    ·decide
    ·simp only [tt, seval, ix, idxAt hx ERow.row_len, i0, iL, iT, erowE, hl9, hr9, hc9, hs9, hw9, w1, w2, w3, w4, w5]
    rintro r rfl
    simp only [tt, seval, ix, idxAt hx ERow.row_len, i0, iL, iT, erowE, hl9, hr9, hc9, hs9, hw9, w1, w2, w3, w4, w5]
    by_cases h1 : (1 : Int) ≤ it.l.length ∧ (it.l.length : Int) ≤ 12
    case neg =>
     simp only [tt, seval, decide_eq_false h1, ix, idxAt hx ERow.row_len, i0, iL, iT, erowE, hl9, hr9, hc9, hs9, hw9, w1, w2, w3, w4, w5]
     exact ⟨_, _, vbE (by subst k2; rw [hzb]; exact (hbad (by unfold rS r12; rw [decide_eq_false (by omega)]; rfl)).symm), end0 rfl⟩
    simp only [tt, seval, decide_eq_true h1, ix, idxAt hx ERow.row_len, i0, iL, iT, erowE, hl9, hr9, hc9, hs9, hw9, w1, w2, w3, w4, w5]
    refine call0 (cri) ?_ ?_ ?_
    ·decide
    ·simp only [tt, seval, ix, idxAt hx ERow.row_len, i0, iL, iT, erowE, hl9, hr9, hc9, hs9, hw9, w1, w2, w3, w4, w5]
    rintro r rfl
    simp only [tt, seval, ix, idxAt hx ERow.row_len, i0, iL, iT, erowE, hl9, hr9, hc9, hs9, hw9, w1, w2, w3, w4, w5]
    cases h2 : it.l.all okE
    case false =>
     try simp only [tt, seval, h2, ix, hr9, hc9, hs9, hw9, w1, w2, w3, w4, w5]
     exact ⟨_, _, vbE (by subst k2; rw [hzb]; exact (hbad (by unfold rS; rw [h2, Bool.and_false])).symm), end0 rfl⟩
    try simp only [tt, seval, h2, ix, hr9, hc9, hs9, hw9, w1, w2, w3, w4, w5]
    try rw [wrS i (by omega)]
    exact ⟨_, none, SubO.cons rfl (SubO.nil _), PoSub.none _, ⟨i + 1, rfl, by omega, fun j hj hji => by
     by_cases e : j = i
     ·subst e; rw [← hit]; unfold rS r12; rw [h2, decide_eq_true (by omega)]; rfl
     ·exact hal j hj (by omega), rfl, rfl⟩, by simp only [ixS]; omega⟩
   ·have har : rows.all rS = true := all_true fun j hj => hal j hj (by omega)
    try simp only [tt, seval, ix, hr9, hc9, hs9, hw9, w1, w2, w3, w4, w5]
    by_cases hz : zQb (Query.mk distinct items from_ where_ order limit) = true
    case neg =>
     try simp only [tt, seval, (eq_false_of_ne_true hz), hr9, hc9, hs9, hw9, w1, w2, w3, w4, w5]
     exact ⟨_, _, vbE (by rw [hzb]; simp [shS, k1, k2, har, nameB, hz]; try omega), end0 rfl⟩
    try simp only [tt, seval, hz, hr9, hc9, hs9, hw9, w1, w2, w3, w4, w5]
    by_cases hn : decide (1 ≤ table.size ∧ table.size ≤ 20) = true
    case neg =>
     try simp only [tt, seval, (eq_false_of_ne_true hn), hr9, hc9, hs9, hw9, w1, w2, w3, w4, w5]
     exact ⟨_, _, vbE (by rw [hzb]; simp [shS, k1, k2, har, nameB, hz, hn]; try omega), end0 rfl⟩
    try simp only [tt, seval, hn, hr9, hc9, hs9, hw9, w1, w2, w3, w4, w5]
    refine call0 (l1In_d rows.length 1 5) ?_ ?_ ?_
    ·decide
    ·simp only [tt, seval, hr9, hc9, hs9, hw9, w1, w2, w3, w4, w5]
    rintro r rfl
    simp only [tt, seval, hr9, hc9, hs9, hw9, w1, w2, w3, w4, w5]
    by_cases h4 : (1 : Int) ≤ rows.length ∧ (rows.length : Int) ≤ 5
    case neg =>
     try simp only [tt, seval, decide_eq_false h4, hr9, hc9, hs9, hw9, w1, w2, w3, w4, w5]
     exact ⟨_, _, vbE (by rw [hzb]; simp [shS, k2, har, hz, nameB, hn, show ¬ (1 ≤ rows.length ∧ rows.length ≤ 5) by omega]; try omega), end0 rfl⟩
    try simp only [tt, seval, decide_eq_true h4, hr9, hc9, hs9, hw9, w1, w2, w3, w4, w5]
    exact ⟨_, _, vbE (by rw [hzb]; simp only [shS, if_neg k1, if_pos k2, har, hz, nameB, hn, decide_eq_true (show 1 ≤ rows.length ∧ rows.length ≤ 5 by omega), Bool.true_and]; exact decide_eq_decide.2 (by omega)), end0 rfl⟩
 try simp only [tt, seval, hr9, hc9, hs9, hw9, w1, w2, w3, w4, w5]
 refine And.intro (fun k3 => ?_) (fun k3 => ?_)
 ·try simp only [tt, seval, hr9, hc9, hs9, hw9, w1, w2, w3, w4, w5]
  refine dLoop.intro (fun f L p => ∃ i : Nat, f 10 = vi i ∧ i ≤ cols.length ∧ (∀ j (hj : j < cols.length), j < i → nameB cols[j] = true) ∧ L = [(1, .str [.v (.int .i64 kind), .v (.bool distinct), .sl items.length (items.flatMap Item.row) none, .sl from_.length (from_.flatMap Source.row) none, .sl where_.length (where_.flatMap Expr.row) none, .sl order.length (order.flatMap SortKey.row) none, .v (.int .i64 limit), .v (.string table), .sl rows.length (rows.flatMap ERow.row) none, .sl cols.length (cols.flatMap srow) none, .sl sets.length (sets.flatMap Expr.row) none, .sl where2.length (where2.flatMap Expr.row) none])] ∧ p = none) (fun f _ _ => (cols.length - ixS (f 10)).toNat) [(1, .str [.v (.int .i64 kind), .v (.bool distinct), .sl items.length (items.flatMap Item.row) none, .sl from_.length (from_.flatMap Source.row) none, .sl where_.length (where_.flatMap Expr.row) none, .sl order.length (order.flatMap SortKey.row) none, .v (.int .i64 limit), .v (.string table), .sl rows.length (rows.flatMap ERow.row) none, .sl cols.length (cols.flatMap srow) none, .sl sets.length (sets.flatMap Expr.row) none, .sl where2.length (where2.flatMap Expr.row) none])] none ⟨SubO.cons rfl (SubO.nil _), PoSub.none _, ?_⟩ ?_
  ·try simp only [tt, seval, hr9, hc9, hs9, hw9, w1, w2, w3, w4, w5]
   exact ⟨0, rfl, by omega, fun j _ h => absurd h (Nat.not_lt_zero _)⟩
  ·rintro g' L p ⟨i, ix, hi, hal, rfl, rfl⟩
   simp only [tt, seval] at ix
   simp only [tt, seval, ix, Int.ofNat_lt, hr9, hc9, hs9, hw9, w1, w2, w3, w4, w5]
   refine And.intro (fun hlt => ?_) (fun hge => ?_)
   ·have hlt : i < cols.length := by omega
    refine ⟨by omega, by omega, _, drop_row srow_len (List.getElem?_eq_getElem hlt), srow_ne _ _, ?_⟩
    simp only [tt, seval, ix, srow_tk, srow, hr9, hc9, hs9, hw9, w1, w2, w3, w4, w5]
    refine call0 (NameOk_d cols[i]) ?_ ?_ ?_
    ·decide
    ·simp only [tt, seval, ix, hr9, hc9, hs9, hw9, w1, w2, w3, w4, w5]
    rintro r rfl
    simp only [tt, seval, ix, hr9, hc9, hs9, hw9, w1, w2, w3, w4, w5]
    cases hb : decide (1 ≤ cols[i].size ∧ cols[i].size ≤ 20)
    case false =>
     try simp only [tt, seval, hb, ix, hr9, hc9, hs9, hw9, w1, w2, w3, w4, w5]
     exact ⟨_, _, vbE (by rw [hzb]; simp only [shS, if_neg k1, if_neg k2, if_pos k3, all_false (List.getElem_mem hlt) (show nameB cols[i] = false from hb), Bool.false_and]), end0 rfl⟩
    try simp only [tt, seval, hb, ix, hr9, hc9, hs9, hw9, w1, w2, w3, w4, w5]
    try rw [wrS i (by omega)]
    exact ⟨_, none, SubO.cons rfl (SubO.nil _), PoSub.none _, ⟨i + 1, rfl, by omega, fun j hj hji => by
     by_cases e : j = i
     ·subst e; exact hb
     ·exact hal j hj (by omega), rfl, rfl⟩, by simp only [ixS]; omega⟩
   ·have har : cols.all nameB = true := all_true fun j hj => hal j hj (by omega)
    try simp only [tt, seval, ix, hr9, hc9, hs9, hw9, w1, w2, w3, w4, w5]
    by_cases hz : zQb (Query.mk distinct items from_ where_ order limit) = true
    case neg =>
     try simp only [tt, seval, (eq_false_of_ne_true hz), hr9, hc9, hs9, hw9, w1, w2, w3, w4, w5]
     exact ⟨_, _, vbE (by rw [hzb]; simp [shS, k1, k2, k3, har, nameB, hz]; try omega), end0 rfl⟩
    try simp only [tt, seval, hz, hr9, hc9, hs9, hw9, w1, w2, w3, w4, w5]
    by_cases hn : decide (1 ≤ table.size ∧ table.size ≤ 20) = true
    case neg =>
     try simp only [tt, seval, (eq_false_of_ne_true hn), hr9, hc9, hs9, hw9, w1, w2, w3, w4, w5]
     exact ⟨_, _, vbE (by rw [hzb]; simp [shS, k1, k2, k3, har, nameB, hz, hn]; try omega), end0 rfl⟩
    try simp only [tt, seval, hn, hr9, hc9, hs9, hw9, w1, w2, w3, w4, w5]
    by_cases h1 : rows.length = 0
    case neg =>
     try simp only [tt, seval, decide_eq_false (show ¬ (rows.length : Int) = 0 by omega), hr9, hc9, hs9, hw9, w1, w2, w3, w4, w5]
     exact ⟨_, _, vbE (by rw [hzb]; simp [shS, k1, k2, k3, har, nameB, hz, hn, h1]; try omega), end0 rfl⟩
    try simp only [tt, seval, decide_eq_true (show (rows.length : Int) = 0 by omega), hr9, hc9, hs9, hw9, w1, w2, w3, w4, w5]
    refine call0 (l1In_d cols.length 1 12) ?_ ?_ ?_
    ·decide
    ·simp only [tt, seval, hr9, hc9, hs9, hw9, w1, w2, w3, w4, w5]
    rintro r rfl
    simp only [tt, seval, hr9, hc9, hs9, hw9, w1, w2, w3, w4, w5]
    by_cases h2 : (1 : Int) ≤ cols.length ∧ (cols.length : Int) ≤ 12
    case neg =>
     try simp only [tt, seval, decide_eq_false h2, hr9, hc9, hs9, hw9, w1, w2, w3, w4, w5]
     exact ⟨_, _, vbE (by rw [hzb]; simp [shS, k3, har, hz, nameB, hn, h1, show ¬ (1 ≤ cols.length ∧ cols.length ≤ 12) by omega]; try omega), end0 rfl⟩
    try simp only [tt, seval, decide_eq_true h2, hr9, hc9, hs9, hw9, w1, w2, w3, w4, w5]
    have h2' : 1 ≤ cols.length ∧ cols.length ≤ 12 := by omega
    by_cases h3 : sets.length = cols.length
    case neg =>
     try simp only [tt, seval, decide_eq_false (show ¬ (sets.length : Int) = cols.length by omega), hr9, hc9, hs9, hw9, w1, w2, w3, w4, w5]
     exact ⟨_, _, vbE (by rw [hzb]; simp [shS, k3, har, hz, nameB, hn, h1, h2', h3]; try omega), end0 rfl⟩
    try simp only [tt, seval, decide_eq_true (show (sets.length : Int) = cols.length by omega), hr9, hc9, hs9, hw9, w1, w2, w3, w4, w5]
    by_cases h4 : where2.length ≤ 1
    case neg =>
     try simp only [tt, seval, decide_eq_false (show ¬ (where2.length : Int) ≤ 1 by omega), hr9, hc9, hs9, hw9, w1, w2, w3, w4, w5]
     exact ⟨_, _, vbE (by rw [hzb]; simp [shS, k3, har, hz, nameB, hn, h1, h2', h3, h4]; try omega), end0 rfl⟩
    try simp only [tt, seval, decide_eq_true (show (where2.length : Int) ≤ 1 by omega), hr9, hc9, hs9, hw9, w1, w2, w3, w4, w5]
    refine call0 (cS) ?_ ?_ ?_
    ·decide
    ·simp only [tt, seval, hr9, hc9, hs9, hw9, w1, w2, w3, w4, w5]
    rintro r rfl
    simp only [tt, seval, hr9, hc9, hs9, hw9, w1, w2, w3, w4, w5]
    by_cases h8 : sets.all okE = true
    case neg =>
     try simp only [tt, seval, (eq_false_of_ne_true h8), hr9, hc9, hs9, hw9, w1, w2, w3, w4, w5]
     exact ⟨_, _, vbE (by rw [hzb]; simp only [shS, if_neg k1, if_neg k2, if_pos k3, har, hz, nameB, hn, decide_eq_true h1, decide_eq_true (show 1 ≤ cols.length ∧ cols.length ≤ 12 by omega), decide_eq_true h3, decide_eq_true h4, eq_false_of_ne_true h8, Bool.true_and, Bool.false_and]), end0 rfl⟩
    try simp only [tt, seval, h8, hr9, hc9, hs9, hw9, w1, w2, w3, w4, w5]
    refine call0 (cW) ?_ ?_ ?_
    ·decide
    ·simp only [tt, seval, hr9, hc9, hs9, hw9, w1, w2, w3, w4, w5]
    rintro r rfl
    simp only [tt, seval, hr9, hc9, hs9, hw9, w1, w2, w3, w4, w5]
    exact ⟨_, _, vbE (by rw [hzb]; simp only [shS, if_neg k1, if_neg k2, if_pos k3, har, hz, nameB, hn, decide_eq_true h1, decide_eq_true (show 1 ≤ cols.length ∧ cols.length ≤ 12 by omega), decide_eq_true h3, decide_eq_true h4, h8, Bool.true_and]), end0 rfl⟩
 try simp only [tt, seval, hr9, hc9, hs9, hw9, w1, w2, w3, w4, w5]
 refine And.intro (fun k4 => ?_) (fun k4 => ?_)
 ·try simp only [tt, seval, hr9, hc9, hs9, hw9, w1, w2, w3, w4, w5]
  by_cases hz : zQb (Query.mk distinct items from_ where_ order limit) = true
  case neg =>
   try simp only [tt, seval, (eq_false_of_ne_true hz), hr9, hc9, hs9, hw9, w1, w2, w3, w4, w5]
   exact ⟨_, _, vbE (by rw [hzb]; simp only [shS, if_neg k1, if_neg k2, if_neg k3, if_pos k4, nameB, eq_false_of_ne_true hz, Bool.true_and, Bool.false_and, Bool.and_false]), end0 rfl⟩
  try simp only [tt, seval, hz, hr9, hc9, hs9, hw9, w1, w2, w3, w4, w5]
  by_cases hn : decide (1 ≤ table.size ∧ table.size ≤ 20) = true
  case neg =>
   try simp only [tt, seval, (eq_false_of_ne_true hn), hr9, hc9, hs9, hw9, w1, w2, w3, w4, w5]
   exact ⟨_, _, vbE (by rw [hzb]; simp only [shS, if_neg k1, if_neg k2, if_neg k3, if_pos k4, nameB, hz, eq_false_of_ne_true hn, Bool.true_and, Bool.false_and, Bool.and_false]), end0 rfl⟩
  try simp only [tt, seval, hn, hr9, hc9, hs9, hw9, w1, w2, w3, w4, w5]
  by_cases h1 : rows.length + cols.length + sets.length = 0
  case neg =>
   try simp only [tt, seval, decide_eq_false (show ¬ (rows.length : Int) + cols.length + sets.length = 0 by omega), hr9, hc9, hs9, hw9, w1, w2, w3, w4, w5]
   exact ⟨_, _, vbE (by rw [hzb]; simp only [shS, if_neg k1, if_neg k2, if_neg k3, if_pos k4, nameB, hz, hn, decide_eq_false h1, Bool.true_and, Bool.false_and, Bool.and_false]), end0 rfl⟩
  try simp only [tt, seval, decide_eq_true (show (rows.length : Int) + cols.length + sets.length = 0 by omega), hr9, hc9, hs9, hw9, w1, w2, w3, w4, w5]
  by_cases h2 : where2.length ≤ 1
  case neg =>
   try simp only [tt, seval, decide_eq_false (show ¬ (where2.length : Int) ≤ 1 by omega), hr9, hc9, hs9, hw9, w1, w2, w3, w4, w5]
   exact ⟨_, _, vbE (by rw [hzb]; simp only [shS, if_neg k1, if_neg k2, if_neg k3, if_pos k4, nameB, hz, hn, decide_eq_true h1, decide_eq_false h2, Bool.true_and, Bool.false_and, Bool.and_false]), end0 rfl⟩
  try simp only [tt, seval, decide_eq_true (show (where2.length : Int) ≤ 1 by omega), hr9, hc9, hs9, hw9, w1, w2, w3, w4, w5]
  refine call0 (cW) ?_ ?_ ?_
  ·decide
  ·simp only [tt, seval, hr9, hc9, hs9, hw9, w1, w2, w3, w4, w5]
  rintro r rfl
  simp only [tt, seval, hr9, hc9, hs9, hw9, w1, w2, w3, w4, w5]
  exact ⟨_, _, vbE (by rw [hzb]; simp only [shS, if_neg k1, if_neg k2, if_neg k3, if_pos k4, hz, nameB, hn, decide_eq_true h1, decide_eq_true h2, Bool.true_and]), end0 rfl⟩
 exact ⟨_, _, vbE (by rw [hzb]; simp [shS, k1, k2, k3, k4]; try omega), end0 rfl⟩
theorem all_congr {α : Type} {f g : α → Bool} {l : List α} (h : ∀ x ∈ l, f x = g x) : l.all f = l.all g := by
 induction l with
 | nil => rfl
 | cons x r ih => rw [List.all_cons, List.all_cons, h x (by simp), ih fun y hy => h y (by simp [hy])]
theorem le_maxL {l : List Nat} {x : Nat} (h : x ∈ l) : x ≤ maxL l := by
 unfold maxL
 suffices H : ∀ (l : List Nat) (a : Nat), (a ≤ l.foldl max a) ∧ ∀ x ∈ l, x ≤ l.foldl max a from (H l 0).2 x h
 intro l
 induction l with
 | nil => exact fun a => ⟨Nat.le_refl _, fun x h => by cases h⟩
 | cons y r ih =>
  intro a
  obtain ⟨h1, h2⟩ := ih (max a y)
  refine ⟨Nat.le_trans (Nat.le_max_left _ _) h1, fun x hx => ?_⟩
  rcases List.mem_cons.1 hx with rfl | hx
  ·exact Nat.le_trans (Nat.le_max_right _ _) h1
  ·exact h2 x hx
theorem le_sum {l : List Nat} {x : Nat} (h : x ∈ l) : x ≤ l.sum := by
 induction l with
 | nil => cases h
 | cons y r ih =>
  rw [List.sum_cons]
  rcases List.mem_cons.1 h with rfl | h
  ·omega
  ·have := ih h; omega
theorem small_ok {s : Stmt} (h : smB s = true) {x : Expr} (hx : x ∈ stExprs s) : okE x = fmE x := by
 simp only [smB, Bool.and_eq_true, decide_eq_true_eq] at h
 have h1 := le_maxL (List.mem_map_of_mem (f := dpE) hx)
 have h2 := le_sum (List.mem_map_of_mem (f := ndE) hx)
 unfold okE
 rw [decide_eq_true (show dpE x ≤ 24 by omega), decide_eq_true (show ndE x ≤ 200 by omega), Bool.true_and, Bool.true_and]
theorem zq_exprs {q : Query} (h : zQb q = true) : exprsQ q = [] := by
 obtain ⟨distinct, items, from_, where_, order, limit⟩ := q
 simp only [zQb, Bool.and_eq_true, decide_eq_true_eq] at h
 obtain ⟨_, _, h1, h2, h3, h4⟩ := h
 have e1 := List.eq_nil_of_length_eq_zero h1
 have e2 := List.eq_nil_of_length_eq_zero h2
 have e3 := List.eq_nil_of_length_eq_zero h3
 have e4 := List.eq_nil_of_length_eq_zero h4
 subst e1 e2 e3 e4
 rfl
theorem stOk_law (s : Stmt) : (shS s && smB s) = stOk s := by
 cases hsm : smB s
 case false => rw [stOk, hsm, Bool.and_false]; rfl
 rw [stOk, hsm, Bool.and_true, Bool.true_and]
 have hok := fun x hx => small_ok (s := s) hsm (x := x) hx
 obtain ⟨kind, q, table, rows, cols, sets, where2⟩ := s
 have hall : (stExprs (Stmt.mk kind q table rows cols sets where2)).all okE = (stExprs (Stmt.mk kind q table rows cols sets where2)).all fmE := all_congr hok
 have hst : stExprs (Stmt.mk kind q table rows cols sets where2) = exprsQ q ++ rows.flatMap ERow.l ++ sets ++ where2 := rfl
 simp only [smB, Bool.and_eq_true, decide_eq_true_eq] at hsm
 rw [Bool.eq_iff_iff]
 simp only [shS, shI]
 by_cases k1 : kind = 1
 ·simp only [if_pos k1, Bool.and_eq_true, decide_eq_true_eq, qokB]
  constructor
  ·rintro ⟨⟨h1, _, _⟩, h2, h3⟩
   exact ⟨h2, by omega, by omega, by omega, by omega, h1⟩
  ·rintro ⟨h1, h2, h3, h4, h5, h6⟩
   have e2 := List.eq_nil_of_length_eq_zero h2
   have e4 := List.eq_nil_of_length_eq_zero h4
   have e5 := List.eq_nil_of_length_eq_zero h5
   subst e2 e4 e5
   rw [hst] at hsm
   simp only [List.flatMap_nil, List.append_nil] at hsm
   exact ⟨⟨h6, hsm.1, hsm.2⟩, h1, by simp [h3]⟩
 simp only [if_neg k1]
 by_cases hz : zQb q = true
 case neg =>
  simp only [eq_false_of_ne_true hz, Bool.false_and, Bool.and_false]
  (repeat' split) <;> simp
 rw [hst, zq_exprs hz, List.nil_append] at hall
 rw [hst, zq_exprs hz, List.nil_append]
 simp only [List.all_append] at hall ⊢
 simp only [hz, Bool.true_and, tail2]
 by_cases k2 : kind = 2
 ·simp only [if_pos k2, Bool.and_eq_true, decide_eq_true_eq]
  have hrow : rows.all rS = (rows.all r12 && (rows.flatMap ERow.l).all okE) := by
   clear hall hok hst hsm
   induction rows with
   | nil => rfl
   | cons x r ih =>
    simp only [List.all_cons, List.flatMap_cons, List.all_append, ih, rS]
    cases r12 x <;> cases x.l.all okE <;> cases r.all r12 <;> simp
  rw [hrow]
  constructor
  ·rintro ⟨h1, h2, h3, h4⟩
   have e3 := List.eq_nil_of_length_eq_zero (show sets.length = 0 by omega)
   have e4 := List.eq_nil_of_length_eq_zero (show where2.length = 0 by omega)
   subst e3 e4
   simp only [Bool.and_eq_true] at h1
   simp only [List.all_nil, Bool.and_true] at hall
   exact ⟨h2, ⟨⟨by rw [← hall]; exact h1.2, rfl⟩, rfl⟩, by simp at h4; simp [h4], rfl, rfl, h3.1, h3.2, h1.1⟩
  ·rintro ⟨h2, ⟨⟨h1, _⟩, _⟩, hc, hs, hw, h3, h4, h5⟩
   have e3 := List.eq_nil_of_length_eq_zero hs
   have e4 := List.eq_nil_of_length_eq_zero hw
   subst e3 e4
   simp only [List.all_nil, Bool.and_true] at hall
   exact ⟨by rw [h5, hall, h1]; rfl, h2, ⟨h3, h4⟩, by simp [hc]⟩
 simp only [if_neg k2]
 by_cases k3 : kind = 3
 ·simp only [if_pos k3, Bool.and_eq_true, decide_eq_true_eq]
  constructor
  ·rintro ⟨h1, h2, h3, h4, h5, h6, h7, h8⟩
   have e3 := List.eq_nil_of_length_eq_zero h3
   subst e3
   simp only [List.flatMap_nil, List.all_nil, Bool.true_and] at hall ⊢
   rw [h7, h8] at hall
   have ha := hall.symm
   simp only [Bool.and_true, Bool.and_eq_true] at ha
   exact ⟨h2, ⟨⟨trivial, ha.1⟩, ha.2⟩, rfl, h4.1, h4.2, h5, h6, h1⟩
  ·rintro ⟨h2, ⟨⟨_, hs⟩, hw⟩, h3, h4, h4', h5, h6, h1⟩
   have e3 := List.eq_nil_of_length_eq_zero h3
   subst e3
   simp only [List.flatMap_nil, List.all_nil, Bool.true_and] at hall
   rw [hs, hw] at hall
   simp only [Bool.and_true, Bool.and_eq_true] at hall
   exact ⟨h1, h2, rfl, ⟨h4, h4'⟩, h5, h6, hall.1, hall.2⟩
 simp only [if_neg k3]
 by_cases k4 : kind = 4
 ·simp only [if_pos k4, Bool.and_eq_true, decide_eq_true_eq]
  constructor
  ·rintro ⟨h2, h3, h4, h5⟩
   have e1 := List.eq_nil_of_length_eq_zero (show rows.length = 0 by omega)
   have e2 := List.eq_nil_of_length_eq_zero (show cols.length = 0 by omega)
   have e3 := List.eq_nil_of_length_eq_zero (show sets.length = 0 by omega)
   subst e1 e2 e3
   simp only [List.flatMap_nil, List.all_nil, Bool.true_and] at hall ⊢
   rw [h5] at hall
   exact ⟨h2, ⟨⟨trivial, trivial⟩, hall.symm⟩, rfl, rfl, rfl, h4⟩
  ·rintro ⟨h2, ⟨⟨_, _⟩, hw⟩, h3, h4, h5, h6⟩
   have e1 := List.eq_nil_of_length_eq_zero h3
   have e2 := List.eq_nil_of_length_eq_zero h4
   have e3 := List.eq_nil_of_length_eq_zero h5
   subst e1 e2 e3
   simp only [List.flatMap_nil, List.all_nil, Bool.true_and] at hall
   rw [hw] at hall
   exact ⟨h2, rfl, h6, hall⟩
 simp only [if_neg k4, Bool.and_false]
theorem StmtOk_d (s : Stmt) (hsz : szStmt s ≤ 1048576) : Cl Tryz.prog 44 [.ag (csOf s.row)] [] fun r _ => r = vb (stOk s) := by
 have c1 := l8Shape_d s hsz
 have c2 := StmtDepth_d s hsz
 have c3 := StmtSize_d s hsz
 rw [← stOk_law]
 have hsmd : smB s = (decide (maxL ((stExprs s).map dpE) ≤ 24) && decide (((stExprs s).map ndE).sum ≤ 200)) := rfl
 rw [hsmd]
 generalize maxL ((stExprs s).map dpE) = dp at *
 generalize ((stExprs s).map ndE).sum = nn at *
 generalize shS s = sh at *
 obtain ⟨kind, ⟨distinct, items, from_, where_, order, limit⟩, table, rows, cols, sets, where2⟩ := s
 rw [Stmt.row_mk, Query.row_mk] at c1 c2 c3 ⊢
 simp only [List.cons_append, List.nil_append] at c1 c2 c3 ⊢
 refine cl_of_d follows_mixed false Tryz.func44 rfl (by kernel_rfl) ?_
 simp only [Tryz.f44, tt, seval]
 refine call0 (c1) ?_ ?_ ?_
 ·decide
 ·simp only [tt, seval]
 rintro r rfl
 simp only [tt, seval]
 cases sh
 case false =>
  try simp only [tt, seval]
  exact ⟨_, _, rfl, end0 rfl⟩
 try simp only [tt, seval]
 refine call0 (c2) ?_ ?_ ?_
 ·decide
 ·simp only [tt, seval]
 rintro r rfl
 simp only [tt, seval]
 by_cases h1 : (dp : Int) ≤ 24
 case neg =>
  simp only [tt, seval, decide_eq_false h1]
  exact ⟨_, _, vbE (by rw [decide_eq_false (show ¬ dp ≤ 24 by omega)]; rfl), end0 rfl⟩
 simp only [tt, seval, decide_eq_true h1]
 refine call0 (c3) ?_ ?_ ?_
 ·decide
 ·simp only [tt, seval]
 rintro r rfl
 simp only [tt, seval]
 exact ⟨_, _, vbE (by rw [decide_eq_true (show dp ≤ 24 by omega)]; exact decide_eq_decide.2 (by omega)), end0 rfl⟩
end Go.Proofs.YthhkmmcgjnecbaaGreatDoor
