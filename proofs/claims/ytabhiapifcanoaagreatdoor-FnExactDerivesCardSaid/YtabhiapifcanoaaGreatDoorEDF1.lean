/-
  Trees in order.
  Conditions: none.
-/
import Derived.Test.YtabhiapifcanoaaGreatDoorEDB1
set_option linter.unusedVariables false
set_option linter.unusedSimpArgs false
set_option linter.unusedSectionVars false
set_option linter.unnecessarySimpa false
set_option maxRecDepth 8000
namespace Go.Proofs.YtabhiapifcanoaaGreatDoor
open Go Go.Dv
open Go.Vc (D shrI xorI andI)
theorem l7Exprs_d (distinct : Bool) (items : List Item) (from_ : List Source) (where_ : List Expr) (order : List SortKey) (limit : Int) (hsz : szQuery (Query.mk distinct items from_ where_ order limit) ≤ 1048576) : Cl Tryz.prog 83 [.ag (csOf (Query.mk distinct items from_ where_ order limit).row)] [] fun r _ => r = .c (.sl (exprsQ (Query.mk distinct items from_ where_ order limit)).length ((exprsQ (Query.mk distinct items from_ where_ order limit)).flatMap Expr.row) none) := by
 have hlen := exprsQ_len (Query.mk distinct items from_ where_ order limit)
 have q0 : exprsQ (Query.mk distinct items from_ where_ order limit) = exprsI items ++ from_.flatMap Source.on ++ where_ ++ order.map SortKey.e := rfl
 rw [q0] at hlen ⊢
 simp only [List.length_append, List.length_map] at hlen
 have htot := Nat.le_trans hlen hsz
 have hil := exprsI_len items
 rw [szQuery_mk, szItems_eq, szSources_eq, szExprs_eq, szSortKeys_eq] at hsz
 rw [Query.row_mk]
 refine cl_of_d follows_mixed false Tryz.func83 rfl (by kernel_rfl) ?_
 simp only [Tryz.f83, tt, seval]
 refine dLoop.gh [.ren 7 30] ⟨by decide, by decide, ?_⟩
 refine dLoop0.intro (fun f L p => ∃ (i : Nat) (es : List Expr), f 4 = vi i ∧ f 3 = .c (.s 30 es.length) ∧ i ≤ items.length ∧ es = exprsI (items.take i) ∧ L = [(1, .str [.v (.bool distinct), .sl items.length (items.flatMap Item.row) none, .sl from_.length (from_.flatMap Source.row) none, .sl where_.length (where_.flatMap Expr.row) none, .sl order.length (order.flatMap SortKey.row) none, .v (.int .i64 limit)]), (30, .arr 32 es.length (es.flatMap Expr.row) none)] ∧ p = none) (fun f _ _ => (items.length - ixS (f 4)).toNat) [(1, .str [.v (.bool distinct), .sl items.length (items.flatMap Item.row) none, .sl from_.length (from_.flatMap Source.row) none, .sl where_.length (where_.flatMap Expr.row) none, .sl order.length (order.flatMap SortKey.row) none, .v (.int .i64 limit)]), (30, .arr 32 0 [] none)] none ⟨SubO.cons rfl (SubO.cons rfl (SubO.nil _)), PoSub.none _, ?_⟩ ?_
 ·simp only [tt, seval]
  exact ⟨0, [], rfl, rfl, by omega, rfl, rfl⟩
 ·rintro g L p ⟨i, es, hi4, h3, hi, hes, rfl, rfl⟩
  simp only [tt, seval] at hi4 h3
  simp only [tt, seval, hi4, h3, Int.ofNat_lt]
  refine fun _ => ?_
  refine And.intro (fun hlt => ?_) (fun hge => ?_)
  ·have hlt : i < items.length := by omega
   have hst := exprsI_step hlt
   have hel : es.length ≤ items.length := by rw [hes]; exact Nat.le_trans (exprsI_len _) (by rw [List.length_take]; omega)
   have hei : es.length ≤ i := by rw [hes]; exact Nat.le_trans (exprsI_len _) (by rw [List.length_take]; omega)
   obtain ⟨it, hit⟩ : ∃ it, it = items[i] := ⟨_, rfl⟩
   rw [← hit] at hst
   refine ⟨by omega, by omega, _, drop_row Item.row_len (List.getElem?_eq_getElem hlt), Item.ne _ _, ?_⟩
   obtain ⟨star, qual, ⟨k, o, n, v, q, m, ks, ss⟩, as_⟩ := it
   rw [← hit, Item.row_mk, Expr.row_mk]
   simp only [tt, seval, hi4, h3, Int.ofNat_lt]
   refine And.intro (fun hs => ?_) (fun hs => ?_)
   ·have hs : star = false := by simpa only [Bool.not_eq_true'] using hs
    refine ⟨by omega, by omega, _, drop_row Item.row_len (List.getElem?_eq_getElem hlt), Item.ne _ _, ?_⟩
    rw [← hit, Item.row_mk, Expr.row_mk]
    simp only [tt, seval, hi4, h3, Int.ofNat_lt]
    refine ⟨by kernel_rfl, ⟨by simp only [maxLen]; omega, by omega⟩, ?_⟩
    have e : es.flatMap Expr.row ++ [int k, int o, bool n, int v.kind, int v.num, str v.text, str q, str m, .sl ks.length (ks.flatMap Expr.row), .sl ss.length (ss.flatMap Query.row)] = (es ++ [Expr.mk k o n v q m ks ss]).flatMap Expr.row := by rw [List.flatMap_append]; simp [Expr.row_mk]
    have e2 : es.length + 1 = (es ++ [Expr.mk k o n v q m ks ss]).length := by simp
    rw [e, e2]
    try rw [wrS i (by omega)]
    exact ⟨_, none, SubO.cons rfl (SubO.cons rfl (SubO.nil _)), PoSub.none _, ⟨i + 1, _, rfl, rfl, by omega, by rw [hst, hes]; subst hs; rfl, rfl, rfl⟩, by simp only [ixS]; omega⟩
   ·have hs : star = true := by simpa only [Bool.not_eq_false'] using hs
    try rw [wrS i (by omega)]
    exact ⟨_, none, SubO.cons rfl (SubO.cons rfl (SubO.nil _)), PoSub.none _, ⟨i + 1, es, rfl, rfl, by omega, by rw [hst, hes]; subst hs; simp [Item.star], rfl, rfl⟩, by simp only [ixS]; omega⟩
  ·have hie : i = items.length := by omega
   subst hie
   rw [List.take_length] at hes
   subst hes
   try simp only [tt, seval, hi4, h3]
   refine dLoop.gh [.ren 30 45] ⟨by decide, by decide, ?_⟩
   refine dLoop0.intro (fun f L p => ∃ (i : Nat) (es : List Expr), f 5 = vi i ∧ f 3 = .c (.s 45 es.length) ∧ i ≤ from_.length ∧ es = exprsI items ++ (from_.take i).flatMap Source.on ∧ L = [(1, .str [.v (.bool distinct), .sl items.length (items.flatMap Item.row) none, .sl from_.length (from_.flatMap Source.row) none, .sl where_.length (where_.flatMap Expr.row) none, .sl order.length (order.flatMap SortKey.row) none, .v (.int .i64 limit)]), (45, .arr 32 es.length (es.flatMap Expr.row) none)] ∧ p = none) (fun f _ _ => (from_.length - ixS (f 5)).toNat) [(1, .str [.v (.bool distinct), .sl items.length (items.flatMap Item.row) none, .sl from_.length (from_.flatMap Source.row) none, .sl where_.length (where_.flatMap Expr.row) none, .sl order.length (order.flatMap SortKey.row) none, .v (.int .i64 limit)]), (45, .arr 32 (exprsI items).length ((exprsI items).flatMap Expr.row) none)] none ⟨SubO.cons rfl (SubO.cons rfl (SubO.nil _)), PoSub.none _, ?_⟩ ?_
   ·simp only [tt, seval, h3]
    exact ⟨0, exprsI items, rfl, rfl, by omega, by simp, rfl⟩
   ·rintro g L p ⟨i, es, hi5, h3, hi, hes, rfl, rfl⟩
    simp only [tt, seval] at hi5 h3
    simp only [tt, seval, hi5, h3, Int.ofNat_lt]
    refine fun _ => ?_
    refine And.intro (fun hlt => ?_) (fun hge => ?_)
    ·have hlt : i < from_.length := by omega
     have hst := on_step hlt
     have hel : es.length ≤ (exprsI items).length + (from_.flatMap Source.on).length := by have := take_on_len from_ i; rw [hes, List.length_append]; omega
     obtain ⟨it, hit⟩ : ∃ it, it = from_[i] := ⟨_, rfl⟩
     rw [← hit] at hst
     have hon : it.on.length ≤ 1048576 := by
      have h1 := mem_sz szSource (List.getElem_mem hlt)
      rw [← hit] at h1
      obtain ⟨table, as_, on⟩ := it
      rw [szSource_mk, szExprs_eq] at h1
      show on.length ≤ _
      omega
     refine ⟨by omega, by omega, _, drop_row Source.row_len (List.getElem?_eq_getElem hlt), Source.ne _ _, ?_⟩
     obtain ⟨table, as_, on⟩ := it
     have hon : on.length ≤ 1048576 := hon
     rw [← hit, Source.row_mk]
     simp only [tt, seval, hi5, h3, Int.ofNat_lt]
     refine ⟨by kernel_rfl, by rw [flatMap_len Expr.row_len], ⟨by simp only [maxLen]; omega, by omega⟩, ?_⟩
     have e2 : es.length + on.length = (es ++ on).length := by simp
     rw [← List.flatMap_append, e2]
     try rw [wrS i (by omega)]
     exact ⟨_, none, SubO.cons rfl (SubO.cons rfl (SubO.nil _)), PoSub.none _, ⟨i + 1, _, rfl, rfl, by omega, by rw [hst, hes, List.append_assoc]; rfl, rfl, rfl⟩, by simp only [ixS]; omega⟩
    ·have hie : i = from_.length := by omega
     subst hie
     rw [List.take_length] at hes
     try simp only [tt, seval, hi5, h3]
     have hel : es.length = (exprsI items).length + (from_.flatMap Source.on).length := by rw [hes, List.length_append]
     refine ⟨by kernel_rfl, by rw [flatMap_len Expr.row_len], ⟨by simp only [maxLen]; omega, by omega⟩, ?_⟩
     have e2 : es.length + where_.length = (es ++ where_).length := by simp
     rw [← List.flatMap_append, e2]
     obtain ⟨fs, hfs⟩ : ∃ fs, fs = es ++ where_ := ⟨_, rfl⟩
     have hfl : fs.length = (exprsI items).length + (from_.flatMap Source.on).length + where_.length := by rw [hfs, List.length_append, hel]
     have hfs' : fs = exprsI items ++ from_.flatMap Source.on ++ where_ := by rw [hfs, hes]
     rw [← hfs]
     try simp only [tt, seval]
     refine dLoop.gh [.ren 49 65] ⟨by decide, by decide, ?_⟩
     refine dLoop0.intro (fun f L p => ∃ (i : Nat) (es : List Expr), f 6 = vi i ∧ f 3 = .c (.s 65 es.length) ∧ i ≤ order.length ∧ es = fs ++ (order.take i).map SortKey.e ∧ L = [(1, .str [.v (.bool distinct), .sl items.length (items.flatMap Item.row) none, .sl from_.length (from_.flatMap Source.row) none, .sl where_.length (where_.flatMap Expr.row) none, .sl order.length (order.flatMap SortKey.row) none, .v (.int .i64 limit)]), (65, .arr 32 es.length (es.flatMap Expr.row) none)] ∧ p = none) (fun f _ _ => (order.length - ixS (f 6)).toNat) [(1, .str [.v (.bool distinct), .sl items.length (items.flatMap Item.row) none, .sl from_.length (from_.flatMap Source.row) none, .sl where_.length (where_.flatMap Expr.row) none, .sl order.length (order.flatMap SortKey.row) none, .v (.int .i64 limit)]), (65, .arr 32 fs.length (fs.flatMap Expr.row) none)] none ⟨SubO.cons rfl (SubO.cons rfl (SubO.nil _)), PoSub.none _, ?_⟩ ?_
     ·simp only [tt, seval, h3]
      exact ⟨0, fs, rfl, rfl, by omega, by simp, rfl⟩
     ·rintro g L p ⟨i, es, hi6, h3, hi, hes, rfl, rfl⟩
      simp only [tt, seval] at hi6 h3
      simp only [tt, seval, hi6, h3, Int.ofNat_lt]
      refine fun _ => ?_
      refine And.intro (fun hlt => ?_) (fun hge => ?_)
      ·have hlt : i < order.length := by omega
       have hst := key_step hlt
       have hel : es.length = fs.length + i := by rw [hes, List.length_append, List.length_map, List.length_take]; omega
       obtain ⟨it, hit⟩ : ∃ it, it = order[i] := ⟨_, rfl⟩
       rw [← hit] at hst
       refine ⟨by omega, by omega, _, drop_row SortKey.row_len (List.getElem?_eq_getElem hlt), SortKey.ne _ _, ?_⟩
       obtain ⟨⟨k, o, n, v, q, m, ks, ss⟩, desc⟩ := it
       rw [← hit, SortKey.row_mk, Expr.row_mk]
       simp only [tt, seval, hi6, h3, Int.ofNat_lt]
       refine ⟨by kernel_rfl, ⟨by simp only [maxLen]; omega, by omega⟩, ?_⟩
       have e : es.flatMap Expr.row ++ [int k, int o, bool n, int v.kind, int v.num, str v.text, str q, str m, .sl ks.length (ks.flatMap Expr.row), .sl ss.length (ss.flatMap Query.row)] = (es ++ [Expr.mk k o n v q m ks ss]).flatMap Expr.row := by rw [List.flatMap_append]; simp [Expr.row_mk]
       have e2 : es.length + 1 = (es ++ [Expr.mk k o n v q m ks ss]).length := by simp
       rw [e, e2]
       try rw [wrS i (by omega)]
       exact ⟨_, none, SubO.cons rfl (SubO.cons rfl (SubO.nil _)), PoSub.none _, ⟨i + 1, _, rfl, rfl, by omega, by rw [hst, hes, List.append_assoc]; rfl, rfl, rfl⟩, by simp only [ixS]; omega⟩
      ·have hie : i = order.length := by omega
       subst hie
       rw [List.take_length] at hes
       try simp only [tt, seval, hi6, h3]
       refine ⟨_, [], rfl, endOk ?_⟩
       simp only [tt, seval]
       rw [hes, hfs']
       exact ⟨rfl, rfl⟩
theorem iexprs_d (distinct : Bool) (items : List Item) (from_ : List Source) (where_ : List Expr) (order : List SortKey) (limit : Int) (hsz : szQuery (Query.mk distinct items from_ where_ order limit) ≤ 1048576) : Cl Tryz.prog 177 [.ag (csOf (Query.mk distinct items from_ where_ order limit).row)] [] fun r _ => r = .c (.sl (exprsQ (Query.mk distinct items from_ where_ order limit)).length ((exprsQ (Query.mk distinct items from_ where_ order limit)).flatMap Expr.row) none) := by
 have hlen := exprsQ_len (Query.mk distinct items from_ where_ order limit)
 have q0 : exprsQ (Query.mk distinct items from_ where_ order limit) = exprsI items ++ from_.flatMap Source.on ++ where_ ++ order.map SortKey.e := rfl
 rw [q0] at hlen ⊢
 simp only [List.length_append, List.length_map] at hlen
 have htot := Nat.le_trans hlen hsz
 have hil := exprsI_len items
 rw [szQuery_mk, szItems_eq, szSources_eq, szExprs_eq, szSortKeys_eq] at hsz
 rw [Query.row_mk]
 refine cl_of_d follows_mixed false Tryz.func177 rfl (by kernel_rfl) ?_
 simp only [Tryz.f177, tt, seval]
 refine fun _ => ?_
 refine dLoop.gh [.ren 10 25] ⟨by decide, by decide, ?_⟩
 refine dLoop0.intro (fun f L p => ∃ (i : Nat) (es : List Expr), f 14 = vi i ∧ f 3 = .c (.s 25 es.length) ∧ i ≤ items.length ∧ es = exprsI (items.take i) ∧ L = [(1, .str [.v (.bool distinct), .sl items.length (items.flatMap Item.row) none, .sl from_.length (from_.flatMap Source.row) none, .sl where_.length (where_.flatMap Expr.row) none, .sl order.length (order.flatMap SortKey.row) none, .v (.int .i64 limit)]), (25, .arr 32 es.length (es.flatMap Expr.row) none)] ∧ p = none) (fun f _ _ => (items.length - ixS (f 14)).toNat) [(1, .str [.v (.bool distinct), .sl items.length (items.flatMap Item.row) none, .sl from_.length (from_.flatMap Source.row) none, .sl where_.length (where_.flatMap Expr.row) none, .sl order.length (order.flatMap SortKey.row) none, .v (.int .i64 limit)]), (25, .arr 32 0 [] none)] none ⟨SubO.cons rfl (SubO.cons rfl (SubO.nil _)), PoSub.none _, ?_⟩ ?_
 ·simp only [tt, seval]
  exact ⟨0, [], rfl, rfl, by omega, rfl, rfl⟩
 ·rintro g L p ⟨i, es, hi4, h3, hi, hes, rfl, rfl⟩
  simp only [tt, seval] at hi4 h3
  simp only [tt, seval, hi4, h3, Int.ofNat_lt]
  refine And.intro (fun hlt => ?_) (fun hge => ?_)
  ·have hlt : i < items.length := by omega
   have hst := exprsI_step hlt
   have hel : es.length ≤ items.length := by rw [hes]; exact Nat.le_trans (exprsI_len _) (by rw [List.length_take]; omega)
   have hei : es.length ≤ i := by rw [hes]; exact Nat.le_trans (exprsI_len _) (by rw [List.length_take]; omega)
   obtain ⟨it, hit⟩ : ∃ it, it = items[i] := ⟨_, rfl⟩
   rw [← hit] at hst
   refine ⟨by omega, by omega, _, drop_row Item.row_len (List.getElem?_eq_getElem hlt), Item.ne _ _, ?_⟩
   obtain ⟨star, qual, ⟨k, o, n, v, q, m, ks, ss⟩, as_⟩ := it
   rw [← hit, Item.row_mk, Expr.row_mk]
   simp only [tt, seval, hi4, h3, Int.ofNat_lt]
   refine And.intro (fun hs => ?_) (fun hs => ?_)
   ·have hs : star = false := by simpa only [Bool.not_eq_true'] using hs
    refine ⟨by kernel_rfl, ⟨by simp only [maxLen]; omega, by omega⟩, ?_⟩
    have e : es.flatMap Expr.row ++ [int k, int o, bool n, int v.kind, int v.num, str v.text, str q, str m, .sl ks.length (ks.flatMap Expr.row), .sl ss.length (ss.flatMap Query.row)] = (es ++ [Expr.mk k o n v q m ks ss]).flatMap Expr.row := by rw [List.flatMap_append]; simp [Expr.row_mk]
    have e2 : es.length + 1 = (es ++ [Expr.mk k o n v q m ks ss]).length := by simp
    rw [e, e2]
    try rw [wrS i (by omega)]
    exact ⟨_, none, SubO.cons rfl (SubO.cons rfl (SubO.nil _)), PoSub.none _, ⟨i + 1, _, rfl, rfl, by omega, by rw [hst, hes]; subst hs; rfl, rfl, rfl⟩, by simp only [ixS]; omega⟩
   ·have hs : star = true := by simpa only [Bool.not_eq_false'] using hs
    try rw [wrS i (by omega)]
    exact ⟨_, none, SubO.cons rfl (SubO.cons rfl (SubO.nil _)), PoSub.none _, ⟨i + 1, es, rfl, rfl, by omega, by rw [hst, hes]; subst hs; simp [Item.star], rfl, rfl⟩, by simp only [ixS]; omega⟩
  ·have hie : i = items.length := by omega
   subst hie
   rw [List.take_length] at hes
   subst hes
   try simp only [tt, seval, hi4, h3]
   refine fun _ => ?_
   refine dLoop.gh [.ren 25 37] ⟨by decide, by decide, ?_⟩
   refine dLoop0.intro (fun f L p => ∃ (i : Nat) (es : List Expr), f 30 = vi i ∧ f 3 = .c (.s 37 es.length) ∧ i ≤ from_.length ∧ es = exprsI items ++ (from_.take i).flatMap Source.on ∧ L = [(1, .str [.v (.bool distinct), .sl items.length (items.flatMap Item.row) none, .sl from_.length (from_.flatMap Source.row) none, .sl where_.length (where_.flatMap Expr.row) none, .sl order.length (order.flatMap SortKey.row) none, .v (.int .i64 limit)]), (37, .arr 32 es.length (es.flatMap Expr.row) none)] ∧ p = none) (fun f _ _ => (from_.length - ixS (f 30)).toNat) [(1, .str [.v (.bool distinct), .sl items.length (items.flatMap Item.row) none, .sl from_.length (from_.flatMap Source.row) none, .sl where_.length (where_.flatMap Expr.row) none, .sl order.length (order.flatMap SortKey.row) none, .v (.int .i64 limit)]), (37, .arr 32 (exprsI items).length ((exprsI items).flatMap Expr.row) none)] none ⟨SubO.cons rfl (SubO.cons rfl (SubO.nil _)), PoSub.none _, ?_⟩ ?_
   ·simp only [tt, seval, h3]
    exact ⟨0, exprsI items, rfl, rfl, by omega, by simp, rfl⟩
   ·rintro g L p ⟨i, es, hi5, h3, hi, hes, rfl, rfl⟩
    simp only [tt, seval] at hi5 h3
    simp only [tt, seval, hi5, h3, Int.ofNat_lt]
    refine And.intro (fun hlt => ?_) (fun hge => ?_)
    ·have hlt : i < from_.length := by omega
     have hst := on_step hlt
     have hel : es.length ≤ (exprsI items).length + (from_.flatMap Source.on).length := by have := take_on_len from_ i; rw [hes, List.length_append]; omega
     obtain ⟨it, hit⟩ : ∃ it, it = from_[i] := ⟨_, rfl⟩
     rw [← hit] at hst
     have hon : it.on.length ≤ 1048576 := by
      have h1 := mem_sz szSource (List.getElem_mem hlt)
      rw [← hit] at h1
      obtain ⟨table, as_, on⟩ := it
      rw [szSource_mk, szExprs_eq] at h1
      show on.length ≤ _
      omega
     refine ⟨by omega, by omega, _, drop_row Source.row_len (List.getElem?_eq_getElem hlt), Source.ne _ _, ?_⟩
     obtain ⟨table, as_, on⟩ := it
     have hon : on.length ≤ 1048576 := hon
     rw [← hit, Source.row_mk]
     simp only [tt, seval, hi5, h3, Int.ofNat_lt]
     refine ⟨by kernel_rfl, by rw [flatMap_len Expr.row_len], ⟨by simp only [maxLen]; omega, by omega⟩, ?_⟩
     have e2 : es.length + on.length = (es ++ on).length := by simp
     rw [← List.flatMap_append, e2]
     try rw [wrS i (by omega)]
     exact ⟨_, none, SubO.cons rfl (SubO.cons rfl (SubO.nil _)), PoSub.none _, ⟨i + 1, _, rfl, rfl, by omega, by rw [hst, hes, List.append_assoc]; rfl, rfl, rfl⟩, by simp only [ixS]; omega⟩
    ·have hie : i = from_.length := by omega
     subst hie
     rw [List.take_length] at hes
     try simp only [tt, seval, hi5, h3]
     have hel : es.length = (exprsI items).length + (from_.flatMap Source.on).length := by rw [hes, List.length_append]
     refine ⟨by kernel_rfl, by rw [flatMap_len Expr.row_len], ⟨by simp only [maxLen]; omega, by omega⟩, ?_⟩
     have e2 : es.length + where_.length = (es ++ where_).length := by simp
     rw [← List.flatMap_append, e2]
     obtain ⟨fs, hfs⟩ : ∃ fs, fs = es ++ where_ := ⟨_, rfl⟩
     have hfl : fs.length = (exprsI items).length + (from_.flatMap Source.on).length + where_.length := by rw [hfs, List.length_append, hel]
     have hfs' : fs = exprsI items ++ from_.flatMap Source.on ++ where_ := by rw [hfs, hes]
     rw [← hfs]
     try simp only [tt, seval]
     refine fun _ => ?_
     refine dLoop.gh [.ren 42 54] ⟨by decide, by decide, ?_⟩
     refine dLoop0.intro (fun f L p => ∃ (i : Nat) (es : List Expr), f 46 = vi i ∧ f 3 = .c (.s 54 es.length) ∧ i ≤ order.length ∧ es = fs ++ (order.take i).map SortKey.e ∧ L = [(1, .str [.v (.bool distinct), .sl items.length (items.flatMap Item.row) none, .sl from_.length (from_.flatMap Source.row) none, .sl where_.length (where_.flatMap Expr.row) none, .sl order.length (order.flatMap SortKey.row) none, .v (.int .i64 limit)]), (54, .arr 32 es.length (es.flatMap Expr.row) none)] ∧ p = none) (fun f _ _ => (order.length - ixS (f 46)).toNat) [(1, .str [.v (.bool distinct), .sl items.length (items.flatMap Item.row) none, .sl from_.length (from_.flatMap Source.row) none, .sl where_.length (where_.flatMap Expr.row) none, .sl order.length (order.flatMap SortKey.row) none, .v (.int .i64 limit)]), (54, .arr 32 fs.length (fs.flatMap Expr.row) none)] none ⟨SubO.cons rfl (SubO.cons rfl (SubO.nil _)), PoSub.none _, ?_⟩ ?_
     ·simp only [tt, seval, h3]
      exact ⟨0, fs, rfl, rfl, by omega, by simp, rfl⟩
     ·rintro g L p ⟨i, es, hi6, h3, hi, hes, rfl, rfl⟩
      simp only [tt, seval] at hi6 h3
      simp only [tt, seval, hi6, h3, Int.ofNat_lt]
      refine And.intro (fun hlt => ?_) (fun hge => ?_)
      ·have hlt : i < order.length := by omega
       have hst := key_step hlt
       have hel : es.length = fs.length + i := by rw [hes, List.length_append, List.length_map, List.length_take]; omega
       obtain ⟨it, hit⟩ : ∃ it, it = order[i] := ⟨_, rfl⟩
       rw [← hit] at hst
       refine ⟨by omega, by omega, _, drop_row SortKey.row_len (List.getElem?_eq_getElem hlt), SortKey.ne _ _, ?_⟩
       obtain ⟨⟨k, o, n, v, q, m, ks, ss⟩, desc⟩ := it
       rw [← hit, SortKey.row_mk, Expr.row_mk]
       simp only [tt, seval, hi6, h3, Int.ofNat_lt]
       refine ⟨by kernel_rfl, ⟨by simp only [maxLen]; omega, by omega⟩, ?_⟩
       have e : es.flatMap Expr.row ++ [int k, int o, bool n, int v.kind, int v.num, str v.text, str q, str m, .sl ks.length (ks.flatMap Expr.row), .sl ss.length (ss.flatMap Query.row)] = (es ++ [Expr.mk k o n v q m ks ss]).flatMap Expr.row := by rw [List.flatMap_append]; simp [Expr.row_mk]
       have e2 : es.length + 1 = (es ++ [Expr.mk k o n v q m ks ss]).length := by simp
       rw [e, e2]
       try rw [wrS i (by omega)]
       exact ⟨_, none, SubO.cons rfl (SubO.cons rfl (SubO.nil _)), PoSub.none _, ⟨i + 1, _, rfl, rfl, by omega, by rw [hst, hes, List.append_assoc]; rfl, rfl, rfl⟩, by simp only [ixS]; omega⟩
      ·have hie : i = order.length := by omega
       subst hie
       rw [List.take_length] at hes
       try simp only [tt, seval, hi6, h3]
       refine ⟨_, [], rfl, endOk ?_⟩
       simp only [tt, seval]
       rw [hes, hfs']
       exact ⟨rfl, rfl⟩
def maxL (l : List Nat) : Nat := l.foldl max 0
theorem maxL_snoc (l : List Nat) (x : Nat) : maxL (l ++ [x]) = max (maxL l) x := by simp [maxL]
theorem maxL_le {l : List Nat} {b : Nat} (h : ∀ x ∈ l, x ≤ b) : maxL l ≤ b := by
 unfold maxL
 suffices H : ∀ (l : List Nat) (a : Nat), a ≤ b → (∀ x ∈ l, x ≤ b) → l.foldl max a ≤ b from H l 0 (Nat.zero_le _) h
 intro l
 induction l with
 | nil => exact fun a h _ => h
 | cons y r ih => exact fun a h hx => ih _ (Nat.max_le.2 ⟨h, hx y (by simp)⟩) fun x hm => hx x (by simp [hm])
theorem take_map_step {α : Type} (g : α → Nat) {l : List α} {i : Nat} (h : i < l.length) : (l.take (i + 1)).map g = (l.take i).map g ++ [g l[i]] := by
 rw [List.take_succ_eq_append_getElem h, List.map_append]; rfl
theorem imax (a b : Nat) : (if (b : Int) > (a : Int) then (b : Int) else (a : Int)) = ((max a b : Nat) : Int) := by split <;> omega
theorem kid_sz1 {x e : Expr} (h : x ∈ e.kids) : szExpr x + 1 ≤ szExpr e := by
 obtain ⟨k, o, n, v, q, m, ks, ss⟩ := e
 have h : x ∈ ks := h
 rw [szExpr_mk, szExprs_eq]
 have := mem_sz szExpr h
 have := List.length_pos_of_mem h
 omega
theorem sub_sz1 {q : Query} {e : Expr} (h : q ∈ e.sub) : szQuery q + 1 ≤ szExpr e := by
 obtain ⟨k, o, n, v, q', m, ks, ss⟩ := e
 have h : q ∈ ss := h
 rw [szExpr_mk, szQuerys_eq]
 have := mem_sz szQuery h
 have := List.length_pos_of_mem h
 omega
theorem below_sz1 {x e : Expr} (h : below x e) : szExpr x + 1 ≤ szExpr e := by
 rcases h with h | ⟨q, hq, h⟩
 ·exact kid_sz1 h
 ·have := sub_sz1 hq; have := exprsQ_sz h; omega
def dpF (g : Expr → Nat) (e : Expr) : Nat := 1 + maxL (e.kids.map g ++ e.sub.map fun q => maxL ((exprsQ q).map g))
noncomputable def dpE : Expr → Nat := foldE dpF
theorem dp_le {e : Expr} {g : Expr → Nat} (h : ∀ x, below x e → g x ≤ szExpr x + 1) : dpF g e ≤ szExpr e + 1 := by
 unfold dpF
 have : maxL (e.kids.map g ++ e.sub.map fun q => maxL ((exprsQ q).map g)) ≤ szExpr e := maxL_le fun y hy => by
  rcases List.mem_append.1 hy with hy | hy
  ·obtain ⟨x, hx, rfl⟩ := List.mem_map.1 hy
   have := h x (.inl hx); have := below_sz1 (.inl hx : below x e); omega
  ·obtain ⟨q, hq, rfl⟩ := List.mem_map.1 hy
   refine maxL_le fun z hz => ?_
   obtain ⟨x, hx, rfl⟩ := List.mem_map.1 hz
   have := h x (.inr ⟨q, hq, hx⟩); have := below_sz1 (.inr ⟨q, hq, hx⟩ : below x e); omega
 omega
theorem l1Max_d (a b : Nat) : Cl Tryz.prog 86 [vi a, vi b] [] fun r _ => r = vi (max a b : Nat) := by
 refine cl_of_d follows_mixed false Tryz.func86 rfl (by kernel_rfl) ?_
 simp only [Tryz.f86, tt, seval]
 refine And.intro (fun h => ?_) (fun h => ?_)
 ·exact ⟨_, _, viE (by omega), end0 rfl⟩
 ·exact ⟨_, _, viE (by omega), end0 rfl⟩
theorem deepestOf_d (l : List Expr) (g : Expr → Nat) (h : ∀ x ∈ l, Cl Tryz.prog 77 [.ag (csOf x.row)] [] fun r _ => r = vi (g x : Nat)) (hl : l.length ≤ 1048576) : Cl Tryz.prog 176 [.c (.sl l.length (l.flatMap Expr.row) none)] [] fun r _ => r = vi (maxL (l.map g) : Nat) := by
 refine cl_of_d follows_mixed false Tryz.func176 rfl (by kernel_rfl) ?_
 simp only [Tryz.f176, tt, seval]
 refine fun _ => ?_
 refine dLoop.intro (fun f L p => ∃ i : Nat, f 8 = vi i ∧ i ≤ l.length ∧ f 3 = vi (maxL ((l.take i).map g) : Nat) ∧ L = [] ∧ p = none) (fun f _ _ => (l.length - ixS (f 8)).toNat) [] none ⟨SubO.nil _, PoSub.none _, ?_⟩ ?_
 ·simp only [tt, seval]
  exact ⟨0, rfl, by omega, by simp [maxL]⟩
 ·rintro g' L p ⟨i, hix, hi, hac, rfl, rfl⟩
  simp only [tt, seval] at hix hac
  simp only [tt, seval, hix, hac, Int.ofNat_lt]
  refine And.intro (fun hlt => ?_) (fun hge => ?_)
  ·have hlt : i < l.length := by omega
   obtain ⟨it, hit⟩ : ∃ it, it = l[i] := ⟨_, rfl⟩
   have hmem : it ∈ l := by rw [hit]; exact List.getElem_mem hlt
   refine ⟨by omega, by omega, _, drop_row Expr.row_len (List.getElem?_eq_getElem hlt), Expr.ne _ _, ?_⟩
   have hstep : maxL ((l.take (i + 1)).map g) = max (maxL ((l.take i).map g)) (g l[i]) := by rw [take_map_step g hlt, maxL_snoc]
   rw [← hit] at hstep
   obtain ⟨k, o, n, v, q, m, ks, ss⟩ := it
   rw [← hit, Expr.row_mk]
   simp only [tt, seval, hix, hac]
   refine cZ (h _ hmem) (by decide) ?_ ?_ <;> simp only [tt, seval, hix, hac, Expr.row_mk]
   rw [imax, wrap_id (n := (i : Int) + 1) (by omega) (by omega)]
   exact ⟨_, none, SubO.nil _, PoSub.none _, ⟨i + 1, rfl, by omega, viE (by rw [hstep]), rfl, rfl⟩, by simp only [ixS]; omega⟩
  ·have hie : i = l.length := by omega
   subst hie
   rw [List.take_length] at hac
   try simp only [tt, seval, hix, hac]
   try rw [List.take_length]
   exact ⟨_, _, rfl, end0 rfl⟩
theorem iDepthOfQ (q : Query) (g : Expr → Nat) (h : ∀ x ∈ exprsQ q, Cl Tryz.prog 77 [.ag (csOf x.row)] [] fun r _ => r = vi (g x : Nat)) (hsz : szQuery q ≤ 1048576) : Cl Tryz.prog 125 [.ag (csOf q.row)] [] fun r _ => r = vi (maxL ((exprsQ q).map g) : Nat) := by
 have hlen := exprsQ_len q
 obtain ⟨distinct, items, from_, where_, order, limit⟩ := q
 rw [Query.row_mk]
 refine cl_of_d follows_mixed false Tryz.func125 rfl (by kernel_rfl) ?_
 simp only [Tryz.f125, tt, seval]
 refine cZ (iexprs_d distinct items from_ where_ order limit hsz) (by decide) ?_ ?_ <;> simp only [tt, seval, Query.row_mk]
 generalize exprsQ (Query.mk distinct items from_ where_ order limit) = l at *
 refine cZ (deepestOf_d l g h (by omega)) (by decide) ?_ ?_ <;> simp only [tt, seval]
 exact ⟨_, _, rfl, end0 rfl⟩
theorem iDepthOf_step (kind op : Int) (not : Bool) (val : Val) (qual name : ByteArray) (kids : List Expr) (sub : List Query) (g : Expr → Nat) (hg : ∀ x, below x (Expr.mk kind op not val qual name kids sub) → (Cl Tryz.prog 77 [.ag (csOf x.row)] [] fun r _ => r = vi (g x : Nat)) ∧ g x ≤ szExpr x + 1) (hsz : szExpr (Expr.mk kind op not val qual name kids sub) ≤ 1048576) : Cl Tryz.prog 77 [.ag (csOf (Expr.mk kind op not val qual name kids sub).row)] [] fun r _ => r = vi (dpF g (Expr.mk kind op not val qual name kids sub) : Nat) := by
 have hdl := dp_le (g := g) (fun x hx => (hg x hx).2)
 have e : dpF g (Expr.mk kind op not val qual name kids sub) = 1 + maxL (kids.map g ++ sub.map fun q => maxL ((exprsQ q).map g)) := rfl
 rw [e] at hdl ⊢
 rw [Expr.row_mk]
 refine cl_of_d follows_mixed false Tryz.func77 rfl (by kernel_rfl) ?_
 simp only [Tryz.f77, tt, seval]
 refine fun _ => ?_
 refine dLoop.intro (fun f L p => ∃ i : Nat, f 11 = vi i ∧ i ≤ kids.length ∧ f 3 = vi (maxL ((kids.take i).map g) : Nat) ∧ L = [(1, .str [.v (.int .i64 kind), .v (.int .i64 op), .v (.bool not), .v (.int .i64 val.kind), .v (.int .i64 val.num), .v (.string val.text), .v (.string qual), .v (.string name), .sl kids.length (kids.flatMap Expr.row) none, .sl sub.length (sub.flatMap Query.row) none])] ∧ p = none) (fun f _ _ => (kids.length - ixS (f 11)).toNat) [(1, .str [.v (.int .i64 kind), .v (.int .i64 op), .v (.bool not), .v (.int .i64 val.kind), .v (.int .i64 val.num), .v (.string val.text), .v (.string qual), .v (.string name), .sl kids.length (kids.flatMap Expr.row) none, .sl sub.length (sub.flatMap Query.row) none])] none ⟨SubO.cons rfl (SubO.nil _), PoSub.none _, ?_⟩ ?_
 ·simp only [tt, seval]
  exact ⟨0, rfl, by omega, by simp [maxL]⟩
 ·rintro g' L p ⟨i, hix, hi, hac, rfl, rfl⟩
  simp only [tt, seval] at hix hac
  simp only [tt, seval, hix, hac, Int.ofNat_lt]
  refine And.intro (fun hlt => ?_) (fun hge => ?_)
  ·have hlt : i < kids.length := by omega
   obtain ⟨it, hit⟩ : ∃ it, it = kids[i] := ⟨_, rfl⟩
   have hmem : it ∈ kids := by rw [hit]; exact List.getElem_mem hlt
   refine ⟨by omega, by omega, _, drop_row Expr.row_len (List.getElem?_eq_getElem hlt), Expr.ne _ _, ?_⟩
   have hstep : maxL ((kids.take (i + 1)).map g) = max (maxL ((kids.take i).map g)) (g kids[i]) := by rw [take_map_step g hlt, maxL_snoc]
   rw [← hit] at hstep
   obtain ⟨k, o, n, v, q, m, ks, ss⟩ := it
   rw [← hit, Expr.row_mk]
   simp only [tt, seval, hix, hac]
   refine cZ ((hg _ (.inl hmem)).1) (by decide) ?_ ?_ <;> simp only [tt, seval, hix, hac, Expr.row_mk]
   rw [imax, wrap_id (n := (i : Int) + 1) (by omega) (by omega)]
   exact ⟨_, none, SubO.cons rfl (SubO.nil _), PoSub.none _, ⟨i + 1, rfl, by omega, viE (by rw [hstep]), rfl, rfl⟩, by simp only [ixS]; omega⟩
  ·have hie : i = kids.length := by omega
   subst hie
   rw [List.take_length] at hac
   try simp only [tt, seval, hix, hac]
   try rw [List.take_length]
   refine fun _ => ?_
   refine dLoop.intro (fun f L p => ∃ i : Nat, f 23 = vi i ∧ i ≤ sub.length ∧ f 3 = vi (maxL (kids.map g ++ (sub.take i).map fun q => maxL ((exprsQ q).map g)) : Nat) ∧ L = [(1, .str [.v (.int .i64 kind), .v (.int .i64 op), .v (.bool not), .v (.int .i64 val.kind), .v (.int .i64 val.num), .v (.string val.text), .v (.string qual), .v (.string name), .sl kids.length (kids.flatMap Expr.row) none, .sl sub.length (sub.flatMap Query.row) none])] ∧ p = none) (fun f _ _ => (sub.length - ixS (f 23)).toNat) [(1, .str [.v (.int .i64 kind), .v (.int .i64 op), .v (.bool not), .v (.int .i64 val.kind), .v (.int .i64 val.num), .v (.string val.text), .v (.string qual), .v (.string name), .sl kids.length (kids.flatMap Expr.row) none, .sl sub.length (sub.flatMap Query.row) none])] none ⟨SubO.cons rfl (SubO.nil _), PoSub.none _, ?_⟩ ?_
   ·simp only [tt, seval, hac]
    exact ⟨0, rfl, by omega, by simp [maxL]⟩
   ·rintro g' L p ⟨i, hix, hi, hac, rfl, rfl⟩
    simp only [tt, seval] at hix hac
    simp only [tt, seval, hix, hac, Int.ofNat_lt]
    refine And.intro (fun hlt => ?_) (fun hge => ?_)
    ·have hlt : i < sub.length := by omega
     obtain ⟨it, hit⟩ : ∃ it, it = sub[i] := ⟨_, rfl⟩
     have hmem : it ∈ sub := by rw [hit]; exact List.getElem_mem hlt
     refine ⟨by omega, by omega, _, drop_row Query.row_len (List.getElem?_eq_getElem hlt), Query.ne _ _, ?_⟩
     have hstep : maxL (kids.map g ++ (sub.take (i + 1)).map fun q => maxL ((exprsQ q).map g)) = max (maxL (kids.map g ++ (sub.take i).map fun q => maxL ((exprsQ q).map g))) (maxL ((exprsQ sub[i]).map g)) := by rw [take_map_step _ hlt, ← List.append_assoc, maxL_snoc]
     rw [← hit] at hstep
     obtain ⟨ds, its, frs, whs, ods, lim⟩ := it
     rw [← hit, Query.row_mk]
     simp only [tt, seval, hix, hac]
     refine cZ (iDepthOfQ (Query.mk ds its frs whs ods lim) g (fun x hx => (hg x (.inr ⟨_, hmem, hx⟩)).1) (Nat.le_trans (sub_sz (e := (Expr.mk kind op not val qual name kids sub)) hmem) hsz)) (by decide) ?_ ?_ <;> simp only [tt, seval, hix, hac, Query.row_mk]
     rw [imax, wrap_id (n := (i : Int) + 1) (by omega) (by omega)]
     exact ⟨_, none, SubO.cons rfl (SubO.nil _), PoSub.none _, ⟨i + 1, rfl, by omega, viE (by rw [hstep]), rfl, rfl⟩, by simp only [ixS]; omega⟩
    ·have hie : i = sub.length := by omega
     subst hie
     rw [List.take_length] at hac
     try simp only [tt, seval, hix, hac]
     try rw [List.take_length]
     rw [wrap_id (by omega) (by omega)]
     exact ⟨_, _, viE (by omega), end0 rfl⟩
theorem iDepthOf_d (e : Expr) : (szExpr e ≤ 1048576 → Cl Tryz.prog 77 [.ag (csOf e.row)] [] fun r _ => r = vi (dpE e : Nat)) ∧ dpE e ≤ szExpr e + 1 := by
 refine foldE_ind (P := fun e d => (szExpr e ≤ 1048576 → Cl Tryz.prog 77 [.ag (csOf e.row)] [] fun r _ => r = vi (d : Nat)) ∧ d ≤ szExpr e + 1) (fun e g hg => ⟨fun hsz => ?_, dp_le fun x hx => (hg x hx).2⟩) e
 obtain ⟨kind, op, not, val, qual, name, kids, sub⟩ := e
 exact iDepthOf_step kind op not val qual name kids sub g (fun x hx => ⟨(hg x hx).1 (Nat.le_trans (below_sz hx) hsz), (hg x hx).2⟩) hsz
theorem DepthOfQ (q : Query) (g : Expr → Nat) (h : ∀ x ∈ exprsQ q, Cl Tryz.prog 40 [.ag (csOf x.row)] [] fun r _ => r = vi (g x : Nat)) (hsz : szQuery q ≤ 1048576) : Cl Tryz.prog 87 [.ag (csOf q.row)] [] fun r _ => r = vi (maxL ((exprsQ q).map g) : Nat) := by
 have hlen := exprsQ_len q
 obtain ⟨distinct, items, from_, where_, order, limit⟩ := q
 rw [Query.row_mk]
 refine cl_of_d follows_mixed false Tryz.func87 rfl (by kernel_rfl) ?_
 simp only [Tryz.f87, tt, seval]
 refine cZ (l7Exprs_d distinct items from_ where_ order limit hsz) (by decide) ?_ ?_ <;> simp only [tt, seval, Query.row_mk]
 generalize exprsQ (Query.mk distinct items from_ where_ order limit) = l at *
 refine dLoop.intro (fun f L p => ∃ i : Nat, f 5 = vi i ∧ i ≤ l.length ∧ f 3 = vi (maxL ((l.take i).map g) : Nat) ∧ L = [(1, .str [.v (.bool distinct), .sl items.length (items.flatMap Item.row) none, .sl from_.length (from_.flatMap Source.row) none, .sl where_.length (where_.flatMap Expr.row) none, .sl order.length (order.flatMap SortKey.row) none, .v (.int .i64 limit)])] ∧ p = none) (fun f _ _ => (l.length - ixS (f 5)).toNat) [(1, .str [.v (.bool distinct), .sl items.length (items.flatMap Item.row) none, .sl from_.length (from_.flatMap Source.row) none, .sl where_.length (where_.flatMap Expr.row) none, .sl order.length (order.flatMap SortKey.row) none, .v (.int .i64 limit)])] none ⟨SubO.cons rfl (SubO.nil _), PoSub.none _, ?_⟩ ?_
 ·simp only [tt, seval]
  exact ⟨0, rfl, by omega, by simp [maxL]⟩
 ·rintro g' L p ⟨i, hix, hi, hac, rfl, rfl⟩
  simp only [tt, seval] at hix hac
  simp only [tt, seval, hix, hac, Int.ofNat_lt]
  refine fun _ => ?_
  refine And.intro (fun hlt => ?_) (fun hge => ?_)
  ·have hlt : i < l.length := by omega
   have hmem : l[i] ∈ l := List.getElem_mem hlt
   refine ⟨by omega, by omega, _, drop_row Expr.row_len (List.getElem?_eq_getElem hlt), Expr.ne _ _, ?_⟩
   simp only [tt, seval, hix, hac, Expr.tk, Expr.row_len]
   refine cZ (h _ hmem) (by decide) ?_ ?_ <;> simp only [tt, seval, hix, hac]
   refine cZ (l1Max_d (maxL ((l.take i).map g)) (g l[i])) (by decide) ?_ ?_ <;> simp only [tt, seval, hix, hac]
   rw [wrS i (by omega)]
   have hstep : maxL ((l.take (i + 1)).map g) = max (maxL ((l.take i).map g)) (g l[i]) := by rw [take_map_step g hlt, maxL_snoc]
   exact ⟨_, none, SubO.cons rfl (SubO.nil _), PoSub.none _, ⟨i + 1, rfl, by omega, viE (by rw [hstep]), rfl, rfl⟩, by simp only [ixS]; omega⟩
  ·have hie : i = l.length := by omega
   subst hie
   rw [List.take_length] at hac
   try simp only [tt, seval, hix, hac]
   try rw [List.take_length]
   exact ⟨_, _, rfl, end0 rfl⟩
theorem DepthOf_step (kind op : Int) (not : Bool) (val : Val) (qual name : ByteArray) (kids : List Expr) (sub : List Query) (g : Expr → Nat) (hg : ∀ x, below x (Expr.mk kind op not val qual name kids sub) → (Cl Tryz.prog 40 [.ag (csOf x.row)] [] fun r _ => r = vi (g x : Nat)) ∧ g x ≤ szExpr x + 1) (hsz : szExpr (Expr.mk kind op not val qual name kids sub) ≤ 1048576) : Cl Tryz.prog 40 [.ag (csOf (Expr.mk kind op not val qual name kids sub).row)] [] fun r _ => r = vi (dpF g (Expr.mk kind op not val qual name kids sub) : Nat) := by
 have hdl := dp_le (g := g) (fun x hx => (hg x hx).2)
 have e : dpF g (Expr.mk kind op not val qual name kids sub) = 1 + maxL (kids.map g ++ sub.map fun q => maxL ((exprsQ q).map g)) := rfl
 rw [e] at hdl ⊢
 rw [Expr.row_mk]
 refine cl_of_d follows_mixed false Tryz.func40 rfl (by kernel_rfl) ?_
 simp only [Tryz.f40, tt, seval]
 refine dLoop.intro (fun f L p => ∃ i : Nat, f 4 = vi i ∧ i ≤ kids.length ∧ f 3 = vi (maxL ((kids.take i).map g) : Nat) ∧ L = [(1, .str [.v (.int .i64 kind), .v (.int .i64 op), .v (.bool not), .v (.int .i64 val.kind), .v (.int .i64 val.num), .v (.string val.text), .v (.string qual), .v (.string name), .sl kids.length (kids.flatMap Expr.row) none, .sl sub.length (sub.flatMap Query.row) none])] ∧ p = none) (fun f _ _ => (kids.length - ixS (f 4)).toNat) [(1, .str [.v (.int .i64 kind), .v (.int .i64 op), .v (.bool not), .v (.int .i64 val.kind), .v (.int .i64 val.num), .v (.string val.text), .v (.string qual), .v (.string name), .sl kids.length (kids.flatMap Expr.row) none, .sl sub.length (sub.flatMap Query.row) none])] none ⟨SubO.cons rfl (SubO.nil _), PoSub.none _, ?_⟩ ?_
 ·simp only [tt, seval]
  exact ⟨0, rfl, by omega, by simp [maxL]⟩
 ·rintro g' L p ⟨i, hix, hi, hac, rfl, rfl⟩
  simp only [tt, seval] at hix hac
  simp only [tt, seval, hix, hac, Int.ofNat_lt]
  refine fun _ => ?_
  refine And.intro (fun hlt => ?_) (fun hge => ?_)
  ·have hlt : i < kids.length := by omega
   have hmem : kids[i] ∈ kids := List.getElem_mem hlt
   refine ⟨by omega, by omega, _, drop_row Expr.row_len (List.getElem?_eq_getElem hlt), Expr.ne _ _, ?_⟩
   simp only [tt, seval, hix, hac, Expr.tk, Expr.row_len]
   refine cZ ((hg _ (.inl hmem)).1) (by decide) ?_ ?_ <;> simp only [tt, seval, hix, hac, Expr.row_mk]
   refine cZ (l1Max_d (maxL ((kids.take i).map g)) (g kids[i])) (by decide) ?_ ?_ <;> simp only [tt, seval, hix, hac]
   rw [wrS i (by omega)]
   have hstep : maxL ((kids.take (i + 1)).map g) = max (maxL ((kids.take i).map g)) (g kids[i]) := by rw [take_map_step g hlt, maxL_snoc]
   exact ⟨_, none, SubO.cons rfl (SubO.nil _), PoSub.none _, ⟨i + 1, rfl, by omega, viE (by rw [hstep]), rfl, rfl⟩, by simp only [ixS]; omega⟩
  ·have hie : i = kids.length := by omega
   subst hie
   rw [List.take_length] at hac
   try simp only [tt, seval, hix, hac]
   try rw [List.take_length]
   refine dLoop.intro (fun f L p => ∃ i : Nat, f 5 = vi i ∧ i ≤ sub.length ∧ f 3 = vi (maxL (kids.map g ++ (sub.take i).map fun q => maxL ((exprsQ q).map g)) : Nat) ∧ L = [(1, .str [.v (.int .i64 kind), .v (.int .i64 op), .v (.bool not), .v (.int .i64 val.kind), .v (.int .i64 val.num), .v (.string val.text), .v (.string qual), .v (.string name), .sl kids.length (kids.flatMap Expr.row) none, .sl sub.length (sub.flatMap Query.row) none])] ∧ p = none) (fun f _ _ => (sub.length - ixS (f 5)).toNat) [(1, .str [.v (.int .i64 kind), .v (.int .i64 op), .v (.bool not), .v (.int .i64 val.kind), .v (.int .i64 val.num), .v (.string val.text), .v (.string qual), .v (.string name), .sl kids.length (kids.flatMap Expr.row) none, .sl sub.length (sub.flatMap Query.row) none])] none ⟨SubO.cons rfl (SubO.nil _), PoSub.none _, ?_⟩ ?_
   ·simp only [tt, seval, hac]
    exact ⟨0, rfl, by omega, by simp [maxL]⟩
   ·rintro g' L p ⟨i, hix, hi, hac, rfl, rfl⟩
    simp only [tt, seval] at hix hac
    simp only [tt, seval, hix, hac, Int.ofNat_lt]
    refine fun _ => ?_
    refine And.intro (fun hlt => ?_) (fun hge => ?_)
    ·have hlt : i < sub.length := by omega
     have hmem : sub[i] ∈ sub := List.getElem_mem hlt
     refine ⟨by omega, by omega, _, drop_row Query.row_len (List.getElem?_eq_getElem hlt), Query.ne _ _, ?_⟩
     simp only [tt, seval, hix, hac, Query.tk, Query.row_len]
     refine cZ (DepthOfQ (sub[i]) g (fun x hx => (hg x (.inr ⟨_, hmem, hx⟩)).1) (Nat.le_trans (sub_sz (e := (Expr.mk kind op not val qual name kids sub)) hmem) hsz)) (by decide) ?_ ?_ <;> simp only [tt, seval, hix, hac, Query.row_mk]
     refine cZ (l1Max_d (maxL (kids.map g ++ (sub.take i).map fun q => maxL ((exprsQ q).map g))) (maxL ((exprsQ sub[i]).map g))) (by decide) ?_ ?_ <;> simp only [tt, seval, hix, hac]
     rw [wrS i (by omega)]
     have hstep : maxL (kids.map g ++ (sub.take (i + 1)).map fun q => maxL ((exprsQ q).map g)) = max (maxL (kids.map g ++ (sub.take i).map fun q => maxL ((exprsQ q).map g))) (maxL ((exprsQ sub[i]).map g)) := by rw [take_map_step _ hlt, ← List.append_assoc, maxL_snoc]
     exact ⟨_, none, SubO.cons rfl (SubO.nil _), PoSub.none _, ⟨i + 1, rfl, by omega, viE (by rw [hstep]), rfl, rfl⟩, by simp only [ixS]; omega⟩
    ·have hie : i = sub.length := by omega
     subst hie
     rw [List.take_length] at hac
     try simp only [tt, seval, hix, hac]
     try rw [List.take_length]
     rw [wrap_id (by omega) (by omega)]
     exact ⟨_, _, viE (by omega), end0 rfl⟩
theorem DepthOf_d (e : Expr) : (szExpr e ≤ 1048576 → Cl Tryz.prog 40 [.ag (csOf e.row)] [] fun r _ => r = vi (dpE e : Nat)) ∧ dpE e ≤ szExpr e + 1 := by
 refine foldE_ind (P := fun e d => (szExpr e ≤ 1048576 → Cl Tryz.prog 40 [.ag (csOf e.row)] [] fun r _ => r = vi (d : Nat)) ∧ d ≤ szExpr e + 1) (fun e g hg => ⟨fun hsz => ?_, dp_le fun x hx => (hg x hx).2⟩) e
 obtain ⟨kind, op, not, val, qual, name, kids, sub⟩ := e
 exact DepthOf_step kind op not val qual name kids sub g (fun x hx => ⟨(hg x hx).1 (Nat.le_trans (below_sz hx) hsz), (hg x hx).2⟩) hsz
def ndF (g : Expr → Nat) (e : Expr) : Nat := 1 + (e.kids.map g).sum + (e.sub.map fun q => ((exprsQ q).map g).sum).sum
noncomputable def ndE : Expr → Nat := foldE ndF
theorem sum_snoc {α : Type} (g : α → Nat) {l : List α} {i : Nat} (h : i < l.length) : ((l.take (i + 1)).map g).sum = ((l.take i).map g).sum + g l[i] := take_succ_sum g h
theorem sum_le {α : Type} {f g : α → Nat} : ∀ {l : List α}, (∀ x ∈ l, f x ≤ g x) → (l.map f).sum ≤ (l.map g).sum
 | [], _ => Nat.le_refl _
 | x :: r, h => by
  have h1 := h x (by simp)
  have h2 := sum_le (l := r) fun y hy => h y (by simp [hy])
  simp only [List.map_cons, List.sum_cons]; omega
theorem sum_add1 {α : Type} (f : α → Nat) : ∀ l : List α, (l.map fun x => f x + 1).sum = l.length + (l.map f).sum
 | [] => rfl
 | x :: r => by simp only [List.map_cons, List.sum_cons, sum_add1 f r, List.length_cons]; omega
theorem exprsI_sum : ∀ l : List Item, ((exprsI l).map fun x => szExpr x + 1).sum ≤ szItems l
 | [] => by simp [exprsI]
 | .mk s q e a :: r => by
  have := exprsI_sum r
  rw [szItems, szItem_mk]
  cases s with
  | true =>
   have h : exprsI (.mk true q e a :: r) = exprsI r := rfl
   rw [h]; omega
  | false =>
   have h : exprsI (.mk false q e a :: r) = e :: exprsI r := rfl
   rw [h, List.map_cons, List.sum_cons]; omega
theorem on_sum : ∀ l : List Source, ((l.flatMap Source.on).map fun x => szExpr x + 1).sum ≤ szSources l
 | [] => by simp
 | .mk t a o :: r => by
  have := on_sum r
  rw [szSources, szSource_mk, List.flatMap_cons, List.map_append, List.sum_append, szExprs_eq]
  have h : (Source.mk t a o).on = o := rfl
  rw [h, sum_add1]; omega
theorem key_sum : ∀ l : List SortKey, ((l.map SortKey.e).map fun x => szExpr x + 1).sum ≤ szSortKeys l
 | [] => by simp
 | .mk e d :: r => by
  have := key_sum r
  rw [szSortKeys, szSortKey_mk, List.map_cons, List.map_cons, List.sum_cons]
  have h : (SortKey.mk e d).e = e := rfl
  rw [h]; omega
theorem exprsQ_sum (q : Query) : ((exprsQ q).map fun x => szExpr x + 1).sum ≤ szQuery q := by
 obtain ⟨d, it, fr, wh, or, li⟩ := q
 have h1 := exprsI_sum it
 have h2 := on_sum fr
 have h3 := key_sum or
 rw [szQuery_mk, szExprs_eq]
 have e : exprsQ (.mk d it fr wh or li) = exprsI it ++ fr.flatMap Source.on ++ wh ++ or.map SortKey.e := rfl
 rw [e, List.map_append, List.map_append, List.map_append, List.sum_append, List.sum_append, List.sum_append, sum_add1 szExpr wh]
 omega
theorem nd_le {e : Expr} {g : Expr → Nat} (h : ∀ x, below x e → g x ≤ szExpr x + 1) : ndF g e ≤ szExpr e + 1 := by
 obtain ⟨k, o, n, v, q, m, ks, ss⟩ := e
 have e1 : ndF g (.mk k o n v q m ks ss) = 1 + (ks.map g).sum + (ss.map fun q => ((exprsQ q).map g).sum).sum := rfl
 rw [e1, szExpr_mk, szExprs_eq, szQuerys_eq]
 have h1 := sum_le (l := ks) (f := g) (g := fun x => szExpr x + 1) fun x hx => h x (.inl hx)
 have h2 := sum_le (l := ss) (f := fun q => ((exprsQ q).map g).sum) (g := szQuery) fun q hq => Nat.le_trans (sum_le fun x hx => h x (.inr ⟨q, hq, hx⟩)) (exprsQ_sum q)
 rw [sum_add1] at h1
 omega
theorem sizeOfAll_d (l : List Expr) (g : Expr → Nat) (h : ∀ x ∈ l, Cl Tryz.prog 78 [.ag (csOf x.row)] [] fun r _ => r = vi (g x : Nat)) (hl : l.length ≤ 1048576) (hs : (l.map g).sum ≤ 2097152) : Cl Tryz.prog 126 [.c (.sl l.length (l.flatMap Expr.row) none)] [] fun r _ => r = vi ((l.map g).sum : Nat) := by
 refine cl_of_d follows_mixed false Tryz.func126 rfl (by kernel_rfl) ?_
 simp only [Tryz.f126, tt, seval]
 refine fun _ => ?_
 refine dLoop.intro (fun f L p => ∃ i : Nat, f 8 = vi i ∧ i ≤ l.length ∧ f 3 = vi (((l.take i).map g).sum : Nat) ∧ L = [] ∧ p = none) (fun f _ _ => (l.length - ixS (f 8)).toNat) [] none ⟨SubO.nil _, PoSub.none _, ?_⟩ ?_
 ·simp only [tt, seval]
  exact ⟨0, rfl, by omega, by simp [maxL]⟩
 ·rintro g' L p ⟨i, hix, hi, hac, rfl, rfl⟩
  simp only [tt, seval] at hix hac
  simp only [tt, seval, hix, hac, Int.ofNat_lt]
  refine And.intro (fun hlt => ?_) (fun hge => ?_)
  ·have hlt : i < l.length := by omega
   obtain ⟨it, hit⟩ : ∃ it, it = l[i] := ⟨_, rfl⟩
   have hmem : it ∈ l := by rw [hit]; exact List.getElem_mem hlt
   refine ⟨by omega, by omega, _, drop_row Expr.row_len (List.getElem?_eq_getElem hlt), Expr.ne _ _, ?_⟩
   have hstep : ((l.take (i + 1)).map g).sum = ((l.take i).map g).sum + g l[i] := sum_snoc g hlt
   rw [← hit] at hstep
   obtain ⟨k, o, n, v, q, m, ks, ss⟩ := it
   rw [← hit, Expr.row_mk]
   simp only [tt, seval, hix, hac]
   refine cZ (h _ hmem) (by decide) ?_ ?_ <;> simp only [tt, seval, hix, hac, Expr.row_mk]
   obtain ⟨rst, hrst⟩ := take_sum_le g l (i + 1)
   rw [wrS i (by omega)]
   rw [wrap_id (by omega) (by omega)]
   exact ⟨_, none, SubO.nil _, PoSub.none _, ⟨i + 1, rfl, by omega, viE (by rw [hstep]; omega), rfl, rfl⟩, by simp only [ixS]; omega⟩
  ·have hie : i = l.length := by omega
   subst hie
   rw [List.take_length] at hac
   try simp only [tt, seval, hix, hac]
   try rw [List.take_length]
   exact ⟨_, _, rfl, end0 rfl⟩
theorem QuerySize_d (q : Query) (g : Expr → Nat) (h : ∀ x ∈ exprsQ q, Cl Tryz.prog 78 [.ag (csOf x.row)] [] fun r _ => r = vi (g x : Nat)) (hsz : szQuery q ≤ 1048576) (hs : ((exprsQ q).map g).sum ≤ 2097152) : Cl Tryz.prog 127 [.ag (csOf q.row)] [] fun r _ => r = vi (((exprsQ q).map g).sum : Nat) := by
 have hlen := exprsQ_len q
 obtain ⟨distinct, items, from_, where_, order, limit⟩ := q
 rw [Query.row_mk]
 refine cl_of_d follows_mixed false Tryz.func127 rfl (by kernel_rfl) ?_
 simp only [Tryz.f127, tt, seval]
 refine cZ (iexprs_d distinct items from_ where_ order limit hsz) (by decide) ?_ ?_ <;> simp only [tt, seval, Query.row_mk]
 generalize exprsQ (Query.mk distinct items from_ where_ order limit) = l at *
 refine cZ (sizeOfAll_d l g h (by omega) hs) (by decide) ?_ ?_ <;> simp only [tt, seval]
 exact ⟨_, _, rfl, end0 rfl⟩
theorem SizeOf_step (kind op : Int) (not : Bool) (val : Val) (qual name : ByteArray) (kids : List Expr) (sub : List Query) (g : Expr → Nat) (hg : ∀ x, below x (Expr.mk kind op not val qual name kids sub) → (Cl Tryz.prog 78 [.ag (csOf x.row)] [] fun r _ => r = vi (g x : Nat)) ∧ g x ≤ szExpr x + 1) (hsz : szExpr (Expr.mk kind op not val qual name kids sub) ≤ 1048576) : Cl Tryz.prog 78 [.ag (csOf (Expr.mk kind op not val qual name kids sub).row)] [] fun r _ => r = vi (ndF g (Expr.mk kind op not val qual name kids sub) : Nat) := by
 have hdl := nd_le (g := g) (fun x hx => (hg x hx).2)
 have hks := hsz
 rw [szExpr_mk, szExprs_eq, szQuerys_eq] at hks
 have e : ndF g (Expr.mk kind op not val qual name kids sub) = 1 + (kids.map g).sum + (sub.map fun q => ((exprsQ q).map g).sum).sum := rfl
 rw [e] at hdl ⊢
 rw [Expr.row_mk]
 refine cl_of_d follows_mixed false Tryz.func78 rfl (by kernel_rfl) ?_
 simp only [Tryz.f78, tt, seval]
 refine cZ (sizeOfAll_d kids g (fun x hx => (hg x (.inl hx)).1) (by omega) (by omega)) (by decide) ?_ ?_ <;> simp only [tt, seval, Expr.row_mk]
 rw [wrap_id (by omega) (by omega)]
 refine fun _ => ?_
 refine dLoop.intro (fun f L p => ∃ i : Nat, f 13 = vi i ∧ i ≤ sub.length ∧ f 3 = vi ((1 + (kids.map g).sum + ((sub.take i).map fun q => ((exprsQ q).map g).sum).sum) : Nat) ∧ L = [(1, .str [.v (.int .i64 kind), .v (.int .i64 op), .v (.bool not), .v (.int .i64 val.kind), .v (.int .i64 val.num), .v (.string val.text), .v (.string qual), .v (.string name), .sl kids.length (kids.flatMap Expr.row) none, .sl sub.length (sub.flatMap Query.row) none])] ∧ p = none) (fun f _ _ => (sub.length - ixS (f 13)).toNat) [(1, .str [.v (.int .i64 kind), .v (.int .i64 op), .v (.bool not), .v (.int .i64 val.kind), .v (.int .i64 val.num), .v (.string val.text), .v (.string qual), .v (.string name), .sl kids.length (kids.flatMap Expr.row) none, .sl sub.length (sub.flatMap Query.row) none])] none ⟨SubO.cons rfl (SubO.nil _), PoSub.none _, ?_⟩ ?_
 ·simp only [tt, seval]
  exact ⟨0, rfl, by omega, by simp⟩
 ·rintro g' L p ⟨i, hix, hi, hac, rfl, rfl⟩
  simp only [tt, seval] at hix hac
  simp only [tt, seval, hix, hac, Int.ofNat_lt]
  refine And.intro (fun hlt => ?_) (fun hge => ?_)
  ·have hlt : i < sub.length := by omega
   obtain ⟨it, hit⟩ : ∃ it, it = sub[i] := ⟨_, rfl⟩
   have hmem : it ∈ sub := by rw [hit]; exact List.getElem_mem hlt
   refine ⟨by omega, by omega, _, drop_row Query.row_len (List.getElem?_eq_getElem hlt), Query.ne _ _, ?_⟩
   have hstep : ((sub.take (i + 1)).map fun q => ((exprsQ q).map g).sum).sum = ((sub.take i).map fun q => ((exprsQ q).map g).sum).sum + ((exprsQ sub[i]).map g).sum := sum_snoc _ hlt
   rw [← hit] at hstep
   obtain ⟨ds, its, frs, whs, ods, lim⟩ := it
   rw [← hit, Query.row_mk]
   simp only [tt, seval, hix, hac]
   obtain ⟨rst, hrst⟩ := take_sum_le (fun q => ((exprsQ q).map g).sum) sub (i + 1)
   refine cZ (QuerySize_d (Query.mk ds its frs whs ods lim) g (fun x hx => (hg x (.inr ⟨_, hmem, hx⟩)).1) (Nat.le_trans (sub_sz (e := (Expr.mk kind op not val qual name kids sub)) hmem) hsz) (by omega)) (by decide) ?_ ?_ <;> simp only [tt, seval, hix, hac, Query.row_mk]
   rw [wrS i (by omega)]
   rw [wrap_id (by omega) (by omega)]
   exact ⟨_, none, SubO.cons rfl (SubO.nil _), PoSub.none _, ⟨i + 1, rfl, by omega, viE (by rw [hstep]; omega), rfl, rfl⟩, by simp only [ixS]; omega⟩
  ·have hie : i = sub.length := by omega
   subst hie
   rw [List.take_length] at hac
   try simp only [tt, seval, hix, hac]
   try rw [List.take_length]
   exact ⟨_, _, rfl, end0 rfl⟩
theorem SizeOf_d (e : Expr) : (szExpr e ≤ 1048576 → Cl Tryz.prog 78 [.ag (csOf e.row)] [] fun r _ => r = vi (ndE e : Nat)) ∧ ndE e ≤ szExpr e + 1 := by
 refine foldE_ind (P := fun e d => (szExpr e ≤ 1048576 → Cl Tryz.prog 78 [.ag (csOf e.row)] [] fun r _ => r = vi (d : Nat)) ∧ d ≤ szExpr e + 1) (fun e g hg => ⟨fun hsz => ?_, nd_le fun x hx => (hg x hx).2⟩) e
 obtain ⟨kind, op, not, val, qual, name, kids, sub⟩ := e
 exact SizeOf_step kind op not val qual name kids sub g (fun x hx => ⟨(hg x hx).1 (Nat.le_trans (below_sz hx) hsz), (hg x hx).2⟩) hsz
theorem l7Exprs_q (q : Query) (hsz : szQuery q ≤ 1048576) : Cl Tryz.prog 83 [.ag (csOf q.row)] [] fun r _ => r = .c (.sl (exprsQ q).length ((exprsQ q).flatMap Expr.row) none) := by
 obtain ⟨distinct, items, from_, where_, order, limit⟩ := q
 exact l7Exprs_d distinct items from_ where_ order limit hsz
theorem subL_one {l : Int} (h : 0 ≤ l) : subL l 1 = l - 1 := by unfold subL; split <;> omega
theorem l7Left_step (kind op : Int) (not : Bool) (val : Val) (qual name : ByteArray) (kids : List Expr) (sub : List Query) (g : Expr → Nat) (hg : ∀ x, below x (Expr.mk kind op not val qual name kids sub) → ∀ l : Int, 0 ≤ l → l ≤ 200 → Cl Tryz.prog 38 [.ag (csOf x.row), vi l] [] fun r _ => r = vi (subL l (g x))) (hsz : szExpr (Expr.mk kind op not val qual name kids sub) ≤ 1048576) (l0 : Int) (hl0 : 0 ≤ l0) (hl1 : l0 ≤ 200) : Cl Tryz.prog 38 [.ag (csOf (Expr.mk kind op not val qual name kids sub).row), vi l0] [] fun r _ => r = vi (subL l0 (ndF g (Expr.mk kind op not val qual name kids sub))) := by
 have hks := hsz
 rw [szExpr_mk, szExprs_eq, szQuerys_eq] at hks
 have e : ndF g (Expr.mk kind op not val qual name kids sub) = 1 + (kids.map g).sum + (sub.map fun q => ((exprsQ q).map g).sum).sum := rfl
 rw [e]
 rw [Expr.row_mk]
 refine cl_of_d follows_mixed false Tryz.func38 rfl (by kernel_rfl) ?_
 simp only [Tryz.f38, tt, seval]
 rw [wrap_id (by omega) (by omega)]
 refine dLoop.intro (fun f L p => ∃ i : Nat, f 5 = vi i ∧ i ≤ kids.length ∧ f 1 = vi (subL l0 (1 + ((kids.take i).map g).sum)) ∧ L = [(2, .str [.v (.int .i64 kind), .v (.int .i64 op), .v (.bool not), .v (.int .i64 val.kind), .v (.int .i64 val.num), .v (.string val.text), .v (.string qual), .v (.string name), .sl kids.length (kids.flatMap Expr.row) none, .sl sub.length (sub.flatMap Query.row) none])] ∧ p = none) (fun f _ _ => (kids.length - ixS (f 5)).toNat) [(2, .str [.v (.int .i64 kind), .v (.int .i64 op), .v (.bool not), .v (.int .i64 val.kind), .v (.int .i64 val.num), .v (.string val.text), .v (.string qual), .v (.string name), .sl kids.length (kids.flatMap Expr.row) none, .sl sub.length (sub.flatMap Query.row) none])] none ⟨SubO.cons rfl (SubO.nil _), PoSub.none _, ?_⟩ ?_
 ·simp only [tt, seval]
  exact ⟨0, rfl, by omega, by simp [subL_one hl0]⟩
 ·rintro g' L p ⟨i, hix, hi, hac, rfl, rfl⟩
  simp only [tt, seval] at hix hac
  simp only [tt, seval, hix, hac]
  refine fun _ => ?_
  have hc : (i < kids.length ∧ 0 ≤ subL l0 (1 + ((kids.take i).map g).sum)) ∨ (subL l0 (1 + ((kids.take i).map g).sum) = subL l0 (1 + (kids.map g).sum) ∧ i < kids.length ∧ ¬ 0 ≤ subL l0 (1 + ((kids.take i).map g).sum)) ∨ (subL l0 (1 + ((kids.take i).map g).sum) = subL l0 (1 + (kids.map g).sum) ∧ ¬ i < kids.length) := by
   by_cases h1 : i < kids.length
   ·by_cases h2 : 0 ≤ subL l0 (1 + ((kids.take i).map g).sum)
    ·exact .inl ⟨h1, h2⟩
    ·obtain ⟨rst, hrst⟩ := take_sum_le (g) kids i
     have hb := subL_bounds (s := (1 + ((kids.take i).map g).sum)) hl0
     have h3 := subL_neg (b := rst) (by omega : subL l0 (1 + ((kids.take i).map g).sum) < 0) hl0
     refine .inr (.inl ⟨?_, h1, h2⟩)
     rw [show (1 + (kids.map g).sum) = (1 + ((kids.take i).map g).sum) + rst by omega, h3]; omega
   ·refine .inr (.inr ⟨?_, h1⟩)
    have : i = kids.length := by omega
    subst this
    rw [List.take_length]
  rcases hc with ⟨hlt, hp⟩ | ⟨he, hlt, hn⟩ | ⟨he, hge⟩
  ·simp only [tt, seval, decide_eq_true (show (i : Int) < kids.length by omega), hix, hac]
   refine And.intro (fun _ => ?_) (fun hn => absurd hp hn)
   try simp only [tt, seval, hix, hac]
   refine ⟨by omega, by omega, _, drop_row Expr.row_len (List.getElem?_eq_getElem hlt), Expr.ne _ _, ?_⟩
   have hmem : kids[i] ∈ kids := List.getElem_mem hlt
   simp only [tt, seval, hix, hac, Expr.tk, Expr.row_len]
   have hb := subL_bounds (s := (1 + ((kids.take i).map g).sum)) hl0
   refine cZ (hg kids[i] (.inl hmem) (subL l0 (1 + ((kids.take i).map g).sum)) hp (by omega)) (by decide) ?_ ?_ <;> simp only [tt, seval, hix, hac]
   rw [wrap_id (n := (i : Int) + 1) (by omega) (by omega), ← subL_add hp]
   exact ⟨_, none, SubO.cons rfl (SubO.nil _), PoSub.none _, ⟨i + 1, rfl, by omega, viE (by rw [sum_snoc g hlt, Nat.add_assoc]), rfl, rfl⟩, by simp only [ixS]; omega⟩
  case' inr.inl =>
   simp only [tt, seval, decide_eq_true (show (i : Int) < kids.length by omega), hix, hac]
   refine And.intro (fun hp => absurd hp hn) (fun _ => ?_)
   try simp only [tt, seval, hix, hac]
  case' inr.inr =>
   simp only [tt, seval, decide_eq_false (show ¬ (i : Int) < kids.length by omega), hix, hac]
   try simp only [tt, seval, hix, hac]
  all_goals
   rw [he] at hac
   try rw [he]
   try simp only [tt, seval, hix, hac]
   refine dLoop.intro (fun f L p => ∃ i : Nat, f 6 = vi i ∧ i ≤ sub.length ∧ f 1 = vi (subL l0 (1 + (kids.map g).sum + ((sub.take i).map fun q => ((exprsQ q).map g).sum).sum)) ∧ L = [(2, .str [.v (.int .i64 kind), .v (.int .i64 op), .v (.bool not), .v (.int .i64 val.kind), .v (.int .i64 val.num), .v (.string val.text), .v (.string qual), .v (.string name), .sl kids.length (kids.flatMap Expr.row) none, .sl sub.length (sub.flatMap Query.row) none])] ∧ p = none) (fun f _ _ => (sub.length - ixS (f 6)).toNat) [(2, .str [.v (.int .i64 kind), .v (.int .i64 op), .v (.bool not), .v (.int .i64 val.kind), .v (.int .i64 val.num), .v (.string val.text), .v (.string qual), .v (.string name), .sl kids.length (kids.flatMap Expr.row) none, .sl sub.length (sub.flatMap Query.row) none])] none ⟨SubO.cons rfl (SubO.nil _), PoSub.none _, ?_⟩ ?_
   ·simp only [tt, seval, hac]
    exact ⟨0, rfl, by omega, by simp⟩
   ·rintro g' L p ⟨i, hix, hi, hac, rfl, rfl⟩
    simp only [tt, seval] at hix hac
    simp only [tt, seval, hix, hac]
    refine fun _ => ?_
    have hc : (i < sub.length ∧ 0 ≤ subL l0 (1 + (kids.map g).sum + ((sub.take i).map fun q => ((exprsQ q).map g).sum).sum)) ∨ (subL l0 (1 + (kids.map g).sum + ((sub.take i).map fun q => ((exprsQ q).map g).sum).sum) = subL l0 (1 + (kids.map g).sum + (sub.map fun q => ((exprsQ q).map g).sum).sum) ∧ i < sub.length ∧ ¬ 0 ≤ subL l0 (1 + (kids.map g).sum + ((sub.take i).map fun q => ((exprsQ q).map g).sum).sum)) ∨ (subL l0 (1 + (kids.map g).sum + ((sub.take i).map fun q => ((exprsQ q).map g).sum).sum) = subL l0 (1 + (kids.map g).sum + (sub.map fun q => ((exprsQ q).map g).sum).sum) ∧ ¬ i < sub.length) := by
     by_cases h1 : i < sub.length
     ·by_cases h2 : 0 ≤ subL l0 (1 + (kids.map g).sum + ((sub.take i).map fun q => ((exprsQ q).map g).sum).sum)
      ·exact .inl ⟨h1, h2⟩
      ·obtain ⟨rst, hrst⟩ := take_sum_le (fun q => ((exprsQ q).map g).sum) sub i
       have hb := subL_bounds (s := (1 + (kids.map g).sum + ((sub.take i).map fun q => ((exprsQ q).map g).sum).sum)) hl0
       have h3 := subL_neg (b := rst) (by omega : subL l0 (1 + (kids.map g).sum + ((sub.take i).map fun q => ((exprsQ q).map g).sum).sum) < 0) hl0
       refine .inr (.inl ⟨?_, h1, h2⟩)
       rw [show (1 + (kids.map g).sum + (sub.map fun q => ((exprsQ q).map g).sum).sum) = (1 + (kids.map g).sum + ((sub.take i).map fun q => ((exprsQ q).map g).sum).sum) + rst by omega, h3]; omega
     ·refine .inr (.inr ⟨?_, h1⟩)
      have : i = sub.length := by omega
      subst this
      rw [List.take_length]
    rcases hc with ⟨hlt, hp⟩ | ⟨he, hlt, hn⟩ | ⟨he, hge⟩
    ·simp only [tt, seval, decide_eq_true (show (i : Int) < sub.length by omega), hix, hac]
     refine And.intro (fun _ => ?_) (fun hn => absurd hp hn)
     try simp only [tt, seval, hix, hac]
     refine ⟨by omega, by omega, _, drop_row Query.row_len (List.getElem?_eq_getElem hlt), Query.ne _ _, ?_⟩
     have hmem : sub[i] ∈ sub := List.getElem_mem hlt
     have hqs := sub_sz (e := (Expr.mk kind op not val qual name kids sub)) hmem
     have hql := exprsQ_len sub[i]
     simp only [tt, seval, hix, hac, Query.tk, Query.row_len]
     refine cZ (l7Exprs_q sub[i] (by omega)) (by decide) ?_ ?_ <;> simp only [tt, seval, hix, hac]
     have hl : ∀ x ∈ exprsQ sub[i], ∀ l : Int, 0 ≤ l → l ≤ 200 → Cl Tryz.prog 38 [.ag (csOf x.row), vi l] [] fun r _ => r = vi (subL l (g x)) := fun x hx => hg x (.inr ⟨_, hmem, hx⟩)
     have hstep2 : ((sub.take (i + 1)).map fun q => ((exprsQ q).map g).sum).sum = ((sub.take i).map fun q => ((exprsQ q).map g).sum).sum + ((exprsQ sub[i]).map g).sum := sum_snoc _ hlt
     generalize exprsQ sub[i] = l at *
     have hac2 := hac
     obtain ⟨S, hS⟩ : ∃ S, S = (1 + (kids.map g).sum + ((sub.take i).map fun q => ((exprsQ q).map g).sum).sum) := ⟨_, rfl⟩
     rw [← hS] at hac2
     try rw [← hS]
     try simp only [tt, seval, hix, hac2]
     refine dLoop.intro (fun f L p => ∃ k : Nat, f 8 = vi k ∧ k ≤ l.length ∧ f 1 = vi (subL l0 (S + ((l.take k).map g).sum)) ∧ L = [(2, .str [.v (.int .i64 kind), .v (.int .i64 op), .v (.bool not), .v (.int .i64 val.kind), .v (.int .i64 val.num), .v (.string val.text), .v (.string qual), .v (.string name), .sl kids.length (kids.flatMap Expr.row) none, .sl sub.length (sub.flatMap Query.row) none])] ∧ p = none) (fun f _ _ => (l.length - ixS (f 8)).toNat) [(2, .str [.v (.int .i64 kind), .v (.int .i64 op), .v (.bool not), .v (.int .i64 val.kind), .v (.int .i64 val.num), .v (.string val.text), .v (.string qual), .v (.string name), .sl kids.length (kids.flatMap Expr.row) none, .sl sub.length (sub.flatMap Query.row) none])] none ⟨SubO.cons rfl (SubO.nil _), PoSub.none _, ?_⟩ ?_
     ·simp only [tt, seval, hac2]
      exact ⟨0, rfl, by omega, by simp⟩
     ·rintro g' L p ⟨k, hkx, hk0, hac3, rfl, rfl⟩
      simp only [tt, seval] at hkx hac3
      simp only [tt, seval, hkx, hac3]
      refine fun _ => ?_
      have hc3 : (k < l.length ∧ 0 ≤ subL l0 (S + ((l.take k).map g).sum)) ∨ (subL l0 (S + ((l.take k).map g).sum) = subL l0 (S + (l.map g).sum) ∧ k < l.length ∧ ¬ 0 ≤ subL l0 (S + ((l.take k).map g).sum)) ∨ (subL l0 (S + ((l.take k).map g).sum) = subL l0 (S + (l.map g).sum) ∧ ¬ k < l.length) := by
       by_cases h1 : k < l.length
       ·by_cases h2 : 0 ≤ subL l0 (S + ((l.take k).map g).sum)
        ·exact .inl ⟨h1, h2⟩
        ·obtain ⟨rst3, hrst3⟩ := take_sum_le (g) l k
         have hb3 := subL_bounds (s := (S + ((l.take k).map g).sum)) hl0
         have h3 := subL_neg (b := rst3) (by omega : subL l0 (S + ((l.take k).map g).sum) < 0) hl0
         refine .inr (.inl ⟨?_, h1, h2⟩)
         rw [show (S + (l.map g).sum) = (S + ((l.take k).map g).sum) + rst3 by omega, h3]; omega
       ·refine .inr (.inr ⟨?_, h1⟩)
        have : k = l.length := by omega
        subst this
        rw [List.take_length]
      rcases hc3 with ⟨hlt3, hp3⟩ | ⟨he3, hlt3, hn3⟩ | ⟨he3, hge3⟩
      ·simp only [tt, seval, decide_eq_true (show (k : Int) < l.length by omega), hkx, hac3]
       refine And.intro (fun _ => ?_) (fun hn3 => absurd hp3 hn3)
       try simp only [tt, seval, hkx, hac3]
       refine ⟨by omega, by omega, _, drop_row Expr.row_len (List.getElem?_eq_getElem hlt3), Expr.ne _ _, ?_⟩
       simp only [tt, seval, hkx, hac3, Expr.tk, Expr.row_len]
       have hb3 := subL_bounds (s := (S + ((l.take k).map g).sum)) hl0
       refine cZ (hl l[k] (List.getElem_mem hlt3) (subL l0 (S + ((l.take k).map g).sum)) hp3 (by omega)) (by decide) ?_ ?_ <;> simp only [tt, seval, hkx, hac3]
       rw [wrap_id (n := (k : Int) + 1) (by omega) (by omega), ← subL_add hp3]
       exact ⟨_, none, SubO.cons rfl (SubO.nil _), PoSub.none _, ⟨k + 1, rfl, by omega, viE (by rw [sum_snoc g hlt3, Nat.add_assoc]), rfl, rfl⟩, by simp only [ixS]; omega⟩
      case' inr.inl =>
       simp only [tt, seval, decide_eq_true (show (k : Int) < l.length by omega), hkx, hac3]
       refine And.intro (fun hp3 => absurd hp3 hn3) (fun _ => ?_)
       try simp only [tt, seval, hkx, hac3]
      case' inr.inr =>
       simp only [tt, seval, decide_eq_false (show ¬ (k : Int) < l.length by omega), hkx, hac3]
       try simp only [tt, seval, hkx, hac3]
      all_goals
       rw [he3] at hac3
       try rw [he3]
       try simp only [tt, seval, hkx, hac3]
       simp only [tt, seval, hix, hac3]
       try rw [wrS i (by omega)]
       exact ⟨_, none, SubO.cons rfl (SubO.nil _), PoSub.none _, ⟨i + 1, rfl, by omega, viE (by rw [hstep2, hS]; congr 1; omega), rfl, rfl⟩, by simp only [ixS]; omega⟩
    case' inr.inl =>
     simp only [tt, seval, decide_eq_true (show (i : Int) < sub.length by omega), hix, hac]
     refine And.intro (fun hp => absurd hp hn) (fun _ => ?_)
     try simp only [tt, seval, hix, hac]
    case' inr.inr =>
     simp only [tt, seval, decide_eq_false (show ¬ (i : Int) < sub.length by omega), hix, hac]
     try simp only [tt, seval, hix, hac]
    all_goals
     rw [he] at hac
     try rw [he]
     try simp only [tt, seval, hix, hac]
     exact ⟨_, _, rfl, end0 rfl⟩
theorem l7Left_d (e : Expr) : szExpr e ≤ 1048576 → ∀ l : Int, 0 ≤ l → l ≤ 200 → Cl Tryz.prog 38 [.ag (csOf e.row), vi l] [] fun r _ => r = vi (subL l (ndE e)) := by
 refine foldE_ind (P := fun e d => szExpr e ≤ 1048576 → ∀ l : Int, 0 ≤ l → l ≤ 200 → Cl Tryz.prog 38 [.ag (csOf e.row), vi l] [] fun r _ => r = vi (subL l d)) (fun e g hg hsz l h0 h1 => ?_) e
 obtain ⟨kind, op, not, val, qual, name, kids, sub⟩ := e
 exact l7Left_step kind op not val qual name kids sub g (fun x hx => hg x hx (Nat.le_trans (below_sz hx) hsz)) hsz l h0 h1
theorem bqs : ((true == false) = false) ∧ ((false == true) = false) ∧ ((false == false) = true) ∧ ((true == true) = true) := ⟨rfl, rfl, rfl, rfl⟩
def zV (v : Val) : Bool := decide (v.kind = 0) && (decide (v.num = 0) && decide (v.text = ⟨#[]⟩))
def zeroB (kind op : Int) (not : Bool) (val : Val) (qual name : ByteArray) (nk ns : Nat) : Bool :=
 decide (kind = 0) && (decide (op = 0) && (decide (not = false) && (zV val && (decide (qual = ⟨#[]⟩) && (decide (name = ⟨#[]⟩) && (decide (nk = 0) && decide (ns = 0)))))))
theorem eqValZ (v : Val) (w : World) : (Op.equalIn 10000 28 (.agg [.int .i64 v.kind, .int .i64 v.num, .string v.text].toArray) (.agg [.int .i64 0, .int .i64 0, .string ⟨#[]⟩].toArray)).run Tryz.prog w = .ok (zV v) w := by
 refine Go.Vc.equalIn_fk (ks := [(0, .int), (1, .int), (2, .str)]) (by kernel_rfl) (by kernel_rfl) (by kernel_rfl) ?_ w
 simp only [Go.Vc.eqFK, List.getElem?_cons_zero, List.getElem?_cons_succ, zV]
 by_cases h1 : v.kind = 0 <;> by_cases h2 : v.num = 0 <;> by_cases h3 : v.text = ⟨#[]⟩ <;> simp [h1, h2, h3]
def litB (v : Val) : Bool := valOk v && ((decide (¬ v.kind = 1) || decide (0 ≤ v.num)) && decide (v.text.size ≤ 40))
def nameB (s : ByteArray) : Bool := decide (1 ≤ s.size ∧ s.size ≤ 20)
def mayB (s : ByteArray) : Bool := decide (s = ⟨#[]⟩) || nameB s
theorem l7Lit_d (v : Val) : Cl Tryz.prog 140 [.ag (csOf v.row)] [] fun r _ => r = vb (litB v) := by
 obtain ⟨zb, hzb⟩ : ∃ zb, zb = litB v := ⟨_, rfl⟩
 rw [← hzb, Val.row]
 refine cl_of_d follows_mixed false Tryz.func140 rfl (by kernel_rfl) ?_
 simp only [Tryz.f140, tt, seval]
 refine cZ (ValueOk_d v) (by decide) ?_ ?_ <;> simp only [tt, seval, Val.row]
 cases hv : valOk v <;> by_cases h1 : v.kind = 1 <;> by_cases h2 : 0 ≤ v.num
 all_goals try simp only [tt, seval, hv, h1, h2]
 all_goals try refine fun _ => ?_
 all_goals exact ⟨_, _, vbE (by rw [hzb]; simp [litB, hv, h1, h2]; try omega), end0 rfl⟩
theorem isLit_d (v : Val) : Cl Tryz.prog 178 [.ag (csOf v.row)] [] fun r _ => r = vb (litB v) := by
 obtain ⟨zb, hzb⟩ : ∃ zb, zb = litB v := ⟨_, rfl⟩
 rw [← hzb, Val.row]
 refine cl_of_d follows_mixed false Tryz.func178 rfl (by kernel_rfl) ?_
 simp only [Tryz.f178, tt, seval]
 refine cZ (iValueOk_d v) (by decide) ?_ ?_ <;> simp only [tt, seval, Val.row]
 cases hv : valOk v <;> by_cases h1 : v.kind = 1 <;> by_cases h2 : 0 ≤ v.num
 all_goals try simp only [tt, seval, hv, h1, h2]
 all_goals try refine fun _ => ?_
 all_goals exact ⟨_, _, vbE (by rw [hzb]; simp [litB, hv, h1, h2]; try omega), end0 rfl⟩
theorem l7Maybe_d (s : ByteArray) : Cl Tryz.prog 142 [vs s] [] fun r _ => r = vb (mayB s) := by
 refine cl_of_d follows_mixed false Tryz.func142 rfl (by kernel_rfl) ?_
 simp only [Tryz.f142, tt, seval]
 by_cases h : s = ⟨#[]⟩
 ·simp only [tt, seval, decide_eq_true h]
  exact ⟨_, _, vbE (by simp [mayB, h]), end0 rfl⟩
 ·simp only [tt, seval, decide_eq_false h]
  refine cZ (NameOk_d s) (by decide) ?_ ?_ <;> simp only [tt, seval]
  exact ⟨_, _, vbE (by simp [mayB, h, nameB]), end0 rfl⟩
theorem isAs_d (s : ByteArray) : Cl Tryz.prog 182 [vs s] [] fun r _ => r = vb (mayB s) := by
 refine cl_of_d follows_mixed false Tryz.func182 rfl (by kernel_rfl) ?_
 simp only [Tryz.f182, tt, seval]
 by_cases h : s = ⟨#[]⟩
 ·simp only [tt, seval, decide_eq_true h]
  exact ⟨_, _, vbE (by simp [mayB, h]), end0 rfl⟩
 ·simp only [tt, seval, decide_eq_false h]
  refine cZ (iNameOk_d s) (by decide) ?_ ?_ <;> simp only [tt, seval]
  exact ⟨_, _, vbE (by simp [mayB, h, nameB]), end0 rfl⟩
theorem EqE0_d (l : List Expr) (fg : FuncId) : Cl Tryz.prog 133 [.c (.sl l.length (l.flatMap Expr.row) none), .c (.sl 0 [] none), .c (.fn fg [] [])] [] fun r _ => r = vb (decide (l.length = 0)) := by
 refine cl_of_d follows_mixed false Tryz.func133 rfl (by kernel_rfl) ?_
 simp only [Tryz.f133, tt, seval]
 refine fun _ => ?_
 by_cases h : l.length = 0
 case neg =>
  simp only [tt, seval, decide_eq_false (show ¬ (l.length : Int) = 0 by omega)]
  exact ⟨_, _, vbE (decide_eq_false h).symm, end0 rfl⟩
 have hs : l = [] := List.eq_nil_of_length_eq_zero h
 subst hs
 simp only [tt, seval, List.length_nil]
 refine dLoop.intro (fun f L p => f 17 = vi 0 ∧ L = [] ∧ p = none) (fun _ _ _ => 0) [] none ⟨SubO.nil _, PoSub.none _, ?_⟩ ?_
 ·simp only [tt, seval]
 ·rintro g L p ⟨h5', rfl, rfl⟩
  simp only [tt, seval] at h5'
  simp only [tt, seval, h5', List.length_nil]
  try refine fun _ => ?_
  exact ⟨_, _, rfl, end0 rfl⟩
theorem EqQ0_d (l : List Query) (fg : FuncId) : Cl Tryz.prog 81 [.c (.sl l.length (l.flatMap Query.row) none), .c (.sl 0 [] none), .c (.fn fg [] [])] [] fun r _ => r = vb (decide (l.length = 0)) := by
 refine cl_of_d follows_mixed false Tryz.func81 rfl (by kernel_rfl) ?_
 simp only [Tryz.f81, tt, seval]
 refine fun _ => ?_
 by_cases h : l.length = 0
 case neg =>
  simp only [tt, seval, decide_eq_false (show ¬ (l.length : Int) = 0 by omega)]
  exact ⟨_, _, vbE (decide_eq_false h).symm, end0 rfl⟩
 have hs : l = [] := List.eq_nil_of_length_eq_zero h
 subst hs
 simp only [tt, seval, List.length_nil]
 refine dLoop.intro (fun f L p => f 17 = vi 0 ∧ L = [] ∧ p = none) (fun _ _ _ => 0) [] none ⟨SubO.nil _, PoSub.none _, ?_⟩ ?_
 ·simp only [tt, seval]
 ·rintro g L p ⟨h5', rfl, rfl⟩
  simp only [tt, seval] at h5'
  simp only [tt, seval, h5', List.length_nil]
  try refine fun _ => ?_
  exact ⟨_, _, rfl, end0 rfl⟩
theorem l7Same0_d (l : List Expr) : Cl Tryz.prog 57 [.c (.sl l.length (l.flatMap Expr.row) none), .c (.sl 0 [] none)] [] fun r _ => r = vb (decide (l.length = 0)) := by
 refine cl_of_d follows_mixed false Tryz.func57 rfl (by kernel_rfl) ?_
 simp only [Tryz.f57, tt, seval]
 refine fun _ => ?_
 by_cases h : l.length = 0
 case neg =>
  simp only [tt, seval, decide_eq_false (show ¬ (l.length : Int) = 0 by omega)]
  exact ⟨_, _, vbE (decide_eq_false h).symm, end0 rfl⟩
 have hs : l = [] := List.eq_nil_of_length_eq_zero h
 subst hs
 simp only [tt, seval, List.length_nil]
 refine dLoop.intro (fun f L p => f 5 = vi 0 ∧ L = [] ∧ p = none) (fun _ _ _ => 0) [] none ⟨SubO.nil _, PoSub.none _, ?_⟩ ?_
 ·simp only [tt, seval]
 ·rintro g L p ⟨h5', rfl, rfl⟩
  simp only [tt, seval] at h5'
  simp only [tt, seval, h5', List.length_nil]
  try refine fun _ => ?_
  exact ⟨_, _, rfl, end0 rfl⟩
theorem sameExprs0_d (l : List Expr) : Cl Tryz.prog 80 [.c (.sl l.length (l.flatMap Expr.row) none), .c (.sl 0 [] none)] [] fun r _ => r = vb (decide (l.length = 0)) := by
 refine cl_of_d follows_mixed false Tryz.func80 rfl (by kernel_rfl) ?_
 simp only [Tryz.f80, tt, seval]
 refine cZ (EqE0_d l 37) (by decide) ?_ ?_ <;> simp only [tt, seval]
 exact ⟨_, _, rfl, end0 rfl⟩
theorem iSameZ_d (kind op : Int) (not : Bool) (val : Val) (qual name : ByteArray) (kids : List Expr) (sub : List Query) : Cl Tryz.prog 37 [.ag (csOf (Expr.mk kind op not val qual name kids sub).row), .ag (csOf (Expr.mk 0 0 false ⟨0, 0, ⟨#[]⟩⟩ ⟨#[]⟩ ⟨#[]⟩ [] []).row)] [] fun r _ => r = vb (zeroB kind op not val qual name kids.length sub.length) := by
 obtain ⟨zb, hzb⟩ : ∃ zb, zb = zeroB kind op not val qual name kids.length sub.length := ⟨_, rfl⟩
 rw [← hzb, Expr.row_mk, Expr.row_mk]
 refine cl_of_d follows_mixed false Tryz.func37 rfl (by kernel_rfl) ?_
 simp only [Tryz.f37, tt, seval]
 by_cases h1 : kind = 0
 case neg =>
  try simp only [tt, seval, h1]
  exact ⟨_, _, vbE (by rw [hzb]; simp [zeroB, h1]), end0 rfl⟩
 try simp only [tt, seval, h1]
 by_cases h2 : op = 0
 case neg =>
  try simp only [tt, seval, h2]
  exact ⟨_, _, vbE (by rw [hzb]; simp [zeroB, h1, h2]), end0 rfl⟩
 try simp only [tt, seval, h2]
 by_cases h3 : not = false
 case neg =>
  try simp only [tt, seval, (Bool.not_eq_false _ ▸ h3 : not = true), bqs]
  exact ⟨_, _, vbE (by rw [hzb]; simp [zeroB, h1, h2, h3]), end0 rfl⟩
 try simp only [tt, seval, h3]
 rw [pu_eqagg (by kernel_rfl) (eqValZ val)]
 try simp only [tt, seval]
 by_cases h4 : zV val = true
 case neg =>
  try simp only [tt, seval, (Bool.not_eq_true _ ▸ h4 : zV val = false)]
  exact ⟨_, _, vbE (by rw [hzb]; simp [zeroB, h1, h2, h3, h4]), end0 rfl⟩
 try simp only [tt, seval, h4]
 by_cases h5 : qual = ⟨#[]⟩
 case neg =>
  try simp only [tt, seval, h5]
  exact ⟨_, _, vbE (by rw [hzb]; simp [zeroB, h1, h2, h3, h4, h5]), end0 rfl⟩
 try simp only [tt, seval, h5]
 by_cases h6 : name = ⟨#[]⟩
 case neg =>
  try simp only [tt, seval, h6]
  exact ⟨_, _, vbE (by rw [hzb]; simp [zeroB, h1, h2, h3, h4, h5, h6]), end0 rfl⟩
 try simp only [tt, seval, h6]
 refine cZ (sameExprs0_d kids) (by decide) ?_ ?_ <;> simp only [tt, seval, Expr.row_mk]
 by_cases h7 : kids.length = 0
 case neg =>
  try simp only [tt, seval, h7, decide_eq_false h7]
  exact ⟨_, _, vbE (by rw [hzb]; simp [zeroB, h1, h2, h3, h4, h5, h6, h7]), end0 rfl⟩
 try simp only [tt, seval, decide_eq_true h7]
 refine cZ (EqQ0_d sub 82) (by decide) ?_ ?_ <;> simp only [tt, seval, Expr.row_mk]
 exact ⟨_, _, vbE (by rw [hzb]; simp [zeroB, h1, h2, h3, h4, h5, h6, h7]), end0 rfl⟩
theorem SameZ_d (kind op : Int) (not : Bool) (val : Val) (qual name : ByteArray) (kids : List Expr) (sub : List Query) : Cl Tryz.prog 22 [.ag (csOf (Expr.mk kind op not val qual name kids sub).row), .ag (csOf (Expr.mk 0 0 false ⟨0, 0, ⟨#[]⟩⟩ ⟨#[]⟩ ⟨#[]⟩ [] []).row)] [] fun r _ => r = vb (zeroB kind op not val qual name kids.length sub.length) := by
 obtain ⟨zb, hzb⟩ : ∃ zb, zb = zeroB kind op not val qual name kids.length sub.length := ⟨_, rfl⟩
 rw [← hzb, Expr.row_mk, Expr.row_mk]
 refine cl_of_d follows_mixed false Tryz.func22 rfl (by kernel_rfl) ?_
 simp only [Tryz.f22, tt, seval]
 by_cases h1 : kind = 0
 case neg =>
  try simp only [tt, seval, h1]
  exact ⟨_, _, vbE (by rw [hzb]; simp [zeroB, h1]), end0 rfl⟩
 try simp only [tt, seval, h1]
 by_cases h2 : op = 0
 case neg =>
  try simp only [tt, seval, h2]
  exact ⟨_, _, vbE (by rw [hzb]; simp [zeroB, h1, h2]), end0 rfl⟩
 try simp only [tt, seval, h2]
 by_cases h3 : not = false
 case neg =>
  try simp only [tt, seval, (Bool.not_eq_false _ ▸ h3 : not = true), bqs]
  exact ⟨_, _, vbE (by rw [hzb]; simp [zeroB, h1, h2, h3]), end0 rfl⟩
 try simp only [tt, seval, h3]
 rw [pu_neagg (by kernel_rfl) (eqValZ val)]
 try simp only [tt, seval]
 by_cases h4 : zV val = true
 case neg =>
  try simp only [tt, seval, (Bool.not_eq_true _ ▸ h4 : zV val = false)]
  exact ⟨_, _, vbE (by rw [hzb]; simp [zeroB, h1, h2, h3, h4]), end0 rfl⟩
 try simp only [tt, seval, h4]
 by_cases h5 : qual = ⟨#[]⟩
 case neg =>
  try simp only [tt, seval, h5]
  exact ⟨_, _, vbE (by rw [hzb]; simp [zeroB, h1, h2, h3, h4, h5]), end0 rfl⟩
 try simp only [tt, seval, h5]
 by_cases h6 : name = ⟨#[]⟩
 case neg =>
  try simp only [tt, seval, h6]
  exact ⟨_, _, vbE (by rw [hzb]; simp [zeroB, h1, h2, h3, h4, h5, h6]), end0 rfl⟩
 try simp only [tt, seval, h6]
 refine fun _ => ?_
 by_cases h8 : sub.length = 0
 case neg =>
  try simp only [tt, seval, decide_eq_false (show ¬ (sub.length : Int) = 0 by omega)]
  exact ⟨_, _, vbE (by rw [hzb]; simp [zeroB, h1, h2, h3, h4, h5, h6, h8]), end0 rfl⟩
 try simp only [tt, seval, show (sub.length : Int) = 0 from by omega]
 refine cZ (l7Same0_d kids) (by decide) ?_ ?_ <;> simp only [tt, seval, Expr.row_mk]
 by_cases h7 : kids.length = 0
 case neg =>
  try simp only [tt, seval, h7, decide_eq_false h7]
  exact ⟨_, _, vbE (by rw [hzb]; simp [zeroB, h1, h2, h3, h4, h5, h6, h7]), end0 rfl⟩
 try simp only [tt, seval, decide_eq_true h7]
 have hs : sub = [] := List.eq_nil_of_length_eq_zero h8
 subst hs
 refine dLoop.intro (fun f L p => f 5 = vi 0 ∧ L = [(2, .str [.v (.int .i64 0), .v (.int .i64 0), .v (.bool false), .v (.int .i64 val.kind), .v (.int .i64 val.num), .v (.string val.text), .v (.string ⟨#[]⟩), .v (.string ⟨#[]⟩), .sl kids.length (kids.flatMap Expr.row) none, .sl 0 [] none])] ∧ p = none) (fun _ _ _ => 0) [(2, .str [.v (.int .i64 0), .v (.int .i64 0), .v (.bool false), .v (.int .i64 val.kind), .v (.int .i64 val.num), .v (.string val.text), .v (.string ⟨#[]⟩), .v (.string ⟨#[]⟩), .sl kids.length (kids.flatMap Expr.row) none, .sl 0 [] none])] none ⟨SubO.cons rfl (SubO.nil _), PoSub.none _, ?_⟩ ?_
 ·simp only [tt, seval]
 ·rintro g L p ⟨h5', rfl, rfl⟩
  simp only [tt, seval] at h5'
  simp only [tt, seval, h5', List.length_nil]
  exact ⟨_, _, vbE (by rw [hzb]; simp [zeroB, h1, h2, h3, h4, h5, h6, h7]), end0 rfl⟩
theorem eqValE (v : Val) (w : World) : (Op.equalIn 10000 28 (.agg [.int .i64 v.kind, .int .i64 v.num, .string v.text].toArray) (.agg [.int .i64 0, .int .i64 0, .string ByteArray.empty].toArray)).run Tryz.prog w = .ok (zV v) w := eqValZ v w
def fmT (kind : Int) : Bool × Bool × Bool × Bool × Int × Int × Int :=
 if kind = 1 then (false, false, true, false, 0, 0, 0) else if kind = 2 then (false, false, false, true, 0, 0, 0) else if kind = 3 then (true, false, false, false, 1, 1, 0) else if kind = 4 then (true, false, false, false, 2, 2, 0)
 else if kind = 5 then (false, true, false, false, 1, 1, 0) else if kind = 6 then (false, true, false, false, 3, 3, 0) else if kind = 7 then (false, true, false, false, 2, 9, 0) else if kind = 8 then (false, true, false, false, 1, 1, 1)
 else if kind = 9 then (false, false, false, false, 0, 0, 1) else (false, false, false, false, 0, 0, 0)
def okF (kind op : Int) (val : Val) (qual name : ByteArray) : Bool :=
 if kind = 1 then litB val else if kind = 2 then (nameB name && mayB qual) else if kind = 3 then (decide (op = 15) || decide (op = 16)) else if kind = 4 then decide (1 ≤ op ∧ op ≤ 14) else decide (5 ≤ kind ∧ kind ≤ 9)
def shapeB (kind op : Int) (not : Bool) (val : Val) (qual name : ByteArray) (nk ns : Int) : Bool :=
 okF kind op val qual name && (((fmT kind).1 || decide (op = 0)) && (((fmT kind).2.1 || !not) && (((fmT kind).2.2.1 || zV val) && (((fmT kind).2.2.2.1 || (decide (qual = ⟨#[]⟩) && decide (name = ⟨#[]⟩))) &&
  (decide ((fmT kind).2.2.2.2.1 ≤ nk ∧ nk ≤ (fmT kind).2.2.2.2.2.1) && decide (ns = (fmT kind).2.2.2.2.2.2))))))
set_option maxHeartbeats 4000000 in
theorem l7Shape_d (kind op : Int) (not : Bool) (val : Val) (qual name : ByteArray) (kids : List Expr) (sub : List Query) (hkl : kids.length ≤ 1048576) (hsl : sub.length ≤ 1048576) : Cl Tryz.prog 84 [.ag (csOf (Expr.mk kind op not val qual name kids sub).row)] [] fun r _ => r = vb (shapeB kind op not val qual name kids.length sub.length) := by
 obtain ⟨zb, hzb⟩ : ∃ zb, zb = shapeB kind op not val qual name kids.length sub.length := ⟨_, rfl⟩
 rw [← hzb, Expr.row_mk]
 refine cl_of_d follows_mixed false Tryz.func84 rfl (by kernel_rfl) ?_
 simp only [Tryz.f84, tt, seval]
 refine fun _ _ => ?_
 have hk0 : 0 ≤ (kids.length : Int) ∧ (kids.length : Int) ≤ 1048576 := by omega
 have hs0 : 0 ≤ (sub.length : Int) ∧ (sub.length : Int) ≤ 1048576 := by omega
 generalize (kids.length : Int) = nk at *
 generalize (sub.length : Int) = ns at *
 rcases (show kind = 1 ∨ kind = 2 ∨ kind = 3 ∨ kind = 4 ∨ kind = 5 ∨ kind = 6 ∨ kind = 7 ∨ kind = 8 ∨ kind = 9 ∨ (kind < 1 ∨ 9 < kind) by omega) with rfl | rfl | rfl | rfl | rfl | rfl | rfl | rfl | rfl | hk
 ·try simp only [tt, seval]
  by_cases hq : qual = ⟨#[]⟩
  case neg =>
   try simp only [tt, seval, hq, bqs]
   exact ⟨_, _, vbE (by rw [hzb]; simp [shapeB, okF, fmT, nameB, hq]; try omega), end0 rfl⟩
  try simp only [tt, seval, hq, bqs]
  by_cases hn : name = ⟨#[]⟩
  case neg =>
   try simp only [tt, seval, hn, bqs]
   exact ⟨_, _, vbE (by rw [hzb]; simp [shapeB, okF, fmT, nameB, hq, hn]; try omega), end0 rfl⟩
  try simp only [tt, seval, hn, bqs]
  by_cases ho : op = 0
  case neg =>
   try simp only [tt, seval, ho, bqs]
   exact ⟨_, _, vbE (by rw [hzb]; simp [shapeB, okF, fmT, nameB, hq, hn, ho]; try omega), end0 rfl⟩
  try simp only [tt, seval, ho, bqs]
  cases not
  case true =>
   try simp only [tt, seval, bqs]
   refine cZ (l1In_d 1 5 8) (by decide) ?_ ?_ <;> simp only [tt, seval, Expr.row_mk]
   exact ⟨_, _, vbE (by rw [hzb]; simp [shapeB, okF, fmT, nameB, hq, hn, ho]; try omega), end0 rfl⟩
  try simp only [tt, seval, bqs]
  refine cZ (l7Lit_d val) (by decide) ?_ ?_ <;> simp only [tt, seval, Expr.row_mk, Val.row]
  cases hl : litB val
  case false =>
   try simp only [tt, seval, hl, bqs]
   exact ⟨_, _, vbE (by rw [hzb]; simp [shapeB, okF, fmT, nameB, hq, hn, ho, hl]; try omega), end0 rfl⟩
  try simp only [tt, seval, hl, bqs]
  rw [wrap_id (by omega) (by omega)]
  by_cases hz : nk + ns = 0
  case neg =>
   try simp only [tt, seval, hz, bqs]
   exact ⟨_, _, vbE (by rw [hzb]; simp [shapeB, okF, fmT, nameB, hq, hn, ho, hl, hz]; try omega), end0 rfl⟩
  try simp only [tt, seval, hz, bqs]
  exact ⟨_, _, vbE (by rw [hzb]; simp [shapeB, okF, fmT, nameB, hq, hn, ho, hl, hz]; try omega), end0 rfl⟩
 ·try simp only [tt, seval]
  rw [pu_neagg (by kernel_rfl) (eqValE val)]
  try simp only [tt, seval, bqs]
  cases hv : zV val
  case false =>
   try simp only [tt, seval, hv, bqs]
   exact ⟨_, _, vbE (by rw [hzb]; simp [shapeB, okF, fmT, nameB, hv]; try omega), end0 rfl⟩
  try simp only [tt, seval, hv, bqs]
  by_cases ho : op = 0
  case neg =>
   try simp only [tt, seval, ho, bqs]
   exact ⟨_, _, vbE (by rw [hzb]; simp [shapeB, okF, fmT, nameB, hv, ho]; try omega), end0 rfl⟩
  try simp only [tt, seval, ho, bqs]
  cases not
  case true =>
   try simp only [tt, seval, bqs]
   refine cZ (l1In_d 2 5 8) (by decide) ?_ ?_ <;> simp only [tt, seval, Expr.row_mk]
   exact ⟨_, _, vbE (by rw [hzb]; simp [shapeB, okF, fmT, nameB, hv, ho]; try omega), end0 rfl⟩
  try simp only [tt, seval, bqs]
  refine cZ (NameOk_d name) (by decide) ?_ ?_ <;> simp only [tt, seval, Expr.row_mk]
  cases hnb : decide (1 ≤ name.size ∧ name.size ≤ 20)
  case false =>
   try simp only [tt, seval, hnb, bqs]
   exact ⟨_, _, vbE (by rw [hzb]; simp [shapeB, okF, fmT, nameB, hv, ho, hnb]; try omega), end0 rfl⟩
  try simp only [tt, seval, hnb, bqs]
  refine cZ (l7Maybe_d qual) (by decide) ?_ ?_ <;> simp only [tt, seval, Expr.row_mk]
  cases hmb : mayB qual
  case false =>
   try simp only [tt, seval, hmb, bqs]
   exact ⟨_, _, vbE (by rw [hzb]; simp [shapeB, okF, fmT, nameB, hv, ho, hnb, hmb]; try omega), end0 rfl⟩
  try simp only [tt, seval, hmb, bqs]
  rw [wrap_id (by omega) (by omega)]
  by_cases hz : nk + ns = 0
  case neg =>
   try simp only [tt, seval, hz, bqs]
   exact ⟨_, _, vbE (by rw [hzb]; simp [shapeB, okF, fmT, nameB, hv, ho, hnb, hmb, hz]; try omega), end0 rfl⟩
  try simp only [tt, seval, hz, bqs]
  exact ⟨_, _, vbE (by rw [hzb]; simp [shapeB, okF, fmT, nameB, hv, ho, hnb, hmb, hz]; try omega), end0 rfl⟩
 ·try simp only [tt, seval]
  by_cases hq : qual = ⟨#[]⟩
  case neg =>
   try simp only [tt, seval, hq, bqs]
   exact ⟨_, _, vbE (by rw [hzb]; simp [shapeB, okF, fmT, nameB, hq]; try omega), end0 rfl⟩
  try simp only [tt, seval, hq, bqs]
  by_cases hn : name = ⟨#[]⟩
  case neg =>
   try simp only [tt, seval, hn, bqs]
   exact ⟨_, _, vbE (by rw [hzb]; simp [shapeB, okF, fmT, nameB, hq, hn]; try omega), end0 rfl⟩
  try simp only [tt, seval, hn, bqs]
  rw [pu_neagg (by kernel_rfl) (eqValE val)]
  try simp only [tt, seval, bqs]
  cases hv : zV val
  case false =>
   try simp only [tt, seval, hv, bqs]
   exact ⟨_, _, vbE (by rw [hzb]; simp [shapeB, okF, fmT, nameB, hq, hn, hv]; try omega), end0 rfl⟩
  try simp only [tt, seval, hv, bqs]
  cases not
  case true =>
   try simp only [tt, seval, bqs]
   refine cZ (l1In_d 3 5 8) (by decide) ?_ ?_ <;> simp only [tt, seval, Expr.row_mk]
   exact ⟨_, _, vbE (by rw [hzb]; simp [shapeB, okF, fmT, nameB, hq, hn, hv]; try omega), end0 rfl⟩
  try simp only [tt, seval, bqs]
  by_cases ho15 : op = 15
  case' neg =>
   try simp only [tt, seval, ho15]
   by_cases ho16 : op = 16
   case neg =>
    try simp only [tt, seval, ho16]
    exact ⟨_, _, vbE (by rw [hzb]; simp [shapeB, okF, fmT, nameB, hq, hn, hv, ho15, ho16]; try omega), end0 rfl⟩
   try simp only [tt, seval, ho16]
  case' pos => try simp only [tt, seval, ho15]
  all_goals
   by_cases hk1 : nk = 1
   case neg =>
    try simp only [tt, seval, hk1, bqs]
    exact ⟨_, _, vbE (by rw [hzb]; simp [shapeB, okF, fmT, nameB, hq, hn, hv, *, hk1]; try omega), end0 rfl⟩
   try simp only [tt, seval, hk1, bqs]
   by_cases hs0 : ns = 0
   case neg =>
    try simp only [tt, seval, hs0, bqs]
    exact ⟨_, _, vbE (by rw [hzb]; simp [shapeB, okF, fmT, nameB, hq, hn, hv, *, hk1, hs0]; try omega), end0 rfl⟩
   try simp only [tt, seval, hs0, bqs]
   exact ⟨_, _, vbE (by rw [hzb]; simp [shapeB, okF, fmT, nameB, hq, hn, hv, *, hk1, hs0]; try omega), end0 rfl⟩
 ·try simp only [tt, seval]
  by_cases hq : qual = ⟨#[]⟩
  case neg =>
   try simp only [tt, seval, hq, bqs]
   exact ⟨_, _, vbE (by rw [hzb]; simp [shapeB, okF, fmT, nameB, hq]; try omega), end0 rfl⟩
  try simp only [tt, seval, hq, bqs]
  by_cases hn : name = ⟨#[]⟩
  case neg =>
   try simp only [tt, seval, hn, bqs]
   exact ⟨_, _, vbE (by rw [hzb]; simp [shapeB, okF, fmT, nameB, hq, hn]; try omega), end0 rfl⟩
  try simp only [tt, seval, hn, bqs]
  rw [pu_neagg (by kernel_rfl) (eqValE val)]
  try simp only [tt, seval, bqs]
  cases hv : zV val
  case false =>
   try simp only [tt, seval, hv, bqs]
   exact ⟨_, _, vbE (by rw [hzb]; simp [shapeB, okF, fmT, nameB, hq, hn, hv]; try omega), end0 rfl⟩
  try simp only [tt, seval, hv, bqs]
  cases not
  case true =>
   try simp only [tt, seval, bqs]
   refine cZ (l1In_d 4 5 8) (by decide) ?_ ?_ <;> simp only [tt, seval, Expr.row_mk]
   exact ⟨_, _, vbE (by rw [hzb]; simp [shapeB, okF, fmT, nameB, hq, hn, hv]; try omega), end0 rfl⟩
  try simp only [tt, seval, bqs]
  refine cZ (l1In_d op 1 14) (by decide) ?_ ?_ <;> simp only [tt, seval, Expr.row_mk]
  cases hop : decide ((1 : Int) ≤ op ∧ op ≤ 14)
  case false =>
   try simp only [tt, seval, hop, bqs]
   exact ⟨_, _, vbE (by rw [hzb]; simp [shapeB, okF, fmT, nameB, hq, hn, hv, hop]; try omega), end0 rfl⟩
  try simp only [tt, seval, hop, bqs]
  by_cases hk2 : nk = 2
  case neg =>
   try simp only [tt, seval, hk2, bqs]
   exact ⟨_, _, vbE (by rw [hzb]; simp [shapeB, okF, fmT, nameB, hq, hn, hv, hop, hk2]; try omega), end0 rfl⟩
  try simp only [tt, seval, hk2, bqs]
  by_cases hs0 : ns = 0
  case neg =>
   try simp only [tt, seval, hs0, bqs]
   exact ⟨_, _, vbE (by rw [hzb]; simp [shapeB, okF, fmT, nameB, hq, hn, hv, hop, hk2, hs0]; try omega), end0 rfl⟩
  try simp only [tt, seval, hs0, bqs]
  exact ⟨_, _, vbE (by rw [hzb]; simp [shapeB, okF, fmT, nameB, hq, hn, hv, hop, hk2, hs0]; try omega), end0 rfl⟩
 ·try simp only [tt, seval]
  by_cases hq : qual = ⟨#[]⟩
  case neg =>
   try simp only [tt, seval, hq, bqs]
   exact ⟨_, _, vbE (by rw [hzb]; simp [shapeB, okF, fmT, nameB, hq]; try omega), end0 rfl⟩
  try simp only [tt, seval, hq, bqs]
  by_cases hn : name = ⟨#[]⟩
  case neg =>
   try simp only [tt, seval, hn, bqs]
   exact ⟨_, _, vbE (by rw [hzb]; simp [shapeB, okF, fmT, nameB, hq, hn]; try omega), end0 rfl⟩
  try simp only [tt, seval, hn, bqs]
  rw [pu_neagg (by kernel_rfl) (eqValE val)]
  try simp only [tt, seval, bqs]
  cases hv : zV val
  case false =>
   try simp only [tt, seval, hv, bqs]
   exact ⟨_, _, vbE (by rw [hzb]; simp [shapeB, okF, fmT, nameB, hq, hn, hv]; try omega), end0 rfl⟩
  try simp only [tt, seval, hv, bqs]
  by_cases ho : op = 0
  case neg =>
   try simp only [tt, seval, ho, bqs]
   exact ⟨_, _, vbE (by rw [hzb]; simp [shapeB, okF, fmT, nameB, hq, hn, hv, ho]; try omega), end0 rfl⟩
  try simp only [tt, seval, ho, bqs]
  cases not
  case' true =>
   try simp only [tt, seval, bqs]
   refine cZ (l1In_d 5 5 8) (by decide) ?_ ?_ <;> simp only [tt, seval, Expr.row_mk]
   try simp only [tt, seval]
  case' false => try simp only [tt, seval, bqs]
  all_goals
   by_cases hk1 : nk = 1
   case neg =>
    try simp only [tt, seval, hk1, bqs]
    exact ⟨_, _, vbE (by rw [hzb]; simp [shapeB, okF, fmT, nameB, hq, hn, hv, ho, hk1]; try omega), end0 rfl⟩
   try simp only [tt, seval, hk1, bqs]
   by_cases hs0 : ns = 0
   case neg =>
    try simp only [tt, seval, hs0, bqs]
    exact ⟨_, _, vbE (by rw [hzb]; simp [shapeB, okF, fmT, nameB, hq, hn, hv, ho, hk1, hs0]; try omega), end0 rfl⟩
   try simp only [tt, seval, hs0, bqs]
   exact ⟨_, _, vbE (by rw [hzb]; simp [shapeB, okF, fmT, nameB, hq, hn, hv, ho, hk1, hs0]; try omega), end0 rfl⟩
 ·try simp only [tt, seval]
  by_cases hq : qual = ⟨#[]⟩
  case neg =>
   try simp only [tt, seval, hq, bqs]
   exact ⟨_, _, vbE (by rw [hzb]; simp [shapeB, okF, fmT, nameB, hq]; try omega), end0 rfl⟩
  try simp only [tt, seval, hq, bqs]
  by_cases hn : name = ⟨#[]⟩
  case neg =>
   try simp only [tt, seval, hn, bqs]
   exact ⟨_, _, vbE (by rw [hzb]; simp [shapeB, okF, fmT, nameB, hq, hn]; try omega), end0 rfl⟩
  try simp only [tt, seval, hn, bqs]
  rw [pu_neagg (by kernel_rfl) (eqValE val)]
  try simp only [tt, seval, bqs]
  cases hv : zV val
  case false =>
   try simp only [tt, seval, hv, bqs]
   exact ⟨_, _, vbE (by rw [hzb]; simp [shapeB, okF, fmT, nameB, hq, hn, hv]; try omega), end0 rfl⟩
  try simp only [tt, seval, hv, bqs]
  by_cases ho : op = 0
  case neg =>
   try simp only [tt, seval, ho, bqs]
   exact ⟨_, _, vbE (by rw [hzb]; simp [shapeB, okF, fmT, nameB, hq, hn, hv, ho]; try omega), end0 rfl⟩
  try simp only [tt, seval, ho, bqs]
  cases not
  case' true =>
   try simp only [tt, seval, bqs]
   refine cZ (l1In_d 6 5 8) (by decide) ?_ ?_ <;> simp only [tt, seval, Expr.row_mk]
   try simp only [tt, seval]
  case' false => try simp only [tt, seval, bqs]
  all_goals
   by_cases hk3 : nk = 3
   case neg =>
    try simp only [tt, seval, hk3, bqs]
    exact ⟨_, _, vbE (by rw [hzb]; simp [shapeB, okF, fmT, nameB, hq, hn, hv, ho, hk3]; try omega), end0 rfl⟩
   try simp only [tt, seval, hk3, bqs]
   by_cases hs0 : ns = 0
   case neg =>
    try simp only [tt, seval, hs0, bqs]
    exact ⟨_, _, vbE (by rw [hzb]; simp [shapeB, okF, fmT, nameB, hq, hn, hv, ho, hk3, hs0]; try omega), end0 rfl⟩
   try simp only [tt, seval, hs0, bqs]
   exact ⟨_, _, vbE (by rw [hzb]; simp [shapeB, okF, fmT, nameB, hq, hn, hv, ho, hk3, hs0]; try omega), end0 rfl⟩
 ·try simp only [tt, seval]
  by_cases hq : qual = ⟨#[]⟩
  case neg =>
   try simp only [tt, seval, hq, bqs]
   exact ⟨_, _, vbE (by rw [hzb]; simp [shapeB, okF, fmT, nameB, hq]; try omega), end0 rfl⟩
  try simp only [tt, seval, hq, bqs]
  by_cases hn : name = ⟨#[]⟩
  case neg =>
   try simp only [tt, seval, hn, bqs]
   exact ⟨_, _, vbE (by rw [hzb]; simp [shapeB, okF, fmT, nameB, hq, hn]; try omega), end0 rfl⟩
  try simp only [tt, seval, hn, bqs]
  rw [pu_neagg (by kernel_rfl) (eqValE val)]
  try simp only [tt, seval, bqs]
  cases hv : zV val
  case false =>
   try simp only [tt, seval, hv, bqs]
   exact ⟨_, _, vbE (by rw [hzb]; simp [shapeB, okF, fmT, nameB, hq, hn, hv]; try omega), end0 rfl⟩
  try simp only [tt, seval, hv, bqs]
  by_cases ho : op = 0
  case neg =>
   try simp only [tt, seval, ho, bqs]
   exact ⟨_, _, vbE (by rw [hzb]; simp [shapeB, okF, fmT, nameB, hq, hn, hv, ho]; try omega), end0 rfl⟩
  try simp only [tt, seval, ho, bqs]
  cases not
  case' true =>
   try simp only [tt, seval, bqs]
   refine cZ (l1In_d 7 5 8) (by decide) ?_ ?_ <;> simp only [tt, seval, Expr.row_mk]
   try simp only [tt, seval]
  case' false => try simp only [tt, seval, bqs]
  all_goals
   refine cZ (l1In_d nk 2 9) (by decide) ?_ ?_ <;> simp only [tt, seval, Expr.row_mk]
   cases hkr : decide ((2 : Int) ≤ nk ∧ nk ≤ 9)
   case false =>
    try simp only [tt, seval, hkr, bqs]
    exact ⟨_, _, vbE (by rw [hzb]; simp [shapeB, okF, fmT, nameB, hq, hn, hv, ho, hkr]; try omega), end0 rfl⟩
   try simp only [tt, seval, hkr, bqs]
   by_cases hs0 : ns = 0
   case neg =>
    try simp only [tt, seval, hs0, bqs]
    exact ⟨_, _, vbE (by rw [hzb]; simp [shapeB, okF, fmT, nameB, hq, hn, hv, ho, hkr, hs0]; try omega), end0 rfl⟩
   try simp only [tt, seval, hs0, bqs]
   exact ⟨_, _, vbE (by rw [hzb]; simp [shapeB, okF, fmT, nameB, hq, hn, hv, ho, hkr, hs0]; try omega), end0 rfl⟩
 ·try simp only [tt, seval]
  by_cases hq : qual = ⟨#[]⟩
  case neg =>
   try simp only [tt, seval, hq, bqs]
   exact ⟨_, _, vbE (by rw [hzb]; simp [shapeB, okF, fmT, nameB, hq]; try omega), end0 rfl⟩
  try simp only [tt, seval, hq, bqs]
  by_cases hn : name = ⟨#[]⟩
  case neg =>
   try simp only [tt, seval, hn, bqs]
   exact ⟨_, _, vbE (by rw [hzb]; simp [shapeB, okF, fmT, nameB, hq, hn]; try omega), end0 rfl⟩
  try simp only [tt, seval, hn, bqs]
  rw [pu_neagg (by kernel_rfl) (eqValE val)]
  try simp only [tt, seval, bqs]
  cases hv : zV val
  case false =>
   try simp only [tt, seval, hv, bqs]
   exact ⟨_, _, vbE (by rw [hzb]; simp [shapeB, okF, fmT, nameB, hq, hn, hv]; try omega), end0 rfl⟩
  try simp only [tt, seval, hv, bqs]
  by_cases ho : op = 0
  case neg =>
   try simp only [tt, seval, ho, bqs]
   exact ⟨_, _, vbE (by rw [hzb]; simp [shapeB, okF, fmT, nameB, hq, hn, hv, ho]; try omega), end0 rfl⟩
  try simp only [tt, seval, ho, bqs]
  cases not
  case' true =>
   try simp only [tt, seval, bqs]
   refine cZ (l1In_d 8 5 8) (by decide) ?_ ?_ <;> simp only [tt, seval, Expr.row_mk]
   try simp only [tt, seval]
  case' false => try simp only [tt, seval, bqs]
  all_goals
   by_cases hk1 : nk = 1
   case neg =>
    try simp only [tt, seval, hk1, bqs]
    exact ⟨_, _, vbE (by rw [hzb]; simp [shapeB, okF, fmT, nameB, hq, hn, hv, ho, hk1]; try omega), end0 rfl⟩
   try simp only [tt, seval, hk1, bqs]
   by_cases hs1 : ns = 1
   case neg =>
    try simp only [tt, seval, hs1, bqs]
    exact ⟨_, _, vbE (by rw [hzb]; simp [shapeB, okF, fmT, nameB, hq, hn, hv, ho, hk1, hs1]; try omega), end0 rfl⟩
   try simp only [tt, seval, hs1, bqs]
   exact ⟨_, _, vbE (by rw [hzb]; simp [shapeB, okF, fmT, nameB, hq, hn, hv, ho, hk1, hs1]; try omega), end0 rfl⟩
 ·try simp only [tt, seval]
  by_cases hq : qual = ⟨#[]⟩
  case neg =>
   try simp only [tt, seval, hq, bqs]
   exact ⟨_, _, vbE (by rw [hzb]; simp [shapeB, okF, fmT, nameB, hq]; try omega), end0 rfl⟩
  try simp only [tt, seval, hq, bqs]
  by_cases hn : name = ⟨#[]⟩
  case neg =>
   try simp only [tt, seval, hn, bqs]
   exact ⟨_, _, vbE (by rw [hzb]; simp [shapeB, okF, fmT, nameB, hq, hn]; try omega), end0 rfl⟩
  try simp only [tt, seval, hn, bqs]
  rw [pu_neagg (by kernel_rfl) (eqValE val)]
  try simp only [tt, seval, bqs]
  cases hv : zV val
  case false =>
   try simp only [tt, seval, hv, bqs]
   exact ⟨_, _, vbE (by rw [hzb]; simp [shapeB, okF, fmT, nameB, hq, hn, hv]; try omega), end0 rfl⟩
  try simp only [tt, seval, hv, bqs]
  by_cases ho : op = 0
  case neg =>
   try simp only [tt, seval, ho, bqs]
   exact ⟨_, _, vbE (by rw [hzb]; simp [shapeB, okF, fmT, nameB, hq, hn, hv, ho]; try omega), end0 rfl⟩
  try simp only [tt, seval, ho, bqs]
  cases not
  case true =>
   try simp only [tt, seval, bqs]
   refine cZ (l1In_d 9 5 8) (by decide) ?_ ?_ <;> simp only [tt, seval, Expr.row_mk]
   exact ⟨_, _, vbE (by rw [hzb]; simp [shapeB, okF, fmT, nameB, hq, hn, hv, ho]; try omega), end0 rfl⟩
  try simp only [tt, seval, bqs]
  by_cases hk0 : nk = 0
  case neg =>
   try simp only [tt, seval, hk0, bqs]
   exact ⟨_, _, vbE (by rw [hzb]; simp [shapeB, okF, fmT, nameB, hq, hn, hv, ho, hk0]; try omega), end0 rfl⟩
  try simp only [tt, seval, hk0, bqs]
  by_cases hs1 : ns = 1
  case neg =>
   try simp only [tt, seval, hs1, bqs]
   exact ⟨_, _, vbE (by rw [hzb]; simp [shapeB, okF, fmT, nameB, hq, hn, hv, ho, hk0, hs1]; try omega), end0 rfl⟩
  try simp only [tt, seval, hs1, bqs]
  exact ⟨_, _, vbE (by rw [hzb]; simp [shapeB, okF, fmT, nameB, hq, hn, hv, ho, hk0, hs1]; try omega), end0 rfl⟩
 ·have n1 : ¬ kind = 1 := by omega
  have n2 : ¬ kind = 2 := by omega
  have n3 : ¬ kind = 3 := by omega
  have n4 : ¬ kind = 4 := by omega
  have n5 : ¬ kind = 5 := by omega
  have n6 : ¬ kind = 6 := by omega
  have n7 : ¬ kind = 7 := by omega
  have n8 : ¬ kind = 8 := by omega
  have n9 : ¬ kind = 9 := by omega
  have hk58 : decide ((5 : Int) ≤ kind ∧ kind ≤ 8) = false := decide_eq_false (by omega)
  try simp only [tt, seval, n1, n2, n3, n4, n5, n6, n7, n8, n9]
  by_cases hq : qual = ⟨#[]⟩
  case neg =>
   try simp only [tt, seval, hq, bqs, n1, n2, n3, n4, n5, n6, n7, n8, n9]
   exact ⟨_, _, vbE (by rw [hzb]; simp [shapeB, okF, fmT, nameB, n1, n2, n3, n4, n5, n6, n7, n8, n9, hq]; try omega), end0 rfl⟩
  try simp only [tt, seval, hq, bqs, n1, n2, n3, n4, n5, n6, n7, n8, n9]
  by_cases hn : name = ⟨#[]⟩
  case neg =>
   try simp only [tt, seval, hn, bqs, n1, n2, n3, n4, n5, n6, n7, n8, n9]
   exact ⟨_, _, vbE (by rw [hzb]; simp [shapeB, okF, fmT, nameB, n1, n2, n3, n4, n5, n6, n7, n8, n9, hq, hn]; try omega), end0 rfl⟩
  try simp only [tt, seval, hn, bqs, n1, n2, n3, n4, n5, n6, n7, n8, n9]
  rw [pu_neagg (by kernel_rfl) (eqValE val)]
  try simp only [tt, seval, bqs, n1, n2, n3, n4, n5, n6, n7, n8, n9]
  cases hv : zV val
  case false =>
   try simp only [tt, seval, hv, bqs, n1, n2, n3, n4, n5, n6, n7, n8, n9]
   exact ⟨_, _, vbE (by rw [hzb]; simp [shapeB, okF, fmT, nameB, n1, n2, n3, n4, n5, n6, n7, n8, n9, hq, hn, hv]; try omega), end0 rfl⟩
  try simp only [tt, seval, hv, bqs, n1, n2, n3, n4, n5, n6, n7, n8, n9]
  by_cases ho : op = 0
  case neg =>
   try simp only [tt, seval, ho, bqs, n1, n2, n3, n4, n5, n6, n7, n8, n9]
   exact ⟨_, _, vbE (by rw [hzb]; simp [shapeB, okF, fmT, nameB, n1, n2, n3, n4, n5, n6, n7, n8, n9, hq, hn, hv, ho]; try omega), end0 rfl⟩
  try simp only [tt, seval, ho, bqs, n1, n2, n3, n4, n5, n6, n7, n8, n9]
  cases not
  case true =>
   try simp only [tt, seval, bqs]
   refine cZ (l1In_d kind 5 8) (by decide) ?_ ?_ <;> simp only [tt, seval, Expr.row_mk]
   try simp only [tt, seval, hk58]
   exact ⟨_, _, vbE (by rw [hzb]; simp [shapeB, okF, fmT, nameB, n1, n2, n3, n4, n5, n6, n7, n8, n9]; try omega), end0 rfl⟩
  case false =>
   try simp only [tt, seval, bqs, n1, n2, n3, n4, n5, n6, n7, n8, n9]
   exact ⟨_, _, vbE (by rw [hzb]; simp [shapeB, okF, fmT, nameB, n1, n2, n3, n4, n5, n6, n7, n8, n9]; try omega), end0 rfl⟩
def formS (kind op : Int) (val : Val) (qual name : ByteArray) : S := .tu [([.v (.bool (fmT kind).1), .v (.bool (fmT kind).2.1), .v (.bool (fmT kind).2.2.1), .v (.bool (fmT kind).2.2.2.1), .v (.int .i64 (fmT kind).2.2.2.2.1), .v (.int .i64 (fmT kind).2.2.2.2.2.1), .v (.int .i64 (fmT kind).2.2.2.2.2.2)], false), ([.v (.bool (okF kind op val qual name))], true)]
set_option maxHeartbeats 2000000 in
theorem formOf_d (kind op : Int) (not : Bool) (val : Val) (qual name : ByteArray) (kids : List Expr) (sub : List Query) : Cl Tryz.prog 128 [.ag (csOf (Expr.mk kind op not val qual name kids sub).row)] [] fun r _ => r = formS kind op val qual name := by
 obtain ⟨zs, hzs⟩ : ∃ zs, zs = formS kind op val qual name := ⟨_, rfl⟩
 rw [← hzs, Expr.row_mk]
 refine cl_of_d follows_mixed false Tryz.func128 rfl (by kernel_rfl) ?_
 simp only [Tryz.f128, tt, seval]
 rcases (show kind = 1 ∨ kind = 2 ∨ kind = 3 ∨ kind = 4 ∨ kind = 5 ∨ kind = 6 ∨ kind = 7 ∨ kind = 8 ∨ kind = 9 ∨ (kind < 1 ∨ 9 < kind) by omega) with rfl | rfl | rfl | rfl | rfl | rfl | rfl | rfl | rfl | hk
 ·try simp only [tt, seval]
  refine cZ (isLit_d val) (by decide) ?_ ?_ <;> simp only [tt, seval, Expr.row_mk, Val.row]
  exact ⟨_, _, (by rw [hzs]; simp [formS, okF, fmT, nameB, mayB, ]), end0 rfl⟩
 ·try simp only [tt, seval]
  refine cZ (iNameOk_d name) (by decide) ?_ ?_ <;> simp only [tt, seval, Expr.row_mk]
  cases hnb : decide (1 ≤ name.size ∧ name.size ≤ 20)
  case false =>
   simp only [tt, seval, hnb]
   exact ⟨_, _, (by rw [hzs]; simp [formS, okF, fmT, nameB, mayB, hnb]), end0 rfl⟩
  simp only [tt, seval, hnb]
  by_cases hq : qual = ⟨#[]⟩
  case pos =>
   simp only [tt, seval, hq]
   exact ⟨_, _, (by rw [hzs]; simp [formS, okF, fmT, nameB, mayB, hnb, hq]), end0 rfl⟩
  simp only [tt, seval, hq]
  refine cZ (iNameOk_d qual) (by decide) ?_ ?_ <;> simp only [tt, seval, Expr.row_mk]
  exact ⟨_, _, (by rw [hzs]; simp [formS, okF, fmT, nameB, mayB, hnb, hq]), end0 rfl⟩
 ·try simp only [tt, seval]
  refine dDrawn.intro [] (.take 0 (.take 1 (.take 2 (.take 3 (.take 4 (.take 5 (.br 6 (.take 7 (.take 8 (.br 9 (.take 10 .done) .nobr))) (.br 9 (.take 6 (.take 7 (.take 8 (.take 10 .done)))) .nobr)))))))) (by kernel_rfl) ?_
  simp only [tt, seval]
  by_cases h15 : op = 15
  case pos =>
   simp only [tt, seval, decide_eq_true h15]
   refine And.intro ?_ ?_ <;> exact ⟨_, _, (by rw [hzs]; simp [formS, okF, fmT, nameB, mayB, h15]), end0 rfl⟩
  simp only [tt, seval, decide_eq_false h15]
  refine And.intro ?_ ?_ <;> exact ⟨_, _, (by rw [hzs]; simp [formS, okF, fmT, nameB, mayB, h15]), end0 rfl⟩
 ·try simp only [tt, seval]
  refine dDrawn.intro [] (.take 0 (.take 1 (.take 2 (.take 3 (.take 4 (.take 5 (.br 6 (.take 7 (.take 8 (.br 9 (.take 10 .done) .nobr))) (.br 9 (.take 6 (.take 7 (.take 8 (.take 10 .done)))) .nobr)))))))) (by kernel_rfl) ?_
  simp only [tt, seval]
  by_cases h1 : 1 ≤ op
  case neg =>
   simp only [tt, seval, decide_eq_false h1]
   refine And.intro ?_ ?_ <;> exact ⟨_, _, (by rw [hzs]; simp [formS, okF, fmT, nameB, mayB, h1]), end0 rfl⟩
  simp only [tt, seval, decide_eq_true h1]
  refine And.intro ?_ ?_ <;> exact ⟨_, _, (by rw [hzs]; simp [formS, okF, fmT, nameB, mayB, h1]), end0 rfl⟩
 ·try simp only [tt, seval]
  exact ⟨_, _, (by rw [hzs]; simp [formS, okF, fmT, nameB, mayB, ]), end0 rfl⟩
 ·try simp only [tt, seval]
  exact ⟨_, _, (by rw [hzs]; simp [formS, okF, fmT, nameB, mayB, ]), end0 rfl⟩
 ·try simp only [tt, seval]
  exact ⟨_, _, (by rw [hzs]; simp [formS, okF, fmT, nameB, mayB, ]), end0 rfl⟩
 ·try simp only [tt, seval]
  exact ⟨_, _, (by rw [hzs]; simp [formS, okF, fmT, nameB, mayB, ]), end0 rfl⟩
 ·try simp only [tt, seval]
  exact ⟨_, _, (by rw [hzs]; simp [formS, okF, fmT, nameB, mayB, ]), end0 rfl⟩
 ·have n1 : ¬ kind = 1 := by omega
  have n2 : ¬ kind = 2 := by omega
  have n3 : ¬ kind = 3 := by omega
  have n4 : ¬ kind = 4 := by omega
  have n5 : ¬ kind = 5 := by omega
  have n6 : ¬ kind = 6 := by omega
  have n7 : ¬ kind = 7 := by omega
  have n8 : ¬ kind = 8 := by omega
  have n9 : ¬ kind = 9 := by omega
  try simp only [tt, seval, n1, n2, n3, n4, n5, n6, n7, n8, n9]
  exact ⟨_, _, (by rw [hzs]; simp [formS, okF, fmT, n1, n2, n3, n4, n5, n6, n7, n8, n9]; omega), end0 rfl⟩
theorem baE : ByteArray.empty = ⟨#[]⟩ := rfl
theorem all_false {α : Type} {g : α → Bool} {l : List α} {x : α} (h : x ∈ l) (hx : g x = false) : l.all g = false := by
 cases h' : l.all g with
 | false => rfl
 | true => have := List.all_eq_true.1 h' x h; rw [hx] at this; cases this
theorem all_true {α : Type} {g : α → Bool} {l : List α} (h : ∀ j (hj : j < l.length), g l[j] = true) : l.all g = true := List.all_eq_true.2 fun x hx => by
 obtain ⟨j, hj, rfl⟩ := List.mem_iff_getElem.1 hx
 exact h j hj
def zeroE : Expr → Bool | .mk kind op not val qual name kids sub => zeroB kind op not val qual name kids.length sub.length
def itB : Item → Bool | .mk star qual e as_ => if star = true then (mayB qual && (decide (as_ = ⟨#[]⟩) && zeroE e)) else (decide (qual = ⟨#[]⟩) && mayB as_)
def srB (i : Nat) : Source → Bool | .mk table as_ on => nameB table && (mayB as_ && (decide (on.length ≤ 1) && (decide (¬ i = 0) || decide (on.length = 0))))
def srAll (l : List Source) : Bool := (List.range l.length).all fun i => match l[i]? with | some s => srB i s | none => true
def hdB : Query → Bool | .mk _ items from_ where_ order limit => decide (1 ≤ items.length ∧ items.length ≤ 12) && (decide (1 ≤ from_.length ∧ from_.length ≤ 3) && (decide (where_.length ≤ 1) && (decide (order.length ≤ 12) && (decide (-1 ≤ limit) && (items.all itB && srAll from_)))))
theorem sr_false {l : List Source} {i : Nat} (h : i < l.length) (hb : srB i l[i] = false) : srAll l = false := by
 refine all_false (x := i) (List.mem_range.2 h) ?_
 rw [List.getElem?_eq_getElem h]; exact hb
theorem sr_true {l : List Source} (h : ∀ j (hj : j < l.length), srB j l[j] = true) : srAll l = true := List.all_eq_true.2 fun j hj => by
 have hj := List.mem_range.1 hj
 rw [List.getElem?_eq_getElem hj]; exact h j hj
def fmQ (g : Expr → Bool) (q : Query) : Bool := hdB q && (exprsQ q).all g
def fmF (g : Expr → Bool) : Expr → Bool | .mk kind op not val qual name kids sub => shapeB kind op not val qual name kids.length sub.length && (kids.all g && sub.all (fmQ g))
noncomputable def fmE : Expr → Bool := foldE fmF
theorem IndexE_d (l : List Expr) (g : Expr → Bool) (h : ∀ x ∈ l, Cl Tryz.prog 180 [.ag (csOf x.row)] [] fun r _ => r = vb (!g x)) : Cl Tryz.prog 112 [.c (.sl l.length (l.flatMap Expr.row) none), .c (.fn 180 [] [])] [] fun r _ => ∃ n : Int, r = vi n ∧ decide (0 ≤ n) = !(l.all g) := by
 refine cl_of_d follows_mixed false Tryz.func112 rfl (by kernel_rfl) ?_
 simp only [Tryz.f112, tt, seval]
 refine fun _ => ?_
 refine dLoop.intro (fun f L p => ∃ i : Nat, f 8 = vi i ∧ i ≤ l.length ∧ (∀ j (hj : j < l.length), j < i → g l[j] = true) ∧ L = [] ∧ p = none) (fun f _ _ => (l.length - ixS (f 8)).toNat) [] none ⟨SubO.nil _, PoSub.none _, ?_⟩ ?_
 ·simp only [tt, seval]
  exact ⟨0, rfl, by omega, fun j _ h => absurd h (Nat.not_lt_zero _)⟩
 ·rintro g' L p ⟨i, hix, hi, hall, rfl, rfl⟩
  simp only [tt, seval] at hix
  simp only [tt, seval, hix, Int.ofNat_lt]
  refine And.intro (fun hlt => ?_) (fun hge => ?_)
  ·refine ⟨by omega, by omega, _, drop_row Expr.row_len (List.getElem?_eq_getElem hlt), Expr.ne _ _, ?_⟩
   simp only [tt, seval, hix, Expr.tk, Expr.row_len]
   refine cZ (h l[i] (List.getElem_mem hlt)) (by decide) ?_ ?_ <;> simp only [tt, seval, hix]
   refine And.intro (fun hb => ?_) (fun hb => ?_)
   ·have hb : g l[i] = false := by simpa only [Bool.not_eq_true'] using hb
    refine ⟨vi i, [], ⟨i, rfl, ?_⟩, end0 rfl⟩
    rw [decide_eq_true (by omega), all_false (List.getElem_mem hlt) hb]; rfl
   ·have hb : g l[i] = true := by simpa only [Bool.not_eq_false'] using hb
    try rw [wrS i (by omega)]
    exact ⟨_, none, SubO.nil _, PoSub.none _, ⟨i + 1, rfl, by omega, fun j hj hji => by
     by_cases e : j = i
     ·subst e; exact hb
     ·exact hall j hj (by omega), rfl, rfl⟩, by simp only [ixS]; omega⟩
  ·refine ⟨vi (-1), [], ⟨-1, rfl, ?_⟩, end0 rfl⟩
   rw [all_true fun j hj => hall j hj (by omega)]; rfl
theorem ContainsE_d (l : List Expr) (g : Expr → Bool) (h : ∀ x ∈ l, Cl Tryz.prog 180 [.ag (csOf x.row)] [] fun r _ => r = vb (!g x)) : Cl Tryz.prog 67 [.c (.sl l.length (l.flatMap Expr.row) none), .c (.fn 180 [] [])] [] fun r _ => r = vb (!(l.all g)) := by
 refine cl_of_d follows_mixed false Tryz.func67 rfl (by kernel_rfl) ?_
 simp only [Tryz.f67, tt, seval]
 refine call0 (IndexE_d l g h) ?_ ?_ ?_
 ·decide
 ·simp only [tt, seval]
 rintro r ⟨n, rfl, hn⟩
 simp only [tt, seval]
 exact ⟨_, _, vbE hn, end0 rfl⟩
theorem IndexQ_d (l : List Query) (g : Query → Bool) (h : ∀ x ∈ l, Cl Tryz.prog 131 [.ag (csOf x.row)] [] fun r _ => r = vb (!g x)) : Cl Tryz.prog 181 [.c (.sl l.length (l.flatMap Query.row) none), .c (.fn 131 [] [])] [] fun r _ => ∃ n : Int, r = vi n ∧ decide (0 ≤ n) = !(l.all g) := by
 refine cl_of_d follows_mixed false Tryz.func181 rfl (by kernel_rfl) ?_
 simp only [Tryz.f181, tt, seval]
 refine fun _ => ?_
 refine dLoop.intro (fun f L p => ∃ i : Nat, f 8 = vi i ∧ i ≤ l.length ∧ (∀ j (hj : j < l.length), j < i → g l[j] = true) ∧ L = [] ∧ p = none) (fun f _ _ => (l.length - ixS (f 8)).toNat) [] none ⟨SubO.nil _, PoSub.none _, ?_⟩ ?_
 ·simp only [tt, seval]
  exact ⟨0, rfl, by omega, fun j _ h => absurd h (Nat.not_lt_zero _)⟩
 ·rintro g' L p ⟨i, hix, hi, hall, rfl, rfl⟩
  simp only [tt, seval] at hix
  simp only [tt, seval, hix, Int.ofNat_lt]
  refine And.intro (fun hlt => ?_) (fun hge => ?_)
  ·refine ⟨by omega, by omega, _, drop_row Query.row_len (List.getElem?_eq_getElem hlt), Query.ne _ _, ?_⟩
   simp only [tt, seval, hix, Query.tk, Query.row_len]
   refine cZ (h l[i] (List.getElem_mem hlt)) (by decide) ?_ ?_ <;> simp only [tt, seval, hix]
   refine And.intro (fun hb => ?_) (fun hb => ?_)
   ·have hb : g l[i] = false := by simpa only [Bool.not_eq_true'] using hb
    refine ⟨vi i, [], ⟨i, rfl, ?_⟩, end0 rfl⟩
    rw [decide_eq_true (by omega), all_false (List.getElem_mem hlt) hb]; rfl
   ·have hb : g l[i] = true := by simpa only [Bool.not_eq_false'] using hb
    try rw [wrS i (by omega)]
    exact ⟨_, none, SubO.nil _, PoSub.none _, ⟨i + 1, rfl, by omega, fun j hj hji => by
     by_cases e : j = i
     ·subst e; exact hb
     ·exact hall j hj (by omega), rfl, rfl⟩, by simp only [ixS]; omega⟩
  ·refine ⟨vi (-1), [], ⟨-1, rfl, ?_⟩, end0 rfl⟩
   rw [all_true fun j hj => hall j hj (by omega)]; rfl
theorem ContainsQ_d (l : List Query) (g : Query → Bool) (h : ∀ x ∈ l, Cl Tryz.prog 131 [.ag (csOf x.row)] [] fun r _ => r = vb (!g x)) : Cl Tryz.prog 130 [.c (.sl l.length (l.flatMap Query.row) none), .c (.fn 131 [] [])] [] fun r _ => r = vb (!(l.all g)) := by
 refine cl_of_d follows_mixed false Tryz.func130 rfl (by kernel_rfl) ?_
 simp only [Tryz.f130, tt, seval]
 refine call0 (IndexQ_d l g h) ?_ ?_ ?_
 ·decide
 ·simp only [tt, seval]
 rintro r ⟨n, rfl, hn⟩
 simp only [tt, seval]
 exact ⟨_, _, vbE hn, end0 rfl⟩
theorem ar1_d (e : Expr) (b : Bool) (h : Cl Tryz.prog 79 [.ag (csOf e.row)] [] fun r _ => r = vb b) : Cl Tryz.prog 180 [.ag (csOf e.row)] [] fun r _ => r = vb (!b) := by
 obtain ⟨kind, op, not, val, qual, name, kids, sub⟩ := e
 rw [Expr.row_mk] at h ⊢
 refine cl_of_d follows_mixed false Tryz.func180 rfl (by kernel_rfl) ?_
 simp only [Tryz.f180, tt, seval]
 refine cZ (h) (by decide) ?_ ?_ <;> simp only [tt, seval]
 exact ⟨_, _, rfl, end0 rfl⟩
theorem if1_d (e : Query) (b : Bool) (h : Cl Tryz.prog 132 [.ag (csOf e.row)] [] fun r _ => r = vb b) : Cl Tryz.prog 131 [.ag (csOf e.row)] [] fun r _ => r = vb (!b) := by
 obtain ⟨distinct, items, from_, where_, order, limit⟩ := e
 rw [Query.row_mk] at h ⊢
 refine cl_of_d follows_mixed false Tryz.func131 rfl (by kernel_rfl) ?_
 simp only [Tryz.f131, tt, seval]
 refine cZ (h) (by decide) ?_ ?_ <;> simp only [tt, seval]
 exact ⟨_, _, rfl, end0 rfl⟩
theorem areFormed_d (l : List Expr) (g : Expr → Bool) (h : ∀ x ∈ l, Cl Tryz.prog 79 [.ag (csOf x.row)] [] fun r _ => r = vb (g x)) : Cl Tryz.prog 129 [.c (.sl l.length (l.flatMap Expr.row) none)] [] fun r _ => r = vb (l.all g) := by
 refine cl_of_d follows_mixed false Tryz.func129 rfl (by kernel_rfl) ?_
 simp only [Tryz.f129, tt, seval]
 refine cZ (ContainsE_d l g (fun x hx => ar1_d x (g x) (h x hx))) (by decide) ?_ ?_ <;> simp only [tt, seval]
 exact ⟨_, _, vbE (Bool.not_not _), end0 rfl⟩
theorem iZero_d (e : Expr) : Cl Tryz.prog 183 [.ag (csOf e.row)] [] fun r _ => r = vb (zeroE e) := by
 obtain ⟨kind, op, not, val, qual, name, kids, sub⟩ := e
 rw [Expr.row_mk]
 refine cl_of_d follows_mixed false Tryz.func183 rfl (by kernel_rfl) ?_
 simp only [Tryz.f183, tt, seval]
 refine cZ (iSameZ_d kind op not val qual name kids sub) (by decide) ?_ ?_ <;> simp only [tt, seval, Expr.row_mk, baE]
 exact ⟨_, _, rfl, end0 rfl⟩
set_option maxHeartbeats 4000000 in
theorem isFormed_step (kind op : Int) (not : Bool) (val : Val) (qual name : ByteArray) (kids : List Expr) (sub : List Query) (g : Expr → Bool) (hkids : ∀ x ∈ kids, Cl Tryz.prog 79 [.ag (csOf x.row)] [] fun r _ => r = vb (g x)) (hsub : ∀ q ∈ sub, Cl Tryz.prog 132 [.ag (csOf q.row)] [] fun r _ => r = vb (fmQ g q)) (hkl : kids.length ≤ 1048576) (hsl : sub.length ≤ 1048576) : Cl Tryz.prog 79 [.ag (csOf (Expr.mk kind op not val qual name kids sub).row)] [] fun r _ => r = vb (fmF g (Expr.mk kind op not val qual name kids sub)) := by
 obtain ⟨zb, hzb⟩ : ∃ zb, zb = fmF g (Expr.mk kind op not val qual name kids sub) := ⟨_, rfl⟩
 rw [← hzb, Expr.row_mk]
 refine cl_of_d follows_mixed false Tryz.func79 rfl (by kernel_rfl) ?_
 simp only [Tryz.f79, tt, seval]
 obtain ⟨nk, hnk⟩ : ∃ nk : Int, nk = kids.length := ⟨_, rfl⟩
 obtain ⟨ns, hns⟩ : ∃ ns : Int, ns = sub.length := ⟨_, rfl⟩
 rw [fmF, shapeB, ← hnk, ← hns] at hzb
 by_cases hk : 1 ≤ kind ∧ kind ≤ 9
 case neg =>
  have hokf : okF kind op val qual name = false := by simp only [okF]; (repeat' split) <;> first | omega | (exact decide_eq_false (by omega))
  refine cZ (formOf_d kind op not val qual name kids sub) (by decide) ?_ ?_ <;> simp only [tt, seval, Expr.row_mk, formS, hokf]
  exact ⟨_, _, vbE (by rw [hzb, hokf]; rfl), end0 rfl⟩
 have fo := formOf_d kind op not val qual name kids sub
 unfold formS at fo
 generalize okF kind op val qual name = okv at fo hzb
 rcases (show kind = 1 ∨ kind = 2 ∨ kind = 3 ∨ kind = 4 ∨ kind = 5 ∨ kind = 6 ∨ kind = 7 ∨ kind = 8 ∨ kind = 9 by omega) with rfl | rfl | rfl | rfl | rfl | rfl | rfl | rfl | rfl
 all_goals
  refine cZ (fo) (by decide) ?_ ?_ <;> simp only [tt, seval, Expr.row_mk, fmT]
  cases hok : okv
  case false => (try simp only [tt, seval, hok, bqs]); exact ⟨_, _, vbE (by clear hnk hns; rw [hzb]; simp [fmT, *]; try omega), end0 rfl⟩
  try simp only [tt, seval, hok, bqs]
  first
   | ((by_cases ho : op = 0; case neg => (try simp only [tt, seval, ho, bqs]); exact ⟨_, _, vbE (by clear hnk hns; rw [hzb]; simp [fmT, *]; try omega), end0 rfl⟩); try simp only [tt, seval, ho, bqs])
   | skip
  first
   | (cases hno : not; case true => (try simp only [tt, seval, hno, bqs]); exact ⟨_, _, vbE (by clear hnk hns; rw [hzb]; simp [fmT, *]; try omega), end0 rfl⟩); (try simp only [tt, seval, hno, bqs])
   | skip
  first
   | (rw [pu_neagg (by kernel_rfl) (eqValE val)]; (try simp only [tt, seval, bqs]); cases hv : zV val; case false => (try simp only [tt, seval, hv, bqs]); exact ⟨_, _, vbE (by clear hnk hns; rw [hzb]; simp [fmT, *]; try omega), end0 rfl⟩); (try simp only [tt, seval, hv, bqs])
   | skip
  first
   | ((by_cases hq : qual = ⟨#[]⟩; case neg => (try simp only [tt, seval, hq, bqs]); exact ⟨_, _, vbE (by clear hnk hns; rw [hzb]; simp [fmT, *]; try omega), end0 rfl⟩); try simp only [tt, seval, hq, bqs]; (by_cases hn : name = ⟨#[]⟩; case neg => (try simp only [tt, seval, hn, bqs]); exact ⟨_, _, vbE (by clear hnk hns; rw [hzb]; simp [fmT, *]; try omega), end0 rfl⟩); try simp only [tt, seval, hn, bqs])
   | skip
  refine fun _ => ?_
  rw [← hnk]
  first
   | ((by_cases hlo : nk < 0; case pos => (try simp only [tt, seval, hlo, bqs]); exact ⟨_, _, vbE (by clear hnk hns; rw [hzb]; simp [fmT, *]; try omega), end0 rfl⟩); try simp only [tt, seval, hlo, bqs])
   | ((by_cases hlo : nk < 1; case pos => (try simp only [tt, seval, hlo, bqs]); exact ⟨_, _, vbE (by clear hnk hns; rw [hzb]; simp [fmT, *]; try omega), end0 rfl⟩); try simp only [tt, seval, hlo, bqs])
   | ((by_cases hlo : nk < 2; case pos => (try simp only [tt, seval, hlo, bqs]); exact ⟨_, _, vbE (by clear hnk hns; rw [hzb]; simp [fmT, *]; try omega), end0 rfl⟩); try simp only [tt, seval, hlo, bqs])
   | ((by_cases hlo : nk < 3; case pos => (try simp only [tt, seval, hlo, bqs]); exact ⟨_, _, vbE (by clear hnk hns; rw [hzb]; simp [fmT, *]; try omega), end0 rfl⟩); try simp only [tt, seval, hlo, bqs])
  try refine fun _ => ?_
  try rw [← hnk]
  first
   | ((by_cases hhi : 0 < nk; case pos => (try simp only [tt, seval, hhi, bqs]); exact ⟨_, _, vbE (by clear hnk hns; rw [hzb]; simp [fmT, *]; try omega), end0 rfl⟩); try simp only [tt, seval, hhi, bqs])
   | ((by_cases hhi : 1 < nk; case pos => (try simp only [tt, seval, hhi, bqs]); exact ⟨_, _, vbE (by clear hnk hns; rw [hzb]; simp [fmT, *]; try omega), end0 rfl⟩); try simp only [tt, seval, hhi, bqs])
   | ((by_cases hhi : 2 < nk; case pos => (try simp only [tt, seval, hhi, bqs]); exact ⟨_, _, vbE (by clear hnk hns; rw [hzb]; simp [fmT, *]; try omega), end0 rfl⟩); try simp only [tt, seval, hhi, bqs])
   | ((by_cases hhi : 3 < nk; case pos => (try simp only [tt, seval, hhi, bqs]); exact ⟨_, _, vbE (by clear hnk hns; rw [hzb]; simp [fmT, *]; try omega), end0 rfl⟩); try simp only [tt, seval, hhi, bqs])
   | ((by_cases hhi : 9 < nk; case pos => (try simp only [tt, seval, hhi, bqs]); exact ⟨_, _, vbE (by clear hnk hns; rw [hzb]; simp [fmT, *]; try omega), end0 rfl⟩); try simp only [tt, seval, hhi, bqs])
  try refine fun _ => ?_
  try rw [← hns]
  first
   | ((by_cases hns0 : ns = 0; case neg => (try simp only [tt, seval, hns0, bqs]); exact ⟨_, _, vbE (by clear hnk hns; rw [hzb]; simp [fmT, *]; try omega), end0 rfl⟩); try simp only [tt, seval, hns0, bqs])
   | ((by_cases hns0 : ns = 1; case neg => (try simp only [tt, seval, hns0, bqs]); exact ⟨_, _, vbE (by clear hnk hns; rw [hzb]; simp [fmT, *]; try omega), end0 rfl⟩); try simp only [tt, seval, hns0, bqs])
  refine cZ (areFormed_d kids g hkids) (by decide) ?_ ?_ <;> simp only [tt, seval, Expr.row_mk]
  cases hka : kids.all g
  case false => (try simp only [tt, seval, hka, bqs]); exact ⟨_, _, vbE (by clear hnk hns; rw [hzb]; simp [fmT, *]; try omega), end0 rfl⟩
  try simp only [tt, seval, hka, bqs]
  refine cZ (ContainsQ_d sub (fmQ g) (fun q hq => if1_d q (fmQ g q) (hsub q hq))) (by decide) ?_ ?_ <;> simp only [tt, seval, Expr.row_mk]
  cases hsa : sub.all (fmQ g)
  case false => (try simp only [tt, seval, hsa, bqs]); exact ⟨_, _, vbE (by clear hnk hns; rw [hzb]; simp [fmT, *]; try omega), end0 rfl⟩
  try simp only [tt, seval, hsa, bqs]
  exact ⟨_, _, vbE (by clear hnk hns; rw [hzb]; simp [fmT, *]; try omega), end0 rfl⟩
theorem q_items (distinct : Bool) (items : List Item) (from_ : List Source) (where_ : List Expr) (order : List SortKey) (limit : Int) (g : Expr → Bool) (h : ¬ (1 ≤ items.length ∧ items.length ≤ 12)) : fmQ g (Query.mk distinct items from_ where_ order limit) = false := by simp only [fmQ, hdB, decide_eq_false h, Bool.false_and]
theorem q_from (distinct : Bool) (items : List Item) (from_ : List Source) (where_ : List Expr) (order : List SortKey) (limit : Int) (g : Expr → Bool) (h : ¬ (1 ≤ from_.length ∧ from_.length ≤ 3)) : fmQ g (Query.mk distinct items from_ where_ order limit) = false := by simp only [fmQ, hdB, decide_eq_false h, Bool.false_and, Bool.and_false]
theorem q_where (distinct : Bool) (items : List Item) (from_ : List Source) (where_ : List Expr) (order : List SortKey) (limit : Int) (g : Expr → Bool) (h : ¬ where_.length ≤ 1) : fmQ g (Query.mk distinct items from_ where_ order limit) = false := by simp only [fmQ, hdB, decide_eq_false h, Bool.false_and, Bool.and_false]
theorem q_order (distinct : Bool) (items : List Item) (from_ : List Source) (where_ : List Expr) (order : List SortKey) (limit : Int) (g : Expr → Bool) (h : ¬ order.length ≤ 12) : fmQ g (Query.mk distinct items from_ where_ order limit) = false := by simp only [fmQ, hdB, decide_eq_false h, Bool.false_and, Bool.and_false]
theorem q_limit (distinct : Bool) (items : List Item) (from_ : List Source) (where_ : List Expr) (order : List SortKey) (limit : Int) (g : Expr → Bool) (h : ¬ -1 ≤ limit) : fmQ g (Query.mk distinct items from_ where_ order limit) = false := by simp only [fmQ, hdB, decide_eq_false h, Bool.false_and, Bool.and_false]
theorem q_it (distinct : Bool) (items : List Item) (from_ : List Source) (where_ : List Expr) (order : List SortKey) (limit : Int) (g : Expr → Bool) {x : Item} (hm : x ∈ items) (h : itB x = false) : fmQ g (Query.mk distinct items from_ where_ order limit) = false := by simp only [fmQ, hdB, all_false hm h, Bool.false_and, Bool.and_false]
theorem q_sr (distinct : Bool) (items : List Item) (from_ : List Source) (where_ : List Expr) (order : List SortKey) (limit : Int) (g : Expr → Bool) {i : Nat} (hm : i < from_.length) (h : srB i from_[i] = false) : fmQ g (Query.mk distinct items from_ where_ order limit) = false := by simp only [fmQ, hdB, sr_false hm h, Bool.false_and, Bool.and_false]
theorem q_ok (distinct : Bool) (items : List Item) (from_ : List Source) (where_ : List Expr) (order : List SortKey) (limit : Int) (g : Expr → Bool) (h1 : 1 ≤ items.length ∧ items.length ≤ 12) (h2 : 1 ≤ from_.length ∧ from_.length ≤ 3) (h3 : where_.length ≤ 1) (h4 : order.length ≤ 12) (h5 : -1 ≤ limit) (h6 : ∀ j (hj : j < items.length), itB items[j] = true) (h7 : ∀ j (hj : j < from_.length), srB j from_[j] = true) :
 fmQ g (Query.mk distinct items from_ where_ order limit) = (exprsQ (Query.mk distinct items from_ where_ order limit)).all g := by simp only [fmQ, hdB, decide_eq_true h1, decide_eq_true h2, decide_eq_true h3, decide_eq_true h4, decide_eq_true h5, all_true h6, sr_true h7, Bool.true_and]
set_option maxHeartbeats 1000000 in
theorem isFormedQuery_d (q : Query) (g : Expr → Bool) (h : ∀ x ∈ exprsQ q, Cl Tryz.prog 79 [.ag (csOf x.row)] [] fun r _ => r = vb (g x)) (hsz : szQuery q ≤ 1048576) : Cl Tryz.prog 132 [.ag (csOf q.row)] [] fun r _ => r = vb (fmQ g q) := by
 obtain ⟨distinct, items, from_, where_, order, limit⟩ := q
 obtain ⟨zb, hzb⟩ : ∃ zb, zb = fmQ g (Query.mk distinct items from_ where_ order limit) := ⟨_, rfl⟩
 rw [← hzb, Query.row_mk]
 refine cl_of_d follows_mixed false Tryz.func132 rfl (by kernel_rfl) ?_
 simp only [Tryz.f132, tt, seval]
 refine fun _ => ?_
 by_cases c1 : (items.length : Int) < 1
 case pos =>
  simp only [tt, seval, decide_eq_true c1]
  exact ⟨_, _, vbE (by rw [hzb]; exact (q_items distinct items from_ where_ order limit g (by omega)).symm), end0 rfl⟩
 simp only [tt, seval, decide_eq_false c1]
 try refine fun _ => ?_
 by_cases c2 : (12 : Int) < items.length
 case pos =>
  simp only [tt, seval, decide_eq_true c2]
  exact ⟨_, _, vbE (by rw [hzb]; exact (q_items distinct items from_ where_ order limit g (by omega)).symm), end0 rfl⟩
 simp only [tt, seval, decide_eq_false c2]
 try refine fun _ => ?_
 by_cases c3 : (from_.length : Int) < 1
 case pos =>
  simp only [tt, seval, decide_eq_true c3]
  exact ⟨_, _, vbE (by rw [hzb]; exact (q_from distinct items from_ where_ order limit g (by omega)).symm), end0 rfl⟩
 simp only [tt, seval, decide_eq_false c3]
 try refine fun _ => ?_
 by_cases c4 : (3 : Int) < from_.length
 case pos =>
  simp only [tt, seval, decide_eq_true c4]
  exact ⟨_, _, vbE (by rw [hzb]; exact (q_from distinct items from_ where_ order limit g (by omega)).symm), end0 rfl⟩
 simp only [tt, seval, decide_eq_false c4]
 try refine fun _ => ?_
 by_cases c5 : (1 : Int) < where_.length
 case pos =>
  simp only [tt, seval, decide_eq_true c5]
  exact ⟨_, _, vbE (by rw [hzb]; exact (q_where distinct items from_ where_ order limit g (by omega)).symm), end0 rfl⟩
 simp only [tt, seval, decide_eq_false c5]
 try refine fun _ => ?_
 by_cases c6 : (12 : Int) < order.length
 case pos =>
  simp only [tt, seval, decide_eq_true c6]
  exact ⟨_, _, vbE (by rw [hzb]; exact (q_order distinct items from_ where_ order limit g (by omega)).symm), end0 rfl⟩
 simp only [tt, seval, decide_eq_false c6]
 refine And.intro (fun c7 => ?_) (fun c7 => ?_)
 ·exact ⟨_, _, vbE (by rw [hzb]; exact (q_limit distinct items from_ where_ order limit g (by omega)).symm), end0 rfl⟩
 ·try simp only [tt, seval]
  refine fun _ => ?_
  refine dLoop.intro (fun f L p => ∃ i : Nat, f 49 = vi i ∧ i ≤ items.length ∧ (∀ j (hj : j < items.length), j < i → itB items[j] = true) ∧ L = [(1, .str [.v (.bool distinct), .sl items.length (items.flatMap Item.row) none, .sl from_.length (from_.flatMap Source.row) none, .sl where_.length (where_.flatMap Expr.row) none, .sl order.length (order.flatMap SortKey.row) none, .v (.int .i64 limit)])] ∧ p = none) (fun f _ _ => (items.length - ixS (f 49)).toNat) [(1, .str [.v (.bool distinct), .sl items.length (items.flatMap Item.row) none, .sl from_.length (from_.flatMap Source.row) none, .sl where_.length (where_.flatMap Expr.row) none, .sl order.length (order.flatMap SortKey.row) none, .v (.int .i64 limit)])] none ⟨SubO.cons rfl (SubO.nil _), PoSub.none _, ?_⟩ ?_
  ·simp only [tt, seval]
   exact ⟨0, rfl, by omega, fun j _ h => absurd h (Nat.not_lt_zero _)⟩
  ·rintro g' L p ⟨i, ix, hi, hall, rfl, rfl⟩
   simp only [tt, seval] at ix
   simp only [tt, seval, ix, Int.ofNat_lt]
   refine And.intro (fun hlt => ?_) (fun hge => ?_)
   ·have hlt : i < items.length := by omega
    obtain ⟨it, hit⟩ : ∃ it, it = items[i] := ⟨_, rfl⟩
    refine ⟨by omega, by omega, _, drop_row Item.row_len (List.getElem?_eq_getElem hlt), Item.ne _ _, ?_⟩
    obtain ⟨star, qual, ⟨k, o, n, v, q, m, ks, ss⟩, as_⟩ := it
    rw [← hit, Item.row_mk, Expr.row_mk]
    simp only [tt, seval, ix]
    cases star
    case true =>
     try simp only [tt, seval, ix]
     refine cZ (isAs_d qual) (by decide) ?_ ?_ <;> simp only [tt, seval, ix]
     cases hm : mayB qual
     case false =>
      simp only [tt, seval, hm]
      exact ⟨_, _, vbE (by rw [hzb]; exact (q_it distinct items from_ where_ order limit g (hit ▸ List.getElem_mem hlt) (by simp [itB, hm])).symm), end0 rfl⟩
     simp only [tt, seval, hm]
     by_cases ha : as_ = ⟨#[]⟩
     case neg =>
      simp only [tt, seval, decide_eq_false ha]
      exact ⟨_, _, vbE (by rw [hzb]; exact (q_it distinct items from_ where_ order limit g (hit ▸ List.getElem_mem hlt) (by simp [itB, hm, ha])).symm), end0 rfl⟩
     simp only [tt, seval, decide_eq_true ha]
     refine cZ (iZero_d (Expr.mk k o n v q m ks ss)) (by decide) ?_ ?_ <;> simp only [tt, seval, ix, Expr.row_mk]
     cases hz : zeroB k o n v q m ks.length ss.length
     case false =>
      try simp only [tt, seval, zeroE, hz]
      exact ⟨_, _, vbE (by rw [hzb]; exact (q_it distinct items from_ where_ order limit g (hit ▸ List.getElem_mem hlt) (by simp [itB, hm, ha, zeroE, hz])).symm), end0 rfl⟩
     try simp only [tt, seval, zeroE, hz, ix]
     try simp only [tt, seval, ix]
     try rw [wrS i (by omega)]
     exact ⟨_, none, SubO.cons rfl (SubO.nil _), PoSub.none _, ⟨i + 1, rfl, by omega, fun j hj hji => by
      by_cases e : j = i
      ·subst e; rw [← hit]; simp [itB, hm, ha, zeroE, hz]
      ·exact hall j hj (by omega), rfl, rfl⟩, by simp only [ixS]; omega⟩
    case false =>
     try simp only [tt, seval, ix]
     by_cases hq : qual = ⟨#[]⟩
     case neg =>
      simp only [tt, seval, decide_eq_false hq]
      exact ⟨_, _, vbE (by rw [hzb]; exact (q_it distinct items from_ where_ order limit g (hit ▸ List.getElem_mem hlt) (by simp [itB, hq])).symm), end0 rfl⟩
     simp only [tt, seval, decide_eq_true hq]
     refine cZ (isAs_d as_) (by decide) ?_ ?_ <;> simp only [tt, seval, ix]
     cases hm : mayB as_
     case false =>
      simp only [tt, seval, hm]
      exact ⟨_, _, vbE (by rw [hzb]; exact (q_it distinct items from_ where_ order limit g (hit ▸ List.getElem_mem hlt) (by simp [itB, hm])).symm), end0 rfl⟩
     simp only [tt, seval, hm, ix]
     try simp only [tt, seval, ix]
     try rw [wrS i (by omega)]
     exact ⟨_, none, SubO.cons rfl (SubO.nil _), PoSub.none _, ⟨i + 1, rfl, by omega, fun j hj hji => by
      by_cases e : j = i
      ·subst e; rw [← hit]; simp [itB, hm, hq]
      ·exact hall j hj (by omega), rfl, rfl⟩, by simp only [ixS]; omega⟩
   ·have hall := fun j hj => hall j hj (by omega)
    try simp only [tt, seval, ix]
    have hall1 := hall
    clear hall
    refine fun _ => ?_
    refine dLoop.intro (fun f L p => ∃ i : Nat, f 92 = vi i ∧ i ≤ from_.length ∧ (∀ j (hj : j < from_.length), j < i → srB j from_[j] = true) ∧ L = [(1, .str [.v (.bool distinct), .sl items.length (items.flatMap Item.row) none, .sl from_.length (from_.flatMap Source.row) none, .sl where_.length (where_.flatMap Expr.row) none, .sl order.length (order.flatMap SortKey.row) none, .v (.int .i64 limit)])] ∧ p = none) (fun f _ _ => (from_.length - ixS (f 92)).toNat) [(1, .str [.v (.bool distinct), .sl items.length (items.flatMap Item.row) none, .sl from_.length (from_.flatMap Source.row) none, .sl where_.length (where_.flatMap Expr.row) none, .sl order.length (order.flatMap SortKey.row) none, .v (.int .i64 limit)])] none ⟨SubO.cons rfl (SubO.nil _), PoSub.none _, ?_⟩ ?_
    ·simp only [tt, seval]
     exact ⟨0, rfl, by omega, fun j _ h => absurd h (Nat.not_lt_zero _)⟩
    ·rintro g' L p ⟨i, ix, hi, hall, rfl, rfl⟩
     simp only [tt, seval] at ix
     simp only [tt, seval, ix, Int.ofNat_lt]
     refine And.intro (fun hlt => ?_) (fun hge => ?_)
     ·have hlt : i < from_.length := by omega
      obtain ⟨it, hit⟩ : ∃ it, it = from_[i] := ⟨_, rfl⟩
      refine ⟨by omega, by omega, _, drop_row Source.row_len (List.getElem?_eq_getElem hlt), Source.ne _ _, ?_⟩
      obtain ⟨table, as_, on⟩ := it
      rw [← hit, Source.row_mk]
      simp only [tt, seval, ix]
      refine cZ (iNameOk_d table) (by decide) ?_ ?_ <;> simp only [tt, seval, ix]
      cases hnb : decide (1 ≤ table.size ∧ table.size ≤ 20)
      case false =>
       simp only [tt, seval, hnb]
       exact ⟨_, _, vbE (by rw [hzb]; exact (q_sr distinct items from_ where_ order limit g hlt (by rw [← hit]; simp [srB, nameB, hnb])).symm), end0 rfl⟩
      simp only [tt, seval, hnb]
      refine cZ (isAs_d as_) (by decide) ?_ ?_ <;> simp only [tt, seval, ix]
      cases hm : mayB as_
      case false =>
       simp only [tt, seval, hm]
       exact ⟨_, _, vbE (by rw [hzb]; exact (q_sr distinct items from_ where_ order limit g hlt (by rw [← hit]; simp [srB, nameB, hnb, hm])).symm), end0 rfl⟩
      simp only [tt, seval, hm]
      try refine fun _ => ?_
      by_cases c8 : (1 : Int) < on.length
      case pos =>
       simp only [tt, seval, decide_eq_true c8]
       exact ⟨_, _, vbE (by rw [hzb]; exact (q_sr distinct items from_ where_ order limit g hlt (by rw [← hit]; simp only [srB, decide_eq_false (show ¬ on.length ≤ 1 by omega), Bool.false_and, Bool.and_false])).symm), end0 rfl⟩
      simp only [tt, seval, decide_eq_false c8, ix]
      by_cases c9 : (i : Int) = 0
      case neg =>
       simp only [tt, seval, decide_eq_false c9, c9, ix]
       try simp only [tt, seval, ix]
       try rw [wrS i (by omega)]
       exact ⟨_, none, SubO.cons rfl (SubO.nil _), PoSub.none _, ⟨i + 1, rfl, by omega, fun j hj hji => by
        by_cases e : j = i
        ·subst e; rw [← hit]; simp only [srB, nameB, hnb, hm, decide_eq_true (show on.length ≤ 1 by omega), decide_eq_true (show ¬ j = 0 by omega), Bool.true_and, Bool.true_or]
        ·exact hall j hj (by omega), rfl, rfl⟩, by simp only [ixS]; omega⟩
      simp only [tt, seval, decide_eq_true c9, ix]
      try refine fun _ => ?_
      refine And.intro (fun c10 => ?_) (fun c10 => ?_)
      ·exact ⟨_, _, vbE (by rw [hzb]; exact (q_sr distinct items from_ where_ order limit g hlt (by rw [← hit]; simp only [srB, decide_eq_false (show ¬ ¬ i = 0 by omega), decide_eq_false (show ¬ on.length = 0 by omega), Bool.or_false, Bool.and_false])).symm), end0 rfl⟩
      ·have hi0 : i = 0 := by omega
       try simp only [tt, seval, ix]
       try rw [wrS i (by omega)]
       exact ⟨_, none, SubO.cons rfl (SubO.nil _), PoSub.none _, ⟨i + 1, rfl, by omega, fun j hj hji => by
        by_cases e : j = i
        ·subst e; rw [← hit]; simp only [srB, nameB, hnb, hm, decide_eq_true (show on.length ≤ 1 by omega), decide_eq_true (show on.length = 0 by omega), Bool.true_and, Bool.or_true]
        ·exact hall j hj (by omega), rfl, rfl⟩, by simp only [ixS]; omega⟩
     ·have hall := fun j hj => hall j hj (by omega)
      try simp only [tt, seval, ix]
      refine cZ (iexprs_d distinct items from_ where_ order limit hsz) (by decide) ?_ ?_ <;> simp only [tt, seval, Query.row_mk]
      refine cZ (areFormed_d (exprsQ (Query.mk distinct items from_ where_ order limit)) g h) (by decide) ?_ ?_ <;> simp only [tt, seval, Query.row_mk]
      exact ⟨_, _, vbE (by rw [hzb, q_ok distinct items from_ where_ order limit g ⟨by omega, by omega⟩ ⟨by omega, by omega⟩ (by omega) (by omega) (by omega) hall1 hall]), end0 rfl⟩
set_option maxHeartbeats 1000000 in
theorem l7RightQuery_d (q : Query) (g : Expr → Bool) (h : ∀ x ∈ exprsQ q, Cl Tryz.prog 39 [.ag (csOf x.row)] [] fun r _ => r = vb (g x)) (hsz : szQuery q ≤ 1048576) : Cl Tryz.prog 85 [.ag (csOf q.row)] [] fun r _ => r = vb (fmQ g q) := by
 obtain ⟨distinct, items, from_, where_, order, limit⟩ := q
 obtain ⟨zb, hzb⟩ : ∃ zb, zb = fmQ g (Query.mk distinct items from_ where_ order limit) := ⟨_, rfl⟩
 rw [← hzb, Query.row_mk]
 refine cl_of_d follows_mixed false Tryz.func85 rfl (by kernel_rfl) ?_
 simp only [Tryz.f85, tt, seval]
 refine fun _ => ?_
 refine cZ (l1In_d items.length 1 12) (by decide) ?_ ?_ <;> simp only [tt, seval, Query.row_mk]
 by_cases c1 : (1 : Int) ≤ items.length ∧ (items.length : Int) ≤ 12
 case neg =>
  simp only [tt, seval, decide_eq_false c1]
  exact ⟨_, _, vbE (by rw [hzb]; exact (q_items distinct items from_ where_ order limit g (by omega)).symm), end0 rfl⟩
 simp only [tt, seval, decide_eq_true c1]
 refine fun _ => ?_
 refine cZ (l1In_d from_.length 1 3) (by decide) ?_ ?_ <;> simp only [tt, seval, Query.row_mk]
 by_cases c2 : (1 : Int) ≤ from_.length ∧ (from_.length : Int) ≤ 3
 case neg =>
  simp only [tt, seval, decide_eq_false c2]
  exact ⟨_, _, vbE (by rw [hzb]; exact (q_from distinct items from_ where_ order limit g (by omega)).symm), end0 rfl⟩
 simp only [tt, seval, decide_eq_true c2]
 try refine fun _ => ?_
 by_cases c5 : (1 : Int) < where_.length
 case pos =>
  simp only [tt, seval, decide_eq_true c5]
  exact ⟨_, _, vbE (by rw [hzb]; exact (q_where distinct items from_ where_ order limit g (by omega)).symm), end0 rfl⟩
 simp only [tt, seval, decide_eq_false c5]
 try refine fun _ => ?_
 by_cases c6 : (12 : Int) < order.length
 case pos =>
  simp only [tt, seval, decide_eq_true c6]
  exact ⟨_, _, vbE (by rw [hzb]; exact (q_order distinct items from_ where_ order limit g (by omega)).symm), end0 rfl⟩
 simp only [tt, seval, decide_eq_false c6]
 refine And.intro (fun c7 => ?_) (fun c7 => ?_)
 ·exact ⟨_, _, vbE (by rw [hzb]; exact (q_limit distinct items from_ where_ order limit g (by omega)).symm), end0 rfl⟩
 ·try simp only [tt, seval]
  refine dLoop.intro (fun f L p => ∃ i : Nat, f 3 = vi i ∧ i ≤ items.length ∧ (∀ j (hj : j < items.length), j < i → itB items[j] = true) ∧ L = [(1, .str [.v (.bool distinct), .sl items.length (items.flatMap Item.row) none, .sl from_.length (from_.flatMap Source.row) none, .sl where_.length (where_.flatMap Expr.row) none, .sl order.length (order.flatMap SortKey.row) none, .v (.int .i64 limit)])] ∧ p = none) (fun f _ _ => (items.length - ixS (f 3)).toNat) [(1, .str [.v (.bool distinct), .sl items.length (items.flatMap Item.row) none, .sl from_.length (from_.flatMap Source.row) none, .sl where_.length (where_.flatMap Expr.row) none, .sl order.length (order.flatMap SortKey.row) none, .v (.int .i64 limit)])] none ⟨SubO.cons rfl (SubO.nil _), PoSub.none _, ?_⟩ ?_
  ·simp only [tt, seval]
   exact ⟨0, rfl, by omega, fun j _ h => absurd h (Nat.not_lt_zero _)⟩
  ·rintro g' L p ⟨i, ix, hi, hall, rfl, rfl⟩
   simp only [tt, seval] at ix
   simp only [tt, seval, ix, Int.ofNat_lt]
   refine fun _ => ?_
   refine And.intro (fun hlt => ?_) (fun hge => ?_)
   ·have hlt : i < items.length := by omega
    obtain ⟨it, hit⟩ : ∃ it, it = items[i] := ⟨_, rfl⟩
    refine ⟨by omega, by omega, _, drop_row Item.row_len (List.getElem?_eq_getElem hlt), Item.ne _ _, ?_⟩
    obtain ⟨star, qual, ⟨k, o, n, v, q, m, ks, ss⟩, as_⟩ := it
    rw [← hit, Item.row_mk, Expr.row_mk]
    simp only [tt, seval, ix]
    cases star
    case true =>
     try simp only [tt, seval, ix]
     refine cZ (l7Maybe_d qual) (by decide) ?_ ?_ <;> simp only [tt, seval, ix]
     cases hm : mayB qual
     case false =>
      simp only [tt, seval, hm]
      exact ⟨_, _, vbE (by rw [hzb]; exact (q_it distinct items from_ where_ order limit g (hit ▸ List.getElem_mem hlt) (by simp [itB, hm])).symm), end0 rfl⟩
     simp only [tt, seval, hm]
     by_cases ha : as_ = ⟨#[]⟩
     case neg =>
      simp only [tt, seval, decide_eq_false ha]
      exact ⟨_, _, vbE (by rw [hzb]; exact (q_it distinct items from_ where_ order limit g (hit ▸ List.getElem_mem hlt) (by simp [itB, hm, ha])).symm), end0 rfl⟩
     simp only [tt, seval, decide_eq_true ha]
     refine cZ (SameZ_d k o n v q m ks ss) (by decide) ?_ ?_ <;> simp only [tt, seval, ix, Expr.row_mk, baE]
     cases hz : zeroB k o n v q m ks.length ss.length
     case false =>
      try simp only [tt, seval, zeroE, hz]
      exact ⟨_, _, vbE (by rw [hzb]; exact (q_it distinct items from_ where_ order limit g (hit ▸ List.getElem_mem hlt) (by simp [itB, hm, ha, zeroE, hz])).symm), end0 rfl⟩
     try simp only [tt, seval, zeroE, hz, ix]
     try simp only [tt, seval, ix]
     try rw [wrS i (by omega)]
     exact ⟨_, none, SubO.cons rfl (SubO.nil _), PoSub.none _, ⟨i + 1, rfl, by omega, fun j hj hji => by
      by_cases e : j = i
      ·subst e; rw [← hit]; simp [itB, hm, ha, zeroE, hz]
      ·exact hall j hj (by omega), rfl, rfl⟩, by simp only [ixS]; omega⟩
    case false =>
     try simp only [tt, seval, ix]
     by_cases hq : qual = ⟨#[]⟩
     case neg =>
      simp only [tt, seval, decide_eq_false hq]
      exact ⟨_, _, vbE (by rw [hzb]; exact (q_it distinct items from_ where_ order limit g (hit ▸ List.getElem_mem hlt) (by simp [itB, hq])).symm), end0 rfl⟩
     simp only [tt, seval, decide_eq_true hq]
     refine cZ (l7Maybe_d as_) (by decide) ?_ ?_ <;> simp only [tt, seval, ix]
     cases hm : mayB as_
     case false =>
      simp only [tt, seval, hm]
      exact ⟨_, _, vbE (by rw [hzb]; exact (q_it distinct items from_ where_ order limit g (hit ▸ List.getElem_mem hlt) (by simp [itB, hm])).symm), end0 rfl⟩
     simp only [tt, seval, hm, ix]
     try simp only [tt, seval, ix]
     try rw [wrS i (by omega)]
     exact ⟨_, none, SubO.cons rfl (SubO.nil _), PoSub.none _, ⟨i + 1, rfl, by omega, fun j hj hji => by
      by_cases e : j = i
      ·subst e; rw [← hit]; simp [itB, hm, hq]
      ·exact hall j hj (by omega), rfl, rfl⟩, by simp only [ixS]; omega⟩
   ·have hall := fun j hj => hall j hj (by omega)
    try simp only [tt, seval, ix]
    have hall1 := hall
    clear hall
    refine dLoop.intro (fun f L p => ∃ i : Nat, f 5 = vi i ∧ i ≤ from_.length ∧ (∀ j (hj : j < from_.length), j < i → srB j from_[j] = true) ∧ L = [(1, .str [.v (.bool distinct), .sl items.length (items.flatMap Item.row) none, .sl from_.length (from_.flatMap Source.row) none, .sl where_.length (where_.flatMap Expr.row) none, .sl order.length (order.flatMap SortKey.row) none, .v (.int .i64 limit)])] ∧ p = none) (fun f _ _ => (from_.length - ixS (f 5)).toNat) [(1, .str [.v (.bool distinct), .sl items.length (items.flatMap Item.row) none, .sl from_.length (from_.flatMap Source.row) none, .sl where_.length (where_.flatMap Expr.row) none, .sl order.length (order.flatMap SortKey.row) none, .v (.int .i64 limit)])] none ⟨SubO.cons rfl (SubO.nil _), PoSub.none _, ?_⟩ ?_
    ·simp only [tt, seval]
     exact ⟨0, rfl, by omega, fun j _ h => absurd h (Nat.not_lt_zero _)⟩
    ·rintro g' L p ⟨i, ix, hi, hall, rfl, rfl⟩
     simp only [tt, seval] at ix
     simp only [tt, seval, ix, Int.ofNat_lt]
     refine fun _ => ?_
     refine And.intro (fun hlt => ?_) (fun hge => ?_)
     ·have hlt : i < from_.length := by omega
      obtain ⟨it, hit⟩ : ∃ it, it = from_[i] := ⟨_, rfl⟩
      refine ⟨by omega, by omega, _, drop_row Source.row_len (List.getElem?_eq_getElem hlt), Source.ne _ _, ?_⟩
      obtain ⟨table, as_, on⟩ := it
      rw [← hit, Source.row_mk]
      simp only [tt, seval, ix]
      refine cZ (NameOk_d table) (by decide) ?_ ?_ <;> simp only [tt, seval, ix]
      cases hnb : decide (1 ≤ table.size ∧ table.size ≤ 20)
      case false =>
       simp only [tt, seval, hnb]
       exact ⟨_, _, vbE (by rw [hzb]; exact (q_sr distinct items from_ where_ order limit g hlt (by rw [← hit]; simp [srB, nameB, hnb])).symm), end0 rfl⟩
      simp only [tt, seval, hnb]
      refine cZ (l7Maybe_d as_) (by decide) ?_ ?_ <;> simp only [tt, seval, ix]
      cases hm : mayB as_
      case false =>
       simp only [tt, seval, hm]
       exact ⟨_, _, vbE (by rw [hzb]; exact (q_sr distinct items from_ where_ order limit g hlt (by rw [← hit]; simp [srB, nameB, hnb, hm])).symm), end0 rfl⟩
      simp only [tt, seval, hm]
      try refine fun _ => ?_
      by_cases c8 : (1 : Int) < on.length
      case pos =>
       simp only [tt, seval, decide_eq_true c8]
       exact ⟨_, _, vbE (by rw [hzb]; exact (q_sr distinct items from_ where_ order limit g hlt (by rw [← hit]; simp only [srB, decide_eq_false (show ¬ on.length ≤ 1 by omega), Bool.false_and, Bool.and_false])).symm), end0 rfl⟩
      simp only [tt, seval, decide_eq_false c8, ix]
      by_cases c9 : (i : Int) = 0
      case neg =>
       simp only [tt, seval, decide_eq_false c9, c9, ix]
       try simp only [tt, seval, ix]
       try rw [wrS i (by omega)]
       exact ⟨_, none, SubO.cons rfl (SubO.nil _), PoSub.none _, ⟨i + 1, rfl, by omega, fun j hj hji => by
        by_cases e : j = i
        ·subst e; rw [← hit]; simp only [srB, nameB, hnb, hm, decide_eq_true (show on.length ≤ 1 by omega), decide_eq_true (show ¬ j = 0 by omega), Bool.true_and, Bool.true_or]
        ·exact hall j hj (by omega), rfl, rfl⟩, by simp only [ixS]; omega⟩
      simp only [tt, seval, decide_eq_true c9, ix]
      try refine fun _ => ?_
      refine And.intro (fun c10 => ?_) (fun c10 => ?_)
      ·exact ⟨_, _, vbE (by rw [hzb]; exact (q_sr distinct items from_ where_ order limit g hlt (by rw [← hit]; simp only [srB, decide_eq_false (show ¬ ¬ i = 0 by omega), decide_eq_false (show ¬ on.length = 0 by omega), Bool.or_false, Bool.and_false])).symm), end0 rfl⟩
      ·have hi0 : i = 0 := by omega
       try simp only [tt, seval, ix]
       try rw [wrS i (by omega)]
       exact ⟨_, none, SubO.cons rfl (SubO.nil _), PoSub.none _, ⟨i + 1, rfl, by omega, fun j hj hji => by
        by_cases e : j = i
        ·subst e; rw [← hit]; simp only [srB, nameB, hnb, hm, decide_eq_true (show on.length ≤ 1 by omega), decide_eq_true (show on.length = 0 by omega), Bool.true_and, Bool.or_true]
        ·exact hall j hj (by omega), rfl, rfl⟩, by simp only [ixS]; omega⟩
     ·have hall := fun j hj => hall j hj (by omega)
      try simp only [tt, seval, ix]
      have hq := q_ok distinct items from_ where_ order limit g ⟨by omega, by omega⟩ ⟨by omega, by omega⟩ (by omega) (by omega) (by omega) hall1 hall
      have hql := exprsQ_len (Query.mk distinct items from_ where_ order limit)
      refine cZ (l7Exprs_d distinct items from_ where_ order limit hsz) (by decide) ?_ ?_ <;> simp only [tt, seval, Query.row_mk]
      rw [hq] at hzb
      generalize exprsQ (Query.mk distinct items from_ where_ order limit) = l at *
      refine dLoop.intro (fun f L p => ∃ i : Nat, f 8 = vi i ∧ i ≤ l.length ∧ (∀ j (hj : j < l.length), j < i → g l[j] = true) ∧ L = [(1, .str [.v (.bool distinct), .sl items.length (items.flatMap Item.row) none, .sl from_.length (from_.flatMap Source.row) none, .sl where_.length (where_.flatMap Expr.row) none, .sl order.length (order.flatMap SortKey.row) none, .v (.int .i64 limit)])] ∧ p = none) (fun f _ _ => (l.length - ixS (f 8)).toNat) [(1, .str [.v (.bool distinct), .sl items.length (items.flatMap Item.row) none, .sl from_.length (from_.flatMap Source.row) none, .sl where_.length (where_.flatMap Expr.row) none, .sl order.length (order.flatMap SortKey.row) none, .v (.int .i64 limit)])] none ⟨SubO.cons rfl (SubO.nil _), PoSub.none _, ?_⟩ ?_
      ·simp only [tt, seval]
       exact ⟨0, rfl, by omega, fun j _ h => absurd h (Nat.not_lt_zero _)⟩
      ·rintro g' L p ⟨i, ix, hi, hal, rfl, rfl⟩
       simp only [tt, seval] at ix
       simp only [tt, seval, ix, Int.ofNat_lt]
       refine fun _ => And.intro (fun hlt => ?_) (fun hge => ?_)
       ·have hlt : i < l.length := by omega
        refine ⟨by omega, by omega, _, drop_row Expr.row_len (List.getElem?_eq_getElem hlt), Expr.ne _ _, ?_⟩
        simp only [tt, seval, ix, Expr.tk, Expr.row_len]
        refine cZ (h l[i] (List.getElem_mem hlt)) (by decide) ?_ ?_ <;> simp only [tt, seval, ix]
        refine And.intro (fun hb => ?_) (fun hb => ?_)
        ·have hb : g l[i] = false := by simpa only [Bool.not_eq_true'] using hb
         exact ⟨_, _, vbE (by rw [hzb]; exact (all_false (List.getElem_mem hlt) hb).symm), end0 rfl⟩
        ·have hb : g l[i] = true := by simpa only [Bool.not_eq_false'] using hb
         try simp only [tt, seval, ix]
         try rw [wrS i (by omega)]
         exact ⟨_, none, SubO.cons rfl (SubO.nil _), PoSub.none _, ⟨i + 1, rfl, by omega, fun j hj hji => by
          by_cases e : j = i
          ·subst e; exact hb
          ·exact hal j hj (by omega), rfl, rfl⟩, by simp only [ixS]; omega⟩
       ·exact ⟨_, _, vbE (by rw [hzb]; exact (all_true fun j hj => hal j hj (by omega)).symm), end0 rfl⟩
theorem takeD_all {n : Nat} {l : List D} (h : l.length = n) : takeD n l = some l := by
 have := takeD_row (r := []) h
 rwa [List.append_nil] at this
theorem shape_ns {kind op : Int} {not : Bool} {val : Val} {qual name : ByteArray} {nk ns : Int} (h : shapeB kind op not val qual name nk ns = true) : ns ≤ 1 := by
 simp only [shapeB, Bool.and_eq_true, decide_eq_true_eq] at h
 have h := h.2.2.2.2.2.2
 rw [h]; unfold fmT; (repeat' split) <;> decide
theorem l7Right_step (kind op : Int) (not : Bool) (val : Val) (qual name : ByteArray) (kids : List Expr) (sub : List Query) (g : Expr → Bool) (hg : ∀ x, below x (Expr.mk kind op not val qual name kids sub) → Cl Tryz.prog 39 [.ag (csOf x.row)] [] fun r _ => r = vb (g x)) (hsz : szExpr (Expr.mk kind op not val qual name kids sub) ≤ 1048576) : Cl Tryz.prog 39 [.ag (csOf (Expr.mk kind op not val qual name kids sub).row)] [] fun r _ => r = vb (fmF g (Expr.mk kind op not val qual name kids sub)) := by
 have hks := hsz
 rw [szExpr_mk, szExprs_eq, szQuerys_eq] at hks
 obtain ⟨zb, hzb⟩ : ∃ zb, zb = fmF g (Expr.mk kind op not val qual name kids sub) := ⟨_, rfl⟩
 rw [← hzb]
 have e : fmF g (Expr.mk kind op not val qual name kids sub) = (shapeB kind op not val qual name kids.length sub.length && (kids.all g && sub.all (fmQ g))) := rfl
 rw [e] at hzb
 rw [Expr.row_mk]
 refine cl_of_d follows_mixed false Tryz.func39 rfl (by kernel_rfl) ?_
 simp only [Tryz.f39, tt, seval]
 refine cZ (l7Shape_d kind op not val qual name kids sub (by omega) (by omega)) (by decide) ?_ ?_ <;> simp only [tt, seval, Expr.row_mk]
 cases hb : shapeB kind op not val qual name kids.length sub.length
 case false =>
  simp only [tt, seval, hb]
  exact ⟨_, _, vbE (by rw [hzb, hb]; rfl), end0 rfl⟩
 have hns := shape_ns hb
 rw [hb, Bool.true_and] at hzb
 simp only [tt, seval, hb]
 refine dLoop.intro (fun f L p => ∃ i : Nat, f 3 = vi i ∧ i ≤ kids.length ∧ (∀ j (hj : j < kids.length), j < i → g kids[j] = true) ∧ L = [(1, .str [.v (.int .i64 kind), .v (.int .i64 op), .v (.bool not), .v (.int .i64 val.kind), .v (.int .i64 val.num), .v (.string val.text), .v (.string qual), .v (.string name), .sl kids.length (kids.flatMap Expr.row) none, .sl sub.length (sub.flatMap Query.row) none])] ∧ p = none) (fun f _ _ => (kids.length - ixS (f 3)).toNat) [(1, .str [.v (.int .i64 kind), .v (.int .i64 op), .v (.bool not), .v (.int .i64 val.kind), .v (.int .i64 val.num), .v (.string val.text), .v (.string qual), .v (.string name), .sl kids.length (kids.flatMap Expr.row) none, .sl sub.length (sub.flatMap Query.row) none])] none ⟨SubO.cons rfl (SubO.nil _), PoSub.none _, ?_⟩ ?_
 ·simp only [tt, seval]
  exact ⟨0, rfl, by omega, fun j _ h => absurd h (Nat.not_lt_zero _)⟩
 ·rintro g' L p ⟨i, ix, hi, hal, rfl, rfl⟩
  simp only [tt, seval] at ix
  simp only [tt, seval, ix, Int.ofNat_lt]
  refine fun _ => And.intro (fun hlt => ?_) (fun hge => ?_)
  ·have hlt : i < kids.length := by omega
   refine ⟨by omega, by omega, _, drop_row Expr.row_len (List.getElem?_eq_getElem hlt), Expr.ne _ _, ?_⟩
   simp only [tt, seval, ix, Expr.tk, Expr.row_len]
   refine cZ (hg kids[i] (.inl (List.getElem_mem hlt))) (by decide) ?_ ?_ <;> simp only [tt, seval, ix]
   refine And.intro (fun hb => ?_) (fun hb => ?_)
   ·have hb : g kids[i] = false := by simpa only [Bool.not_eq_true'] using hb
    exact ⟨_, _, vbE (by rw [hzb, all_false (List.getElem_mem hlt) hb]; rfl), end0 rfl⟩
   ·have hb : g kids[i] = true := by simpa only [Bool.not_eq_false'] using hb
    try simp only [tt, seval, ix]
    try rw [wrS i (by omega)]
    exact ⟨_, none, SubO.cons rfl (SubO.nil _), PoSub.none _, ⟨i + 1, rfl, by omega, fun j hj hji => by
     by_cases e : j = i
     ·subst e; exact hb
     ·exact hal j hj (by omega), rfl, rfl⟩, by simp only [ixS]; omega⟩
  ·rw [all_true fun j hj => hal j hj (by omega), Bool.true_and] at hzb
   try simp only [tt, seval]
   refine fun _ => ?_
   rcases sub with _ | ⟨q, _ | ⟨q2, rest⟩⟩
   ·simp only [tt, seval, List.length_nil]
    exact ⟨_, _, vbE (by rw [hzb]; rfl), end0 rfl⟩
   ·simp only [tt, seval, List.length_cons, List.length_nil]
    refine ⟨q.row ++ [], by simp, Query.ne _ _, ?_⟩
    simp only [tt, seval, takeD_all (Query.row_len q), Query.row_len]
    refine cZ (l7RightQuery_d q g (fun x hx => hg x (.inr ⟨q, by show q ∈ [q]; simp, hx⟩)) (Nat.le_trans (sub_sz (e := (Expr.mk kind op not val qual name kids [q])) (by show q ∈ [q]; simp)) hsz)) (by decide) ?_ ?_ <;> simp only [tt, seval]
    exact ⟨_, _, vbE (by rw [hzb]; simp), end0 rfl⟩
   ·simp only [List.length_cons] at hns; omega
theorem l7Right_d (e : Expr) : szExpr e ≤ 1048576 → Cl Tryz.prog 39 [.ag (csOf e.row)] [] fun r _ => r = vb (fmE e) := by
 refine foldE_ind (P := fun e b => szExpr e ≤ 1048576 → Cl Tryz.prog 39 [.ag (csOf e.row)] [] fun r _ => r = vb b) (fun e g hg hsz => ?_) e
 obtain ⟨kind, op, not, val, qual, name, kids, sub⟩ := e
 exact l7Right_step kind op not val qual name kids sub g (fun x hx => hg x hx (Nat.le_trans (below_sz hx) hsz)) hsz
theorem isFormed_d (e : Expr) : szExpr e ≤ 1048576 → Cl Tryz.prog 79 [.ag (csOf e.row)] [] fun r _ => r = vb (fmE e) := by
 refine foldE_ind (P := fun e b => szExpr e ≤ 1048576 → Cl Tryz.prog 79 [.ag (csOf e.row)] [] fun r _ => r = vb b) (fun e g hg hsz => ?_) e
 obtain ⟨kind, op, not, val, qual, name, kids, sub⟩ := e
 have hks := hsz
 rw [szExpr_mk, szExprs_eq, szQuerys_eq] at hks
 have hg := fun x hx => hg x hx (Nat.le_trans (below_sz hx) hsz)
 exact isFormed_step kind op not val qual name kids sub g (fun x hx => hg x (.inl hx)) (fun q hq => isFormedQuery_d q g (fun x hx => hg x (.inr ⟨q, hq, hx⟩)) (Nat.le_trans (sub_sz (e := (Expr.mk kind op not val qual name kids sub)) hq) hsz)) (by omega) (by omega)
noncomputable def okE (e : Expr) : Bool := decide (dpE e ≤ 24) && (decide (ndE e ≤ 200) && fmE e)
theorem isSmall_d (d n : Nat) : Cl Tryz.prog 76 [vi d, vi n] [] fun r _ => r = vb (decide (d ≤ 24) && decide (n ≤ 200)) := by
 refine cl_of_d follows_mixed false Tryz.func76 rfl (by kernel_rfl) ?_
 simp only [Tryz.f76, tt, seval]
 by_cases h1 : (d : Int) ≤ 24
 ·simp only [tt, seval, decide_eq_true h1]
  exact ⟨_, _, vbE (by rw [decide_eq_true (show d ≤ 24 by omega), Bool.true_and]; exact decide_eq_decide.2 (by omega)), end0 rfl⟩
 ·simp only [tt, seval, decide_eq_false h1]
  exact ⟨_, _, vbE (by rw [decide_eq_false (show ¬ d ≤ 24 by omega)]; rfl), end0 rfl⟩
theorem iExprOk_d (e : Expr) (hsz : szExpr e ≤ 1048576) : Cl Tryz.prog 36 [.ag (csOf e.row)] [] fun r _ => r = vb (okE e) := by
 obtain ⟨zb, hzb⟩ : ∃ zb, zb = okE e := ⟨_, rfl⟩
 rw [← hzb]
 rw [okE] at hzb
 have c1 := (iDepthOf_d e).1 hsz
 have c2 := (SizeOf_d e).1 hsz
 have c3 := isFormed_d e hsz
 obtain ⟨kind, op, not, val, qual, name, kids, sub⟩ := e
 generalize dpE (Expr.mk kind op not val qual name kids sub) = d at *
 generalize ndE (Expr.mk kind op not val qual name kids sub) = n at *
 generalize fmE (Expr.mk kind op not val qual name kids sub) = b at *
 rw [Expr.row_mk] at c1 c2 c3 ⊢
 refine cl_of_d follows_mixed false Tryz.func36 rfl (by kernel_rfl) ?_
 simp only [Tryz.f36, tt, seval]
 refine dDrawn.intro [] (pln [0, 4, 3, 7, 9, 10, 12, 15, 16, 18]) (by kernel_rfl) ?_
 simp only [tt, seval]
 refine cZ (c1) (by decide) ?_ ?_ <;> simp only [tt, seval]
 refine cZ (c2) (by decide) ?_ ?_ <;> simp only [tt, seval]
 refine cZ (isSmall_d d n) (by decide) ?_ ?_ <;> simp only [tt, seval]
 cases hb : (decide (d ≤ 24) && decide (n ≤ 200))
 ·simp only [tt, seval, hb]
  exact ⟨_, _, vbE (by rw [hzb, ← Bool.and_assoc, hb]; rfl), end0 rfl⟩
 ·simp only [tt, seval, hb]
  refine cZ (c3) (by decide) ?_ ?_ <;> simp only [tt, seval]
  exact ⟨_, _, vbE (by rw [hzb, ← Bool.and_assoc, hb]; rfl), end0 rfl⟩
theorem ExprOk_d (e : Expr) (hsz : szExpr e ≤ 1048576) : Cl Tryz.prog 13 [.ag (csOf e.row)] [] fun r _ => r = vb (okE e) := by
 obtain ⟨zb, hzb⟩ : ∃ zb, zb = okE e := ⟨_, rfl⟩
 rw [← hzb]
 rw [okE] at hzb
 have c1 := (DepthOf_d e).1 hsz
 have c2 := l7Left_d e hsz 200 (by omega) (by omega)
 have c3 := l7Right_d e hsz
 obtain ⟨kind, op, not, val, qual, name, kids, sub⟩ := e
 generalize dpE (Expr.mk kind op not val qual name kids sub) = d at *
 generalize ndE (Expr.mk kind op not val qual name kids sub) = n at *
 generalize fmE (Expr.mk kind op not val qual name kids sub) = b at *
 rw [Expr.row_mk] at c1 c2 c3 ⊢
 refine cl_of_d follows_mixed false Tryz.func13 rfl (by kernel_rfl) ?_
 simp only [Tryz.f13, tt, seval]
 refine cZ (c2) (by decide) ?_ ?_ <;> simp only [tt, seval]
 by_cases h2 : n ≤ 200
 case neg =>
  have h0 : subL 200 n < 0 := by unfold subL; split <;> omega
  simp only [tt, seval, decide_eq_false (show ¬ (0 : Int) ≤ subL 200 n by omega)]
  exact ⟨_, _, vbE (by rw [hzb, decide_eq_false h2, Bool.false_and, Bool.and_false]), end0 rfl⟩
 have h0 : 0 ≤ subL 200 n := by unfold subL; split <;> omega
 simp only [tt, seval, decide_eq_true h0]
 refine cZ (c3) (by decide) ?_ ?_ <;> simp only [tt, seval]
 cases b
 case false =>
  simp only [tt, seval]
  exact ⟨_, _, vbE (by rw [hzb, Bool.and_false, Bool.and_false]), end0 rfl⟩
 simp only [tt, seval]
 refine cZ (c1) (by decide) ?_ ?_ <;> simp only [tt, seval]
 exact ⟨_, _, vbE (by rw [hzb, decide_eq_true h2, Bool.and_true, Bool.and_true]; exact decide_eq_decide.2 (by omega)), end0 rfl⟩
def kT (k : Nat) : Tok := ⟨1, kw k, 0⟩
def gT (s : ByteArray) : Tok := ⟨5, s, 0⟩
def nT (s : ByteArray) : Tok := ⟨2, s, 0⟩
def iT (n : Int) : Tok := ⟨3, itoaB n, 0⟩
def lpT : Tok := gT ⟨#[40]⟩
def rpT : Tok := gT ⟨#[41]⟩
def cmT : Tok := gT ⟨#[44]⟩
def dtT : Tok := gT ⟨#[46]⟩
def litT (v : Val) : Tok := if v.kind = 1 then iT v.num else if v.kind = 2 then ⟨4, v.text, 0⟩ else if v.kind = 3 then (if v.num = 1 then kT 21 else kT 22) else kT 20
def opTk (op : Int) : Tok := ⟨if op = 1 ∨ op = 2 ∨ op = 15 then 1 else 5, opT op, 0⟩
def qualL (q : ByteArray) : List Tok := if q = ⟨#[]⟩ then [] else [nT q, dtT]
def notL (b : Bool) : List Tok := if b = true then [kT 15] else []
def Query.lim : Query → Int | .mk _ _ _ _ _ l => l
inductive Rg : Expr → Prop
 | mk {kind op : Int} {not : Bool} {val : Val} {qual name : ByteArray} {kids : List Expr} {sub : List Query} : (-9223372036854775808 ≤ val.num ∧ val.num ≤ 9223372036854775807) → (∀ k, k ∈ kids → Rg k) → (∀ q, q ∈ sub → q.lim ≤ 9223372036854775807) → (∀ q, q ∈ sub → ∀ x, x ∈ exprsQ q → Rg x) → Rg (.mk kind op not val qual name kids sub)
def RgQ (q : Query) : Prop := q.lim ≤ 9223372036854775807 ∧ ∀ x, x ∈ exprsQ q → Rg x
theorem Rg.num {kind op : Int} {not : Bool} {val : Val} {qual name : ByteArray} {kids : List Expr} {sub : List Query} (h : Rg (.mk kind op not val qual name kids sub)) : -9223372036854775808 ≤ val.num ∧ val.num ≤ 9223372036854775807 := by cases h; assumption
theorem rg_down {x e : Expr} (h : Rg e) (hb : below x e) : Rg x := by
 cases h with
 | mk h1 h2 h3 h4 =>
  rcases hb with hb | ⟨q, hq, hb⟩
  ·exact h2 x hb
  ·exact h4 q hq x hb
theorem foldE3_ind {α β γ : Type} [Inhabited α] [Inhabited β] [Inhabited γ] {F1 : (Expr → α) → Expr → α} {F2 : (Expr → β) → Expr → β} {F3 : (Expr → γ) → Expr → γ} {P : Expr → α → β → γ → Prop}
 (h : ∀ e g1 g2 g3, (∀ x, below x e → P x (g1 x) (g2 x) (g3 x)) → P e (F1 g1 e) (F2 g2 e) (F3 g3 e)) (e : Expr) : P e (foldE F1 e) (foldE F2 e) (foldE F3 e) := by
 suffices H : ∀ n : Nat, ∀ e : Expr, SizeOf.sizeOf e < n → P e (foldE F1 e) (foldE F2 e) (foldE F3 e) from H _ e (Nat.lt_succ_self _)
 intro n
 induction n with
 | zero => exact fun _ h => absurd h (Nat.not_lt_zero _)
 | succ n ih =>
  intro e he
  rw [foldE, foldE, foldE]
  refine h e _ _ _ fun x hx => ?_
  have := below_lt hx
  simp only [dif_pos this]
  exact ih x (by omega)
theorem shape_parts {kind op : Int} {not : Bool} {val : Val} {qual name : ByteArray} {nk ns : Int} (h : shapeB kind op not val qual name nk ns = true) :
 okF kind op val qual name = true ∧ ((fmT kind).2.2.2.2.1 ≤ nk ∧ nk ≤ (fmT kind).2.2.2.2.2.1) ∧ ns = (fmT kind).2.2.2.2.2.2 := by
 simp only [shapeB, Bool.and_eq_true, decide_eq_true_eq] at h
 exact ⟨h.1, h.2.2.2.2.2.1, h.2.2.2.2.2.2⟩
theorem shape_cases {kind op : Int} {not : Bool} {val : Val} {qual name : ByteArray} {nk ns : Int} (h : shapeB kind op not val qual name nk ns = true) :
 (kind = 1 ∧ litB val = true ∧ nk = 0 ∧ ns = 0) ∨ (kind = 2 ∧ nameB name = true ∧ mayB qual = true ∧ nk = 0 ∧ ns = 0) ∨ (kind = 3 ∧ (op = 15 ∨ op = 16) ∧ nk = 1 ∧ ns = 0) ∨ (kind = 4 ∧ (1 ≤ op ∧ op ≤ 14) ∧ nk = 2 ∧ ns = 0) ∨ (kind = 5 ∧ nk = 1 ∧ ns = 0) ∨ (kind = 6 ∧ nk = 3 ∧ ns = 0) ∨ (kind = 7 ∧ (2 ≤ nk ∧ nk ≤ 9) ∧ ns = 0) ∨ (kind = 8 ∧ nk = 1 ∧ ns = 1) ∨ (kind = 9 ∧ nk = 0 ∧ ns = 1) := by
 obtain ⟨h1, h6, h7⟩ := shape_parts h
 clear h
 by_cases k1 : kind = 1
 ·subst k1; exact .inl ⟨rfl, h1, by have : 0 ≤ nk ∧ nk ≤ 0 := h6; omega, h7⟩
 by_cases k2 : kind = 2
 ·subst k2
  have h1 : (nameB name && mayB qual) = true := h1
  simp only [Bool.and_eq_true] at h1
  exact .inr (.inl ⟨rfl, h1.1, h1.2, by have : 0 ≤ nk ∧ nk ≤ 0 := h6; omega, h7⟩)
 by_cases k3 : kind = 3
 ·subst k3
  have h1 : (decide (op = 15) || decide (op = 16)) = true := h1
  simp only [Bool.or_eq_true, decide_eq_true_eq] at h1
  exact .inr (.inr (.inl ⟨rfl, h1, by have : 1 ≤ nk ∧ nk ≤ 1 := h6; omega, h7⟩))
 by_cases k4 : kind = 4
 ·subst k4
  have h1 : decide (1 ≤ op ∧ op ≤ 14) = true := h1
  simp only [decide_eq_true_eq] at h1
  exact .inr (.inr (.inr (.inl ⟨rfl, h1, by have : 2 ≤ nk ∧ nk ≤ 2 := h6; omega, h7⟩)))
 simp only [okF, if_neg k1, if_neg k2, if_neg k3, if_neg k4, decide_eq_true_eq] at h1
 rcases (show kind = 5 ∨ kind = 6 ∨ kind = 7 ∨ kind = 8 ∨ kind = 9 by omega) with rfl | rfl | rfl | rfl | rfl
 ·exact .inr (.inr (.inr (.inr (.inl ⟨rfl, by have : 1 ≤ nk ∧ nk ≤ 1 := h6; omega, h7⟩))))
 ·exact .inr (.inr (.inr (.inr (.inr (.inl ⟨rfl, by have : 3 ≤ nk ∧ nk ≤ 3 := h6; omega, h7⟩)))))
 ·exact .inr (.inr (.inr (.inr (.inr (.inr (.inl ⟨rfl, h6, h7⟩))))))
 ·exact .inr (.inr (.inr (.inr (.inr (.inr (.inr (.inl ⟨rfl, by have : 1 ≤ nk ∧ nk ≤ 1 := h6; omega, h7⟩)))))))
 ·exact .inr (.inr (.inr (.inr (.inr (.inr (.inr (.inr ⟨rfl, by have : 0 ≤ nk ∧ nk ≤ 0 := h6; omega, h7⟩)))))))
theorem fm_parts {gf : Expr → Bool} {kind op : Int} {not : Bool} {val : Val} {qual name : ByteArray} {kids : List Expr} {sub : List Query} (h : fmF gf (.mk kind op not val qual name kids sub) = true) :
 shapeB kind op not val qual name kids.length sub.length = true ∧ (∀ x ∈ kids, gf x = true) ∧ ∀ q ∈ sub, fmQ gf q = true := by
 simp only [fmF, Bool.and_eq_true, List.all_eq_true] at h
 exact h
theorem list1 {α : Type} {l : List α} (h : (l.length : Int) = 1) : ∃ a, l = [a] := by
 match l, h with
 | [a], _ => exact ⟨a, rfl⟩
 | [], h => simp at h
 | _ :: _ :: _, h => simp at h; omega
theorem list0 {α : Type} {l : List α} (h : (l.length : Int) = 0) : l = [] := List.eq_nil_of_length_eq_zero (by omega)
theorem list2 {α : Type} {l : List α} (h : (l.length : Int) = 2) : ∃ a b, l = [a, b] := by
 match l, h with
 | [a, b], _ => exact ⟨a, b, rfl⟩
 | [], h => simp at h
 | [_], h => simp at h
 | _ :: _ :: _ :: _, h => simp at h; omega
theorem list3 {α : Type} {l : List α} (h : (l.length : Int) = 3) : ∃ a b c, l = [a, b, c] := by
 match l, h with
 | [a, b, c], _ => exact ⟨a, b, c, rfl⟩
 | [], h => simp at h
 | [_], h => simp at h
 | [_, _], h => simp at h
 | _ :: _ :: _ :: _ :: _, h => simp at h; omega
end Go.Proofs.YtabhiapifcanoaaGreatDoor
