/-
  Trees: their rows, sizes and copies.
  Conditions: none.
-/
import Derived.Test.YthhkmmcgjnecbaaGreatDoorVTextA
set_option linter.unusedVariables false
set_option linter.unusedSimpArgs false
set_option maxRecDepth 8000
namespace Go.Proofs.YthhkmmcgjnecbaaGreatDoor
open Go Go.Dv
open Go.Vc (D shrI xorI andI and255)
abbrev irow (n : Int) : List D := [int n]
mutual
inductive Expr where
 | mk (kind : Int) (op : Int) (not : Bool) (val : Val) (qual : ByteArray) (name : ByteArray) (kids : List Expr) (sub : List Query)
inductive Item where
 | mk (star : Bool) (qual : ByteArray) (e : Expr) (as_ : ByteArray)
inductive Source where
 | mk (table : ByteArray) (as_ : ByteArray) (on : List Expr)
inductive SortKey where
 | mk (e : Expr) (desc : Bool)
inductive Query where
 | mk (distinct : Bool) (items : List Item) (from_ : List Source) (where_ : List Expr) (order : List SortKey) (limit : Int)
end
mutual
def Expr.row : Expr → List D
 | .mk kind op not val qual name kids sub => int kind :: int op :: bool not :: int val.kind :: int val.num :: str val.text :: str qual :: str name :: .sl kids.length (rowsExpr kids) :: .sl sub.length (rowsQuery sub) :: []
def Item.row : Item → List D
 | .mk star qual e as_ => bool star :: str qual :: (e.row ++ str as_ :: [])
def Source.row : Source → List D
 | .mk table as_ on => str table :: str as_ :: .sl on.length (rowsExpr on) :: []
def SortKey.row : SortKey → List D
 | .mk e desc => (e.row ++ bool desc :: [])
def Query.row : Query → List D
 | .mk distinct items from_ where_ order limit => bool distinct :: .sl items.length (rowsItem items) :: .sl from_.length (rowsSource from_) :: .sl where_.length (rowsExpr where_) :: .sl order.length (rowsSortKey order) :: int limit :: []
def rowsExpr : List Expr → List D
 | [] => []
 | x :: r => x.row ++ rowsExpr r
def rowsItem : List Item → List D
 | [] => []
 | x :: r => x.row ++ rowsItem r
def rowsQuery : List Query → List D
 | [] => []
 | x :: r => x.row ++ rowsQuery r
def rowsSortKey : List SortKey → List D
 | [] => []
 | x :: r => x.row ++ rowsSortKey r
def rowsSource : List Source → List D
 | [] => []
 | x :: r => x.row ++ rowsSource r
end
theorem rowsExpr_eq : ∀ l : List Expr, rowsExpr l = l.flatMap Expr.row
 | [] => by rw [rowsExpr, List.flatMap_nil]
 | x :: r => by rw [rowsExpr, List.flatMap_cons, rowsExpr_eq r]
theorem rowsItem_eq : ∀ l : List Item, rowsItem l = l.flatMap Item.row
 | [] => by rw [rowsItem, List.flatMap_nil]
 | x :: r => by rw [rowsItem, List.flatMap_cons, rowsItem_eq r]
theorem rowsQuery_eq : ∀ l : List Query, rowsQuery l = l.flatMap Query.row
 | [] => by rw [rowsQuery, List.flatMap_nil]
 | x :: r => by rw [rowsQuery, List.flatMap_cons, rowsQuery_eq r]
theorem rowsSortKey_eq : ∀ l : List SortKey, rowsSortKey l = l.flatMap SortKey.row
 | [] => by rw [rowsSortKey, List.flatMap_nil]
 | x :: r => by rw [rowsSortKey, List.flatMap_cons, rowsSortKey_eq r]
theorem rowsSource_eq : ∀ l : List Source, rowsSource l = l.flatMap Source.row
 | [] => by rw [rowsSource, List.flatMap_nil]
 | x :: r => by rw [rowsSource, List.flatMap_cons, rowsSource_eq r]
theorem Expr.row_mk (kind : Int) (op : Int) (not : Bool) (val : Val) (qual : ByteArray) (name : ByteArray) (kids : List Expr) (sub : List Query) : (Expr.mk kind op not val qual name kids sub).row = int kind :: int op :: bool not :: int val.kind :: int val.num :: str val.text :: str qual :: str name :: .sl kids.length (kids.flatMap Expr.row) :: .sl sub.length (sub.flatMap Query.row) :: [] := by rw [Expr.row, rowsExpr_eq, rowsQuery_eq]
theorem Item.row_mk (star : Bool) (qual : ByteArray) (e : Expr) (as_ : ByteArray) : (Item.mk star qual e as_).row = bool star :: str qual :: (e.row ++ str as_ :: []) := by rw [Item.row]
theorem Source.row_mk (table : ByteArray) (as_ : ByteArray) (on : List Expr) : (Source.mk table as_ on).row = str table :: str as_ :: .sl on.length (on.flatMap Expr.row) :: [] := by rw [Source.row, rowsExpr_eq]
theorem SortKey.row_mk (e : Expr) (desc : Bool) : (SortKey.mk e desc).row = (e.row ++ bool desc :: []) := by rw [SortKey.row]
theorem Query.row_mk (distinct : Bool) (items : List Item) (from_ : List Source) (where_ : List Expr) (order : List SortKey) (limit : Int) : (Query.mk distinct items from_ where_ order limit).row = bool distinct :: .sl items.length (items.flatMap Item.row) :: .sl from_.length (from_.flatMap Source.row) :: .sl where_.length (where_.flatMap Expr.row) :: .sl order.length (order.flatMap SortKey.row) :: int limit :: [] := by rw [Query.row, rowsExpr_eq, rowsItem_eq, rowsSortKey_eq, rowsSource_eq]
theorem Expr.row_len (x : Expr) : x.row.length = 10 := by cases x; simp [Expr.row]
theorem Expr.tk (x : Expr) (r : List D) : takeD 10 (x.row ++ r) = some x.row := takeD_row (Expr.row_len x)
theorem Expr.ne (x : Expr) (r : List D) : x.row ++ r ≠ [] := fun h => by have := congrArg List.length h; simp [Expr.row_len] at this
theorem Source.row_len (x : Source) : x.row.length = 3 := by cases x; simp [Source.row]
theorem Source.tk (x : Source) (r : List D) : takeD 3 (x.row ++ r) = some x.row := takeD_row (Source.row_len x)
theorem Source.ne (x : Source) (r : List D) : x.row ++ r ≠ [] := fun h => by have := congrArg List.length h; simp [Source.row_len] at this
theorem Query.row_len (x : Query) : x.row.length = 6 := by cases x; simp [Query.row]
theorem Query.tk (x : Query) (r : List D) : takeD 6 (x.row ++ r) = some x.row := takeD_row (Query.row_len x)
theorem Query.ne (x : Query) (r : List D) : x.row ++ r ≠ [] := fun h => by have := congrArg List.length h; simp [Query.row_len] at this
theorem Item.row_len (x : Item) : x.row.length = 13 := by cases x; simp [Item.row, Expr.row_len]
theorem Item.tk (x : Item) (r : List D) : takeD 13 (x.row ++ r) = some x.row := takeD_row (Item.row_len x)
theorem Item.ne (x : Item) (r : List D) : x.row ++ r ≠ [] := fun h => by have := congrArg List.length h; simp [Item.row_len] at this
theorem SortKey.row_len (x : SortKey) : x.row.length = 11 := by cases x; simp [SortKey.row, Expr.row_len]
theorem SortKey.tk (x : SortKey) (r : List D) : takeD 11 (x.row ++ r) = some x.row := takeD_row (SortKey.row_len x)
theorem SortKey.ne (x : SortKey) (r : List D) : x.row ++ r ≠ [] := fun h => by have := congrArg List.length h; simp [SortKey.row_len] at this
theorem Expr.ds (x : Expr) : dsOf (csOf x.row) = some (x.row, none) := by obtain ⟨kind, op, not, val, qual, name, kids, sub⟩ := x; rw [Expr.row_mk]; rfl
theorem Item.ds (x : Item) : dsOf (csOf x.row) = some (x.row, none) := by obtain ⟨star, qual, ⟨e_kind, e_op, e_not, e_val, e_qual, e_name, e_kids, e_sub⟩, as_⟩ := x; rw [Item.row_mk, Expr.row_mk]; rfl
theorem Source.ds (x : Source) : dsOf (csOf x.row) = some (x.row, none) := by obtain ⟨table, as_, on⟩ := x; rw [Source.row_mk]; rfl
theorem SortKey.ds (x : SortKey) : dsOf (csOf x.row) = some (x.row, none) := by obtain ⟨⟨e_kind, e_op, e_not, e_val, e_qual, e_name, e_kids, e_sub⟩, desc⟩ := x; rw [SortKey.row_mk, Expr.row_mk]; rfl
theorem Query.ds (x : Query) : dsOf (csOf x.row) = some (x.row, none) := by obtain ⟨distinct, items, from_, where_, order, limit⟩ := x; rw [Query.row_mk]; rfl
mutual
def szExpr : Expr → Nat
 | .mk kind op not val qual name kids sub => szVal val + (qual.size + (name.size + (szExprs kids + (szQuerys sub))))
def szItem : Item → Nat
 | .mk star qual e as_ => qual.size + (szExpr e + (as_.size))
def szSource : Source → Nat
 | .mk table as_ on => table.size + (as_.size + (szExprs on))
def szSortKey : SortKey → Nat
 | .mk e desc => szExpr e
def szQuery : Query → Nat
 | .mk distinct items from_ where_ order limit => szItems items + (szSources from_ + (szExprs where_ + (szSortKeys order)))
def szExprs : List Expr → Nat
 | [] => 0
 | x :: r => szExpr x + 1 + szExprs r
def szItems : List Item → Nat
 | [] => 0
 | x :: r => szItem x + 1 + szItems r
def szQuerys : List Query → Nat
 | [] => 0
 | x :: r => szQuery x + 1 + szQuerys r
def szSortKeys : List SortKey → Nat
 | [] => 0
 | x :: r => szSortKey x + 1 + szSortKeys r
def szSources : List Source → Nat
 | [] => 0
 | x :: r => szSource x + 1 + szSources r
end
theorem szExprs_eq : ∀ l : List Expr, szExprs l = l.length + (l.map szExpr).sum
 | [] => by rw [szExprs]; rfl
 | x :: r => by rw [szExprs, szExprs_eq r, List.length_cons, List.map_cons, List.sum_cons]; omega
theorem szItems_eq : ∀ l : List Item, szItems l = l.length + (l.map szItem).sum
 | [] => by rw [szItems]; rfl
 | x :: r => by rw [szItems, szItems_eq r, List.length_cons, List.map_cons, List.sum_cons]; omega
theorem szQuerys_eq : ∀ l : List Query, szQuerys l = l.length + (l.map szQuery).sum
 | [] => by rw [szQuerys]; rfl
 | x :: r => by rw [szQuerys, szQuerys_eq r, List.length_cons, List.map_cons, List.sum_cons]; omega
theorem szSortKeys_eq : ∀ l : List SortKey, szSortKeys l = l.length + (l.map szSortKey).sum
 | [] => by rw [szSortKeys]; rfl
 | x :: r => by rw [szSortKeys, szSortKeys_eq r, List.length_cons, List.map_cons, List.sum_cons]; omega
theorem szSources_eq : ∀ l : List Source, szSources l = l.length + (l.map szSource).sum
 | [] => by rw [szSources]; rfl
 | x :: r => by rw [szSources, szSources_eq r, List.length_cons, List.map_cons, List.sum_cons]; omega
theorem szExpr_mk (kind : Int) (op : Int) (not : Bool) (val : Val) (qual : ByteArray) (name : ByteArray) (kids : List Expr) (sub : List Query) : szExpr (.mk kind op not val qual name kids sub) = szVal val + (qual.size + (name.size + (szExprs kids + (szQuerys sub)))) := by rw [szExpr]
theorem szItem_mk (star : Bool) (qual : ByteArray) (e : Expr) (as_ : ByteArray) : szItem (.mk star qual e as_) = qual.size + (szExpr e + (as_.size)) := by rw [szItem]
theorem szSource_mk (table : ByteArray) (as_ : ByteArray) (on : List Expr) : szSource (.mk table as_ on) = table.size + (as_.size + (szExprs on)) := by rw [szSource]
theorem szSortKey_mk (e : Expr) (desc : Bool) : szSortKey (.mk e desc) = szExpr e := by rw [szSortKey]
theorem szQuery_mk (distinct : Bool) (items : List Item) (from_ : List Source) (where_ : List Expr) (order : List SortKey) (limit : Int) : szQuery (.mk distinct items from_ where_ order limit) = szItems items + (szSources from_ + (szExprs where_ + (szSortKeys order))) := by rw [szQuery]
theorem Expr.ind {PExpr : Expr → Prop} {PItem : Item → Prop} {PSource : Source → Prop} {PSortKey : SortKey → Prop} {PQuery : Query → Prop}
 (hExpr : ∀ kind op not val qual name kids sub, (∀ x ∈ kids, PExpr x) → (∀ x ∈ sub, PQuery x) → PExpr (.mk kind op not val qual name kids sub))
 (hItem : ∀ star qual e as_, PExpr e → PItem (.mk star qual e as_))
 (hSource : ∀ table as_ on, (∀ x ∈ on, PExpr x) → PSource (.mk table as_ on))
 (hSortKey : ∀ e desc, PExpr e → PSortKey (.mk e desc))
 (hQuery : ∀ distinct items from_ where_ order limit, (∀ x ∈ items, PItem x) → (∀ x ∈ from_, PSource x) → (∀ x ∈ where_, PExpr x) → (∀ x ∈ order, PSortKey x) → PQuery (.mk distinct items from_ where_ order limit)) : (∀ x, PExpr x) ∧ (∀ x, PItem x) ∧ (∀ x, PSource x) ∧ (∀ x, PSortKey x) ∧ (∀ x, PQuery x) := by
 suffices H : ∀ n : Nat, (∀ x : Expr, SizeOf.sizeOf x < n → PExpr x) ∧ (∀ x : Item, SizeOf.sizeOf x < n → PItem x) ∧ (∀ x : Source, SizeOf.sizeOf x < n → PSource x) ∧ (∀ x : SortKey, SizeOf.sizeOf x < n → PSortKey x) ∧ (∀ x : Query, SizeOf.sizeOf x < n → PQuery x) from
  ⟨fun x => (H _).1 x (Nat.lt_succ_self _), fun x => (H _).2.1 x (Nat.lt_succ_self _), fun x => (H _).2.2.1 x (Nat.lt_succ_self _), fun x => (H _).2.2.2.1 x (Nat.lt_succ_self _), fun x => (H _).2.2.2.2 x (Nat.lt_succ_self _)⟩
 intro n
 induction n with
 | zero => exact ⟨fun _ h => absurd h (Nat.not_lt_zero _), fun _ h => absurd h (Nat.not_lt_zero _), fun _ h => absurd h (Nat.not_lt_zero _), fun _ h => absurd h (Nat.not_lt_zero _), fun _ h => absurd h (Nat.not_lt_zero _)⟩
 | succ n ih =>
  obtain ⟨ihExpr, ihItem, ihSource, ihSortKey, ihQuery⟩ := ih
  refine ⟨?_, ?_, ?_, ?_, ?_⟩
  ·rintro ⟨kind, op, not, val, qual, name, kids, sub⟩ h
   simp only [Expr.mk.sizeOf_spec] at h
   exact hExpr _ _ _ _ _ _ _ _ (fun y hy => ihExpr y (by have := List.sizeOf_lt_of_mem hy; omega)) (fun y hy => ihQuery y (by have := List.sizeOf_lt_of_mem hy; omega))
  ·rintro ⟨star, qual, e, as_⟩ h
   simp only [Item.mk.sizeOf_spec] at h
   exact hItem _ _ _ _ (ihExpr _ (by omega))
  ·rintro ⟨table, as_, on⟩ h
   simp only [Source.mk.sizeOf_spec] at h
   exact hSource _ _ _ (fun y hy => ihExpr y (by have := List.sizeOf_lt_of_mem hy; omega))
  ·rintro ⟨e, desc⟩ h
   simp only [SortKey.mk.sizeOf_spec] at h
   exact hSortKey _ _ (ihExpr _ (by omega))
  ·rintro ⟨distinct, items, from_, where_, order, limit⟩ h
   simp only [Query.mk.sizeOf_spec] at h
   exact hQuery _ _ _ _ _ _ (fun y hy => ihItem y (by have := List.sizeOf_lt_of_mem hy; omega)) (fun y hy => ihSource y (by have := List.sizeOf_lt_of_mem hy; omega)) (fun y hy => ihExpr y (by have := List.sizeOf_lt_of_mem hy; omega)) (fun y hy => ihSortKey y (by have := List.sizeOf_lt_of_mem hy; omega))
theorem szExprs_step (a : List Expr) (hx : ∀ x ∈ a, ∀ l : Int, 0 ≤ l → l ≤ 1048576 → Cl Tryz.prog 56 [.ag (csOf x.row), vi l] [] fun r _ => r = vi (subL l (szExpr x))) (l : Int) (h0 : 0 ≤ l) (h1 : l ≤ 1048576) : Cl Tryz.prog 22 [.c (.sl a.length (a.flatMap Expr.row) none), vi l] [] fun r _ => r = vi (subL l (szExprs a)) := by
 rw [szExprs_eq]
 refine cl_of_d follows_mixed false Tryz.func22 rfl (by kernel_rfl) ?_
 simp only [Tryz.f22, tt, seval]
 refine fun hs => ?_
 rw [wrap_id (n := l - a.length) (by omega) (by omega)]
 obtain ⟨tot, htot⟩ : ∃ tot, tot = (a.map szExpr).sum := ⟨_, rfl⟩
 refine And.intro (fun h => ?_) (fun h => ?_)
 ·exact ⟨_, _, by rw [subL_gt (by omega)], end0 rfl⟩
 ·refine dLoop.intro (fun f L p => ∃ i : Nat, f 5 = vi i ∧ i ≤ a.length ∧ f 1 = vi (l - a.length - ((a.take i).map szExpr).sum) ∧ 0 ≤ l - a.length - (((a.take i).map szExpr).sum : Nat) ∧ L = [] ∧ p = none) (fun f _ _ => (a.length - ixS (f 5)).toNat) [] none ⟨SubO.nil _, PoSub.none _, ?_⟩ ?_
  ·simp only [tt, seval]
   exact ⟨0, rfl, by omega, by simp, by simp; omega⟩
  ·rintro g L p ⟨i, h5, hi, h1', hp, rfl, rfl⟩
   simp only [tt, seval] at h5 h1'
   obtain ⟨rst, hr⟩ := take_sum_le szExpr a i
   simp only [tt, seval, h5, h1', Int.ofNat_lt]
   refine fun _ => And.intro (fun hlt => ?_) (fun hge => ?_)
   ·have hlt : i < a.length := by omega
    refine ⟨by omega, by omega, _, drop_row Expr.row_len (List.getElem?_eq_getElem hlt), Expr.ne _ _, ?_⟩
    have hts := take_succ_sum szExpr hlt
    obtain ⟨rst', hr'⟩ := take_sum_le szExpr a (i + 1)
    simp only [tt, seval, h5, h1', Expr.tk, Expr.row_len]
    refine call0 (hx a[i] (List.getElem_mem hlt) _ hp (by omega)) ?_ ?_ ?_
    ·decide
    ·simp only [tt, seval]
    rintro r rfl
    simp only [tt, seval, h5, h1']
    refine And.intro (fun hneg => ?_) (fun hpos => ?_)
    ·refine ⟨_, _, ?_, end0 rfl⟩
     rw [subL_gt]
     have : ¬ ((szExpr a[i] : Int) ≤ l - a.length - ((a.take i).map szExpr).sum) := fun h => by rw [subL_le h] at hneg; omega
     omega
    ·have hle : ((szExpr a[i] : Int) ≤ l - a.length - ((a.take i).map szExpr).sum) := Int.not_lt.1 fun h => by rw [subL_gt h] at hpos; omega
     rw [subL_le hle, wrap_id (n := (i : Int) + 1) (by omega) (by omega)]
     exact ⟨[], none, SubO.nil _, PoSub.none _, ⟨i + 1, by simp, by omega, viE (by rw [hts]; omega), by rw [hts]; omega, rfl, rfl⟩, by simp only [ixS]; omega⟩
   ·have : i = a.length := by omega
    subst this
    refine ⟨_, _, ?_, end0 rfl⟩
    rw [List.take_length] at hp
    rw [List.take_length, subL_le (by omega)]
    exact viE (by omega)
theorem szItems_step (a : List Item) (hx : ∀ x ∈ a, ∀ l : Int, 0 ≤ l → l ≤ 1048576 → Cl Tryz.prog 54 [.ag (csOf x.row), vi l] [] fun r _ => r = vi (subL l (szItem x))) (l : Int) (h0 : 0 ≤ l) (h1 : l ≤ 1048576) : Cl Tryz.prog 20 [.c (.sl a.length (a.flatMap Item.row) none), vi l] [] fun r _ => r = vi (subL l (szItems a)) := by
 rw [szItems_eq]
 refine cl_of_d follows_mixed false Tryz.func20 rfl (by kernel_rfl) ?_
 simp only [Tryz.f20, tt, seval]
 refine fun hs => ?_
 rw [wrap_id (n := l - a.length) (by omega) (by omega)]
 obtain ⟨tot, htot⟩ : ∃ tot, tot = (a.map szItem).sum := ⟨_, rfl⟩
 refine And.intro (fun h => ?_) (fun h => ?_)
 ·exact ⟨_, _, by rw [subL_gt (by omega)], end0 rfl⟩
 ·refine dLoop.intro (fun f L p => ∃ i : Nat, f 5 = vi i ∧ i ≤ a.length ∧ f 1 = vi (l - a.length - ((a.take i).map szItem).sum) ∧ 0 ≤ l - a.length - (((a.take i).map szItem).sum : Nat) ∧ L = [] ∧ p = none) (fun f _ _ => (a.length - ixS (f 5)).toNat) [] none ⟨SubO.nil _, PoSub.none _, ?_⟩ ?_
  ·simp only [tt, seval]
   exact ⟨0, rfl, by omega, by simp, by simp; omega⟩
  ·rintro g L p ⟨i, h5, hi, h1', hp, rfl, rfl⟩
   simp only [tt, seval] at h5 h1'
   obtain ⟨rst, hr⟩ := take_sum_le szItem a i
   simp only [tt, seval, h5, h1', Int.ofNat_lt]
   refine fun _ => And.intro (fun hlt => ?_) (fun hge => ?_)
   ·have hlt : i < a.length := by omega
    refine ⟨by omega, by omega, _, drop_row Item.row_len (List.getElem?_eq_getElem hlt), Item.ne _ _, ?_⟩
    have hts := take_succ_sum szItem hlt
    obtain ⟨rst', hr'⟩ := take_sum_le szItem a (i + 1)
    simp only [tt, seval, h5, h1', Item.tk, Item.row_len]
    refine call0 (hx a[i] (List.getElem_mem hlt) _ hp (by omega)) ?_ ?_ ?_
    ·decide
    ·simp only [tt, seval]
    rintro r rfl
    simp only [tt, seval, h5, h1']
    refine And.intro (fun hneg => ?_) (fun hpos => ?_)
    ·refine ⟨_, _, ?_, end0 rfl⟩
     rw [subL_gt]
     have : ¬ ((szItem a[i] : Int) ≤ l - a.length - ((a.take i).map szItem).sum) := fun h => by rw [subL_le h] at hneg; omega
     omega
    ·have hle : ((szItem a[i] : Int) ≤ l - a.length - ((a.take i).map szItem).sum) := Int.not_lt.1 fun h => by rw [subL_gt h] at hpos; omega
     rw [subL_le hle, wrap_id (n := (i : Int) + 1) (by omega) (by omega)]
     exact ⟨[], none, SubO.nil _, PoSub.none _, ⟨i + 1, by simp, by omega, viE (by rw [hts]; omega), by rw [hts]; omega, rfl, rfl⟩, by simp only [ixS]; omega⟩
   ·have : i = a.length := by omega
    subst this
    refine ⟨_, _, ?_, end0 rfl⟩
    rw [List.take_length] at hp
    rw [List.take_length, subL_le (by omega)]
    exact viE (by omega)
theorem szSources_step (a : List Source) (hx : ∀ x ∈ a, ∀ l : Int, 0 ≤ l → l ≤ 1048576 → Cl Tryz.prog 55 [.ag (csOf x.row), vi l] [] fun r _ => r = vi (subL l (szSource x))) (l : Int) (h0 : 0 ≤ l) (h1 : l ≤ 1048576) : Cl Tryz.prog 21 [.c (.sl a.length (a.flatMap Source.row) none), vi l] [] fun r _ => r = vi (subL l (szSources a)) := by
 rw [szSources_eq]
 refine cl_of_d follows_mixed false Tryz.func21 rfl (by kernel_rfl) ?_
 simp only [Tryz.f21, tt, seval]
 refine fun hs => ?_
 rw [wrap_id (n := l - a.length) (by omega) (by omega)]
 obtain ⟨tot, htot⟩ : ∃ tot, tot = (a.map szSource).sum := ⟨_, rfl⟩
 refine And.intro (fun h => ?_) (fun h => ?_)
 ·exact ⟨_, _, by rw [subL_gt (by omega)], end0 rfl⟩
 ·refine dLoop.intro (fun f L p => ∃ i : Nat, f 5 = vi i ∧ i ≤ a.length ∧ f 1 = vi (l - a.length - ((a.take i).map szSource).sum) ∧ 0 ≤ l - a.length - (((a.take i).map szSource).sum : Nat) ∧ L = [] ∧ p = none) (fun f _ _ => (a.length - ixS (f 5)).toNat) [] none ⟨SubO.nil _, PoSub.none _, ?_⟩ ?_
  ·simp only [tt, seval]
   exact ⟨0, rfl, by omega, by simp, by simp; omega⟩
  ·rintro g L p ⟨i, h5, hi, h1', hp, rfl, rfl⟩
   simp only [tt, seval] at h5 h1'
   obtain ⟨rst, hr⟩ := take_sum_le szSource a i
   simp only [tt, seval, h5, h1', Int.ofNat_lt]
   refine fun _ => And.intro (fun hlt => ?_) (fun hge => ?_)
   ·have hlt : i < a.length := by omega
    refine ⟨by omega, by omega, _, drop_row Source.row_len (List.getElem?_eq_getElem hlt), Source.ne _ _, ?_⟩
    have hts := take_succ_sum szSource hlt
    obtain ⟨rst', hr'⟩ := take_sum_le szSource a (i + 1)
    simp only [tt, seval, h5, h1', Source.tk, Source.row_len]
    refine call0 (hx a[i] (List.getElem_mem hlt) _ hp (by omega)) ?_ ?_ ?_
    ·decide
    ·simp only [tt, seval]
    rintro r rfl
    simp only [tt, seval, h5, h1']
    refine And.intro (fun hneg => ?_) (fun hpos => ?_)
    ·refine ⟨_, _, ?_, end0 rfl⟩
     rw [subL_gt]
     have : ¬ ((szSource a[i] : Int) ≤ l - a.length - ((a.take i).map szSource).sum) := fun h => by rw [subL_le h] at hneg; omega
     omega
    ·have hle : ((szSource a[i] : Int) ≤ l - a.length - ((a.take i).map szSource).sum) := Int.not_lt.1 fun h => by rw [subL_gt h] at hpos; omega
     rw [subL_le hle, wrap_id (n := (i : Int) + 1) (by omega) (by omega)]
     exact ⟨[], none, SubO.nil _, PoSub.none _, ⟨i + 1, by simp, by omega, viE (by rw [hts]; omega), by rw [hts]; omega, rfl, rfl⟩, by simp only [ixS]; omega⟩
   ·have : i = a.length := by omega
    subst this
    refine ⟨_, _, ?_, end0 rfl⟩
    rw [List.take_length] at hp
    rw [List.take_length, subL_le (by omega)]
    exact viE (by omega)
theorem szSortKeys_step (a : List SortKey) (hx : ∀ x ∈ a, ∀ l : Int, 0 ≤ l → l ≤ 1048576 → Cl Tryz.prog 57 [.ag (csOf x.row), vi l] [] fun r _ => r = vi (subL l (szSortKey x))) (l : Int) (h0 : 0 ≤ l) (h1 : l ≤ 1048576) : Cl Tryz.prog 23 [.c (.sl a.length (a.flatMap SortKey.row) none), vi l] [] fun r _ => r = vi (subL l (szSortKeys a)) := by
 rw [szSortKeys_eq]
 refine cl_of_d follows_mixed false Tryz.func23 rfl (by kernel_rfl) ?_
 simp only [Tryz.f23, tt, seval]
 refine fun hs => ?_
 rw [wrap_id (n := l - a.length) (by omega) (by omega)]
 obtain ⟨tot, htot⟩ : ∃ tot, tot = (a.map szSortKey).sum := ⟨_, rfl⟩
 refine And.intro (fun h => ?_) (fun h => ?_)
 ·exact ⟨_, _, by rw [subL_gt (by omega)], end0 rfl⟩
 ·refine dLoop.intro (fun f L p => ∃ i : Nat, f 5 = vi i ∧ i ≤ a.length ∧ f 1 = vi (l - a.length - ((a.take i).map szSortKey).sum) ∧ 0 ≤ l - a.length - (((a.take i).map szSortKey).sum : Nat) ∧ L = [] ∧ p = none) (fun f _ _ => (a.length - ixS (f 5)).toNat) [] none ⟨SubO.nil _, PoSub.none _, ?_⟩ ?_
  ·simp only [tt, seval]
   exact ⟨0, rfl, by omega, by simp, by simp; omega⟩
  ·rintro g L p ⟨i, h5, hi, h1', hp, rfl, rfl⟩
   simp only [tt, seval] at h5 h1'
   obtain ⟨rst, hr⟩ := take_sum_le szSortKey a i
   simp only [tt, seval, h5, h1', Int.ofNat_lt]
   refine fun _ => And.intro (fun hlt => ?_) (fun hge => ?_)
   ·have hlt : i < a.length := by omega
    refine ⟨by omega, by omega, _, drop_row SortKey.row_len (List.getElem?_eq_getElem hlt), SortKey.ne _ _, ?_⟩
    have hts := take_succ_sum szSortKey hlt
    obtain ⟨rst', hr'⟩ := take_sum_le szSortKey a (i + 1)
    simp only [tt, seval, h5, h1', SortKey.tk, SortKey.row_len]
    refine call0 (hx a[i] (List.getElem_mem hlt) _ hp (by omega)) ?_ ?_ ?_
    ·decide
    ·simp only [tt, seval]
    rintro r rfl
    simp only [tt, seval, h5, h1']
    refine And.intro (fun hneg => ?_) (fun hpos => ?_)
    ·refine ⟨_, _, ?_, end0 rfl⟩
     rw [subL_gt]
     have : ¬ ((szSortKey a[i] : Int) ≤ l - a.length - ((a.take i).map szSortKey).sum) := fun h => by rw [subL_le h] at hneg; omega
     omega
    ·have hle : ((szSortKey a[i] : Int) ≤ l - a.length - ((a.take i).map szSortKey).sum) := Int.not_lt.1 fun h => by rw [subL_gt h] at hpos; omega
     rw [subL_le hle, wrap_id (n := (i : Int) + 1) (by omega) (by omega)]
     exact ⟨[], none, SubO.nil _, PoSub.none _, ⟨i + 1, by simp, by omega, viE (by rw [hts]; omega), by rw [hts]; omega, rfl, rfl⟩, by simp only [ixS]; omega⟩
   ·have : i = a.length := by omega
    subst this
    refine ⟨_, _, ?_, end0 rfl⟩
    rw [List.take_length] at hp
    rw [List.take_length, subL_le (by omega)]
    exact viE (by omega)
theorem szQuerys_step (a : List Query) (hx : ∀ x ∈ a, ∀ l : Int, 0 ≤ l → l ≤ 1048576 → Cl Tryz.prog 5 [.ag (csOf x.row), vi l] [] fun r _ => r = vi (subL l (szQuery x))) (l : Int) (h0 : 0 ≤ l) (h1 : l ≤ 1048576) : Cl Tryz.prog 109 [.c (.sl a.length (a.flatMap Query.row) none), vi l] [] fun r _ => r = vi (subL l (szQuerys a)) := by
 rw [szQuerys_eq]
 refine cl_of_d follows_mixed false Tryz.func109 rfl (by kernel_rfl) ?_
 simp only [Tryz.f109, tt, seval]
 refine fun hs => ?_
 rw [wrap_id (n := l - a.length) (by omega) (by omega)]
 obtain ⟨tot, htot⟩ : ∃ tot, tot = (a.map szQuery).sum := ⟨_, rfl⟩
 refine And.intro (fun h => ?_) (fun h => ?_)
 ·exact ⟨_, _, by rw [subL_gt (by omega)], end0 rfl⟩
 ·refine dLoop.intro (fun f L p => ∃ i : Nat, f 5 = vi i ∧ i ≤ a.length ∧ f 1 = vi (l - a.length - ((a.take i).map szQuery).sum) ∧ 0 ≤ l - a.length - (((a.take i).map szQuery).sum : Nat) ∧ L = [] ∧ p = none) (fun f _ _ => (a.length - ixS (f 5)).toNat) [] none ⟨SubO.nil _, PoSub.none _, ?_⟩ ?_
  ·simp only [tt, seval]
   exact ⟨0, rfl, by omega, by simp, by simp; omega⟩
  ·rintro g L p ⟨i, h5, hi, h1', hp, rfl, rfl⟩
   simp only [tt, seval] at h5 h1'
   obtain ⟨rst, hr⟩ := take_sum_le szQuery a i
   simp only [tt, seval, h5, h1', Int.ofNat_lt]
   refine fun _ => And.intro (fun hlt => ?_) (fun hge => ?_)
   ·have hlt : i < a.length := by omega
    refine ⟨by omega, by omega, _, drop_row Query.row_len (List.getElem?_eq_getElem hlt), Query.ne _ _, ?_⟩
    have hts := take_succ_sum szQuery hlt
    obtain ⟨rst', hr'⟩ := take_sum_le szQuery a (i + 1)
    simp only [tt, seval, h5, h1', Query.tk, Query.row_len]
    refine call0 (hx a[i] (List.getElem_mem hlt) _ hp (by omega)) ?_ ?_ ?_
    ·decide
    ·simp only [tt, seval]
    rintro r rfl
    simp only [tt, seval, h5, h1']
    refine And.intro (fun hneg => ?_) (fun hpos => ?_)
    ·refine ⟨_, _, ?_, end0 rfl⟩
     rw [subL_gt]
     have : ¬ ((szQuery a[i] : Int) ≤ l - a.length - ((a.take i).map szQuery).sum) := fun h => by rw [subL_le h] at hneg; omega
     omega
    ·have hle : ((szQuery a[i] : Int) ≤ l - a.length - ((a.take i).map szQuery).sum) := Int.not_lt.1 fun h => by rw [subL_gt h] at hpos; omega
     rw [subL_le hle, wrap_id (n := (i : Int) + 1) (by omega) (by omega)]
     exact ⟨[], none, SubO.nil _, PoSub.none _, ⟨i + 1, by simp, by omega, viE (by rw [hts]; omega), by rw [hts]; omega, rfl, rfl⟩, by simp only [ixS]; omega⟩
   ·have : i = a.length := by omega
    subst this
    refine ⟨_, _, ?_, end0 rfl⟩
    rw [List.take_length] at hp
    rw [List.take_length, subL_le (by omega)]
    exact viE (by omega)
theorem szExpr_step (kind : Int) (op : Int) (not : Bool) (val : Val) (qual : ByteArray) (name : ByteArray) (kids : List Expr) (sub : List Query) (hkids : ∀ l : Int, 0 ≤ l → l ≤ 1048576 → Cl Tryz.prog 22 [.c (.sl kids.length (kids.flatMap Expr.row) none), vi l] [] fun r _ => r = vi (subL l (szExprs kids))) (hsub : ∀ l : Int, 0 ≤ l → l ≤ 1048576 → Cl Tryz.prog 109 [.c (.sl sub.length (sub.flatMap Query.row) none), vi l] [] fun r _ => r = vi (subL l (szQuerys sub))) (l : Int) (h0 : 0 ≤ l) (h1 : l ≤ 1048576) : Cl Tryz.prog 56 [.ag (csOf (Expr.mk kind op not val qual name kids sub).row), vi l] [] fun r _ => r = vi (subL l (szExpr (Expr.mk kind op not val qual name kids sub))) := by
 rw [szExpr_mk, Expr.row_mk]
 refine cl_of_d follows_mixed false Tryz.func56 rfl (by kernel_rfl) ?_
 simp only [Tryz.f56, tt, seval]
 refine call0 (szValue_d val l h0 h1) ?_ ?_ ?_
 ·decide
 ·simp only [tt, seval, Val.row, List.cons_append, List.nil_append]
 rintro r rfl
 simp only [tt, seval, Val.row, List.cons_append, List.nil_append]
 refine And.intro (fun h => ?_) (fun h => ?_)
 ·exact ⟨_, _, viE (by rw [subL_neg h h0]), end0 rfl⟩
 have hp0 : 0 ≤ subL l (szVal val) := by omega
 rw [subL_add hp0]
 have hb0 := subL_bounds (s := szVal val) h0
 generalize subL l (szVal val) = l0 at *
 refine fun hs1 => ?_
 rw [wrap_id (n := l0 - qual.size) (by omega) (by omega)]
 refine And.intro (fun h => ?_) (fun h => ?_)
 ·exact ⟨_, _, viE (by rw [subL_neg (by rw [subL_gt (by omega)]; decide) hp0]), end0 rfl⟩
 rw [show (l0 - qual.size : Int) = subL l0 qual.size from (subL_le (by omega)).symm] at *
 have hp1 : 0 ≤ subL l0 (qual.size) := by omega
 rw [subL_add hp1]
 have hb1 := subL_bounds (s := qual.size) hp0
 generalize subL l0 (qual.size) = l1 at *
 refine fun hs2 => ?_
 rw [wrap_id (n := l1 - name.size) (by omega) (by omega)]
 refine And.intro (fun h => ?_) (fun h => ?_)
 ·exact ⟨_, _, viE (by rw [subL_neg (by rw [subL_gt (by omega)]; decide) hp1]), end0 rfl⟩
 rw [show (l1 - name.size : Int) = subL l1 name.size from (subL_le (by omega)).symm] at *
 have hp2 : 0 ≤ subL l1 (name.size) := by omega
 rw [subL_add hp2]
 have hb2 := subL_bounds (s := name.size) hp1
 generalize subL l1 (name.size) = l2 at *
 refine call0 (hkids l2 hp2 (by omega)) ?_ ?_ ?_
 ·decide
 ·simp only [tt, seval, Val.row, List.cons_append, List.nil_append]
 rintro r rfl
 simp only [tt, seval, Val.row, List.cons_append, List.nil_append]
 refine And.intro (fun h => ?_) (fun h => ?_)
 ·exact ⟨_, _, viE (by rw [subL_neg h hp2]), end0 rfl⟩
 have hp3 : 0 ≤ subL l2 (szExprs kids) := by omega
 rw [subL_add hp3]
 have hb3 := subL_bounds (s := szExprs kids) hp2
 generalize subL l2 (szExprs kids) = l3 at *
 refine call0 (hsub l3 hp3 (by omega)) ?_ ?_ ?_
 ·decide
 ·simp only [tt, seval, Val.row, List.cons_append, List.nil_append]
 rintro r rfl
 simp only [tt, seval, Val.row, List.cons_append, List.nil_append]
 refine And.intro (fun h => ?_) (fun h => ?_)
 ·exact ⟨_, _, viE (by have := subL_bounds (s := szQuerys sub) hp3; omega), end0 rfl⟩
 exact ⟨_, _, rfl, end0 rfl⟩
theorem szItem_step (star : Bool) (qual : ByteArray) (e : Expr) (as_ : ByteArray) (he : ∀ l : Int, 0 ≤ l → l ≤ 1048576 → Cl Tryz.prog 56 [.ag (csOf e.row), vi l] [] fun r _ => r = vi (subL l (szExpr e))) (l : Int) (h0 : 0 ≤ l) (h1 : l ≤ 1048576) : Cl Tryz.prog 54 [.ag (csOf (Item.mk star qual e as_).row), vi l] [] fun r _ => r = vi (subL l (szItem (Item.mk star qual e as_))) := by
 rw [szItem_mk, Item.row_mk]
 obtain ⟨e_kind, e_op, e_not, e_val, e_qual, e_name, e_kids, e_sub⟩ := e
 simp only [Expr.row_mk, List.cons_append, List.nil_append]
 refine cl_of_d follows_mixed false Tryz.func54 rfl (by kernel_rfl) ?_
 simp only [Tryz.f54, tt, seval]
 refine fun hs0 => ?_
 rw [wrap_id (n := l - qual.size) (by omega) (by omega)]
 refine And.intro (fun h => ?_) (fun h => ?_)
 ·exact ⟨_, _, viE (by rw [subL_neg (by rw [subL_gt (by omega)]; decide) h0]), end0 rfl⟩
 rw [show (l - qual.size : Int) = subL l qual.size from (subL_le (by omega)).symm] at *
 have hp0 : 0 ≤ subL l (qual.size) := by omega
 rw [subL_add hp0]
 have hb0 := subL_bounds (s := qual.size) h0
 generalize subL l (qual.size) = l0 at *
 refine call0 (he l0 hp0 (by omega)) ?_ ?_ ?_
 ·decide
 ·simp only [tt, seval, Val.row, List.cons_append, List.nil_append, Expr.row_mk]
 rintro r rfl
 simp only [tt, seval, Val.row, List.cons_append, List.nil_append, Expr.row_mk]
 refine And.intro (fun h => ?_) (fun h => ?_)
 ·exact ⟨_, _, viE (by rw [subL_neg h hp0]), end0 rfl⟩
 have hp1 : 0 ≤ subL l0 (szExpr (Expr.mk e_kind e_op e_not e_val e_qual e_name e_kids e_sub)) := by omega
 rw [subL_add hp1]
 have hb1 := subL_bounds (s := szExpr (Expr.mk e_kind e_op e_not e_val e_qual e_name e_kids e_sub)) hp0
 generalize subL l0 (szExpr (Expr.mk e_kind e_op e_not e_val e_qual e_name e_kids e_sub)) = l1 at *
 refine fun hs2 => ?_
 rw [wrap_id (n := l1 - as_.size) (by omega) (by omega)]
 refine And.intro (fun h => ?_) (fun h => ?_)
 ·exact ⟨_, _, viE (by rw [subL_gt (by omega)]), end0 rfl⟩
 rw [show (l1 - as_.size : Int) = subL l1 as_.size from (subL_le (by omega)).symm] at *
 exact ⟨_, _, rfl, end0 rfl⟩
theorem szSource_step (table : ByteArray) (as_ : ByteArray) (on : List Expr) (hon : ∀ l : Int, 0 ≤ l → l ≤ 1048576 → Cl Tryz.prog 22 [.c (.sl on.length (on.flatMap Expr.row) none), vi l] [] fun r _ => r = vi (subL l (szExprs on))) (l : Int) (h0 : 0 ≤ l) (h1 : l ≤ 1048576) : Cl Tryz.prog 55 [.ag (csOf (Source.mk table as_ on).row), vi l] [] fun r _ => r = vi (subL l (szSource (Source.mk table as_ on))) := by
 rw [szSource_mk, Source.row_mk]
 refine cl_of_d follows_mixed false Tryz.func55 rfl (by kernel_rfl) ?_
 simp only [Tryz.f55, tt, seval]
 refine fun hs0 => ?_
 rw [wrap_id (n := l - table.size) (by omega) (by omega)]
 refine And.intro (fun h => ?_) (fun h => ?_)
 ·exact ⟨_, _, viE (by rw [subL_neg (by rw [subL_gt (by omega)]; decide) h0]), end0 rfl⟩
 rw [show (l - table.size : Int) = subL l table.size from (subL_le (by omega)).symm] at *
 have hp0 : 0 ≤ subL l (table.size) := by omega
 rw [subL_add hp0]
 have hb0 := subL_bounds (s := table.size) h0
 generalize subL l (table.size) = l0 at *
 refine fun hs1 => ?_
 rw [wrap_id (n := l0 - as_.size) (by omega) (by omega)]
 refine And.intro (fun h => ?_) (fun h => ?_)
 ·exact ⟨_, _, viE (by rw [subL_neg (by rw [subL_gt (by omega)]; decide) hp0]), end0 rfl⟩
 rw [show (l0 - as_.size : Int) = subL l0 as_.size from (subL_le (by omega)).symm] at *
 have hp1 : 0 ≤ subL l0 (as_.size) := by omega
 rw [subL_add hp1]
 have hb1 := subL_bounds (s := as_.size) hp0
 generalize subL l0 (as_.size) = l1 at *
 refine call0 (hon l1 hp1 (by omega)) ?_ ?_ ?_
 ·decide
 ·simp only [tt, seval, Val.row, List.cons_append, List.nil_append]
 rintro r rfl
 simp only [tt, seval, Val.row, List.cons_append, List.nil_append]
 refine And.intro (fun h => ?_) (fun h => ?_)
 ·exact ⟨_, _, viE (by have := subL_bounds (s := szExprs on) hp1; omega), end0 rfl⟩
 exact ⟨_, _, rfl, end0 rfl⟩
theorem szSortKey_step (e : Expr) (desc : Bool) (he : ∀ l : Int, 0 ≤ l → l ≤ 1048576 → Cl Tryz.prog 56 [.ag (csOf e.row), vi l] [] fun r _ => r = vi (subL l (szExpr e))) (l : Int) (h0 : 0 ≤ l) (h1 : l ≤ 1048576) : Cl Tryz.prog 57 [.ag (csOf (SortKey.mk e desc).row), vi l] [] fun r _ => r = vi (subL l (szSortKey (SortKey.mk e desc))) := by
 rw [szSortKey_mk, SortKey.row_mk]
 obtain ⟨e_kind, e_op, e_not, e_val, e_qual, e_name, e_kids, e_sub⟩ := e
 simp only [Expr.row_mk, List.cons_append, List.nil_append]
 refine cl_of_d follows_mixed false Tryz.func57 rfl (by kernel_rfl) ?_
 simp only [Tryz.f57, tt, seval]
 refine call0 (he l h0 h1) ?_ ?_ ?_
 ·decide
 ·simp only [tt, seval, Val.row, List.cons_append, List.nil_append, Expr.row_mk]
 rintro r rfl
 simp only [tt, seval, Val.row, List.cons_append, List.nil_append, Expr.row_mk]
 refine And.intro (fun h => ?_) (fun h => ?_)
 ·exact ⟨_, _, viE (by have := subL_bounds (s := szExpr (Expr.mk e_kind e_op e_not e_val e_qual e_name e_kids e_sub)) h0; omega), end0 rfl⟩
 exact ⟨_, _, rfl, end0 rfl⟩
theorem szQuery_step (distinct : Bool) (items : List Item) (from_ : List Source) (where_ : List Expr) (order : List SortKey) (limit : Int) (hitems : ∀ l : Int, 0 ≤ l → l ≤ 1048576 → Cl Tryz.prog 20 [.c (.sl items.length (items.flatMap Item.row) none), vi l] [] fun r _ => r = vi (subL l (szItems items))) (hfrom_ : ∀ l : Int, 0 ≤ l → l ≤ 1048576 → Cl Tryz.prog 21 [.c (.sl from_.length (from_.flatMap Source.row) none), vi l] [] fun r _ => r = vi (subL l (szSources from_))) (hwhere_ : ∀ l : Int, 0 ≤ l → l ≤ 1048576 → Cl Tryz.prog 22 [.c (.sl where_.length (where_.flatMap Expr.row) none), vi l] [] fun r _ => r = vi (subL l (szExprs where_))) (horder : ∀ l : Int, 0 ≤ l → l ≤ 1048576 → Cl Tryz.prog 23 [.c (.sl order.length (order.flatMap SortKey.row) none), vi l] [] fun r _ => r = vi (subL l (szSortKeys order))) (l : Int) (h0 : 0 ≤ l) (h1 : l ≤ 1048576) : Cl Tryz.prog 5 [.ag (csOf (Query.mk distinct items from_ where_ order limit).row), vi l] [] fun r _ => r = vi (subL l (szQuery (Query.mk distinct items from_ where_ order limit))) := by
 rw [szQuery_mk, Query.row_mk]
 refine cl_of_d follows_mixed false Tryz.func5 rfl (by kernel_rfl) ?_
 simp only [Tryz.f5, tt, seval]
 refine call0 (hitems l h0 h1) ?_ ?_ ?_
 ·decide
 ·simp only [tt, seval, Val.row, List.cons_append, List.nil_append]
 rintro r rfl
 simp only [tt, seval, Val.row, List.cons_append, List.nil_append]
 refine And.intro (fun h => ?_) (fun h => ?_)
 ·exact ⟨_, _, viE (by rw [subL_neg h h0]), end0 rfl⟩
 have hp0 : 0 ≤ subL l (szItems items) := by omega
 rw [subL_add hp0]
 have hb0 := subL_bounds (s := szItems items) h0
 generalize subL l (szItems items) = l0 at *
 refine call0 (hfrom_ l0 hp0 (by omega)) ?_ ?_ ?_
 ·decide
 ·simp only [tt, seval, Val.row, List.cons_append, List.nil_append]
 rintro r rfl
 simp only [tt, seval, Val.row, List.cons_append, List.nil_append]
 refine And.intro (fun h => ?_) (fun h => ?_)
 ·exact ⟨_, _, viE (by rw [subL_neg h hp0]), end0 rfl⟩
 have hp1 : 0 ≤ subL l0 (szSources from_) := by omega
 rw [subL_add hp1]
 have hb1 := subL_bounds (s := szSources from_) hp0
 generalize subL l0 (szSources from_) = l1 at *
 refine call0 (hwhere_ l1 hp1 (by omega)) ?_ ?_ ?_
 ·decide
 ·simp only [tt, seval, Val.row, List.cons_append, List.nil_append]
 rintro r rfl
 simp only [tt, seval, Val.row, List.cons_append, List.nil_append]
 refine And.intro (fun h => ?_) (fun h => ?_)
 ·exact ⟨_, _, viE (by rw [subL_neg h hp1]), end0 rfl⟩
 have hp2 : 0 ≤ subL l1 (szExprs where_) := by omega
 rw [subL_add hp2]
 have hb2 := subL_bounds (s := szExprs where_) hp1
 generalize subL l1 (szExprs where_) = l2 at *
 refine call0 (horder l2 hp2 (by omega)) ?_ ?_ ?_
 ·decide
 ·simp only [tt, seval, Val.row, List.cons_append, List.nil_append]
 rintro r rfl
 simp only [tt, seval, Val.row, List.cons_append, List.nil_append]
 refine And.intro (fun h => ?_) (fun h => ?_)
 ·exact ⟨_, _, viE (by have := subL_bounds (s := szSortKeys order) hp2; omega), end0 rfl⟩
 exact ⟨_, _, rfl, end0 rfl⟩
theorem szExpr_all : (∀ a : Expr, ∀ l : Int, 0 ≤ l → l ≤ 1048576 → Cl Tryz.prog 56 [.ag (csOf a.row), vi l] [] fun r _ => r = vi (subL l (szExpr a))) ∧ (∀ a : Item, ∀ l : Int, 0 ≤ l → l ≤ 1048576 → Cl Tryz.prog 54 [.ag (csOf a.row), vi l] [] fun r _ => r = vi (subL l (szItem a))) ∧ (∀ a : Source, ∀ l : Int, 0 ≤ l → l ≤ 1048576 → Cl Tryz.prog 55 [.ag (csOf a.row), vi l] [] fun r _ => r = vi (subL l (szSource a))) ∧ (∀ a : SortKey, ∀ l : Int, 0 ≤ l → l ≤ 1048576 → Cl Tryz.prog 57 [.ag (csOf a.row), vi l] [] fun r _ => r = vi (subL l (szSortKey a))) ∧ (∀ a : Query, ∀ l : Int, 0 ≤ l → l ≤ 1048576 → Cl Tryz.prog 5 [.ag (csOf a.row), vi l] [] fun r _ => r = vi (subL l (szQuery a))) := by
 refine Expr.ind ?_ ?_ ?_ ?_ ?_
 ·intro kind op not val qual name kids sub hkids hsub
  exact szExpr_step _ _ _ _ _ _ _ _ (szExprs_step _ hkids) (szQuerys_step _ hsub)
 ·intro star qual e as_ he
  exact szItem_step _ _ _ _ he
 ·intro table as_ on hon
  exact szSource_step _ _ _ (szExprs_step _ hon)
 ·intro e desc he
  exact szSortKey_step _ _ he
 ·intro distinct items from_ where_ order limit hitems hfrom_ hwhere_ horder
  exact szQuery_step _ _ _ _ _ _ (szItems_step _ hitems) (szSources_step _ hfrom_) (szExprs_step _ hwhere_) (szSortKeys_step _ horder)
theorem szExpr_d (a : Expr) (l : Int) (h0 : 0 ≤ l) (h1 : l ≤ 1048576) : Cl Tryz.prog 56 [.ag (csOf a.row), vi l] [] fun r _ => r = vi (subL l (szExpr a)) := szExpr_all.1 a l h0 h1
theorem szQuery_d (a : Query) (l : Int) (h0 : 0 ≤ l) (h1 : l ≤ 1048576) : Cl Tryz.prog 5 [.ag (csOf a.row), vi l] [] fun r _ => r = vi (subL l (szQuery a)) := szExpr_all.2.2.2.2 a l h0 h1
theorem szExprs_d (a : List Expr) (l : Int) (h0 : 0 ≤ l) (h1 : l ≤ 1048576) : Cl Tryz.prog 22 [.c (.sl a.length (a.flatMap Expr.row) none), vi l] [] fun r _ => r = vi (subL l (szExprs a)) := szExprs_step a (fun x _ => szExpr_d x) l h0 h1
theorem toExprs_step (a : List Expr) (hx : ∀ x ∈ a, szExpr x ≤ 1048576 → Cl Tryz.prog 70 [.ag (csOf x.row)] [] fun r _ => r = .ag (csOf x.row)) (h : szExprs a ≤ 1048576) : Cl Tryz.prog 28 [.c (.sl a.length (a.flatMap Expr.row) none)] [] fun r _ => r = .c (.sl a.length (a.flatMap Expr.row) none) := by
 rw [szExprs_eq] at h
 have hl : a.length ≤ 1048576 := by omega
 refine cl_of_d follows_mixed false Tryz.func28 rfl (by kernel_rfl) ?_
 simp only [Tryz.f28, tt, seval]
 refine fun _ => ⟨by omega, by omega, by omega, ?_⟩
 refine dLoop.intro (fun f L p => ∃ i : Nat, f 4 = vi i ∧ i ≤ a.length ∧ L = [(7, .arr 114 a.length ((a.take i).flatMap Expr.row ++ (List.replicate (a.length - i) [int 0, int 0, bool false, int 0, int 0, str ByteArray.empty, str ByteArray.empty, str ByteArray.empty, .sl 0 [], .sl 0 []]).flatten) none)] ∧ p = none) (fun f _ _ => (a.length - ixS (f 4)).toNat) [(7, .arr 114 a.length (List.replicate a.length [int 0, int 0, bool false, int 0, int 0, str ByteArray.empty, str ByteArray.empty, str ByteArray.empty, .sl 0 [], .sl 0 []]).flatten none)] none ⟨SubO.cons rfl (SubO.nil _), PoSub.none _, ?_⟩ ?_
 ·simp only [tt, seval]
  exact ⟨0, rfl, by omega, by simp⟩
 ·rintro g L p ⟨i, h4, hi, rfl, rfl⟩
  simp only [tt, seval] at h4
  simp only [tt, seval, h4, Int.ofNat_lt]
  refine fun _ => And.intro (fun hlt => ?_) (fun hge => ?_)
  ·have hlt : i < a.length := by omega
   have hts := take_succ_sum szExpr hlt
   obtain ⟨rst', hr'⟩ := take_sum_le szExpr a (i + 1)
   refine ⟨by omega, by omega, _, drop_row Expr.row_len (List.getElem?_eq_getElem hlt), Expr.ne _ _, ?_⟩
   simp only [tt, seval, h4, Expr.tk, Expr.row_len]
   refine call0 (hx a[i] (List.getElem_mem hlt) (by omega)) ?_ ?_ ?_
   ·decide
   ·simp only [tt, seval]
   rintro r rfl
   simp only [tt, seval, h4, Expr.ds, Expr.row_len]
   refine ⟨by omega, by omega, by rw [fillLen Expr.row_len rfl a (by omega)]; omega, ?_⟩
   rw [wrS i (by omega)]
   exact ⟨_, none, SubO.cons rfl (SubO.nil _), PoSub.none _, ⟨i + 1, rfl, by omega, congrArg (fun x => [(7, O.arr 114 a.length x none)]) (fillRow Expr.row_len rfl hlt), rfl⟩, by simp only [ixS]; omega⟩
  ·have : i = a.length := by omega
   subst this
   rw [fillLast]
   refine ⟨_, [], rfl, endOk ?_⟩
   simp only [tt, seval]
theorem toItems_step (a : List Item) (hx : ∀ x ∈ a, szItem x ≤ 1048576 → Cl Tryz.prog 68 [.ag (csOf x.row)] [] fun r _ => r = .ag (csOf x.row)) (h : szItems a ≤ 1048576) : Cl Tryz.prog 26 [.c (.sl a.length (a.flatMap Item.row) none)] [] fun r _ => r = .c (.sl a.length (a.flatMap Item.row) none) := by
 rw [szItems_eq] at h
 have hl : a.length ≤ 1048576 := by omega
 refine cl_of_d follows_mixed false Tryz.func26 rfl (by kernel_rfl) ?_
 simp only [Tryz.f26, tt, seval]
 refine fun _ => ⟨by omega, by omega, by omega, ?_⟩
 refine dLoop.intro (fun f L p => ∃ i : Nat, f 4 = vi i ∧ i ≤ a.length ∧ L = [(7, .arr 116 a.length ((a.take i).flatMap Item.row ++ (List.replicate (a.length - i) [bool false, str ByteArray.empty, int 0, int 0, bool false, int 0, int 0, str ByteArray.empty, str ByteArray.empty, str ByteArray.empty, .sl 0 [], .sl 0 [], str ByteArray.empty]).flatten) none)] ∧ p = none) (fun f _ _ => (a.length - ixS (f 4)).toNat) [(7, .arr 116 a.length (List.replicate a.length [bool false, str ByteArray.empty, int 0, int 0, bool false, int 0, int 0, str ByteArray.empty, str ByteArray.empty, str ByteArray.empty, .sl 0 [], .sl 0 [], str ByteArray.empty]).flatten none)] none ⟨SubO.cons rfl (SubO.nil _), PoSub.none _, ?_⟩ ?_
 ·simp only [tt, seval]
  exact ⟨0, rfl, by omega, by simp⟩
 ·rintro g L p ⟨i, h4, hi, rfl, rfl⟩
  simp only [tt, seval] at h4
  simp only [tt, seval, h4, Int.ofNat_lt]
  refine fun _ => And.intro (fun hlt => ?_) (fun hge => ?_)
  ·have hlt : i < a.length := by omega
   have hts := take_succ_sum szItem hlt
   obtain ⟨rst', hr'⟩ := take_sum_le szItem a (i + 1)
   refine ⟨by omega, by omega, _, drop_row Item.row_len (List.getElem?_eq_getElem hlt), Item.ne _ _, ?_⟩
   simp only [tt, seval, h4, Item.tk, Item.row_len]
   refine call0 (hx a[i] (List.getElem_mem hlt) (by omega)) ?_ ?_ ?_
   ·decide
   ·simp only [tt, seval]
   rintro r rfl
   simp only [tt, seval, h4, Item.ds, Item.row_len]
   refine ⟨by omega, by omega, by rw [fillLen Item.row_len rfl a (by omega)]; omega, ?_⟩
   rw [wrS i (by omega)]
   exact ⟨_, none, SubO.cons rfl (SubO.nil _), PoSub.none _, ⟨i + 1, rfl, by omega, congrArg (fun x => [(7, O.arr 116 a.length x none)]) (fillRow Item.row_len rfl hlt), rfl⟩, by simp only [ixS]; omega⟩
  ·have : i = a.length := by omega
   subst this
   rw [fillLast]
   refine ⟨_, [], rfl, endOk ?_⟩
   simp only [tt, seval]
theorem toSources_step (a : List Source) (hx : ∀ x ∈ a, szSource x ≤ 1048576 → Cl Tryz.prog 69 [.ag (csOf x.row)] [] fun r _ => r = .ag (csOf x.row)) (h : szSources a ≤ 1048576) : Cl Tryz.prog 27 [.c (.sl a.length (a.flatMap Source.row) none)] [] fun r _ => r = .c (.sl a.length (a.flatMap Source.row) none) := by
 rw [szSources_eq] at h
 have hl : a.length ≤ 1048576 := by omega
 refine cl_of_d follows_mixed false Tryz.func27 rfl (by kernel_rfl) ?_
 simp only [Tryz.f27, tt, seval]
 refine fun _ => ⟨by omega, by omega, by omega, ?_⟩
 refine dLoop.intro (fun f L p => ∃ i : Nat, f 4 = vi i ∧ i ≤ a.length ∧ L = [(7, .arr 124 a.length ((a.take i).flatMap Source.row ++ (List.replicate (a.length - i) [str ByteArray.empty, str ByteArray.empty, .sl 0 []]).flatten) none)] ∧ p = none) (fun f _ _ => (a.length - ixS (f 4)).toNat) [(7, .arr 124 a.length (List.replicate a.length [str ByteArray.empty, str ByteArray.empty, .sl 0 []]).flatten none)] none ⟨SubO.cons rfl (SubO.nil _), PoSub.none _, ?_⟩ ?_
 ·simp only [tt, seval]
  exact ⟨0, rfl, by omega, by simp⟩
 ·rintro g L p ⟨i, h4, hi, rfl, rfl⟩
  simp only [tt, seval] at h4
  simp only [tt, seval, h4, Int.ofNat_lt]
  refine fun _ => And.intro (fun hlt => ?_) (fun hge => ?_)
  ·have hlt : i < a.length := by omega
   have hts := take_succ_sum szSource hlt
   obtain ⟨rst', hr'⟩ := take_sum_le szSource a (i + 1)
   refine ⟨by omega, by omega, _, drop_row Source.row_len (List.getElem?_eq_getElem hlt), Source.ne _ _, ?_⟩
   simp only [tt, seval, h4, Source.tk, Source.row_len]
   refine call0 (hx a[i] (List.getElem_mem hlt) (by omega)) ?_ ?_ ?_
   ·decide
   ·simp only [tt, seval]
   rintro r rfl
   simp only [tt, seval, h4, Source.ds, Source.row_len]
   refine ⟨by omega, by omega, by rw [fillLen Source.row_len rfl a (by omega)]; omega, ?_⟩
   rw [wrS i (by omega)]
   exact ⟨_, none, SubO.cons rfl (SubO.nil _), PoSub.none _, ⟨i + 1, rfl, by omega, congrArg (fun x => [(7, O.arr 124 a.length x none)]) (fillRow Source.row_len rfl hlt), rfl⟩, by simp only [ixS]; omega⟩
  ·have : i = a.length := by omega
   subst this
   rw [fillLast]
   refine ⟨_, [], rfl, endOk ?_⟩
   simp only [tt, seval]
theorem toSortKeys_step (a : List SortKey) (hx : ∀ x ∈ a, szSortKey x ≤ 1048576 → Cl Tryz.prog 71 [.ag (csOf x.row)] [] fun r _ => r = .ag (csOf x.row)) (h : szSortKeys a ≤ 1048576) : Cl Tryz.prog 29 [.c (.sl a.length (a.flatMap SortKey.row) none)] [] fun r _ => r = .c (.sl a.length (a.flatMap SortKey.row) none) := by
 rw [szSortKeys_eq] at h
 have hl : a.length ≤ 1048576 := by omega
 refine cl_of_d follows_mixed false Tryz.func29 rfl (by kernel_rfl) ?_
 simp only [Tryz.f29, tt, seval]
 refine fun _ => ⟨by omega, by omega, by omega, ?_⟩
 refine dLoop.intro (fun f L p => ∃ i : Nat, f 4 = vi i ∧ i ≤ a.length ∧ L = [(7, .arr 121 a.length ((a.take i).flatMap SortKey.row ++ (List.replicate (a.length - i) [int 0, int 0, bool false, int 0, int 0, str ByteArray.empty, str ByteArray.empty, str ByteArray.empty, .sl 0 [], .sl 0 [], bool false]).flatten) none)] ∧ p = none) (fun f _ _ => (a.length - ixS (f 4)).toNat) [(7, .arr 121 a.length (List.replicate a.length [int 0, int 0, bool false, int 0, int 0, str ByteArray.empty, str ByteArray.empty, str ByteArray.empty, .sl 0 [], .sl 0 [], bool false]).flatten none)] none ⟨SubO.cons rfl (SubO.nil _), PoSub.none _, ?_⟩ ?_
 ·simp only [tt, seval]
  exact ⟨0, rfl, by omega, by simp⟩
 ·rintro g L p ⟨i, h4, hi, rfl, rfl⟩
  simp only [tt, seval] at h4
  simp only [tt, seval, h4, Int.ofNat_lt]
  refine fun _ => And.intro (fun hlt => ?_) (fun hge => ?_)
  ·have hlt : i < a.length := by omega
   have hts := take_succ_sum szSortKey hlt
   obtain ⟨rst', hr'⟩ := take_sum_le szSortKey a (i + 1)
   refine ⟨by omega, by omega, _, drop_row SortKey.row_len (List.getElem?_eq_getElem hlt), SortKey.ne _ _, ?_⟩
   simp only [tt, seval, h4, SortKey.tk, SortKey.row_len]
   refine call0 (hx a[i] (List.getElem_mem hlt) (by omega)) ?_ ?_ ?_
   ·decide
   ·simp only [tt, seval]
   rintro r rfl
   simp only [tt, seval, h4, SortKey.ds, SortKey.row_len]
   refine ⟨by omega, by omega, by rw [fillLen SortKey.row_len rfl a (by omega)]; omega, ?_⟩
   rw [wrS i (by omega)]
   exact ⟨_, none, SubO.cons rfl (SubO.nil _), PoSub.none _, ⟨i + 1, rfl, by omega, congrArg (fun x => [(7, O.arr 121 a.length x none)]) (fillRow SortKey.row_len rfl hlt), rfl⟩, by simp only [ixS]; omega⟩
  ·have : i = a.length := by omega
   subst this
   rw [fillLast]
   refine ⟨_, [], rfl, endOk ?_⟩
   simp only [tt, seval]
theorem toQuerys_step (a : List Query) (hx : ∀ x ∈ a, szQuery x ≤ 1048576 → Cl Tryz.prog 7 [.ag (csOf x.row)] [] fun r _ => r = .ag (csOf x.row)) (h : szQuerys a ≤ 1048576) : Cl Tryz.prog 126 [.c (.sl a.length (a.flatMap Query.row) none)] [] fun r _ => r = .c (.sl a.length (a.flatMap Query.row) none) := by
 rw [szQuerys_eq] at h
 have hl : a.length ≤ 1048576 := by omega
 refine cl_of_d follows_mixed false Tryz.func126 rfl (by kernel_rfl) ?_
 simp only [Tryz.f126, tt, seval]
 refine fun _ => ⟨by omega, by omega, by omega, ?_⟩
 refine dLoop.intro (fun f L p => ∃ i : Nat, f 4 = vi i ∧ i ≤ a.length ∧ L = [(7, .arr 36 a.length ((a.take i).flatMap Query.row ++ (List.replicate (a.length - i) [bool false, .sl 0 [], .sl 0 [], .sl 0 [], .sl 0 [], int 0]).flatten) none)] ∧ p = none) (fun f _ _ => (a.length - ixS (f 4)).toNat) [(7, .arr 36 a.length (List.replicate a.length [bool false, .sl 0 [], .sl 0 [], .sl 0 [], .sl 0 [], int 0]).flatten none)] none ⟨SubO.cons rfl (SubO.nil _), PoSub.none _, ?_⟩ ?_
 ·simp only [tt, seval]
  exact ⟨0, rfl, by omega, by simp⟩
 ·rintro g L p ⟨i, h4, hi, rfl, rfl⟩
  simp only [tt, seval] at h4
  simp only [tt, seval, h4, Int.ofNat_lt]
  refine fun _ => And.intro (fun hlt => ?_) (fun hge => ?_)
  ·have hlt : i < a.length := by omega
   have hts := take_succ_sum szQuery hlt
   obtain ⟨rst', hr'⟩ := take_sum_le szQuery a (i + 1)
   refine ⟨by omega, by omega, _, drop_row Query.row_len (List.getElem?_eq_getElem hlt), Query.ne _ _, ?_⟩
   simp only [tt, seval, h4, Query.tk, Query.row_len]
   refine call0 (hx a[i] (List.getElem_mem hlt) (by omega)) ?_ ?_ ?_
   ·decide
   ·simp only [tt, seval]
   rintro r rfl
   simp only [tt, seval, h4, Query.ds, Query.row_len]
   refine ⟨by omega, by omega, by rw [fillLen Query.row_len rfl a (by omega)]; omega, ?_⟩
   rw [wrS i (by omega)]
   exact ⟨_, none, SubO.cons rfl (SubO.nil _), PoSub.none _, ⟨i + 1, rfl, by omega, congrArg (fun x => [(7, O.arr 36 a.length x none)]) (fillRow Query.row_len rfl hlt), rfl⟩, by simp only [ixS]; omega⟩
  ·have : i = a.length := by omega
   subst this
   rw [fillLast]
   refine ⟨_, [], rfl, endOk ?_⟩
   simp only [tt, seval]
theorem toExpr_step (kind : Int) (op : Int) (not : Bool) (val : Val) (qual : ByteArray) (name : ByteArray) (kids : List Expr) (sub : List Query) (hkids : szExprs kids ≤ 1048576 → Cl Tryz.prog 28 [.c (.sl kids.length (kids.flatMap Expr.row) none)] [] fun r _ => r = .c (.sl kids.length (kids.flatMap Expr.row) none)) (hsub : szQuerys sub ≤ 1048576 → Cl Tryz.prog 126 [.c (.sl sub.length (sub.flatMap Query.row) none)] [] fun r _ => r = .c (.sl sub.length (sub.flatMap Query.row) none)) (h : szExpr (Expr.mk kind op not val qual name kids sub) ≤ 1048576) : Cl Tryz.prog 70 [.ag (csOf (Expr.mk kind op not val qual name kids sub).row)] [] fun r _ => r = .ag (csOf (Expr.mk kind op not val qual name kids sub).row) := by
 rw [szExpr_mk] at h
 rw [Expr.row_mk]
 refine cl_of_d follows_mixed false Tryz.func70 rfl (by kernel_rfl) ?_
 simp only [Tryz.f70, tt, seval]
 refine call0 (toValue_d val) ?_ ?_ ?_
 ·decide
 ·simp only [tt, seval, Val.row, List.cons_append, List.nil_append]
 rintro r rfl
 simp only [tt, seval, Val.row, List.cons_append, List.nil_append]
 refine call0 (hkids (by omega)) ?_ ?_ ?_
 ·decide
 ·simp only [tt, seval, Val.row, List.cons_append, List.nil_append]
 rintro r rfl
 simp only [tt, seval, Val.row, List.cons_append, List.nil_append]
 refine call0 (hsub (by omega)) ?_ ?_ ?_
 ·decide
 ·simp only [tt, seval, Val.row, List.cons_append, List.nil_append]
 rintro r rfl
 simp only [tt, seval, Val.row, List.cons_append, List.nil_append]
 exact ⟨_, _, rfl, end0 rfl⟩
theorem toItem_step (star : Bool) (qual : ByteArray) (e : Expr) (as_ : ByteArray) (he : szExpr e ≤ 1048576 → Cl Tryz.prog 70 [.ag (csOf e.row)] [] fun r _ => r = .ag (csOf e.row)) (h : szItem (Item.mk star qual e as_) ≤ 1048576) : Cl Tryz.prog 68 [.ag (csOf (Item.mk star qual e as_).row)] [] fun r _ => r = .ag (csOf (Item.mk star qual e as_).row) := by
 rw [szItem_mk] at h
 rw [Item.row_mk]
 obtain ⟨e_kind, e_op, e_not, e_val, e_qual, e_name, e_kids, e_sub⟩ := e
 simp only [Expr.row_mk, List.cons_append, List.nil_append]
 refine cl_of_d follows_mixed false Tryz.func68 rfl (by kernel_rfl) ?_
 simp only [Tryz.f68, tt, seval]
 refine call0 (he (by omega)) ?_ ?_ ?_
 ·decide
 ·simp only [tt, seval, Val.row, List.cons_append, List.nil_append, Expr.row_mk]
 rintro r rfl
 simp only [tt, seval, Val.row, List.cons_append, List.nil_append, Expr.row_mk]
 exact ⟨_, _, rfl, end0 rfl⟩
theorem toSource_step (table : ByteArray) (as_ : ByteArray) (on : List Expr) (hon : szExprs on ≤ 1048576 → Cl Tryz.prog 28 [.c (.sl on.length (on.flatMap Expr.row) none)] [] fun r _ => r = .c (.sl on.length (on.flatMap Expr.row) none)) (h : szSource (Source.mk table as_ on) ≤ 1048576) : Cl Tryz.prog 69 [.ag (csOf (Source.mk table as_ on).row)] [] fun r _ => r = .ag (csOf (Source.mk table as_ on).row) := by
 rw [szSource_mk] at h
 rw [Source.row_mk]
 refine cl_of_d follows_mixed false Tryz.func69 rfl (by kernel_rfl) ?_
 simp only [Tryz.f69, tt, seval]
 refine call0 (hon (by omega)) ?_ ?_ ?_
 ·decide
 ·simp only [tt, seval, Val.row, List.cons_append, List.nil_append]
 rintro r rfl
 simp only [tt, seval, Val.row, List.cons_append, List.nil_append]
 exact ⟨_, _, rfl, end0 rfl⟩
theorem toSortKey_step (e : Expr) (desc : Bool) (he : szExpr e ≤ 1048576 → Cl Tryz.prog 70 [.ag (csOf e.row)] [] fun r _ => r = .ag (csOf e.row)) (h : szSortKey (SortKey.mk e desc) ≤ 1048576) : Cl Tryz.prog 71 [.ag (csOf (SortKey.mk e desc).row)] [] fun r _ => r = .ag (csOf (SortKey.mk e desc).row) := by
 rw [szSortKey_mk] at h
 rw [SortKey.row_mk]
 obtain ⟨e_kind, e_op, e_not, e_val, e_qual, e_name, e_kids, e_sub⟩ := e
 simp only [Expr.row_mk, List.cons_append, List.nil_append]
 refine cl_of_d follows_mixed false Tryz.func71 rfl (by kernel_rfl) ?_
 simp only [Tryz.f71, tt, seval]
 refine call0 (he (by omega)) ?_ ?_ ?_
 ·decide
 ·simp only [tt, seval, Val.row, List.cons_append, List.nil_append, Expr.row_mk]
 rintro r rfl
 simp only [tt, seval, Val.row, List.cons_append, List.nil_append, Expr.row_mk]
 exact ⟨_, _, rfl, end0 rfl⟩
theorem toQuery_step (distinct : Bool) (items : List Item) (from_ : List Source) (where_ : List Expr) (order : List SortKey) (limit : Int) (hitems : szItems items ≤ 1048576 → Cl Tryz.prog 26 [.c (.sl items.length (items.flatMap Item.row) none)] [] fun r _ => r = .c (.sl items.length (items.flatMap Item.row) none)) (hfrom_ : szSources from_ ≤ 1048576 → Cl Tryz.prog 27 [.c (.sl from_.length (from_.flatMap Source.row) none)] [] fun r _ => r = .c (.sl from_.length (from_.flatMap Source.row) none)) (hwhere_ : szExprs where_ ≤ 1048576 → Cl Tryz.prog 28 [.c (.sl where_.length (where_.flatMap Expr.row) none)] [] fun r _ => r = .c (.sl where_.length (where_.flatMap Expr.row) none)) (horder : szSortKeys order ≤ 1048576 → Cl Tryz.prog 29 [.c (.sl order.length (order.flatMap SortKey.row) none)] [] fun r _ => r = .c (.sl order.length (order.flatMap SortKey.row) none)) (h : szQuery (Query.mk distinct items from_ where_ order limit) ≤ 1048576) : Cl Tryz.prog 7 [.ag (csOf (Query.mk distinct items from_ where_ order limit).row)] [] fun r _ => r = .ag (csOf (Query.mk distinct items from_ where_ order limit).row) := by
 rw [szQuery_mk] at h
 rw [Query.row_mk]
 refine cl_of_d follows_mixed false Tryz.func7 rfl (by kernel_rfl) ?_
 simp only [Tryz.f7, tt, seval]
 refine call0 (hitems (by omega)) ?_ ?_ ?_
 ·decide
 ·simp only [tt, seval, Val.row, List.cons_append, List.nil_append]
 rintro r rfl
 simp only [tt, seval, Val.row, List.cons_append, List.nil_append]
 refine call0 (hfrom_ (by omega)) ?_ ?_ ?_
 ·decide
 ·simp only [tt, seval, Val.row, List.cons_append, List.nil_append]
 rintro r rfl
 simp only [tt, seval, Val.row, List.cons_append, List.nil_append]
 refine call0 (hwhere_ (by omega)) ?_ ?_ ?_
 ·decide
 ·simp only [tt, seval, Val.row, List.cons_append, List.nil_append]
 rintro r rfl
 simp only [tt, seval, Val.row, List.cons_append, List.nil_append]
 refine call0 (horder (by omega)) ?_ ?_ ?_
 ·decide
 ·simp only [tt, seval, Val.row, List.cons_append, List.nil_append]
 rintro r rfl
 simp only [tt, seval, Val.row, List.cons_append, List.nil_append]
 exact ⟨_, _, rfl, end0 rfl⟩
theorem toExpr_all : (∀ a : Expr, szExpr a ≤ 1048576 → Cl Tryz.prog 70 [.ag (csOf a.row)] [] fun r _ => r = .ag (csOf a.row)) ∧ (∀ a : Item, szItem a ≤ 1048576 → Cl Tryz.prog 68 [.ag (csOf a.row)] [] fun r _ => r = .ag (csOf a.row)) ∧ (∀ a : Source, szSource a ≤ 1048576 → Cl Tryz.prog 69 [.ag (csOf a.row)] [] fun r _ => r = .ag (csOf a.row)) ∧ (∀ a : SortKey, szSortKey a ≤ 1048576 → Cl Tryz.prog 71 [.ag (csOf a.row)] [] fun r _ => r = .ag (csOf a.row)) ∧ (∀ a : Query, szQuery a ≤ 1048576 → Cl Tryz.prog 7 [.ag (csOf a.row)] [] fun r _ => r = .ag (csOf a.row)) := by
 refine Expr.ind ?_ ?_ ?_ ?_ ?_
 ·intro kind op not val qual name kids sub hkids hsub
  exact toExpr_step _ _ _ _ _ _ _ _ (toExprs_step _ hkids) (toQuerys_step _ hsub)
 ·intro star qual e as_ he
  exact toItem_step _ _ _ _ he
 ·intro table as_ on hon
  exact toSource_step _ _ _ (toExprs_step _ hon)
 ·intro e desc he
  exact toSortKey_step _ _ he
 ·intro distinct items from_ where_ order limit hitems hfrom_ hwhere_ horder
  exact toQuery_step _ _ _ _ _ _ (toItems_step _ hitems) (toSources_step _ hfrom_) (toExprs_step _ hwhere_) (toSortKeys_step _ horder)
theorem toExpr_d (a : Expr) (h : szExpr a ≤ 1048576) : Cl Tryz.prog 70 [.ag (csOf a.row)] [] fun r _ => r = .ag (csOf a.row) := toExpr_all.1 a h
theorem toQuery_d (a : Query) (h : szQuery a ≤ 1048576) : Cl Tryz.prog 7 [.ag (csOf a.row)] [] fun r _ => r = .ag (csOf a.row) := toExpr_all.2.2.2.2 a h
theorem toExprs_d (a : List Expr) (h : szExprs a ≤ 1048576) : Cl Tryz.prog 28 [.c (.sl a.length (a.flatMap Expr.row) none)] [] fun r _ => r = .c (.sl a.length (a.flatMap Expr.row) none) := toExprs_step a (fun x _ => toExpr_d x) h
theorem eqExprs_step (a : List Expr) (hx : ∀ x ∈ a, Cl Tryz.prog 88 [.ag (csOf x.row), .ag (csOf x.row)] [] fun r _ => r = vb true) : Cl Tryz.prog 35 [.c (.sl a.length (a.flatMap Expr.row) none), .c (.sl a.length (a.flatMap Expr.row) none)] [] fun r _ => r = vb true := by
 refine cl_of_d follows_mixed false Tryz.func35 rfl (by kernel_rfl) ?_
 simp only [Tryz.f35, tt, seval]
 refine fun _ _ => ?_
 refine dLoop.intro (fun f L p => ∃ i : Nat, f 5 = vi i ∧ i ≤ a.length ∧ L = [] ∧ p = none) (fun f _ _ => (a.length - ixS (f 5)).toNat) [] none ⟨SubO.nil _, PoSub.none _, ?_⟩ ?_
 ·simp only [tt, seval]
  exact ⟨0, rfl, by omega⟩
 ·rintro g L p ⟨i, h5, hi, rfl, rfl⟩
  simp only [tt, seval] at h5
  simp only [tt, seval, h5, Int.ofNat_lt]
  refine fun _ => And.intro (fun hlt => ?_) (fun hge => ?_)
  ·have hlt : i < a.length := by omega
   refine dDrawn.intro [] (pln [0, 2, 4, 6, 8, 10, 12, 14, 17, 18]) (by kernel_rfl) ?_
   simp only [tt, seval]
   simp only [tt, seval, h5]
   refine ⟨by omega, by omega, _, drop_row Expr.row_len (List.getElem?_eq_getElem hlt), Expr.ne _ _, ?_⟩
   simp only [tt, seval, h5, Expr.tk, Expr.row_len]
   refine ⟨by omega, by omega, _, drop_row Expr.row_len (List.getElem?_eq_getElem hlt), Expr.ne _ _, ?_⟩
   simp only [tt, seval, h5, Expr.tk, Expr.row_len]
   refine call0 (hx a[i] (List.getElem_mem hlt)) ?_ ?_ ?_
   ·decide
   ·simp only [tt, seval]
   rintro r rfl
   simp only [tt, seval, h5]
   rw [wrS i (by omega)]
   exact ⟨[], none, SubO.nil _, PoSub.none _, ⟨i + 1, rfl, by omega, rfl, rfl⟩, by simp only [ixS]; omega⟩
  ·exact ⟨_, _, rfl, end0 rfl⟩
theorem eqItems_step (a : List Item) (hx : ∀ x ∈ a, Cl Tryz.prog 86 [.ag (csOf x.row), .ag (csOf x.row)] [] fun r _ => r = vb true) : Cl Tryz.prog 33 [.c (.sl a.length (a.flatMap Item.row) none), .c (.sl a.length (a.flatMap Item.row) none)] [] fun r _ => r = vb true := by
 refine cl_of_d follows_mixed false Tryz.func33 rfl (by kernel_rfl) ?_
 simp only [Tryz.f33, tt, seval]
 refine fun _ _ => ?_
 refine dLoop.intro (fun f L p => ∃ i : Nat, f 5 = vi i ∧ i ≤ a.length ∧ L = [] ∧ p = none) (fun f _ _ => (a.length - ixS (f 5)).toNat) [] none ⟨SubO.nil _, PoSub.none _, ?_⟩ ?_
 ·simp only [tt, seval]
  exact ⟨0, rfl, by omega⟩
 ·rintro g L p ⟨i, h5, hi, rfl, rfl⟩
  simp only [tt, seval] at h5
  simp only [tt, seval, h5, Int.ofNat_lt]
  refine fun _ => And.intro (fun hlt => ?_) (fun hge => ?_)
  ·have hlt : i < a.length := by omega
   refine dDrawn.intro [] (pln [0, 2, 4, 6, 8, 10, 12, 14, 17, 18]) (by kernel_rfl) ?_
   simp only [tt, seval]
   simp only [tt, seval, h5]
   refine ⟨by omega, by omega, _, drop_row Item.row_len (List.getElem?_eq_getElem hlt), Item.ne _ _, ?_⟩
   simp only [tt, seval, h5, Item.tk, Item.row_len]
   refine ⟨by omega, by omega, _, drop_row Item.row_len (List.getElem?_eq_getElem hlt), Item.ne _ _, ?_⟩
   simp only [tt, seval, h5, Item.tk, Item.row_len]
   refine call0 (hx a[i] (List.getElem_mem hlt)) ?_ ?_ ?_
   ·decide
   ·simp only [tt, seval]
   rintro r rfl
   simp only [tt, seval, h5]
   rw [wrS i (by omega)]
   exact ⟨[], none, SubO.nil _, PoSub.none _, ⟨i + 1, rfl, by omega, rfl, rfl⟩, by simp only [ixS]; omega⟩
  ·exact ⟨_, _, rfl, end0 rfl⟩
theorem eqSources_step (a : List Source) (hx : ∀ x ∈ a, Cl Tryz.prog 87 [.ag (csOf x.row), .ag (csOf x.row)] [] fun r _ => r = vb true) : Cl Tryz.prog 34 [.c (.sl a.length (a.flatMap Source.row) none), .c (.sl a.length (a.flatMap Source.row) none)] [] fun r _ => r = vb true := by
 refine cl_of_d follows_mixed false Tryz.func34 rfl (by kernel_rfl) ?_
 simp only [Tryz.f34, tt, seval]
 refine fun _ _ => ?_
 refine dLoop.intro (fun f L p => ∃ i : Nat, f 5 = vi i ∧ i ≤ a.length ∧ L = [] ∧ p = none) (fun f _ _ => (a.length - ixS (f 5)).toNat) [] none ⟨SubO.nil _, PoSub.none _, ?_⟩ ?_
 ·simp only [tt, seval]
  exact ⟨0, rfl, by omega⟩
 ·rintro g L p ⟨i, h5, hi, rfl, rfl⟩
  simp only [tt, seval] at h5
  simp only [tt, seval, h5, Int.ofNat_lt]
  refine fun _ => And.intro (fun hlt => ?_) (fun hge => ?_)
  ·have hlt : i < a.length := by omega
   refine dDrawn.intro [] (pln [0, 2, 4, 6, 8, 10, 12, 14, 17, 18]) (by kernel_rfl) ?_
   simp only [tt, seval]
   simp only [tt, seval, h5]
   refine ⟨by omega, by omega, _, drop_row Source.row_len (List.getElem?_eq_getElem hlt), Source.ne _ _, ?_⟩
   simp only [tt, seval, h5, Source.tk, Source.row_len]
   refine ⟨by omega, by omega, _, drop_row Source.row_len (List.getElem?_eq_getElem hlt), Source.ne _ _, ?_⟩
   simp only [tt, seval, h5, Source.tk, Source.row_len]
   refine call0 (hx a[i] (List.getElem_mem hlt)) ?_ ?_ ?_
   ·decide
   ·simp only [tt, seval]
   rintro r rfl
   simp only [tt, seval, h5]
   rw [wrS i (by omega)]
   exact ⟨[], none, SubO.nil _, PoSub.none _, ⟨i + 1, rfl, by omega, rfl, rfl⟩, by simp only [ixS]; omega⟩
  ·exact ⟨_, _, rfl, end0 rfl⟩
theorem eqSortKeys_step (a : List SortKey) (hx : ∀ x ∈ a, Cl Tryz.prog 89 [.ag (csOf x.row), .ag (csOf x.row)] [] fun r _ => r = vb true) : Cl Tryz.prog 36 [.c (.sl a.length (a.flatMap SortKey.row) none), .c (.sl a.length (a.flatMap SortKey.row) none)] [] fun r _ => r = vb true := by
 refine cl_of_d follows_mixed false Tryz.func36 rfl (by kernel_rfl) ?_
 simp only [Tryz.f36, tt, seval]
 refine fun _ _ => ?_
 refine dLoop.intro (fun f L p => ∃ i : Nat, f 5 = vi i ∧ i ≤ a.length ∧ L = [] ∧ p = none) (fun f _ _ => (a.length - ixS (f 5)).toNat) [] none ⟨SubO.nil _, PoSub.none _, ?_⟩ ?_
 ·simp only [tt, seval]
  exact ⟨0, rfl, by omega⟩
 ·rintro g L p ⟨i, h5, hi, rfl, rfl⟩
  simp only [tt, seval] at h5
  simp only [tt, seval, h5, Int.ofNat_lt]
  refine fun _ => And.intro (fun hlt => ?_) (fun hge => ?_)
  ·have hlt : i < a.length := by omega
   refine dDrawn.intro [] (pln [0, 2, 4, 6, 8, 10, 12, 14, 17, 18]) (by kernel_rfl) ?_
   simp only [tt, seval]
   simp only [tt, seval, h5]
   refine ⟨by omega, by omega, _, drop_row SortKey.row_len (List.getElem?_eq_getElem hlt), SortKey.ne _ _, ?_⟩
   simp only [tt, seval, h5, SortKey.tk, SortKey.row_len]
   refine ⟨by omega, by omega, _, drop_row SortKey.row_len (List.getElem?_eq_getElem hlt), SortKey.ne _ _, ?_⟩
   simp only [tt, seval, h5, SortKey.tk, SortKey.row_len]
   refine call0 (hx a[i] (List.getElem_mem hlt)) ?_ ?_ ?_
   ·decide
   ·simp only [tt, seval]
   rintro r rfl
   simp only [tt, seval, h5]
   rw [wrS i (by omega)]
   exact ⟨[], none, SubO.nil _, PoSub.none _, ⟨i + 1, rfl, by omega, rfl, rfl⟩, by simp only [ixS]; omega⟩
  ·exact ⟨_, _, rfl, end0 rfl⟩
theorem eqQuerys_step (a : List Query) (hx : ∀ x ∈ a, Cl Tryz.prog 10 [.ag (csOf x.row), .ag (csOf x.row)] [] fun r _ => r = vb true) : Cl Tryz.prog 140 [.c (.sl a.length (a.flatMap Query.row) none), .c (.sl a.length (a.flatMap Query.row) none)] [] fun r _ => r = vb true := by
 refine cl_of_d follows_mixed false Tryz.func140 rfl (by kernel_rfl) ?_
 simp only [Tryz.f140, tt, seval]
 refine fun _ _ => ?_
 refine dLoop.intro (fun f L p => ∃ i : Nat, f 5 = vi i ∧ i ≤ a.length ∧ L = [] ∧ p = none) (fun f _ _ => (a.length - ixS (f 5)).toNat) [] none ⟨SubO.nil _, PoSub.none _, ?_⟩ ?_
 ·simp only [tt, seval]
  exact ⟨0, rfl, by omega⟩
 ·rintro g L p ⟨i, h5, hi, rfl, rfl⟩
  simp only [tt, seval] at h5
  simp only [tt, seval, h5, Int.ofNat_lt]
  refine fun _ => And.intro (fun hlt => ?_) (fun hge => ?_)
  ·have hlt : i < a.length := by omega
   refine dDrawn.intro [] (pln [0, 2, 4, 6, 8, 10, 12, 14, 17, 18]) (by kernel_rfl) ?_
   simp only [tt, seval]
   simp only [tt, seval, h5]
   refine ⟨by omega, by omega, _, drop_row Query.row_len (List.getElem?_eq_getElem hlt), Query.ne _ _, ?_⟩
   simp only [tt, seval, h5, Query.tk, Query.row_len]
   refine ⟨by omega, by omega, _, drop_row Query.row_len (List.getElem?_eq_getElem hlt), Query.ne _ _, ?_⟩
   simp only [tt, seval, h5, Query.tk, Query.row_len]
   refine call0 (hx a[i] (List.getElem_mem hlt)) ?_ ?_ ?_
   ·decide
   ·simp only [tt, seval]
   rintro r rfl
   simp only [tt, seval, h5]
   rw [wrS i (by omega)]
   exact ⟨[], none, SubO.nil _, PoSub.none _, ⟨i + 1, rfl, by omega, rfl, rfl⟩, by simp only [ixS]; omega⟩
  ·exact ⟨_, _, rfl, end0 rfl⟩
theorem eqExpr_step (kind : Int) (op : Int) (not : Bool) (val : Val) (qual : ByteArray) (name : ByteArray) (kids : List Expr) (sub : List Query) (hkids : Cl Tryz.prog 35 [.c (.sl kids.length (kids.flatMap Expr.row) none), .c (.sl kids.length (kids.flatMap Expr.row) none)] [] fun r _ => r = vb true) (hsub : Cl Tryz.prog 140 [.c (.sl sub.length (sub.flatMap Query.row) none), .c (.sl sub.length (sub.flatMap Query.row) none)] [] fun r _ => r = vb true) : Cl Tryz.prog 88 [.ag (csOf (Expr.mk kind op not val qual name kids sub).row), .ag (csOf (Expr.mk kind op not val qual name kids sub).row)] [] fun r _ => r = vb true := by
 rw [Expr.row_mk]
 refine cl_of_d follows_mixed false Tryz.func88 rfl (by kernel_rfl) ?_
 simp only [Tryz.f88, tt, seval]
 refine call0 (eqValue_d val) ?_ ?_ ?_
 ·decide
 ·simp only [tt, seval, Val.row, List.cons_append, List.nil_append]
 rintro r rfl
 simp only [tt, seval, Val.row, List.cons_append, List.nil_append]
 refine call0 (hkids) ?_ ?_ ?_
 ·decide
 ·simp only [tt, seval, Val.row, List.cons_append, List.nil_append]
 rintro r rfl
 simp only [tt, seval, Val.row, List.cons_append, List.nil_append]
 refine call0 (hsub) ?_ ?_ ?_
 ·decide
 ·simp only [tt, seval, Val.row, List.cons_append, List.nil_append]
 rintro r rfl
 simp only [tt, seval, Val.row, List.cons_append, List.nil_append]
 exact ⟨_, _, rfl, end0 rfl⟩
theorem eqItem_step (star : Bool) (qual : ByteArray) (e : Expr) (as_ : ByteArray) (he : Cl Tryz.prog 88 [.ag (csOf e.row), .ag (csOf e.row)] [] fun r _ => r = vb true) : Cl Tryz.prog 86 [.ag (csOf (Item.mk star qual e as_).row), .ag (csOf (Item.mk star qual e as_).row)] [] fun r _ => r = vb true := by
 rw [Item.row_mk]
 obtain ⟨e_kind, e_op, e_not, e_val, e_qual, e_name, e_kids, e_sub⟩ := e
 simp only [Expr.row_mk, List.cons_append, List.nil_append]
 refine cl_of_d follows_mixed false Tryz.func86 rfl (by kernel_rfl) ?_
 simp only [Tryz.f86, tt, seval]
 refine call0 (he) ?_ ?_ ?_
 ·decide
 ·simp only [tt, seval, Val.row, List.cons_append, List.nil_append, Expr.row_mk]
 rintro r rfl
 simp only [tt, seval, Val.row, List.cons_append, List.nil_append, Expr.row_mk]
 exact ⟨_, _, rfl, end0 rfl⟩
theorem eqSource_step (table : ByteArray) (as_ : ByteArray) (on : List Expr) (hon : Cl Tryz.prog 35 [.c (.sl on.length (on.flatMap Expr.row) none), .c (.sl on.length (on.flatMap Expr.row) none)] [] fun r _ => r = vb true) : Cl Tryz.prog 87 [.ag (csOf (Source.mk table as_ on).row), .ag (csOf (Source.mk table as_ on).row)] [] fun r _ => r = vb true := by
 rw [Source.row_mk]
 refine cl_of_d follows_mixed false Tryz.func87 rfl (by kernel_rfl) ?_
 simp only [Tryz.f87, tt, seval]
 refine call0 (hon) ?_ ?_ ?_
 ·decide
 ·simp only [tt, seval, Val.row, List.cons_append, List.nil_append]
 rintro r rfl
 simp only [tt, seval, Val.row, List.cons_append, List.nil_append]
 exact ⟨_, _, rfl, end0 rfl⟩
theorem eqSortKey_step (e : Expr) (desc : Bool) (he : Cl Tryz.prog 88 [.ag (csOf e.row), .ag (csOf e.row)] [] fun r _ => r = vb true) : Cl Tryz.prog 89 [.ag (csOf (SortKey.mk e desc).row), .ag (csOf (SortKey.mk e desc).row)] [] fun r _ => r = vb true := by
 rw [SortKey.row_mk]
 obtain ⟨e_kind, e_op, e_not, e_val, e_qual, e_name, e_kids, e_sub⟩ := e
 simp only [Expr.row_mk, List.cons_append, List.nil_append]
 refine cl_of_d follows_mixed false Tryz.func89 rfl (by kernel_rfl) ?_
 simp only [Tryz.f89, tt, seval]
 refine call0 (he) ?_ ?_ ?_
 ·decide
 ·simp only [tt, seval, Val.row, List.cons_append, List.nil_append, Expr.row_mk]
 rintro r rfl
 simp only [tt, seval, Val.row, List.cons_append, List.nil_append, Expr.row_mk]
 exact ⟨_, _, rfl, end0 rfl⟩
theorem eqQuery_step (distinct : Bool) (items : List Item) (from_ : List Source) (where_ : List Expr) (order : List SortKey) (limit : Int) (hitems : Cl Tryz.prog 33 [.c (.sl items.length (items.flatMap Item.row) none), .c (.sl items.length (items.flatMap Item.row) none)] [] fun r _ => r = vb true) (hfrom_ : Cl Tryz.prog 34 [.c (.sl from_.length (from_.flatMap Source.row) none), .c (.sl from_.length (from_.flatMap Source.row) none)] [] fun r _ => r = vb true) (hwhere_ : Cl Tryz.prog 35 [.c (.sl where_.length (where_.flatMap Expr.row) none), .c (.sl where_.length (where_.flatMap Expr.row) none)] [] fun r _ => r = vb true) (horder : Cl Tryz.prog 36 [.c (.sl order.length (order.flatMap SortKey.row) none), .c (.sl order.length (order.flatMap SortKey.row) none)] [] fun r _ => r = vb true) : Cl Tryz.prog 10 [.ag (csOf (Query.mk distinct items from_ where_ order limit).row), .ag (csOf (Query.mk distinct items from_ where_ order limit).row)] [] fun r _ => r = vb true := by
 rw [Query.row_mk]
 refine cl_of_d follows_mixed false Tryz.func10 rfl (by kernel_rfl) ?_
 simp only [Tryz.f10, tt, seval]
 refine call0 (hitems) ?_ ?_ ?_
 ·decide
 ·simp only [tt, seval, Val.row, List.cons_append, List.nil_append]
 rintro r rfl
 simp only [tt, seval, Val.row, List.cons_append, List.nil_append]
 refine call0 (hfrom_) ?_ ?_ ?_
 ·decide
 ·simp only [tt, seval, Val.row, List.cons_append, List.nil_append]
 rintro r rfl
 simp only [tt, seval, Val.row, List.cons_append, List.nil_append]
 refine call0 (hwhere_) ?_ ?_ ?_
 ·decide
 ·simp only [tt, seval, Val.row, List.cons_append, List.nil_append]
 rintro r rfl
 simp only [tt, seval, Val.row, List.cons_append, List.nil_append]
 refine call0 (horder) ?_ ?_ ?_
 ·decide
 ·simp only [tt, seval, Val.row, List.cons_append, List.nil_append]
 rintro r rfl
 simp only [tt, seval, Val.row, List.cons_append, List.nil_append]
 exact ⟨_, _, rfl, end0 rfl⟩
theorem eqExpr_all : (∀ a : Expr, Cl Tryz.prog 88 [.ag (csOf a.row), .ag (csOf a.row)] [] fun r _ => r = vb true) ∧ (∀ a : Item, Cl Tryz.prog 86 [.ag (csOf a.row), .ag (csOf a.row)] [] fun r _ => r = vb true) ∧ (∀ a : Source, Cl Tryz.prog 87 [.ag (csOf a.row), .ag (csOf a.row)] [] fun r _ => r = vb true) ∧ (∀ a : SortKey, Cl Tryz.prog 89 [.ag (csOf a.row), .ag (csOf a.row)] [] fun r _ => r = vb true) ∧ (∀ a : Query, Cl Tryz.prog 10 [.ag (csOf a.row), .ag (csOf a.row)] [] fun r _ => r = vb true) := by
 refine Expr.ind ?_ ?_ ?_ ?_ ?_
 ·intro kind op not val qual name kids sub hkids hsub
  exact eqExpr_step _ _ _ _ _ _ _ _ (eqExprs_step _ hkids) (eqQuerys_step _ hsub)
 ·intro star qual e as_ he
  exact eqItem_step _ _ _ _ he
 ·intro table as_ on hon
  exact eqSource_step _ _ _ (eqExprs_step _ hon)
 ·intro e desc he
  exact eqSortKey_step _ _ he
 ·intro distinct items from_ where_ order limit hitems hfrom_ hwhere_ horder
  exact eqQuery_step _ _ _ _ _ _ (eqItems_step _ hitems) (eqSources_step _ hfrom_) (eqExprs_step _ hwhere_) (eqSortKeys_step _ horder)
theorem eqExpr_d (a : Expr) : Cl Tryz.prog 88 [.ag (csOf a.row), .ag (csOf a.row)] [] fun r _ => r = vb true := eqExpr_all.1 a
theorem eqQuery_d (a : Query) : Cl Tryz.prog 10 [.ag (csOf a.row), .ag (csOf a.row)] [] fun r _ => r = vb true := eqExpr_all.2.2.2.2 a
theorem eqExprs_d (a : List Expr) : Cl Tryz.prog 35 [.c (.sl a.length (a.flatMap Expr.row) none), .c (.sl a.length (a.flatMap Expr.row) none)] [] fun r _ => r = vb true := eqExprs_step a (fun x _ => eqExpr_d x)
mutual
inductive ERow where
 | mk (l : List Expr)
end
mutual
def ERow.row : ERow → List D
 | .mk l => .sl l.length (l.flatMap Expr.row) :: []
end
theorem ERow.row_mk (l : List Expr) : (ERow.mk l).row = .sl l.length (l.flatMap Expr.row) :: [] := by rw [ERow.row]
theorem ERow.row_len (x : ERow) : x.row.length = 1 := by cases x; simp [ERow.row]
theorem ERow.tk (x : ERow) (r : List D) : takeD 1 (x.row ++ r) = some x.row := takeD_row (ERow.row_len x)
theorem ERow.ne (x : ERow) (r : List D) : x.row ++ r ≠ [] := fun h => by have := congrArg List.length h; simp [ERow.row_len] at this
theorem ERow.ds (x : ERow) : dsOf (csOf x.row) = some (x.row, none) := by obtain ⟨l⟩ := x; rw [ERow.row_mk]; rfl
mutual
def szERow : ERow → Nat
 | .mk l => szExprs l
end
theorem szERow_mk (l : List Expr) : szERow (.mk l) = szExprs l := by rw [szERow]
def szERows (l : List ERow) : Nat := l.length + (l.map szERow).sum
theorem szERows_eq (l : List ERow) : szERows l = l.length + (l.map szERow).sum := rfl
def szTexts (l : List ByteArray) : Nat := l.length + (l.map ByteArray.size).sum
mutual
inductive Stmt where
 | mk (kind : Int) (query : Query) (table : ByteArray) (rows : List ERow) (cols : List ByteArray) (sets : List Expr) (where_ : List Expr)
end
mutual
def Stmt.row : Stmt → List D
 | .mk kind query table rows cols sets where_ => int kind :: (query.row ++ str table :: .sl rows.length (rows.flatMap ERow.row) :: .sl cols.length (cols.flatMap srow) :: .sl sets.length (sets.flatMap Expr.row) :: .sl where_.length (where_.flatMap Expr.row) :: [])
end
theorem Stmt.row_mk (kind : Int) (query : Query) (table : ByteArray) (rows : List ERow) (cols : List ByteArray) (sets : List Expr) (where_ : List Expr) : (Stmt.mk kind query table rows cols sets where_).row = int kind :: (query.row ++ str table :: .sl rows.length (rows.flatMap ERow.row) :: .sl cols.length (cols.flatMap srow) :: .sl sets.length (sets.flatMap Expr.row) :: .sl where_.length (where_.flatMap Expr.row) :: []) := by rw [Stmt.row]
theorem Stmt.row_len (x : Stmt) : x.row.length = 12 := by cases x; simp [Stmt.row, Query.row_len]
mutual
def szStmt : Stmt → Nat
 | .mk kind query table rows cols sets where_ => szQuery query + (table.size + (szERows rows + (szTexts cols + (szExprs sets + (szExprs where_)))))
end
theorem szStmt_mk (kind : Int) (query : Query) (table : ByteArray) (rows : List ERow) (cols : List ByteArray) (sets : List Expr) (where_ : List Expr) : szStmt (.mk kind query table rows cols sets where_) = szQuery query + (table.size + (szERows rows + (szTexts cols + (szExprs sets + (szExprs where_))))) := by rw [szStmt]
def ERow.l : ERow → List Expr | .mk l => l
theorem erowE (x : ERow) : x.row = [.sl x.l.length (x.l.flatMap Expr.row)] := by obtain ⟨l⟩ := x; rw [ERow.row_mk]; rfl
theorem szERow_eq (x : ERow) : szERow x = szExprs x.l := by obtain ⟨l⟩ := x; rw [szERow_mk]; rfl
theorem szERow_d (x : ERow) (l : Int) (h0 : 0 ≤ l) (h1 : l ≤ 1048576) : Cl Tryz.prog 22 [.c (.sl (x).l.length ((x).l.flatMap Expr.row) none), vi l] [] fun r _ => r = vi (subL l (szERow x)) := by rw [szERow_eq]; exact szExprs_d x.l l h0 h1
theorem toERow_d (x : ERow) (h : szERow x ≤ 1048576) : Cl Tryz.prog 28 [.c (.sl (x).l.length ((x).l.flatMap Expr.row) none)] [] fun r _ => r = .c (.sl (x).l.length ((x).l.flatMap Expr.row) none) := toExprs_d x.l (by rw [← szERow_eq]; exact h)
theorem eqERow_d (x : ERow) : Cl Tryz.prog 35 [.c (.sl (x).l.length ((x).l.flatMap Expr.row) none), .c (.sl (x).l.length ((x).l.flatMap Expr.row) none)] [] fun r _ => r = vb true := eqExprs_d x.l
theorem szERows_step (a : List ERow) (hx : ∀ x ∈ a, ∀ l : Int, 0 ≤ l → l ≤ 1048576 → Cl Tryz.prog 22 [.c (.sl (x).l.length ((x).l.flatMap Expr.row) none), vi l] [] fun r _ => r = vi (subL l (szERow x))) (l : Int) (h0 : 0 ≤ l) (h1 : l ≤ 1048576) : Cl Tryz.prog 42 [.c (.sl a.length (a.flatMap ERow.row) none), vi l] [] fun r _ => r = vi (subL l (szERows a)) := by
 rw [szERows_eq]
 refine cl_of_d follows_mixed false Tryz.func42 rfl (by kernel_rfl) ?_
 simp only [Tryz.f42, tt, seval]
 refine fun hs => ?_
 rw [wrap_id (n := l - a.length) (by omega) (by omega)]
 obtain ⟨tot, htot⟩ : ∃ tot, tot = (a.map szERow).sum := ⟨_, rfl⟩
 refine And.intro (fun h => ?_) (fun h => ?_)
 ·exact ⟨_, _, by rw [subL_gt (by omega)], end0 rfl⟩
 ·refine dLoop.intro (fun f L p => ∃ i : Nat, f 5 = vi i ∧ i ≤ a.length ∧ f 1 = vi (l - a.length - ((a.take i).map szERow).sum) ∧ 0 ≤ l - a.length - (((a.take i).map szERow).sum : Nat) ∧ L = [] ∧ p = none) (fun f _ _ => (a.length - ixS (f 5)).toNat) [] none ⟨SubO.nil _, PoSub.none _, ?_⟩ ?_
  ·simp only [tt, seval]
   exact ⟨0, rfl, by omega, by simp, by simp; omega⟩
  ·rintro g L p ⟨i, h5, hi, h1', hp, rfl, rfl⟩
   simp only [tt, seval] at h5 h1'
   obtain ⟨rst, hr⟩ := take_sum_le szERow a i
   simp only [tt, seval, h5, h1', Int.ofNat_lt]
   refine fun _ => And.intro (fun hlt => ?_) (fun hge => ?_)
   ·have hlt : i < a.length := by omega
    refine ⟨by omega, by omega, _, drop_row ERow.row_len (List.getElem?_eq_getElem hlt), ERow.ne _ _, ?_⟩
    have hts := take_succ_sum szERow hlt
    obtain ⟨rst', hr'⟩ := take_sum_le szERow a (i + 1)
    simp only [tt, seval, h5, h1', ERow.tk, ERow.row_len, erowE]
    refine call0 (hx a[i] (List.getElem_mem hlt) _ hp (by omega)) ?_ ?_ ?_
    ·decide
    ·simp only [tt, seval]
    rintro r rfl
    simp only [tt, seval, h5, h1']
    refine And.intro (fun hneg => ?_) (fun hpos => ?_)
    ·refine ⟨_, _, ?_, end0 rfl⟩
     rw [subL_gt]
     have : ¬ ((szERow a[i] : Int) ≤ l - a.length - ((a.take i).map szERow).sum) := fun h => by rw [subL_le h] at hneg; omega
     omega
    ·have hle : ((szERow a[i] : Int) ≤ l - a.length - ((a.take i).map szERow).sum) := Int.not_lt.1 fun h => by rw [subL_gt h] at hpos; omega
     rw [subL_le hle, wrap_id (n := (i : Int) + 1) (by omega) (by omega)]
     exact ⟨[], none, SubO.nil _, PoSub.none _, ⟨i + 1, by simp, by omega, viE (by rw [hts]; omega), by rw [hts]; omega, rfl, rfl⟩, by simp only [ixS]; omega⟩
   ·have : i = a.length := by omega
    subst this
    refine ⟨_, _, ?_, end0 rfl⟩
    rw [List.take_length] at hp
    rw [List.take_length, subL_le (by omega)]
    exact viE (by omega)
theorem szERows_d (a : List ERow) (l : Int) (h0 : 0 ≤ l) (h1 : l ≤ 1048576) : Cl Tryz.prog 42 [.c (.sl a.length (a.flatMap ERow.row) none), vi l] [] fun r _ => r = vi (subL l (szERows a)) := szERows_step a (fun x _ => szERow_d x) l h0 h1
theorem toERows_step (a : List ERow) (hx : ∀ x ∈ a, szERow x ≤ 1048576 → Cl Tryz.prog 28 [.c (.sl (x).l.length ((x).l.flatMap Expr.row) none)] [] fun r _ => r = .c (.sl (x).l.length ((x).l.flatMap Expr.row) none)) (h : szERows a ≤ 1048576) : Cl Tryz.prog 46 [.c (.sl a.length (a.flatMap ERow.row) none)] [] fun r _ => r = .c (.sl a.length (a.flatMap ERow.row) none) := by
 rw [szERows_eq] at h
 have hl : a.length ≤ 1048576 := by omega
 refine cl_of_d follows_mixed false Tryz.func46 rfl (by kernel_rfl) ?_
 simp only [Tryz.f46, tt, seval]
 refine fun _ => ⟨by omega, by omega, by omega, ?_⟩
 refine dLoop.intro (fun f L p => ∃ i : Nat, f 4 = vi i ∧ i ≤ a.length ∧ L = [(7, .arr 33 a.length ((a.take i).flatMap ERow.row ++ (List.replicate (a.length - i) [.sl 0 []]).flatten) none)] ∧ p = none) (fun f _ _ => (a.length - ixS (f 4)).toNat) [(7, .arr 33 a.length (List.replicate a.length [.sl 0 []]).flatten none)] none ⟨SubO.cons rfl (SubO.nil _), PoSub.none _, ?_⟩ ?_
 ·simp only [tt, seval]
  exact ⟨0, rfl, by omega, by simp⟩
 ·rintro g L p ⟨i, h4, hi, rfl, rfl⟩
  simp only [tt, seval] at h4
  simp only [tt, seval, h4, Int.ofNat_lt]
  refine fun _ => And.intro (fun hlt => ?_) (fun hge => ?_)
  ·have hlt : i < a.length := by omega
   have hts := take_succ_sum szERow hlt
   obtain ⟨rst', hr'⟩ := take_sum_le szERow a (i + 1)
   refine ⟨by omega, by omega, _, drop_row ERow.row_len (List.getElem?_eq_getElem hlt), ERow.ne _ _, ?_⟩
   simp only [tt, seval, h4, ERow.tk, ERow.row_len, erowE]
   refine call0 (hx a[i] (List.getElem_mem hlt) (by omega)) ?_ ?_ ?_
   ·decide
   ·simp only [tt, seval]
   rintro r rfl
   simp only [tt, seval, h4, ERow.ds, ERow.row_len, erowE]
   refine ⟨by omega, by omega, by rw [fillLen ERow.row_len rfl a (by omega)]; omega, ?_⟩
   rw [wrS i (by omega)]
   exact ⟨_, none, SubO.cons rfl (SubO.nil _), PoSub.none _, ⟨i + 1, rfl, by omega, congrArg (fun x => [(7, O.arr 33 a.length x none)]) (fillRow ERow.row_len rfl hlt), rfl⟩, by simp only [ixS]; omega⟩
  ·have : i = a.length := by omega
   subst this
   rw [fillLast]
   refine ⟨_, [], rfl, endOk ?_⟩
   simp only [tt, seval]
theorem toERows_d (a : List ERow) (h : szERows a ≤ 1048576) : Cl Tryz.prog 46 [.c (.sl a.length (a.flatMap ERow.row) none)] [] fun r _ => r = .c (.sl a.length (a.flatMap ERow.row) none) := toERows_step a (fun x _ => toERow_d x) h
theorem eqERows_step (a : List ERow) (hx : ∀ x ∈ a, Cl Tryz.prog 35 [.c (.sl (x).l.length ((x).l.flatMap Expr.row) none), .c (.sl (x).l.length ((x).l.flatMap Expr.row) none)] [] fun r _ => r = vb true) : Cl Tryz.prog 50 [.c (.sl a.length (a.flatMap ERow.row) none), .c (.sl a.length (a.flatMap ERow.row) none)] [] fun r _ => r = vb true := by
 refine cl_of_d follows_mixed false Tryz.func50 rfl (by kernel_rfl) ?_
 simp only [Tryz.f50, tt, seval]
 refine fun _ _ => ?_
 refine dLoop.intro (fun f L p => ∃ i : Nat, f 5 = vi i ∧ i ≤ a.length ∧ L = [] ∧ p = none) (fun f _ _ => (a.length - ixS (f 5)).toNat) [] none ⟨SubO.nil _, PoSub.none _, ?_⟩ ?_
 ·simp only [tt, seval]
  exact ⟨0, rfl, by omega⟩
 ·rintro g L p ⟨i, h5, hi, rfl, rfl⟩
  simp only [tt, seval] at h5
  simp only [tt, seval, h5, Int.ofNat_lt]
  refine fun _ => And.intro (fun hlt => ?_) (fun hge => ?_)
  ·have hlt : i < a.length := by omega
   refine dDrawn.intro [] (pln [0, 2, 4, 6, 8, 10, 12, 14, 17, 18]) (by kernel_rfl) ?_
   simp only [tt, seval]
   simp only [tt, seval, h5]
   refine ⟨by omega, by omega, _, drop_row ERow.row_len (List.getElem?_eq_getElem hlt), ERow.ne _ _, ?_⟩
   simp only [tt, seval, h5, ERow.tk, ERow.row_len, erowE]
   refine ⟨by omega, by omega, _, drop_row ERow.row_len (List.getElem?_eq_getElem hlt), ERow.ne _ _, ?_⟩
   simp only [tt, seval, h5, ERow.tk, ERow.row_len, erowE]
   refine call0 (hx a[i] (List.getElem_mem hlt)) ?_ ?_ ?_
   ·decide
   ·simp only [tt, seval]
   rintro r rfl
   simp only [tt, seval, h5]
   rw [wrS i (by omega)]
   exact ⟨[], none, SubO.nil _, PoSub.none _, ⟨i + 1, rfl, by omega, rfl, rfl⟩, by simp only [ixS]; omega⟩
  ·exact ⟨_, _, rfl, end0 rfl⟩
theorem eqERows_d (a : List ERow) : Cl Tryz.prog 50 [.c (.sl a.length (a.flatMap ERow.row) none), .c (.sl a.length (a.flatMap ERow.row) none)] [] fun r _ => r = vb true := eqERows_step a fun x _ => eqERow_d x
theorem sztexts_d (a : List ByteArray) (l : Int) (h0 : 0 ≤ l) (h1 : l ≤ 1048576) : Cl Tryz.prog 43 [.c (.sl a.length (a.flatMap srow) none), vi l] [] fun r _ => r = vi (subL l (szTexts a)) := by
 unfold szTexts
 refine cl_of_d follows_mixed false Tryz.func43 rfl (by kernel_rfl) ?_
 simp only [Tryz.f43, tt, seval]
 refine fun hs => ?_
 rw [wrap_id (n := l - a.length) (by omega) (by omega)]
 refine And.intro (fun h => ?_) (fun h => ?_)
 ·exact ⟨_, _, by rw [subL_gt (by omega)], end0 rfl⟩
 ·refine dLoop.intro (fun f L p => ∃ i : Nat, f 5 = vi i ∧ i ≤ a.length ∧ f 1 = vi (l - a.length - ((a.take i).map ByteArray.size).sum) ∧ 0 ≤ l - a.length - (((a.take i).map ByteArray.size).sum : Nat) ∧ L = [] ∧ p = none) (fun f _ _ => (a.length - ixS (f 5)).toNat) [] none ⟨SubO.nil _, PoSub.none _, ?_⟩ ?_
  ·simp only [tt, seval]
   exact ⟨0, rfl, by omega, by simp, by simp; omega⟩
  ·rintro g L p ⟨i, h5, hi, h1', hp, rfl, rfl⟩
   simp only [tt, seval] at h5 h1'
   obtain ⟨rst, hr⟩ := take_sum_le ByteArray.size a i
   simp only [tt, seval, h5, h1', Int.ofNat_lt]
   refine fun _ => And.intro (fun hlt => ?_) (fun hge => ?_)
   ·have hlt : i < a.length := by omega
    refine ⟨by omega, by omega, _, drop_row srow_len (List.getElem?_eq_getElem hlt), srow_ne _ _, ?_⟩
    have hts := take_succ_sum ByteArray.size hlt
    obtain ⟨rst', hr'⟩ := take_sum_le ByteArray.size a (i + 1)
    simp only [tt, seval, h5, h1', srow_tk, srow]
    refine fun _ => ?_
    rw [wrap_id (n := l - a.length - ((a.take i).map ByteArray.size).sum - a[i].size) (by omega) (by omega)]
    refine And.intro (fun hneg => ?_) (fun hpos => ?_)
    ·refine ⟨_, _, ?_, end0 rfl⟩
     rw [subL_gt]
     omega
    ·rw [wrS i (by omega)]
     exact ⟨[], none, SubO.nil _, PoSub.none _, ⟨i + 1, by simp, by omega, viE (by rw [hts]; omega), by rw [hts]; omega, rfl, rfl⟩, by simp only [ixS]; omega⟩
   ·have : i = a.length := by omega
    subst this
    refine ⟨_, _, ?_, end0 rfl⟩
    rw [List.take_length] at hp
    rw [List.take_length, subL_le (by omega)]
    exact viE (by omega)
theorem totexts_d (a : List ByteArray) (h : szTexts a ≤ 1048576) : Cl Tryz.prog 47 [.c (.sl a.length (a.flatMap srow) none)] [] fun r _ => r = .c (.sl a.length (a.flatMap srow) none) := by
 have hl : a.length ≤ 1048576 := by unfold szTexts at h; omega
 refine cl_of_d follows_mixed false Tryz.func47 rfl (by kernel_rfl) ?_
 simp only [Tryz.f47, tt, seval]
 refine fun _ => ⟨by omega, by omega, by omega, ?_⟩
 refine dLoop.intro (fun f L p => ∃ i : Nat, f 4 = vi i ∧ i ≤ a.length ∧ L = [(7, .arr 9 a.length ((a.take i).flatMap srow ++ (List.replicate (a.length - i) [str ByteArray.empty]).flatten) none)] ∧ p = none) (fun f _ _ => (a.length - ixS (f 4)).toNat) [(7, .arr 9 a.length (List.replicate a.length [str ByteArray.empty]).flatten none)] none ⟨SubO.cons rfl (SubO.nil _), PoSub.none _, ?_⟩ ?_
 ·simp only [tt, seval]
  exact ⟨0, rfl, by omega, by simp⟩
 ·rintro g L p ⟨i, h4, hi, rfl, rfl⟩
  simp only [tt, seval] at h4
  simp only [tt, seval, h4, Int.ofNat_lt]
  refine fun _ => And.intro (fun hlt => ?_) (fun hge => ?_)
  ·have hlt : i < a.length := by omega
   refine ⟨by omega, by omega, _, drop_row srow_len (List.getElem?_eq_getElem hlt), srow_ne _ _, ?_⟩
   simp only [tt, seval, h4, srow_tk, srow]
   refine ⟨by omega, by omega, by rw [fillLen srow_len rfl a (by omega)]; omega, ?_⟩
   rw [wrS i (by omega)]
   exact ⟨_, none, SubO.cons rfl (SubO.nil _), PoSub.none _, ⟨i + 1, rfl, by omega, congrArg (fun x => [(7, O.arr 9 a.length x none)]) (fillRow srow_len rfl hlt), rfl⟩, by simp only [ixS]; omega⟩
  ·have : i = a.length := by omega
   subst this
   rw [fillLast]
   refine ⟨_, [], rfl, endOk ?_⟩
   simp only [tt, seval]
theorem eqtexts_d (a : List ByteArray) : Cl Tryz.prog 51 [.c (.sl a.length (a.flatMap srow) none), .c (.sl a.length (a.flatMap srow) none)] [] fun r _ => r = vb true := by
 refine cl_of_d follows_mixed false Tryz.func51 rfl (by kernel_rfl) ?_
 simp only [Tryz.f51, tt, seval]
 refine fun _ _ => ?_
 refine dLoop.intro (fun f L p => ∃ i : Nat, f 5 = vi i ∧ i ≤ a.length ∧ L = [] ∧ p = none) (fun f _ _ => (a.length - ixS (f 5)).toNat) [] none ⟨SubO.nil _, PoSub.none _, ?_⟩ ?_
 ·simp only [tt, seval]
  exact ⟨0, rfl, by omega⟩
 ·rintro g L p ⟨i, h5, hi, rfl, rfl⟩
  simp only [tt, seval] at h5
  simp only [tt, seval, h5, Int.ofNat_lt]
  refine fun _ => And.intro (fun hlt => ?_) (fun hge => ?_)
  ·have hlt : i < a.length := by omega
   refine dDrawn.intro [] (pln [0, 2, 4, 6, 8, 10, 12, 14, 16]) (by kernel_rfl) ?_
   simp only [tt, seval]
   simp only [tt, seval, h5]
   refine ⟨by omega, by omega, _, drop_row srow_len (List.getElem?_eq_getElem hlt), srow_ne _ _, ?_⟩
   simp only [tt, seval, h5, srow_tk, srow]
   refine ⟨by omega, by omega, _, drop_row srow_len (List.getElem?_eq_getElem hlt), srow_ne _ _, ?_⟩
   simp only [tt, seval, h5, srow_tk, srow]
   try rw [wrS i (by omega)]
   exact ⟨[], none, SubO.nil _, PoSub.none _, ⟨i + 1, rfl, by omega, rfl, rfl⟩, by simp only [ixS]; omega⟩
  ·exact ⟨_, _, rfl, end0 rfl⟩
theorem szStmt_step (kind : Int) (query : Query) (table : ByteArray) (rows : List ERow) (cols : List ByteArray) (sets : List Expr) (where_ : List Expr)  (l : Int) (h0 : 0 ≤ l) (h1 : l ≤ 1048576) : Cl Tryz.prog 14 [.ag (csOf (Stmt.mk kind query table rows cols sets where_).row), vi l] [] fun r _ => r = vi (subL l (szStmt (Stmt.mk kind query table rows cols sets where_))) := by
 rw [szStmt_mk, Stmt.row_mk]
 obtain ⟨query_distinct, query_items, query_from_, query_where_, query_order, query_limit⟩ := query
 simp only [Query.row_mk, List.cons_append, List.nil_append]
 refine cl_of_d follows_mixed false Tryz.func14 rfl (by kernel_rfl) ?_
 simp only [Tryz.f14, tt, seval]
 refine call0 (szQuery_d (Query.mk query_distinct query_items query_from_ query_where_ query_order query_limit) l h0 h1) ?_ ?_ ?_
 ·decide
 ·simp only [tt, seval, Val.row, List.cons_append, List.nil_append, Query.row_mk]
 rintro r rfl
 simp only [tt, seval, Val.row, List.cons_append, List.nil_append, Query.row_mk]
 refine And.intro (fun h => ?_) (fun h => ?_)
 ·exact ⟨_, _, viE (by rw [subL_neg h h0]), end0 rfl⟩
 have hp0 : 0 ≤ subL l (szQuery (Query.mk query_distinct query_items query_from_ query_where_ query_order query_limit)) := by omega
 rw [subL_add hp0]
 have hb0 := subL_bounds (s := szQuery (Query.mk query_distinct query_items query_from_ query_where_ query_order query_limit)) h0
 generalize subL l (szQuery (Query.mk query_distinct query_items query_from_ query_where_ query_order query_limit)) = l0 at *
 refine fun hs1 => ?_
 rw [wrap_id (n := l0 - table.size) (by omega) (by omega)]
 refine And.intro (fun h => ?_) (fun h => ?_)
 ·exact ⟨_, _, viE (by rw [subL_neg (by rw [subL_gt (by omega)]; decide) hp0]), end0 rfl⟩
 rw [show (l0 - table.size : Int) = subL l0 table.size from (subL_le (by omega)).symm] at *
 have hp1 : 0 ≤ subL l0 (table.size) := by omega
 rw [subL_add hp1]
 have hb1 := subL_bounds (s := table.size) hp0
 generalize subL l0 (table.size) = l1 at *
 refine call0 (szERows_d rows l1 hp1 (by omega)) ?_ ?_ ?_
 ·decide
 ·simp only [tt, seval, Val.row, List.cons_append, List.nil_append, Query.row_mk]
 rintro r rfl
 simp only [tt, seval, Val.row, List.cons_append, List.nil_append, Query.row_mk]
 refine And.intro (fun h => ?_) (fun h => ?_)
 ·exact ⟨_, _, viE (by rw [subL_neg h hp1]), end0 rfl⟩
 have hp2 : 0 ≤ subL l1 (szERows rows) := by omega
 rw [subL_add hp2]
 have hb2 := subL_bounds (s := szERows rows) hp1
 generalize subL l1 (szERows rows) = l2 at *
 refine call0 (sztexts_d cols l2 hp2 (by omega)) ?_ ?_ ?_
 ·decide
 ·simp only [tt, seval, Val.row, List.cons_append, List.nil_append, Query.row_mk]
 rintro r rfl
 simp only [tt, seval, Val.row, List.cons_append, List.nil_append, Query.row_mk]
 refine And.intro (fun h => ?_) (fun h => ?_)
 ·exact ⟨_, _, viE (by rw [subL_neg h hp2]), end0 rfl⟩
 have hp3 : 0 ≤ subL l2 (szTexts cols) := by omega
 rw [subL_add hp3]
 have hb3 := subL_bounds (s := szTexts cols) hp2
 generalize subL l2 (szTexts cols) = l3 at *
 refine call0 (szExprs_d sets l3 hp3 (by omega)) ?_ ?_ ?_
 ·decide
 ·simp only [tt, seval, Val.row, List.cons_append, List.nil_append, Query.row_mk]
 rintro r rfl
 simp only [tt, seval, Val.row, List.cons_append, List.nil_append, Query.row_mk]
 refine And.intro (fun h => ?_) (fun h => ?_)
 ·exact ⟨_, _, viE (by rw [subL_neg h hp3]), end0 rfl⟩
 have hp4 : 0 ≤ subL l3 (szExprs sets) := by omega
 rw [subL_add hp4]
 have hb4 := subL_bounds (s := szExprs sets) hp3
 generalize subL l3 (szExprs sets) = l4 at *
 refine call0 (szExprs_d where_ l4 hp4 (by omega)) ?_ ?_ ?_
 ·decide
 ·simp only [tt, seval, Val.row, List.cons_append, List.nil_append, Query.row_mk]
 rintro r rfl
 simp only [tt, seval, Val.row, List.cons_append, List.nil_append, Query.row_mk]
 refine And.intro (fun h => ?_) (fun h => ?_)
 ·exact ⟨_, _, viE (by have := subL_bounds (s := szExprs where_) hp4; omega), end0 rfl⟩
 exact ⟨_, _, rfl, end0 rfl⟩
theorem toStmt_step (kind : Int) (query : Query) (table : ByteArray) (rows : List ERow) (cols : List ByteArray) (sets : List Expr) (where_ : List Expr)  (h : szStmt (Stmt.mk kind query table rows cols sets where_) ≤ 1048576) : Cl Tryz.prog 16 [.ag (csOf (Stmt.mk kind query table rows cols sets where_).row)] [] fun r _ => r = .ag (csOf (Stmt.mk kind query table rows cols sets where_).row) := by
 rw [szStmt_mk] at h
 rw [Stmt.row_mk]
 obtain ⟨query_distinct, query_items, query_from_, query_where_, query_order, query_limit⟩ := query
 simp only [Query.row_mk, List.cons_append, List.nil_append]
 refine cl_of_d follows_mixed false Tryz.func16 rfl (by kernel_rfl) ?_
 simp only [Tryz.f16, tt, seval]
 refine call0 (toQuery_d (Query.mk query_distinct query_items query_from_ query_where_ query_order query_limit) (by omega)) ?_ ?_ ?_
 ·decide
 ·simp only [tt, seval, Val.row, List.cons_append, List.nil_append, Query.row_mk]
 rintro r rfl
 simp only [tt, seval, Val.row, List.cons_append, List.nil_append, Query.row_mk]
 refine call0 (toERows_d rows (by omega)) ?_ ?_ ?_
 ·decide
 ·simp only [tt, seval, Val.row, List.cons_append, List.nil_append, Query.row_mk]
 rintro r rfl
 simp only [tt, seval, Val.row, List.cons_append, List.nil_append, Query.row_mk]
 refine call0 (totexts_d cols (by omega)) ?_ ?_ ?_
 ·decide
 ·simp only [tt, seval, Val.row, List.cons_append, List.nil_append, Query.row_mk]
 rintro r rfl
 simp only [tt, seval, Val.row, List.cons_append, List.nil_append, Query.row_mk]
 refine call0 (toExprs_d sets (by omega)) ?_ ?_ ?_
 ·decide
 ·simp only [tt, seval, Val.row, List.cons_append, List.nil_append, Query.row_mk]
 rintro r rfl
 simp only [tt, seval, Val.row, List.cons_append, List.nil_append, Query.row_mk]
 refine call0 (toExprs_d where_ (by omega)) ?_ ?_ ?_
 ·decide
 ·simp only [tt, seval, Val.row, List.cons_append, List.nil_append, Query.row_mk]
 rintro r rfl
 simp only [tt, seval, Val.row, List.cons_append, List.nil_append, Query.row_mk]
 exact ⟨_, _, rfl, end0 rfl⟩
theorem eqStmt_step (kind : Int) (query : Query) (table : ByteArray) (rows : List ERow) (cols : List ByteArray) (sets : List Expr) (where_ : List Expr)  : Cl Tryz.prog 18 [.ag (csOf (Stmt.mk kind query table rows cols sets where_).row), .ag (csOf (Stmt.mk kind query table rows cols sets where_).row)] [] fun r _ => r = vb true := by
 rw [Stmt.row_mk]
 obtain ⟨query_distinct, query_items, query_from_, query_where_, query_order, query_limit⟩ := query
 simp only [Query.row_mk, List.cons_append, List.nil_append]
 refine cl_of_d follows_mixed false Tryz.func18 rfl (by kernel_rfl) ?_
 simp only [Tryz.f18, tt, seval]
 refine call0 (eqQuery_d (Query.mk query_distinct query_items query_from_ query_where_ query_order query_limit)) ?_ ?_ ?_
 ·decide
 ·simp only [tt, seval, Val.row, List.cons_append, List.nil_append, Query.row_mk]
 rintro r rfl
 simp only [tt, seval, Val.row, List.cons_append, List.nil_append, Query.row_mk]
 refine call0 (eqERows_d rows) ?_ ?_ ?_
 ·decide
 ·simp only [tt, seval, Val.row, List.cons_append, List.nil_append, Query.row_mk]
 rintro r rfl
 simp only [tt, seval, Val.row, List.cons_append, List.nil_append, Query.row_mk]
 refine call0 (eqtexts_d cols) ?_ ?_ ?_
 ·decide
 ·simp only [tt, seval, Val.row, List.cons_append, List.nil_append, Query.row_mk]
 rintro r rfl
 simp only [tt, seval, Val.row, List.cons_append, List.nil_append, Query.row_mk]
 refine call0 (eqExprs_d sets) ?_ ?_ ?_
 ·decide
 ·simp only [tt, seval, Val.row, List.cons_append, List.nil_append, Query.row_mk]
 rintro r rfl
 simp only [tt, seval, Val.row, List.cons_append, List.nil_append, Query.row_mk]
 refine call0 (eqExprs_d where_) ?_ ?_ ?_
 ·decide
 ·simp only [tt, seval, Val.row, List.cons_append, List.nil_append, Query.row_mk]
 rintro r rfl
 simp only [tt, seval, Val.row, List.cons_append, List.nil_append, Query.row_mk]
 exact ⟨_, _, rfl, end0 rfl⟩
end Go.Proofs.YthhkmmcgjnecbaaGreatDoor
