/-
  Trees compared.
  Conditions: none.
-/
import Derived.Test.YtoegnikpokgbfaaGreatDoorETF1
set_option linter.unusedVariables false
set_option linter.unusedSimpArgs false
set_option linter.unusedSectionVars false
set_option maxRecDepth 8000
namespace Go.Proofs.YtoegnikpokgbfaaGreatDoor
open Go Go.Dv
open Go.Vc (D shrI xorI andI)
def allQ : Query → List Expr | .mk _ items from_ where_ order _ => items.map Item.e ++ from_.flatMap Source.on ++ where_ ++ order.map SortKey.e
theorem allQ_lt {q : Query} {x : Expr} (h : x ∈ allQ q) : SizeOf.sizeOf x < SizeOf.sizeOf q := by
 obtain ⟨d, it, fr, wh, od, li⟩ := q
 rw [Query.mk.sizeOf_spec]
 simp only [allQ, List.mem_append] at h
 rcases h with ((h | h) | h) | h
 ·obtain ⟨⟨s, q, e, a⟩, hm, rfl⟩ := List.mem_map.1 h
  have h1 := List.sizeOf_lt_of_mem hm
  rw [Item.mk.sizeOf_spec] at h1
  show SizeOf.sizeOf e < _
  omega
 ·obtain ⟨⟨t, a, on⟩, hm, hx⟩ := List.mem_flatMap.1 h
  have h1 := List.sizeOf_lt_of_mem hm
  have h2 := List.sizeOf_lt_of_mem (show x ∈ on from hx)
  rw [Source.mk.sizeOf_spec] at h1
  omega
 ·have := List.sizeOf_lt_of_mem h; omega
 ·obtain ⟨⟨e, d⟩, hm, rfl⟩ := List.mem_map.1 h
  have h1 := List.sizeOf_lt_of_mem hm
  rw [SortKey.mk.sizeOf_spec] at h1
  show SizeOf.sizeOf e < _
  omega
theorem bneq {a b : Bool} (h : ¬ a = b) : (a == b) = false := by cases a <;> cases b <;> simp_all
def eqV (v u : Val) : Bool := decide (v.kind = u.kind) && (decide (v.num = u.num) && decide (v.text = u.text))
theorem eqV_iff {v u : Val} : eqV v u = true ↔ v = u := by
 obtain ⟨a, b, c⟩ := v
 obtain ⟨a2, b2, c2⟩ := u
 simp only [eqV, Bool.and_eq_true, decide_eq_true_eq, Val.mk.injEq]
theorem eqValG (v u : Val) (w : World) : (Op.equalIn 10000 25 (.agg [.int .i64 v.kind, .int .i64 v.num, .string v.text].toArray) (.agg [.int .i64 u.kind, .int .i64 u.num, .string u.text].toArray)).run Tryz.prog w = .ok (eqV v u) w := by
 refine Go.Vc.equalIn_fk (ks := [(0, .int), (1, .int), (2, .str)]) (by kernel_rfl) (by kernel_rfl) (by kernel_rfl) ?_ w
 obtain ⟨a, b, c⟩ := v
 obtain ⟨a2, b2, c2⟩ := u
 simp only [Go.Vc.eqFK, List.getElem?_cons_zero, List.getElem?_cons_succ, eqV]
 by_cases h1 : a = a2 <;> by_cases h2 : b = b2 <;> by_cases h3 : c = c2 <;> simp [h1, h2, h3]
theorem iEqGExpr (xs bs : List Expr) (h : ∀ x, x ∈ xs → ∀ y, y ∈ bs → Cl Tryz.prog 55 [.ag (csOf x.row), .ag (csOf y.row)] [] fun r _ => ∃ t : Bool, r = vb t ∧ (t = true ↔ x = y)) : Cl Tryz.prog 176 [.c (.sl xs.length (xs.flatMap Expr.row) none), .c (.sl bs.length (bs.flatMap Expr.row) none), .c (.fn 55 [] [])] [] fun r _ => ∃ t : Bool, r = vb t ∧ (t = true ↔ xs = bs) := by
 refine cl_of_d follows_mixed false Tryz.func176 rfl (by kernel_rfl) ?_
 simp only [Tryz.f176, tt, seval]
 refine fun _ _ => And.intro (fun hab => ?_) (fun hab => ?_)
 ·have hab' : ¬ xs.length = bs.length := by simpa [Int.ofNat_inj] using hab
  exact ⟨_, _, ⟨false, rfl, by simp; intro e; exact hab' (by rw [e])⟩, end0 rfl⟩
 have hab : xs.length = bs.length := by simpa [Int.ofNat_inj] using hab
 refine fun _ => ?_
 refine dLoop.intro (fun f L p => ∃ i : Nat, f 17 = vi i ∧ i ≤ xs.length ∧ (∀ j (hj : j < xs.length) (hk : j < bs.length), j < i → xs[j] = bs[j]) ∧ L = [] ∧ p = none) (fun f _ _ => (xs.length - ixS (f 17)).toNat) [] none ⟨SubO.nil _, PoSub.none _, ?_⟩ ?_
 ·simp only [tt, seval]
  exact ⟨0, rfl, Nat.zero_le _, fun j _ _ h => absurd h (Nat.not_lt_zero _)⟩
 rintro g L p ⟨i, ix, hi, hal, rfl, rfl⟩
 simp only [tt, seval] at ix
 simp only [tt, seval, ix, Int.ofNat_lt]
 refine And.intro (fun hlt => ?_) (fun hge => ?_)
 ·have hlt : i < xs.length := by omega
  have hlb : i < bs.length := by omega
  have hS := h xs[i] (List.getElem_mem hlt) bs[i] (List.getElem_mem hlb)
  obtain ⟨x, hx⟩ : ∃ x, x = xs[i] := ⟨_, rfl⟩
  obtain ⟨y, hy⟩ : ∃ y, y = bs[i] := ⟨_, rfl⟩
  rw [← hx, ← hy] at hS
  obtain ⟨k, o, nn, v, q, m, ks, ss⟩ := x
  obtain ⟨k', o', nn', v', q', m', ks', ss'⟩ := y
  simp only [Expr.row_mk] at hS
  refine ⟨by omega, by omega, _, drop_row Expr.row_len (List.getElem?_eq_getElem hlt), Expr.ne _ _, ?_⟩
  rw [← hx]
  simp only [tt, seval, Expr.row_mk]
  refine ⟨by omega, by omega, _, drop_row Expr.row_len (List.getElem?_eq_getElem hlb), Expr.ne _ _, ?_⟩
  rw [← hy]
  simp only [tt, seval, Expr.row_mk]
  refine call0 (hS) ?_ ?_ ?_
  ·decide
  ·simp only [tt, seval]
  rintro r ⟨tb, rfl, htb⟩
  simp only [tt, seval, ix]
  rw [hx, hy] at htb
  refine And.intro (fun hb => ?_) (fun hb => ?_)
  ·have hb : tb = false := by simpa only [Bool.not_eq_true'] using hb
   refine ⟨_, _, ⟨false, rfl, ?_⟩, end0 rfl⟩
   simp only [Bool.false_eq_true, false_iff]
   intro e
   have : xs[i] = bs[i] := by simp only [e]
   rw [htb.2 this] at hb; cases hb
  ·have hb : tb = true := by simpa only [Bool.not_eq_false'] using hb
   try rw [wrS i (by omega)]
   exact ⟨_, none, SubO.nil _, PoSub.none _, ⟨i + 1, rfl, by omega, fun j hj hk hji => by
    by_cases e : j = i
    ·subst e; exact htb.1 hb
    ·exact hal j hj hk (by omega), rfl, rfl⟩, by simp only [ixS]; omega⟩
 ·try simp only [tt, seval]
  exact ⟨_, _, ⟨true, rfl, by simp only [true_iff]; exact List.ext_getElem hab fun j h1 h2 => hal j h1 h2 (by omega)⟩, end0 rfl⟩
theorem isameExprsG (xs bs : List Expr) (h : ∀ x, x ∈ xs → ∀ y, y ∈ bs → Cl Tryz.prog 55 [.ag (csOf x.row), .ag (csOf y.row)] [] fun r _ => ∃ t : Bool, r = vb t ∧ (t = true ↔ x = y)) : Cl Tryz.prog 118 [.c (.sl xs.length (xs.flatMap Expr.row) none), .c (.sl bs.length (bs.flatMap Expr.row) none)] [] fun r _ => ∃ t : Bool, r = vb t ∧ (t = true ↔ xs = bs) := by
 refine cl_of_d follows_mixed false Tryz.func118 rfl (by kernel_rfl) ?_
 simp only [Tryz.f118, tt, seval]
 refine call0 (iEqGExpr xs bs h) ?_ ?_ ?_
 ·decide
 ·simp only [tt, seval]
 rintro r ⟨tb, rfl, htb⟩
 simp only [tt, seval]
 exact ⟨_, _, ⟨tb, rfl, htb⟩, end0 rfl⟩
theorem iEqGQuery (xs bs : List Query) (h : ∀ x, x ∈ xs → ∀ y, y ∈ bs → Cl Tryz.prog 120 [.ag (csOf x.row), .ag (csOf y.row)] [] fun r _ => ∃ t : Bool, r = vb t ∧ (t = true ↔ x = y)) : Cl Tryz.prog 119 [.c (.sl xs.length (xs.flatMap Query.row) none), .c (.sl bs.length (bs.flatMap Query.row) none), .c (.fn 120 [] [])] [] fun r _ => ∃ t : Bool, r = vb t ∧ (t = true ↔ xs = bs) := by
 refine cl_of_d follows_mixed false Tryz.func119 rfl (by kernel_rfl) ?_
 simp only [Tryz.f119, tt, seval]
 refine fun _ _ => And.intro (fun hab => ?_) (fun hab => ?_)
 ·have hab' : ¬ xs.length = bs.length := by simpa [Int.ofNat_inj] using hab
  exact ⟨_, _, ⟨false, rfl, by simp; intro e; exact hab' (by rw [e])⟩, end0 rfl⟩
 have hab : xs.length = bs.length := by simpa [Int.ofNat_inj] using hab
 refine fun _ => ?_
 refine dLoop.intro (fun f L p => ∃ i : Nat, f 17 = vi i ∧ i ≤ xs.length ∧ (∀ j (hj : j < xs.length) (hk : j < bs.length), j < i → xs[j] = bs[j]) ∧ L = [] ∧ p = none) (fun f _ _ => (xs.length - ixS (f 17)).toNat) [] none ⟨SubO.nil _, PoSub.none _, ?_⟩ ?_
 ·simp only [tt, seval]
  exact ⟨0, rfl, Nat.zero_le _, fun j _ _ h => absurd h (Nat.not_lt_zero _)⟩
 rintro g L p ⟨i, ix, hi, hal, rfl, rfl⟩
 simp only [tt, seval] at ix
 simp only [tt, seval, ix, Int.ofNat_lt]
 refine And.intro (fun hlt => ?_) (fun hge => ?_)
 ·have hlt : i < xs.length := by omega
  have hlb : i < bs.length := by omega
  have hS := h xs[i] (List.getElem_mem hlt) bs[i] (List.getElem_mem hlb)
  obtain ⟨x, hx⟩ : ∃ x, x = xs[i] := ⟨_, rfl⟩
  obtain ⟨y, hy⟩ : ∃ y, y = bs[i] := ⟨_, rfl⟩
  rw [← hx, ← hy] at hS
  obtain ⟨d, it, fr, wh, od, li⟩ := x
  obtain ⟨d', it', fr', wh', od', li'⟩ := y
  simp only [Query.row_mk] at hS
  refine ⟨by omega, by omega, _, drop_row Query.row_len (List.getElem?_eq_getElem hlt), Query.ne _ _, ?_⟩
  rw [← hx]
  simp only [tt, seval, Query.row_mk]
  refine ⟨by omega, by omega, _, drop_row Query.row_len (List.getElem?_eq_getElem hlb), Query.ne _ _, ?_⟩
  rw [← hy]
  simp only [tt, seval, Query.row_mk]
  refine call0 (hS) ?_ ?_ ?_
  ·decide
  ·simp only [tt, seval]
  rintro r ⟨tb, rfl, htb⟩
  simp only [tt, seval, ix]
  rw [hx, hy] at htb
  refine And.intro (fun hb => ?_) (fun hb => ?_)
  ·have hb : tb = false := by simpa only [Bool.not_eq_true'] using hb
   refine ⟨_, _, ⟨false, rfl, ?_⟩, end0 rfl⟩
   simp only [Bool.false_eq_true, false_iff]
   intro e
   have : xs[i] = bs[i] := by simp only [e]
   rw [htb.2 this] at hb; cases hb
  ·have hb : tb = true := by simpa only [Bool.not_eq_false'] using hb
   try rw [wrS i (by omega)]
   exact ⟨_, none, SubO.nil _, PoSub.none _, ⟨i + 1, rfl, by omega, fun j hj hk hji => by
    by_cases e : j = i
    ·subst e; exact htb.1 hb
    ·exact hal j hj hk (by omega), rfl, rfl⟩, by simp only [ixS]; omega⟩
 ·try simp only [tt, seval]
  exact ⟨_, _, ⟨true, rfl, by simp only [true_iff]; exact List.ext_getElem hab fun j h1 h2 => hal j h1 h2 (by omega)⟩, end0 rfl⟩
theorem iEqGItem (xs bs : List Item) (h : ∀ x, x ∈ xs → ∀ y, y ∈ bs → Cl Tryz.prog 177 [.ag (csOf x.row), .ag (csOf y.row)] [] fun r _ => ∃ t : Bool, r = vb t ∧ (t = true ↔ x = y)) : Cl Tryz.prog 180 [.c (.sl xs.length (xs.flatMap Item.row) none), .c (.sl bs.length (bs.flatMap Item.row) none), .c (.fn 177 [] [])] [] fun r _ => ∃ t : Bool, r = vb t ∧ (t = true ↔ xs = bs) := by
 refine cl_of_d follows_mixed false Tryz.func180 rfl (by kernel_rfl) ?_
 simp only [Tryz.f180, tt, seval]
 refine fun _ _ => And.intro (fun hab => ?_) (fun hab => ?_)
 ·have hab' : ¬ xs.length = bs.length := by simpa [Int.ofNat_inj] using hab
  exact ⟨_, _, ⟨false, rfl, by simp; intro e; exact hab' (by rw [e])⟩, end0 rfl⟩
 have hab : xs.length = bs.length := by simpa [Int.ofNat_inj] using hab
 refine fun _ => ?_
 refine dLoop.intro (fun f L p => ∃ i : Nat, f 17 = vi i ∧ i ≤ xs.length ∧ (∀ j (hj : j < xs.length) (hk : j < bs.length), j < i → xs[j] = bs[j]) ∧ L = [] ∧ p = none) (fun f _ _ => (xs.length - ixS (f 17)).toNat) [] none ⟨SubO.nil _, PoSub.none _, ?_⟩ ?_
 ·simp only [tt, seval]
  exact ⟨0, rfl, Nat.zero_le _, fun j _ _ h => absurd h (Nat.not_lt_zero _)⟩
 rintro g L p ⟨i, ix, hi, hal, rfl, rfl⟩
 simp only [tt, seval] at ix
 simp only [tt, seval, ix, Int.ofNat_lt]
 refine And.intro (fun hlt => ?_) (fun hge => ?_)
 ·have hlt : i < xs.length := by omega
  have hlb : i < bs.length := by omega
  have hS := h xs[i] (List.getElem_mem hlt) bs[i] (List.getElem_mem hlb)
  obtain ⟨x, hx⟩ : ∃ x, x = xs[i] := ⟨_, rfl⟩
  obtain ⟨y, hy⟩ : ∃ y, y = bs[i] := ⟨_, rfl⟩
  rw [← hx, ← hy] at hS
  obtain ⟨s, q, ⟨k, o, nn, v, q2, m, ks, ss⟩, a⟩ := x
  obtain ⟨s', q', ⟨k', o', nn', v', q2', m', ks', ss'⟩, a'⟩ := y
  simp only [Item.row_mk, Expr.row_mk, lc] at hS
  refine ⟨by omega, by omega, _, drop_row Item.row_len (List.getElem?_eq_getElem hlt), Item.ne _ _, ?_⟩
  rw [← hx]
  simp only [tt, seval, Item.row_mk, Expr.row_mk]
  refine ⟨by omega, by omega, _, drop_row Item.row_len (List.getElem?_eq_getElem hlb), Item.ne _ _, ?_⟩
  rw [← hy]
  simp only [tt, seval, Item.row_mk, Expr.row_mk]
  refine call0 (hS) ?_ ?_ ?_
  ·decide
  ·simp only [tt, seval]
  rintro r ⟨tb, rfl, htb⟩
  simp only [tt, seval, ix]
  rw [hx, hy] at htb
  refine And.intro (fun hb => ?_) (fun hb => ?_)
  ·have hb : tb = false := by simpa only [Bool.not_eq_true'] using hb
   refine ⟨_, _, ⟨false, rfl, ?_⟩, end0 rfl⟩
   simp only [Bool.false_eq_true, false_iff]
   intro e
   have : xs[i] = bs[i] := by simp only [e]
   rw [htb.2 this] at hb; cases hb
  ·have hb : tb = true := by simpa only [Bool.not_eq_false'] using hb
   try rw [wrS i (by omega)]
   exact ⟨_, none, SubO.nil _, PoSub.none _, ⟨i + 1, rfl, by omega, fun j hj hk hji => by
    by_cases e : j = i
    ·subst e; exact htb.1 hb
    ·exact hal j hj hk (by omega), rfl, rfl⟩, by simp only [ixS]; omega⟩
 ·try simp only [tt, seval]
  exact ⟨_, _, ⟨true, rfl, by simp only [true_iff]; exact List.ext_getElem hab fun j h1 h2 => hal j h1 h2 (by omega)⟩, end0 rfl⟩
theorem iEqGSource (xs bs : List Source) (h : ∀ x, x ∈ xs → ∀ y, y ∈ bs → Cl Tryz.prog 178 [.ag (csOf x.row), .ag (csOf y.row)] [] fun r _ => ∃ t : Bool, r = vb t ∧ (t = true ↔ x = y)) : Cl Tryz.prog 181 [.c (.sl xs.length (xs.flatMap Source.row) none), .c (.sl bs.length (bs.flatMap Source.row) none), .c (.fn 178 [] [])] [] fun r _ => ∃ t : Bool, r = vb t ∧ (t = true ↔ xs = bs) := by
 refine cl_of_d follows_mixed false Tryz.func181 rfl (by kernel_rfl) ?_
 simp only [Tryz.f181, tt, seval]
 refine fun _ _ => And.intro (fun hab => ?_) (fun hab => ?_)
 ·have hab' : ¬ xs.length = bs.length := by simpa [Int.ofNat_inj] using hab
  exact ⟨_, _, ⟨false, rfl, by simp; intro e; exact hab' (by rw [e])⟩, end0 rfl⟩
 have hab : xs.length = bs.length := by simpa [Int.ofNat_inj] using hab
 refine fun _ => ?_
 refine dLoop.intro (fun f L p => ∃ i : Nat, f 17 = vi i ∧ i ≤ xs.length ∧ (∀ j (hj : j < xs.length) (hk : j < bs.length), j < i → xs[j] = bs[j]) ∧ L = [] ∧ p = none) (fun f _ _ => (xs.length - ixS (f 17)).toNat) [] none ⟨SubO.nil _, PoSub.none _, ?_⟩ ?_
 ·simp only [tt, seval]
  exact ⟨0, rfl, Nat.zero_le _, fun j _ _ h => absurd h (Nat.not_lt_zero _)⟩
 rintro g L p ⟨i, ix, hi, hal, rfl, rfl⟩
 simp only [tt, seval] at ix
 simp only [tt, seval, ix, Int.ofNat_lt]
 refine And.intro (fun hlt => ?_) (fun hge => ?_)
 ·have hlt : i < xs.length := by omega
  have hlb : i < bs.length := by omega
  have hS := h xs[i] (List.getElem_mem hlt) bs[i] (List.getElem_mem hlb)
  obtain ⟨x, hx⟩ : ∃ x, x = xs[i] := ⟨_, rfl⟩
  obtain ⟨y, hy⟩ : ∃ y, y = bs[i] := ⟨_, rfl⟩
  rw [← hx, ← hy] at hS
  obtain ⟨t, a, on⟩ := x
  obtain ⟨t', a', on'⟩ := y
  simp only [Source.row_mk] at hS
  refine ⟨by omega, by omega, _, drop_row Source.row_len (List.getElem?_eq_getElem hlt), Source.ne _ _, ?_⟩
  rw [← hx]
  simp only [tt, seval, Source.row_mk]
  refine ⟨by omega, by omega, _, drop_row Source.row_len (List.getElem?_eq_getElem hlb), Source.ne _ _, ?_⟩
  rw [← hy]
  simp only [tt, seval, Source.row_mk]
  refine call0 (hS) ?_ ?_ ?_
  ·decide
  ·simp only [tt, seval]
  rintro r ⟨tb, rfl, htb⟩
  simp only [tt, seval, ix]
  rw [hx, hy] at htb
  refine And.intro (fun hb => ?_) (fun hb => ?_)
  ·have hb : tb = false := by simpa only [Bool.not_eq_true'] using hb
   refine ⟨_, _, ⟨false, rfl, ?_⟩, end0 rfl⟩
   simp only [Bool.false_eq_true, false_iff]
   intro e
   have : xs[i] = bs[i] := by simp only [e]
   rw [htb.2 this] at hb; cases hb
  ·have hb : tb = true := by simpa only [Bool.not_eq_false'] using hb
   try rw [wrS i (by omega)]
   exact ⟨_, none, SubO.nil _, PoSub.none _, ⟨i + 1, rfl, by omega, fun j hj hk hji => by
    by_cases e : j = i
    ·subst e; exact htb.1 hb
    ·exact hal j hj hk (by omega), rfl, rfl⟩, by simp only [ixS]; omega⟩
 ·try simp only [tt, seval]
  exact ⟨_, _, ⟨true, rfl, by simp only [true_iff]; exact List.ext_getElem hab fun j h1 h2 => hal j h1 h2 (by omega)⟩, end0 rfl⟩
theorem iEqGSortKey (xs bs : List SortKey) (h : ∀ x, x ∈ xs → ∀ y, y ∈ bs → Cl Tryz.prog 179 [.ag (csOf x.row), .ag (csOf y.row)] [] fun r _ => ∃ t : Bool, r = vb t ∧ (t = true ↔ x = y)) : Cl Tryz.prog 182 [.c (.sl xs.length (xs.flatMap SortKey.row) none), .c (.sl bs.length (bs.flatMap SortKey.row) none), .c (.fn 179 [] [])] [] fun r _ => ∃ t : Bool, r = vb t ∧ (t = true ↔ xs = bs) := by
 refine cl_of_d follows_mixed false Tryz.func182 rfl (by kernel_rfl) ?_
 simp only [Tryz.f182, tt, seval]
 refine fun _ _ => And.intro (fun hab => ?_) (fun hab => ?_)
 ·have hab' : ¬ xs.length = bs.length := by simpa [Int.ofNat_inj] using hab
  exact ⟨_, _, ⟨false, rfl, by simp; intro e; exact hab' (by rw [e])⟩, end0 rfl⟩
 have hab : xs.length = bs.length := by simpa [Int.ofNat_inj] using hab
 refine fun _ => ?_
 refine dLoop.intro (fun f L p => ∃ i : Nat, f 17 = vi i ∧ i ≤ xs.length ∧ (∀ j (hj : j < xs.length) (hk : j < bs.length), j < i → xs[j] = bs[j]) ∧ L = [] ∧ p = none) (fun f _ _ => (xs.length - ixS (f 17)).toNat) [] none ⟨SubO.nil _, PoSub.none _, ?_⟩ ?_
 ·simp only [tt, seval]
  exact ⟨0, rfl, Nat.zero_le _, fun j _ _ h => absurd h (Nat.not_lt_zero _)⟩
 rintro g L p ⟨i, ix, hi, hal, rfl, rfl⟩
 simp only [tt, seval] at ix
 simp only [tt, seval, ix, Int.ofNat_lt]
 refine And.intro (fun hlt => ?_) (fun hge => ?_)
 ·have hlt : i < xs.length := by omega
  have hlb : i < bs.length := by omega
  have hS := h xs[i] (List.getElem_mem hlt) bs[i] (List.getElem_mem hlb)
  obtain ⟨x, hx⟩ : ∃ x, x = xs[i] := ⟨_, rfl⟩
  obtain ⟨y, hy⟩ : ∃ y, y = bs[i] := ⟨_, rfl⟩
  rw [← hx, ← hy] at hS
  obtain ⟨⟨k, o, nn, v, q, m, ks, ss⟩, d⟩ := x
  obtain ⟨⟨k', o', nn', v', q', m', ks', ss'⟩, d'⟩ := y
  simp only [SortKey.row_mk, Expr.row_mk, lc] at hS
  refine ⟨by omega, by omega, _, drop_row SortKey.row_len (List.getElem?_eq_getElem hlt), SortKey.ne _ _, ?_⟩
  rw [← hx]
  simp only [tt, seval, SortKey.row_mk, Expr.row_mk]
  refine ⟨by omega, by omega, _, drop_row SortKey.row_len (List.getElem?_eq_getElem hlb), SortKey.ne _ _, ?_⟩
  rw [← hy]
  simp only [tt, seval, SortKey.row_mk, Expr.row_mk]
  refine call0 (hS) ?_ ?_ ?_
  ·decide
  ·simp only [tt, seval]
  rintro r ⟨tb, rfl, htb⟩
  simp only [tt, seval, ix]
  rw [hx, hy] at htb
  refine And.intro (fun hb => ?_) (fun hb => ?_)
  ·have hb : tb = false := by simpa only [Bool.not_eq_true'] using hb
   refine ⟨_, _, ⟨false, rfl, ?_⟩, end0 rfl⟩
   simp only [Bool.false_eq_true, false_iff]
   intro e
   have : xs[i] = bs[i] := by simp only [e]
   rw [htb.2 this] at hb; cases hb
  ·have hb : tb = true := by simpa only [Bool.not_eq_false'] using hb
   try rw [wrS i (by omega)]
   exact ⟨_, none, SubO.nil _, PoSub.none _, ⟨i + 1, rfl, by omega, fun j hj hk hji => by
    by_cases e : j = i
    ·subst e; exact htb.1 hb
    ·exact hal j hj hk (by omega), rfl, rfl⟩, by simp only [ixS]; omega⟩
 ·try simp only [tt, seval]
  exact ⟨_, _, ⟨true, rfl, by simp only [true_iff]; exact List.ext_getElem hab fun j h1 h2 => hal j h1 h2 (by omega)⟩, end0 rfl⟩
theorem isItemG (x y : Item) (h : Cl Tryz.prog 55 [.ag (csOf x.e.row), .ag (csOf y.e.row)] [] fun r _ => ∃ t : Bool, r = vb t ∧ (t = true ↔ x.e = y.e)) : Cl Tryz.prog 177 [.ag (csOf x.row), .ag (csOf y.row)] [] fun r _ => ∃ t : Bool, r = vb t ∧ (t = true ↔ x = y) := by
 obtain ⟨star, qual, e, as_⟩ := x
 obtain ⟨star2, qual2, e2, as2⟩ := y
 replace h : Cl Tryz.prog 55 [.ag (csOf e.row), .ag (csOf e2.row)] [] fun r _ => ∃ t : Bool, r = vb t ∧ (t = true ↔ e = e2) := h
 have he : ∀ t : Bool, (t = true ↔ e = e2) → (t = true ↔ Item.mk star qual e as_ = Item.mk star qual e2 as_) := fun t ht => by rw [ht]; simp
 obtain ⟨k, o, n, v, q, m, ks, ss⟩ := e
 obtain ⟨k2, o2, n2, v2, q2, m2, ks2, ss2⟩ := e2
 rw [Item.row_mk, Item.row_mk]
 rw [Expr.row_mk, Expr.row_mk] at h ⊢
 refine cl_of_d follows_mixed false Tryz.func177 rfl (by kernel_rfl) ?_
 simp only [Tryz.f177, tt, seval]
 by_cases hne : star = star2
 case neg =>
  simp only [tt, seval, bneq hne]
  exact ⟨_, _, ⟨false, rfl, by simp [hne]⟩, end0 rfl⟩
 subst hne
 simp only [tt, seval]
 by_cases hne : qual = qual2
 case neg =>
  simp only [tt, seval, hne]
  exact ⟨_, _, ⟨false, rfl, by simp [hne]⟩, end0 rfl⟩
 subst hne
 simp only [tt, seval]
 by_cases hne : as_ = as2
 case neg =>
  simp only [tt, seval, hne]
  exact ⟨_, _, ⟨false, rfl, by simp [hne]⟩, end0 rfl⟩
 subst hne
 simp only [tt, seval]
 refine call0 (h) ?_ ?_ ?_
 ·decide
 ·simp only [tt, seval]
 rintro r ⟨tb, rfl, htb⟩
 simp only [tt, seval]
 exact ⟨_, _, ⟨tb, rfl, he tb htb⟩, end0 rfl⟩
theorem isSourceG (x z : Source) (h : ∀ a, a ∈ x.on → ∀ y, y ∈ z.on → Cl Tryz.prog 55 [.ag (csOf a.row), .ag (csOf y.row)] [] fun r _ => ∃ t : Bool, r = vb t ∧ (t = true ↔ a = y)) : Cl Tryz.prog 178 [.ag (csOf x.row), .ag (csOf z.row)] [] fun r _ => ∃ t : Bool, r = vb t ∧ (t = true ↔ x = z) := by
 obtain ⟨table, as_, on⟩ := x
 obtain ⟨table2, as2, on2⟩ := z
 replace h : ∀ a, a ∈ on → ∀ y, y ∈ on2 → Cl Tryz.prog 55 [.ag (csOf a.row), .ag (csOf y.row)] [] fun r _ => ∃ t : Bool, r = vb t ∧ (t = true ↔ a = y) := h
 rw [Source.row_mk, Source.row_mk]
 refine cl_of_d follows_mixed false Tryz.func178 rfl (by kernel_rfl) ?_
 simp only [Tryz.f178, tt, seval]
 by_cases hne : table = table2
 case neg =>
  simp only [tt, seval, hne]
  exact ⟨_, _, ⟨false, rfl, by simp [hne]⟩, end0 rfl⟩
 subst hne
 simp only [tt, seval]
 by_cases hne : as_ = as2
 case neg =>
  simp only [tt, seval, hne]
  exact ⟨_, _, ⟨false, rfl, by simp [hne]⟩, end0 rfl⟩
 subst hne
 simp only [tt, seval]
 refine call0 (isameExprsG on on2 h) ?_ ?_ ?_
 ·decide
 ·simp only [tt, seval]
 rintro r ⟨tb, rfl, htb⟩
 simp only [tt, seval]
 exact ⟨_, _, ⟨tb, rfl, by simp [htb]⟩, end0 rfl⟩
theorem isSortG (x y : SortKey) (h : Cl Tryz.prog 55 [.ag (csOf x.e.row), .ag (csOf y.e.row)] [] fun r _ => ∃ t : Bool, r = vb t ∧ (t = true ↔ x.e = y.e)) : Cl Tryz.prog 179 [.ag (csOf x.row), .ag (csOf y.row)] [] fun r _ => ∃ t : Bool, r = vb t ∧ (t = true ↔ x = y) := by
 obtain ⟨e, de⟩ := x
 obtain ⟨e2, de2⟩ := y
 replace h : Cl Tryz.prog 55 [.ag (csOf e.row), .ag (csOf e2.row)] [] fun r _ => ∃ t : Bool, r = vb t ∧ (t = true ↔ e = e2) := h
 have he : ∀ t : Bool, (t = true ↔ e = e2) → (t = true ↔ SortKey.mk e de = SortKey.mk e2 de) := fun t ht => by rw [ht]; simp
 obtain ⟨k, o, n, v, q, m, ks, ss⟩ := e
 obtain ⟨k2, o2, n2, v2, q2, m2, ks2, ss2⟩ := e2
 rw [SortKey.row_mk, SortKey.row_mk]
 rw [Expr.row_mk, Expr.row_mk] at h ⊢
 refine cl_of_d follows_mixed false Tryz.func179 rfl (by kernel_rfl) ?_
 simp only [Tryz.f179, tt, seval]
 by_cases hne : de = de2
 case neg =>
  simp only [tt, seval, bneq hne]
  exact ⟨_, _, ⟨false, rfl, by simp [hne]⟩, end0 rfl⟩
 subst hne
 simp only [tt, seval]
 refine call0 (h) ?_ ?_ ?_
 ·decide
 ·simp only [tt, seval]
 rintro r ⟨tb, rfl, htb⟩
 simp only [tt, seval]
 exact ⟨_, _, ⟨tb, rfl, he tb htb⟩, end0 rfl⟩
set_option maxHeartbeats 4000000 in
theorem iSameExprG_step (kind op : Int) (not : Bool) (val : Val) (qual name : ByteArray) (kids : List Expr) (sub : List Query) (kind2 op2 : Int) (not2 : Bool) (val2 : Val) (qual2 name2 : ByteArray) (kids2 : List Expr) (sub2 : List Query) (hk : ∀ x, x ∈ kids → ∀ y, y ∈ kids2 → Cl Tryz.prog 55 [.ag (csOf x.row), .ag (csOf y.row)] [] fun r _ => ∃ t : Bool, r = vb t ∧ (t = true ↔ x = y)) (hs : ∀ x, x ∈ sub → ∀ y, y ∈ sub2 → Cl Tryz.prog 120 [.ag (csOf x.row), .ag (csOf y.row)] [] fun r _ => ∃ t : Bool, r = vb t ∧ (t = true ↔ x = y)) : Cl Tryz.prog 55 [.ag (csOf (Expr.mk kind op not val qual name kids sub).row), .ag (csOf (Expr.mk kind2 op2 not2 val2 qual2 name2 kids2 sub2).row)] [] fun r _ => ∃ t : Bool, r = vb t ∧ (t = true ↔ (Expr.mk kind op not val qual name kids sub) = (Expr.mk kind2 op2 not2 val2 qual2 name2 kids2 sub2)) := by
 rw [Expr.row_mk, Expr.row_mk]
 refine cl_of_d follows_mixed false Tryz.func55 rfl (by kernel_rfl) ?_
 simp only [Tryz.f55, tt, seval]
 by_cases hne : kind = kind2
 case neg =>
  simp only [tt, seval, hne]
  exact ⟨_, _, ⟨false, rfl, by simp [hne]⟩, end0 rfl⟩
 subst hne
 simp only [tt, seval]
 by_cases hne : op = op2
 case neg =>
  simp only [tt, seval, hne]
  exact ⟨_, _, ⟨false, rfl, by simp [hne]⟩, end0 rfl⟩
 subst hne
 simp only [tt, seval]
 by_cases hne : not = not2
 case neg =>
  simp only [tt, seval, bneq hne]
  exact ⟨_, _, ⟨false, rfl, by simp [hne]⟩, end0 rfl⟩
 subst hne
 simp only [tt, seval]
 rw [pu_eqagg (by kernel_rfl) (eqValG val val2)]
 simp only [tt, seval]
 by_cases hne : val = val2
 case neg =>
  have hv : eqV val val2 = false := by cases hv : eqV val val2 with | false => rfl | true => exact absurd (eqV_iff.1 hv) hne
  simp only [tt, seval, hv]
  exact ⟨_, _, ⟨false, rfl, by simp [hne]⟩, end0 rfl⟩
 rw [eqV_iff.2 hne]
 subst hne
 simp only [tt, seval]
 by_cases hne : qual = qual2
 case neg =>
  simp only [tt, seval, hne]
  exact ⟨_, _, ⟨false, rfl, by simp [hne]⟩, end0 rfl⟩
 subst hne
 simp only [tt, seval]
 by_cases hne : name = name2
 case neg =>
  simp only [tt, seval, hne]
  exact ⟨_, _, ⟨false, rfl, by simp [hne]⟩, end0 rfl⟩
 subst hne
 simp only [tt, seval]
 refine call0 (isameExprsG kids kids2 hk) ?_ ?_ ?_
 ·decide
 ·simp only [tt, seval]
 rintro r ⟨tk, rfl, htk⟩
 simp only [tt, seval]
 cases tk
 ·try simp only [tt, seval]
  exact ⟨_, _, ⟨false, rfl, by simp at htk; simp [htk]⟩, end0 rfl⟩
 obtain rfl := htk.1 rfl
 simp only [tt, seval]
 refine call0 (iEqGQuery sub sub2 hs) ?_ ?_ ?_
 ·decide
 ·simp only [tt, seval]
 rintro r ⟨ts, rfl, hts⟩
 simp only [tt, seval]
 exact ⟨_, _, ⟨ts, rfl, by simp [hts]⟩, end0 rfl⟩
set_option maxHeartbeats 8000000 in
theorem iSameQueryG_step (distinct : Bool) (items : List Item) (from_ : List Source) (where_ : List Expr) (order : List SortKey) (limit : Int) (distinct2 : Bool) (items2 : List Item) (from2 : List Source) (where2 : List Expr) (order2 : List SortKey) (limit2 : Int) (hx : ∀ x, x ∈ allQ (Query.mk distinct items from_ where_ order limit) → ∀ y, y ∈ allQ (Query.mk distinct2 items2 from2 where2 order2 limit2) → Cl Tryz.prog 55 [.ag (csOf x.row), .ag (csOf y.row)] [] fun r _ => ∃ t : Bool, r = vb t ∧ (t = true ↔ x = y)) : Cl Tryz.prog 120 [.ag (csOf (Query.mk distinct items from_ where_ order limit).row), .ag (csOf (Query.mk distinct2 items2 from2 where2 order2 limit2).row)] [] fun r _ => ∃ t : Bool, r = vb t ∧ (t = true ↔ (Query.mk distinct items from_ where_ order limit) = (Query.mk distinct2 items2 from2 where2 order2 limit2)) := by
 have hI : ∀ x, x ∈ items → ∀ y, y ∈ items2 → Cl Tryz.prog 55 [.ag (csOf x.e.row), .ag (csOf y.e.row)] [] fun r _ => ∃ t : Bool, r = vb t ∧ (t = true ↔ x.e = y.e) := fun x h y k => hx _ (by simp only [allQ, List.mem_append]; exact .inl (.inl (.inl (List.mem_map.2 ⟨x, h, rfl⟩)))) _ (by simp only [allQ, List.mem_append]; exact .inl (.inl (.inl (List.mem_map.2 ⟨y, k, rfl⟩))))
 have hF : ∀ x, x ∈ from_ → ∀ z, z ∈ from2 → ∀ a, a ∈ x.on → ∀ y, y ∈ z.on → Cl Tryz.prog 55 [.ag (csOf a.row), .ag (csOf y.row)] [] fun r _ => ∃ t : Bool, r = vb t ∧ (t = true ↔ a = y) := fun x h z k a h2 y k2 => hx _ (by simp only [allQ, List.mem_append]; exact .inl (.inl (.inr (List.mem_flatMap.2 ⟨x, h, h2⟩)))) _ (by simp only [allQ, List.mem_append]; exact .inl (.inl (.inr (List.mem_flatMap.2 ⟨z, k, k2⟩))))
 have hw : ∀ x, x ∈ where_ → ∀ y, y ∈ where2 → Cl Tryz.prog 55 [.ag (csOf x.row), .ag (csOf y.row)] [] fun r _ => ∃ t : Bool, r = vb t ∧ (t = true ↔ x = y) := fun x h y k => hx _ (by simp only [allQ, List.mem_append]; exact .inl (.inr h)) _ (by simp only [allQ, List.mem_append]; exact .inl (.inr k))
 have hO : ∀ x, x ∈ order → ∀ y, y ∈ order2 → Cl Tryz.prog 55 [.ag (csOf x.e.row), .ag (csOf y.e.row)] [] fun r _ => ∃ t : Bool, r = vb t ∧ (t = true ↔ x.e = y.e) := fun x h y k => hx _ (by simp only [allQ, List.mem_append]; exact .inr (List.mem_map.2 ⟨x, h, rfl⟩)) _ (by simp only [allQ, List.mem_append]; exact .inr (List.mem_map.2 ⟨y, k, rfl⟩))
 rw [Query.row_mk, Query.row_mk]
 refine cl_of_d follows_mixed false Tryz.func120 rfl (by kernel_rfl) ?_
 simp only [Tryz.f120, tt, seval]
 by_cases hne : distinct = distinct2
 case neg =>
  simp only [tt, seval, bneq hne]
  exact ⟨_, _, ⟨false, rfl, by simp [hne]⟩, end0 rfl⟩
 subst hne
 simp only [tt, seval]
 by_cases hne : limit = limit2
 case neg =>
  simp only [tt, seval, hne]
  exact ⟨_, _, ⟨false, rfl, by simp [hne]⟩, end0 rfl⟩
 subst hne
 simp only [tt, seval]
 refine call0 (iEqGItem items items2 (fun x h y k => isItemG x y (hI x h y k))) ?_ ?_ ?_
 ·decide
 ·simp only [tt, seval]
 rintro r ⟨ti, rfl, hti⟩
 simp only [tt, seval]
 cases ti
 ·try simp only [tt, seval]
  exact ⟨_, _, ⟨false, rfl, by simp at hti; simp [hti]⟩, end0 rfl⟩
 obtain rfl := hti.1 rfl
 simp only [tt, seval]
 refine call0 (iEqGSource from_ from2 (fun x h y k => isSourceG x y (hF x h y k))) ?_ ?_ ?_
 ·decide
 ·simp only [tt, seval]
 rintro r ⟨tf, rfl, htf⟩
 simp only [tt, seval]
 cases tf
 ·try simp only [tt, seval]
  exact ⟨_, _, ⟨false, rfl, by simp at htf; simp [htf]⟩, end0 rfl⟩
 obtain rfl := htf.1 rfl
 simp only [tt, seval]
 refine call0 (isameExprsG where_ where2 hw) ?_ ?_ ?_
 ·decide
 ·simp only [tt, seval]
 rintro r ⟨tw, rfl, htw⟩
 simp only [tt, seval]
 cases tw
 ·try simp only [tt, seval]
  exact ⟨_, _, ⟨false, rfl, by simp at htw; simp [htw]⟩, end0 rfl⟩
 obtain rfl := htw.1 rfl
 simp only [tt, seval]
 refine call0 (iEqGSortKey order order2 (fun x h y k => isSortG x y (hO x h y k))) ?_ ?_ ?_
 ·decide
 ·simp only [tt, seval]
 rintro r ⟨to, rfl, hto⟩
 simp only [tt, seval]
 exact ⟨_, _, ⟨to, rfl, by simp [hto]⟩, end0 rfl⟩
theorem isameG_all (n : Nat) : (∀ a : Expr, SizeOf.sizeOf a < n → ∀ b : Expr, Cl Tryz.prog 55 [.ag (csOf a.row), .ag (csOf b.row)] [] fun r _ => ∃ t : Bool, r = vb t ∧ (t = true ↔ a = b)) ∧ ∀ a : Query, SizeOf.sizeOf a < n → ∀ b : Query, Cl Tryz.prog 120 [.ag (csOf a.row), .ag (csOf b.row)] [] fun r _ => ∃ t : Bool, r = vb t ∧ (t = true ↔ a = b) := by
 induction n with
 | zero => exact ⟨fun _ h => absurd h (Nat.not_lt_zero _), fun _ h => absurd h (Nat.not_lt_zero _)⟩
 | succ n ih =>
  refine ⟨fun a he b => ?_, fun a hq b => ?_⟩
  ·obtain ⟨kind, op, not, val, qual, name, kids, sub⟩ := a
   obtain ⟨kind2, op2, not2, val2, qual2, name2, kids2, sub2⟩ := b
   rw [Expr.mk.sizeOf_spec] at he
   exact iSameExprG_step kind op not val qual name kids sub kind2 op2 not2 val2 qual2 name2 kids2 sub2 (fun x hx y _ => ih.1 x (by have := List.sizeOf_lt_of_mem hx; omega) y) fun x hx y _ => ih.2 x (by have := List.sizeOf_lt_of_mem hx; omega) y
  ·have h2 : ∀ x ∈ allQ a, SizeOf.sizeOf x < n := fun x hx => by have := allQ_lt hx; omega
   obtain ⟨distinct, items, from_, where_, order, limit⟩ := a
   obtain ⟨distinct2, items2, from2, where2, order2, limit2⟩ := b
   exact iSameQueryG_step distinct items from_ where_ order limit distinct2 items2 from2 where2 order2 limit2 fun x hx y _ => ih.1 x (h2 x hx) y
theorem iSameExprG (a b : Expr) : Cl Tryz.prog 55 [.ag (csOf a.row), .ag (csOf b.row)] [] fun r _ => ∃ t : Bool, r = vb t ∧ (t = true ↔ a = b) := (isameG_all _).1 a (Nat.lt_succ_self _) b
theorem l7SameG (xs bs : List Expr) (h : ∀ x, x ∈ xs → ∀ y, y ∈ bs → Cl Tryz.prog 20 [.ag (csOf x.row), .ag (csOf y.row)] [] fun r _ => ∃ t : Bool, r = vb t ∧ (t = true ↔ x = y)) : Cl Tryz.prog 59 [.c (.sl xs.length (xs.flatMap Expr.row) none), .c (.sl bs.length (bs.flatMap Expr.row) none)] [] fun r _ => ∃ t : Bool, r = vb t ∧ (t = true ↔ xs = bs) := by
 refine cl_of_d follows_mixed false Tryz.func59 rfl (by kernel_rfl) ?_
 simp only [Tryz.f59, tt, seval]
 refine fun _ _ => And.intro (fun hab => ?_) (fun hab => ?_)
 ·have hab' : ¬ xs.length = bs.length := by simpa [Int.ofNat_inj] using hab
  exact ⟨_, _, ⟨false, rfl, by simp; intro e; exact hab' (by rw [e])⟩, end0 rfl⟩
 have hab : xs.length = bs.length := by simpa [Int.ofNat_inj] using hab
 refine dLoop.intro (fun f L p => ∃ i : Nat, f 5 = vi i ∧ i ≤ xs.length ∧ (∀ j (hj : j < xs.length) (hk : j < bs.length), j < i → xs[j] = bs[j]) ∧ L = [] ∧ p = none) (fun f _ _ => (xs.length - ixS (f 5)).toNat) [] none ⟨SubO.nil _, PoSub.none _, ?_⟩ ?_
 ·simp only [tt, seval]
  exact ⟨0, rfl, Nat.zero_le _, fun j _ _ h => absurd h (Nat.not_lt_zero _)⟩
 rintro g L p ⟨i, ix, hi, hal, rfl, rfl⟩
 simp only [tt, seval] at ix
 simp only [tt, seval, ix, Int.ofNat_lt]
 refine fun _ => And.intro (fun hlt => ?_) (fun hge => ?_)
 ·have hlt : i < xs.length := by omega
  have hlb : i < bs.length := by omega
  have hS := h xs[i] (List.getElem_mem hlt) bs[i] (List.getElem_mem hlb)
  refine dDrawn.intro [] (pln [0, 2, 4, 6, 8, 10, 12, 14, 17, 18]) (by kernel_rfl) ?_
  simp only [tt, seval]
  simp only [tt, seval, ix]
  refine ⟨by omega, by omega, _, drop_row Expr.row_len (List.getElem?_eq_getElem hlt), Expr.ne _ _, ?_⟩
  simp only [seval, Expr.tk, Expr.row_len]
  refine ⟨by omega, by omega, _, drop_row Expr.row_len (List.getElem?_eq_getElem hlb), Expr.ne _ _, ?_⟩
  simp only [seval, Expr.tk, Expr.row_len]
  refine call0 (hS) ?_ ?_ ?_
  ·decide
  ·simp only [tt, seval]
  rintro r ⟨tb, rfl, htb⟩
  simp only [tt, seval, ix]
  refine And.intro (fun hb => ?_) (fun hb => ?_)
  ·have hb : tb = false := by simpa only [Bool.not_eq_true'] using hb
   refine ⟨_, _, ⟨false, rfl, ?_⟩, end0 rfl⟩
   simp only [Bool.false_eq_true, false_iff]
   intro e
   have : xs[i] = bs[i] := by simp only [e]
   rw [htb.2 this] at hb; cases hb
  ·have hb : tb = true := by simpa only [Bool.not_eq_false'] using hb
   try rw [wrS i (by omega)]
   exact ⟨_, none, SubO.nil _, PoSub.none _, ⟨i + 1, rfl, by omega, fun j hj hk hji => by
    by_cases e : j = i
    ·subst e; exact htb.1 hb
    ·exact hal j hj hk (by omega), rfl, rfl⟩, by simp only [ixS]; omega⟩
 ·try simp only [tt, seval]
  exact ⟨_, _, ⟨true, rfl, by simp only [true_iff]; exact List.ext_getElem hab fun j h1 h2 => hal j h1 h2 (by omega)⟩, end0 rfl⟩
set_option maxHeartbeats 8000000 in
theorem sSameExprG_step (kind op : Int) (not : Bool) (val : Val) (qual name : ByteArray) (kids : List Expr) (sub : List Query) (kind2 op2 : Int) (not2 : Bool) (val2 : Val) (qual2 name2 : ByteArray) (kids2 : List Expr) (sub2 : List Query) (hk : ∀ x, x ∈ kids → ∀ y, y ∈ kids2 → Cl Tryz.prog 20 [.ag (csOf x.row), .ag (csOf y.row)] [] fun r _ => ∃ t : Bool, r = vb t ∧ (t = true ↔ x = y)) (hs : ∀ x, x ∈ sub → ∀ y, y ∈ sub2 → Cl Tryz.prog 60 [.ag (csOf x.row), .ag (csOf y.row)] [] fun r _ => ∃ t : Bool, r = vb t ∧ (t = true ↔ x = y)) : Cl Tryz.prog 20 [.ag (csOf (Expr.mk kind op not val qual name kids sub).row), .ag (csOf (Expr.mk kind2 op2 not2 val2 qual2 name2 kids2 sub2).row)] [] fun r _ => ∃ t : Bool, r = vb t ∧ (t = true ↔ (Expr.mk kind op not val qual name kids sub) = (Expr.mk kind2 op2 not2 val2 qual2 name2 kids2 sub2)) := by
 rw [Expr.row_mk, Expr.row_mk]
 refine cl_of_d follows_mixed false Tryz.func20 rfl (by kernel_rfl) ?_
 simp only [Tryz.f20, tt, seval]
 by_cases hne : kind = kind2
 case neg =>
  simp only [tt, seval, hne]
  exact ⟨_, _, ⟨false, rfl, by simp [hne]⟩, end0 rfl⟩
 subst hne
 simp only [tt, seval]
 by_cases hne : op = op2
 case neg =>
  simp only [tt, seval, hne]
  exact ⟨_, _, ⟨false, rfl, by simp [hne]⟩, end0 rfl⟩
 subst hne
 simp only [tt, seval]
 by_cases hne : not = not2
 case neg =>
  simp only [tt, seval, bneq hne]
  exact ⟨_, _, ⟨false, rfl, by simp [hne]⟩, end0 rfl⟩
 subst hne
 simp only [tt, seval]
 rw [pu_neagg (by kernel_rfl) (eqValG val val2)]
 simp only [tt, seval]
 by_cases hne : val = val2
 case neg =>
  have hv : eqV val val2 = false := by cases hv : eqV val val2 with | false => rfl | true => exact absurd (eqV_iff.1 hv) hne
  simp only [tt, seval, hv]
  exact ⟨_, _, ⟨false, rfl, by simp [hne]⟩, end0 rfl⟩
 rw [eqV_iff.2 hne]
 subst hne
 simp only [tt, seval]
 by_cases hne : qual = qual2
 case neg =>
  simp only [tt, seval, hne]
  exact ⟨_, _, ⟨false, rfl, by simp [hne]⟩, end0 rfl⟩
 subst hne
 simp only [tt, seval]
 by_cases hne : name = name2
 case neg =>
  simp only [tt, seval, hne]
  exact ⟨_, _, ⟨false, rfl, by simp [hne]⟩, end0 rfl⟩
 subst hne
 simp only [tt, seval]
 refine fun _ _ => ?_
 by_cases hls : sub.length = sub2.length
 case neg =>
  have h1 : ((sub.length : Int) = (sub2.length : Int)) = False := eq_false fun e => hls (by omega)
  have h2 : decide ((sub.length : Int) = (sub2.length : Int)) = false := decide_eq_false fun e => hls (by omega)
  simp only [tt, seval, h1]
  exact ⟨_, _, ⟨false, rfl, by simp only [Bool.false_eq_true, false_iff]; intro e; exact hls (congrArg List.length (by injection e))⟩, end0 rfl⟩
 have e_hls : decide ((sub.length : Int) = (sub2.length : Int)) = true := decide_eq_true (by omega)
 simp only [tt, seval, e_hls]
 refine call0 (l7SameG kids kids2 hk) ?_ ?_ ?_
 ·decide
 ·simp only [tt, seval]
 rintro r ⟨tk, rfl, htk⟩
 simp only [tt, seval]
 cases tk
 ·try simp only [tt, seval]
  exact ⟨_, _, ⟨false, rfl, by simp at htk; simp [htk]⟩, end0 rfl⟩
 obtain rfl := htk.1 rfl
 simp only [tt, seval]
 refine dLoop.intro (fun f L p => ∃ i : Nat, f 5 = vi i ∧ i ≤ sub.length ∧ (∀ j (hj : j < sub.length) (hk : j < sub2.length), j < i → sub[j] = sub2[j]) ∧ L = [(2, .str [.v (.int .i64 kind), .v (.int .i64 op), .v (.bool not), .v (.int .i64 val.kind), .v (.int .i64 val.num), .v (.string val.text), .v (.string qual), .v (.string name), .sl kids.length (kids.flatMap Expr.row) none, .sl sub.length (sub.flatMap Query.row) none]), (3, .str [.v (.int .i64 kind), .v (.int .i64 op), .v (.bool not), .v (.int .i64 val.kind), .v (.int .i64 val.num), .v (.string val.text), .v (.string qual), .v (.string name), .sl kids.length (kids.flatMap Expr.row) none, .sl sub2.length (sub2.flatMap Query.row) none])] ∧ p = none) (fun f _ _ => (sub.length - ixS (f 5)).toNat) [(2, .str [.v (.int .i64 kind), .v (.int .i64 op), .v (.bool not), .v (.int .i64 val.kind), .v (.int .i64 val.num), .v (.string val.text), .v (.string qual), .v (.string name), .sl kids.length (kids.flatMap Expr.row) none, .sl sub.length (sub.flatMap Query.row) none]), (3, .str [.v (.int .i64 kind), .v (.int .i64 op), .v (.bool not), .v (.int .i64 val.kind), .v (.int .i64 val.num), .v (.string val.text), .v (.string qual), .v (.string name), .sl kids.length (kids.flatMap Expr.row) none, .sl sub2.length (sub2.flatMap Query.row) none])] none ⟨SubO.cons rfl (SubO.cons rfl (SubO.nil _)), PoSub.none _, ?_⟩ ?_
 ·simp only [tt, seval]
  exact ⟨0, rfl, Nat.zero_le _, fun j _ _ h => absurd h (Nat.not_lt_zero _)⟩
 rintro g L p ⟨i, ix, hi, hal, rfl, rfl⟩
 simp only [tt, seval] at ix
 simp only [tt, seval, ix, Int.ofNat_lt]
 refine fun _ => And.intro (fun hlt => ?_) (fun hge => ?_)
 ·have hlt : i < sub.length := by omega
  have hlb : i < sub2.length := by omega
  have bad : ¬ sub[i] = sub2[i] → ¬ sub = sub2 := fun h e => h (by simp only [e])
  have hS := hs sub[i] (List.getElem_mem hlt) sub2[i] (List.getElem_mem hlb)
  refine dDrawn.intro [] (pln [0, 2, 4, 6, 8, 10, 12, 14, 16, 18, 21, 22]) (by kernel_rfl) ?_
  simp only [tt, seval]
  simp only [tt, seval, ix]
  refine ⟨by omega, by omega, _, drop_row Query.row_len (List.getElem?_eq_getElem hlt), Query.ne _ _, ?_⟩
  simp only [seval, Query.tk, Query.row_len]
  refine ⟨by omega, by omega, _, drop_row Query.row_len (List.getElem?_eq_getElem hlb), Query.ne _ _, ?_⟩
  simp only [seval, Query.tk, Query.row_len]
  refine call0 (hS) ?_ ?_ ?_
  ·decide
  ·simp only [tt, seval]
  rintro r ⟨tb, rfl, htb⟩
  simp only [tt, seval, ix]
  refine And.intro (fun hb => ?_) (fun hb => ?_)
  ·have hb : tb = false := by simpa only [Bool.not_eq_true'] using hb
   refine ⟨_, _, ⟨false, rfl, ?_⟩, end0 rfl⟩
   simp only [Bool.false_eq_true, false_iff]
   intro e
   refine bad (fun e2 => ?_) (by injection e)
   rw [htb.2 e2] at hb; cases hb
  ·have hb : tb = true := by simpa only [Bool.not_eq_false'] using hb
   try rw [wrS i (by omega)]
   exact ⟨_, none, SubO.cons rfl (SubO.cons rfl (SubO.nil _)), PoSub.none _, ⟨i + 1, rfl, by omega, fun j hj hk hji => by
    by_cases e : j = i
    ·subst e; exact htb.1 hb
    ·exact hal j hj hk (by omega), rfl, rfl⟩, by simp only [ixS]; omega⟩
 have heq : sub = sub2 := List.ext_getElem hls fun j h1 h2 => hal j h1 h2 (by omega)
 exact ⟨_, _, ⟨true, rfl, by simp [heq]⟩, end0 rfl⟩
set_option maxHeartbeats 16000000 in
theorem sSameQueryG_step (distinct : Bool) (items : List Item) (from_ : List Source) (where_ : List Expr) (order : List SortKey) (limit : Int) (distinct2 : Bool) (items2 : List Item) (from2 : List Source) (where2 : List Expr) (order2 : List SortKey) (limit2 : Int) (hx : ∀ x, x ∈ allQ (Query.mk distinct items from_ where_ order limit) → ∀ y, y ∈ allQ (Query.mk distinct2 items2 from2 where2 order2 limit2) → Cl Tryz.prog 20 [.ag (csOf x.row), .ag (csOf y.row)] [] fun r _ => ∃ t : Bool, r = vb t ∧ (t = true ↔ x = y)) : Cl Tryz.prog 60 [.ag (csOf (Query.mk distinct items from_ where_ order limit).row), .ag (csOf (Query.mk distinct2 items2 from2 where2 order2 limit2).row)] [] fun r _ => ∃ t : Bool, r = vb t ∧ (t = true ↔ (Query.mk distinct items from_ where_ order limit) = (Query.mk distinct2 items2 from2 where2 order2 limit2)) := by
 have hI : ∀ x, x ∈ items → ∀ y, y ∈ items2 → Cl Tryz.prog 20 [.ag (csOf x.e.row), .ag (csOf y.e.row)] [] fun r _ => ∃ t : Bool, r = vb t ∧ (t = true ↔ x.e = y.e) := fun x h y k => hx _ (by simp only [allQ, List.mem_append]; exact .inl (.inl (.inl (List.mem_map.2 ⟨x, h, rfl⟩)))) _ (by simp only [allQ, List.mem_append]; exact .inl (.inl (.inl (List.mem_map.2 ⟨y, k, rfl⟩))))
 have hF : ∀ x, x ∈ from_ → ∀ z, z ∈ from2 → ∀ a, a ∈ x.on → ∀ y, y ∈ z.on → Cl Tryz.prog 20 [.ag (csOf a.row), .ag (csOf y.row)] [] fun r _ => ∃ t : Bool, r = vb t ∧ (t = true ↔ a = y) := fun x h z k a h2 y k2 => hx _ (by simp only [allQ, List.mem_append]; exact .inl (.inl (.inr (List.mem_flatMap.2 ⟨x, h, h2⟩)))) _ (by simp only [allQ, List.mem_append]; exact .inl (.inl (.inr (List.mem_flatMap.2 ⟨z, k, k2⟩))))
 have hw : ∀ x, x ∈ where_ → ∀ y, y ∈ where2 → Cl Tryz.prog 20 [.ag (csOf x.row), .ag (csOf y.row)] [] fun r _ => ∃ t : Bool, r = vb t ∧ (t = true ↔ x = y) := fun x h y k => hx _ (by simp only [allQ, List.mem_append]; exact .inl (.inr h)) _ (by simp only [allQ, List.mem_append]; exact .inl (.inr k))
 have hO : ∀ x, x ∈ order → ∀ y, y ∈ order2 → Cl Tryz.prog 20 [.ag (csOf x.e.row), .ag (csOf y.e.row)] [] fun r _ => ∃ t : Bool, r = vb t ∧ (t = true ↔ x.e = y.e) := fun x h y k => hx _ (by simp only [allQ, List.mem_append]; exact .inr (List.mem_map.2 ⟨x, h, rfl⟩)) _ (by simp only [allQ, List.mem_append]; exact .inr (List.mem_map.2 ⟨y, k, rfl⟩))
 clear hx
 rw [Query.row_mk, Query.row_mk]
 refine cl_of_d follows_mixed false Tryz.func60 rfl (by kernel_rfl) ?_
 simp only [Tryz.f60, tt, seval]
 by_cases hne : distinct = distinct2
 case neg =>
  simp only [tt, seval, bneq hne]
  exact ⟨_, _, ⟨false, rfl, by simp [hne]⟩, end0 rfl⟩
 subst hne
 simp only [tt, seval]
 by_cases hne : limit = limit2
 case neg =>
  simp only [tt, seval, hne]
  exact ⟨_, _, ⟨false, rfl, by simp [hne]⟩, end0 rfl⟩
 subst hne
 simp only [tt, seval]
 refine fun _ _ => ?_
 by_cases hli : items.length = items2.length
 case neg =>
  have h1 : ((items.length : Int) = (items2.length : Int)) = False := eq_false fun e => hli (by omega)
  have h2 : decide ((items.length : Int) = (items2.length : Int)) = false := decide_eq_false fun e => hli (by omega)
  simp only [tt, seval, h1]
  exact ⟨_, _, ⟨false, rfl, by simp only [Bool.false_eq_true, false_iff]; intro e; exact hli (congrArg List.length (by injection e))⟩, end0 rfl⟩
 have e_hli : decide ((items.length : Int) = (items2.length : Int)) = true := decide_eq_true (by omega)
 simp only [tt, seval, e_hli]
 refine fun _ _ => ?_
 by_cases hlf : from_.length = from2.length
 case neg =>
  have h1 : ((from_.length : Int) = (from2.length : Int)) = False := eq_false fun e => hlf (by omega)
  have h2 : decide ((from_.length : Int) = (from2.length : Int)) = false := decide_eq_false fun e => hlf (by omega)
  simp only [tt, seval, h1]
  exact ⟨_, _, ⟨false, rfl, by simp only [Bool.false_eq_true, false_iff]; intro e; exact hlf (congrArg List.length (by injection e))⟩, end0 rfl⟩
 have e_hlf : decide ((from_.length : Int) = (from2.length : Int)) = true := decide_eq_true (by omega)
 simp only [tt, seval, e_hlf]
 refine fun _ _ => ?_
 by_cases hlo : order.length = order2.length
 case neg =>
  have h1 : ((order.length : Int) = (order2.length : Int)) = False := eq_false fun e => hlo (by omega)
  have h2 : decide ((order.length : Int) = (order2.length : Int)) = false := decide_eq_false fun e => hlo (by omega)
  simp only [tt, seval, h1]
  exact ⟨_, _, ⟨false, rfl, by simp only [Bool.false_eq_true, false_iff]; intro e; exact hlo (congrArg List.length (by injection e))⟩, end0 rfl⟩
 have e_hlo : decide ((order.length : Int) = (order2.length : Int)) = true := decide_eq_true (by omega)
 simp only [tt, seval, e_hlo]
 refine call0 (l7SameG where_ where2 hw) ?_ ?_ ?_
 ·decide
 ·simp only [tt, seval]
 rintro r ⟨tk, rfl, htk⟩
 simp only [tt, seval]
 cases tk
 ·try simp only [tt, seval]
  exact ⟨_, _, ⟨false, rfl, by simp at htk; simp [htk]⟩, end0 rfl⟩
 obtain rfl := htk.1 rfl
 simp only [tt, seval]
 refine dLoop.intro (fun f L p => ∃ i : Nat, f 5 = vi i ∧ i ≤ items.length ∧ (∀ j (hj : j < items.length) (hk : j < items2.length), j < i → items[j] = items2[j]) ∧ L = [(2, .str [.v (.bool distinct), .sl items.length (items.flatMap Item.row) none, .sl from_.length (from_.flatMap Source.row) none, .sl where_.length (where_.flatMap Expr.row) none, .sl order.length (order.flatMap SortKey.row) none, .v (.int .i64 limit)]), (3, .str [.v (.bool distinct), .sl items2.length (items2.flatMap Item.row) none, .sl from2.length (from2.flatMap Source.row) none, .sl where_.length (where_.flatMap Expr.row) none, .sl order2.length (order2.flatMap SortKey.row) none, .v (.int .i64 limit)])] ∧ p = none) (fun f _ _ => (items.length - ixS (f 5)).toNat) [(2, .str [.v (.bool distinct), .sl items.length (items.flatMap Item.row) none, .sl from_.length (from_.flatMap Source.row) none, .sl where_.length (where_.flatMap Expr.row) none, .sl order.length (order.flatMap SortKey.row) none, .v (.int .i64 limit)]), (3, .str [.v (.bool distinct), .sl items2.length (items2.flatMap Item.row) none, .sl from2.length (from2.flatMap Source.row) none, .sl where_.length (where_.flatMap Expr.row) none, .sl order2.length (order2.flatMap SortKey.row) none, .v (.int .i64 limit)])] none ⟨SubO.cons rfl (SubO.cons rfl (SubO.nil _)), PoSub.none _, ?_⟩ ?_
 ·simp only [tt, seval]
  exact ⟨0, rfl, Nat.zero_le _, fun j _ _ h => absurd h (Nat.not_lt_zero _)⟩
 rintro g L p ⟨i, ix, hi, hal, rfl, rfl⟩
 simp only [tt, seval] at ix
 simp only [tt, seval, ix, Int.ofNat_lt]
 refine fun _ => And.intro (fun hlt => ?_) (fun hge => ?_)
 ·have hlt : i < items.length := by omega
  have hlb : i < items2.length := by omega
  have bad : ¬ items[i] = items2[i] → ¬ items = items2 := fun h e => h (by simp only [e])
  have hS := hI items[i] (List.getElem_mem hlt) items2[i] (List.getElem_mem hlb)
  obtain ⟨x, hx⟩ : ∃ x, x = items[i] := ⟨_, rfl⟩
  obtain ⟨y, hy⟩ : ∃ y, y = items2[i] := ⟨_, rfl⟩
  rw [← hx, ← hy] at hS
  obtain ⟨st, qu, ⟨k, o, nn, v, q2, m, ks, ss⟩, al⟩ := x
  obtain ⟨st', qu', ⟨k', o', nn', v', q2', m', ks', ss'⟩, al'⟩ := y
  replace hS : Cl Tryz.prog 20 [.ag (csOf (Expr.mk k o nn v q2 m ks ss).row), .ag (csOf (Expr.mk k' o' nn' v' q2' m' ks' ss').row)] [] fun r _ => ∃ t : Bool, r = vb t ∧ (t = true ↔ (Expr.mk k o nn v q2 m ks ss) = (Expr.mk k' o' nn' v' q2' m' ks' ss')) := hS
  simp only [Expr.row_mk] at hS
  refine ⟨by omega, by omega, _, drop_row Item.row_len (List.getElem?_eq_getElem hlt), Item.ne _ _, ?_⟩
  rw [← hx]
  simp only [tt, seval, Item.row_mk, Expr.row_mk]
  refine ⟨by omega, by omega, _, drop_row Item.row_len (List.getElem?_eq_getElem hlb), Item.ne _ _, ?_⟩
  rw [← hy]
  simp only [tt, seval, Item.row_mk, Expr.row_mk]
  by_cases hne : st = st'
  case neg =>
   simp only [tt, seval, bneq hne]
   refine ⟨_, _, ⟨false, rfl, ?_⟩, end0 rfl⟩
   simp only [Bool.false_eq_true, false_iff]
   intro e
   exact bad (fun e2 => hne (by rw [← hx, ← hy] at e2; injection e2)) (by injection e)
  subst hne
  simp only [tt, seval]
  by_cases hne : qu = qu'
  case neg =>
   simp only [tt, seval, hne]
   refine ⟨_, _, ⟨false, rfl, ?_⟩, end0 rfl⟩
   simp only [Bool.false_eq_true, false_iff]
   intro e
   exact bad (fun e2 => hne (by rw [← hx, ← hy] at e2; injection e2)) (by injection e)
  subst hne
  simp only [tt, seval]
  by_cases hne : al = al'
  case neg =>
   simp only [tt, seval, hne]
   refine ⟨_, _, ⟨false, rfl, ?_⟩, end0 rfl⟩
   simp only [Bool.false_eq_true, false_iff]
   intro e
   exact bad (fun e2 => hne (by rw [← hx, ← hy] at e2; injection e2)) (by injection e)
  subst hne
  simp only [tt, seval]
  refine call0 (hS) ?_ ?_ ?_
  ·decide
  ·simp only [tt, seval]
  rintro r ⟨tb, rfl, htb⟩
  simp only [tt, seval, ix]
  have htb : tb = true ↔ items[i] = items2[i] := by rw [← hx, ← hy, htb]; simp
  refine And.intro (fun hb => ?_) (fun hb => ?_)
  ·have hb : tb = false := by simpa only [Bool.not_eq_true'] using hb
   refine ⟨_, _, ⟨false, rfl, ?_⟩, end0 rfl⟩
   simp only [Bool.false_eq_true, false_iff]
   intro e
   refine bad (fun e2 => ?_) (by injection e)
   rw [htb.2 e2] at hb; cases hb
  ·have hb : tb = true := by simpa only [Bool.not_eq_false'] using hb
   try rw [wrS i (by omega)]
   exact ⟨_, none, SubO.cons rfl (SubO.cons rfl (SubO.nil _)), PoSub.none _, ⟨i + 1, rfl, by omega, fun j hj hk hji => by
    by_cases e : j = i
    ·subst e; exact htb.1 hb
    ·exact hal j hj hk (by omega), rfl, rfl⟩, by simp only [ixS]; omega⟩
 have heq : items = items2 := List.ext_getElem hli fun j h1 h2 => hal j h1 h2 (by omega)
 subst heq
 refine dLoop.intro (fun f L p => ∃ i : Nat, f 8 = vi i ∧ i ≤ from_.length ∧ (∀ j (hj : j < from_.length) (hk : j < from2.length), j < i → from_[j] = from2[j]) ∧ L = [(2, .str [.v (.bool distinct), .sl items.length (items.flatMap Item.row) none, .sl from_.length (from_.flatMap Source.row) none, .sl where_.length (where_.flatMap Expr.row) none, .sl order.length (order.flatMap SortKey.row) none, .v (.int .i64 limit)]), (3, .str [.v (.bool distinct), .sl items.length (items.flatMap Item.row) none, .sl from2.length (from2.flatMap Source.row) none, .sl where_.length (where_.flatMap Expr.row) none, .sl order2.length (order2.flatMap SortKey.row) none, .v (.int .i64 limit)])] ∧ p = none) (fun f _ _ => (from_.length - ixS (f 8)).toNat) [(2, .str [.v (.bool distinct), .sl items.length (items.flatMap Item.row) none, .sl from_.length (from_.flatMap Source.row) none, .sl where_.length (where_.flatMap Expr.row) none, .sl order.length (order.flatMap SortKey.row) none, .v (.int .i64 limit)]), (3, .str [.v (.bool distinct), .sl items.length (items.flatMap Item.row) none, .sl from2.length (from2.flatMap Source.row) none, .sl where_.length (where_.flatMap Expr.row) none, .sl order2.length (order2.flatMap SortKey.row) none, .v (.int .i64 limit)])] none ⟨SubO.cons rfl (SubO.cons rfl (SubO.nil _)), PoSub.none _, ?_⟩ ?_
 ·simp only [tt, seval]
  exact ⟨0, rfl, Nat.zero_le _, fun j _ _ h => absurd h (Nat.not_lt_zero _)⟩
 rintro g L p ⟨i, ix, hi, hal, rfl, rfl⟩
 simp only [tt, seval] at ix
 simp only [tt, seval, ix, Int.ofNat_lt]
 refine fun _ => And.intro (fun hlt => ?_) (fun hge => ?_)
 ·have hlt : i < from_.length := by omega
  have hlb : i < from2.length := by omega
  have bad : ¬ from_[i] = from2[i] → ¬ from_ = from2 := fun h e => h (by simp only [e])
  have hS := hF from_[i] (List.getElem_mem hlt) from2[i] (List.getElem_mem hlb)
  obtain ⟨x, hx⟩ : ∃ x, x = from_[i] := ⟨_, rfl⟩
  obtain ⟨y, hy⟩ : ∃ y, y = from2[i] := ⟨_, rfl⟩
  rw [← hx, ← hy] at hS
  obtain ⟨ta, al, on⟩ := x
  obtain ⟨ta', al', on'⟩ := y
  replace hS : ∀ a, a ∈ on → ∀ y, y ∈ on' → Cl Tryz.prog 20 [.ag (csOf a.row), .ag (csOf y.row)] [] fun r _ => ∃ t : Bool, r = vb t ∧ (t = true ↔ a = y) := hS
  refine ⟨by omega, by omega, _, drop_row Source.row_len (List.getElem?_eq_getElem hlt), Source.ne _ _, ?_⟩
  rw [← hx]
  simp only [tt, seval, Source.row_mk]
  refine ⟨by omega, by omega, _, drop_row Source.row_len (List.getElem?_eq_getElem hlb), Source.ne _ _, ?_⟩
  rw [← hy]
  simp only [tt, seval, Source.row_mk]
  by_cases hne : ta = ta'
  case neg =>
   simp only [tt, seval, hne]
   refine ⟨_, _, ⟨false, rfl, ?_⟩, end0 rfl⟩
   simp only [Bool.false_eq_true, false_iff]
   intro e
   exact bad (fun e2 => hne (by rw [← hx, ← hy] at e2; injection e2)) (by injection e)
  subst hne
  simp only [tt, seval]
  by_cases hne : al = al'
  case neg =>
   simp only [tt, seval, hne]
   refine ⟨_, _, ⟨false, rfl, ?_⟩, end0 rfl⟩
   simp only [Bool.false_eq_true, false_iff]
   intro e
   exact bad (fun e2 => hne (by rw [← hx, ← hy] at e2; injection e2)) (by injection e)
  subst hne
  simp only [tt, seval]
  refine call0 (l7SameG on on' hS) ?_ ?_ ?_
  ·decide
  ·simp only [tt, seval]
  rintro r ⟨tb, rfl, htb⟩
  simp only [tt, seval, ix]
  have htb : tb = true ↔ from_[i] = from2[i] := by rw [← hx, ← hy, htb]; simp
  refine And.intro (fun hb => ?_) (fun hb => ?_)
  ·have hb : tb = false := by simpa only [Bool.not_eq_true'] using hb
   refine ⟨_, _, ⟨false, rfl, ?_⟩, end0 rfl⟩
   simp only [Bool.false_eq_true, false_iff]
   intro e
   refine bad (fun e2 => ?_) (by injection e)
   rw [htb.2 e2] at hb; cases hb
  ·have hb : tb = true := by simpa only [Bool.not_eq_false'] using hb
   try rw [wrS i (by omega)]
   exact ⟨_, none, SubO.cons rfl (SubO.cons rfl (SubO.nil _)), PoSub.none _, ⟨i + 1, rfl, by omega, fun j hj hk hji => by
    by_cases e : j = i
    ·subst e; exact htb.1 hb
    ·exact hal j hj hk (by omega), rfl, rfl⟩, by simp only [ixS]; omega⟩
 have heq : from_ = from2 := List.ext_getElem hlf fun j h1 h2 => hal j h1 h2 (by omega)
 subst heq
 refine dLoop.intro (fun f L p => ∃ i : Nat, f 11 = vi i ∧ i ≤ order.length ∧ (∀ j (hj : j < order.length) (hk : j < order2.length), j < i → order[j] = order2[j]) ∧ L = [(2, .str [.v (.bool distinct), .sl items.length (items.flatMap Item.row) none, .sl from_.length (from_.flatMap Source.row) none, .sl where_.length (where_.flatMap Expr.row) none, .sl order.length (order.flatMap SortKey.row) none, .v (.int .i64 limit)]), (3, .str [.v (.bool distinct), .sl items.length (items.flatMap Item.row) none, .sl from_.length (from_.flatMap Source.row) none, .sl where_.length (where_.flatMap Expr.row) none, .sl order2.length (order2.flatMap SortKey.row) none, .v (.int .i64 limit)])] ∧ p = none) (fun f _ _ => (order.length - ixS (f 11)).toNat) [(2, .str [.v (.bool distinct), .sl items.length (items.flatMap Item.row) none, .sl from_.length (from_.flatMap Source.row) none, .sl where_.length (where_.flatMap Expr.row) none, .sl order.length (order.flatMap SortKey.row) none, .v (.int .i64 limit)]), (3, .str [.v (.bool distinct), .sl items.length (items.flatMap Item.row) none, .sl from_.length (from_.flatMap Source.row) none, .sl where_.length (where_.flatMap Expr.row) none, .sl order2.length (order2.flatMap SortKey.row) none, .v (.int .i64 limit)])] none ⟨SubO.cons rfl (SubO.cons rfl (SubO.nil _)), PoSub.none _, ?_⟩ ?_
 ·simp only [tt, seval]
  exact ⟨0, rfl, Nat.zero_le _, fun j _ _ h => absurd h (Nat.not_lt_zero _)⟩
 rintro g L p ⟨i, ix, hi, hal, rfl, rfl⟩
 simp only [tt, seval] at ix
 simp only [tt, seval, ix, Int.ofNat_lt]
 refine fun _ => And.intro (fun hlt => ?_) (fun hge => ?_)
 ·have hlt : i < order.length := by omega
  have hlb : i < order2.length := by omega
  have bad : ¬ order[i] = order2[i] → ¬ order = order2 := fun h e => h (by simp only [e])
  have hS := hO order[i] (List.getElem_mem hlt) order2[i] (List.getElem_mem hlb)
  obtain ⟨x, hx⟩ : ∃ x, x = order[i] := ⟨_, rfl⟩
  obtain ⟨y, hy⟩ : ∃ y, y = order2[i] := ⟨_, rfl⟩
  rw [← hx, ← hy] at hS
  obtain ⟨⟨k, o, nn, v, q2, m, ks, ss⟩, de⟩ := x
  obtain ⟨⟨k', o', nn', v', q2', m', ks', ss'⟩, de'⟩ := y
  replace hS : Cl Tryz.prog 20 [.ag (csOf (Expr.mk k o nn v q2 m ks ss).row), .ag (csOf (Expr.mk k' o' nn' v' q2' m' ks' ss').row)] [] fun r _ => ∃ t : Bool, r = vb t ∧ (t = true ↔ (Expr.mk k o nn v q2 m ks ss) = (Expr.mk k' o' nn' v' q2' m' ks' ss')) := hS
  simp only [Expr.row_mk] at hS
  refine dDrawn.intro [] (pln [0, 2, 4, 6, 8, 10, 12, 14, 16, 18, 20, 22, 24, 26, 28, 30, 32, 34, 36, 38, 40, 42, 44, 46, 48, 50, 53, 54, 56]) (by kernel_rfl) ?_
  simp only [tt, seval]
  simp only [tt, seval, ix]
  refine ⟨by omega, by omega, _, drop_row SortKey.row_len (List.getElem?_eq_getElem hlt), SortKey.ne _ _, ?_⟩
  rw [← hx]
  simp only [tt, seval, SortKey.row_mk, Expr.row_mk]
  refine ⟨by omega, by omega, _, drop_row SortKey.row_len (List.getElem?_eq_getElem hlb), SortKey.ne _ _, ?_⟩
  rw [← hy]
  simp only [tt, seval, SortKey.row_mk, Expr.row_mk]
  by_cases hne : de = de'
  case neg =>
   simp only [tt, seval, bneq hne]
   refine ⟨_, _, ⟨false, rfl, ?_⟩, end0 rfl⟩
   simp only [Bool.false_eq_true, false_iff]
   intro e
   exact bad (fun e2 => hne (by rw [← hx, ← hy] at e2; injection e2)) (by injection e)
  subst hne
  simp only [tt, seval, ix]
  refine ⟨by omega, by omega, _, drop_row SortKey.row_len (List.getElem?_eq_getElem hlt), SortKey.ne _ _, ?_⟩
  rw [← hx]
  simp only [tt, seval, SortKey.row_mk, Expr.row_mk]
  refine ⟨by omega, by omega, _, drop_row SortKey.row_len (List.getElem?_eq_getElem hlb), SortKey.ne _ _, ?_⟩
  rw [← hy]
  simp only [tt, seval, SortKey.row_mk, Expr.row_mk]
  refine call0 (hS) ?_ ?_ ?_
  ·decide
  ·simp only [tt, seval]
  rintro r ⟨tb, rfl, htb⟩
  simp only [tt, seval, ix]
  have htb : tb = true ↔ order[i] = order2[i] := by rw [← hx, ← hy, htb]; simp
  refine And.intro (fun hb => ?_) (fun hb => ?_)
  ·have hb : tb = false := by simpa only [Bool.not_eq_true'] using hb
   refine ⟨_, _, ⟨false, rfl, ?_⟩, end0 rfl⟩
   simp only [Bool.false_eq_true, false_iff]
   intro e
   refine bad (fun e2 => ?_) (by injection e)
   rw [htb.2 e2] at hb; cases hb
  ·have hb : tb = true := by simpa only [Bool.not_eq_false'] using hb
   try rw [wrS i (by omega)]
   exact ⟨_, none, SubO.cons rfl (SubO.cons rfl (SubO.nil _)), PoSub.none _, ⟨i + 1, rfl, by omega, fun j hj hk hji => by
    by_cases e : j = i
    ·subst e; exact htb.1 hb
    ·exact hal j hj hk (by omega), rfl, rfl⟩, by simp only [ixS]; omega⟩
 have heq : order = order2 := List.ext_getElem hlo fun j h1 h2 => hal j h1 h2 (by omega)
 subst heq
 exact ⟨_, _, ⟨true, rfl, by simp⟩, end0 rfl⟩
theorem sameG_all (n : Nat) : (∀ a : Expr, SizeOf.sizeOf a < n → ∀ b : Expr, Cl Tryz.prog 20 [.ag (csOf a.row), .ag (csOf b.row)] [] fun r _ => ∃ t : Bool, r = vb t ∧ (t = true ↔ a = b)) ∧ ∀ a : Query, SizeOf.sizeOf a < n → ∀ b : Query, Cl Tryz.prog 60 [.ag (csOf a.row), .ag (csOf b.row)] [] fun r _ => ∃ t : Bool, r = vb t ∧ (t = true ↔ a = b) := by
 induction n with
 | zero => exact ⟨fun _ h => absurd h (Nat.not_lt_zero _), fun _ h => absurd h (Nat.not_lt_zero _)⟩
 | succ n ih =>
  refine ⟨fun a he b => ?_, fun a hq b => ?_⟩
  ·obtain ⟨kind, op, not, val, qual, name, kids, sub⟩ := a
   obtain ⟨kind2, op2, not2, val2, qual2, name2, kids2, sub2⟩ := b
   rw [Expr.mk.sizeOf_spec] at he
   exact sSameExprG_step kind op not val qual name kids sub kind2 op2 not2 val2 qual2 name2 kids2 sub2 (fun x hx y _ => ih.1 x (by have := List.sizeOf_lt_of_mem hx; omega) y) fun x hx y _ => ih.2 x (by have := List.sizeOf_lt_of_mem hx; omega) y
  ·have h2 : ∀ x ∈ allQ a, SizeOf.sizeOf x < n := fun x hx => by have := allQ_lt hx; omega
   obtain ⟨distinct, items, from_, where_, order, limit⟩ := a
   obtain ⟨distinct2, items2, from2, where2, order2, limit2⟩ := b
   exact sSameQueryG_step distinct items from_ where_ order limit distinct2 items2 from2 where2 order2 limit2 fun x hx y _ => ih.1 x (h2 x hx) y
theorem SameExprG (a b : Expr) : Cl Tryz.prog 20 [.ag (csOf a.row), .ag (csOf b.row)] [] fun r _ => ∃ t : Bool, r = vb t ∧ (t = true ↔ a = b) := (sameG_all _).1 a (Nat.lt_succ_self _) b
end Go.Proofs.YtoegnikpokgbfaaGreatDoor
