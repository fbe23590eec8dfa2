/-
  Plain trees; derivations.
  Conditions: none.
-/
import Derived.Test.YtabhiapifcanoaaGreatDoorEDB3
import Derived.Test.YtabhiapifcanoaaGreatDoorEDD2
import Derived.Test.YtabhiapifcanoaaGreatDoorEDV
set_option linter.unusedVariables false
set_option linter.unusedSimpArgs false
set_option linter.unusedSectionVars false
set_option linter.unnecessarySimpa false
set_option maxRecDepth 8000
namespace Go.Proofs.YtabhiapifcanoaaGreatDoor
open Go Go.Dv
open Go.Vc (D shrI xorI andI)
theorem IndexH_d (l : List Expr) (g : Expr → Bool) (h : ∀ x ∈ l, Cl Tryz.prog 31 [.ag (csOf x.row)] [] fun r _ => r = vb (!g x)) : Cl Tryz.prog 112 [.c (.sl l.length (l.flatMap Expr.row) none), .c (.fn 31 [] [])] [] fun r _ => ∃ n : Int, r = vi n ∧ decide (0 ≤ n) = !(l.all g) := by
 refine cl_of_d follows_mixed false Tryz.func112 rfl (by kernel_rfl) ?_
 simp only [Tryz.f112, tt, seval]
 refine fun _ => ?_
 refine dLoop.intro (fun f L p => ∃ i : Nat, f 8 = vi i ∧ i ≤ l.length ∧ (∀ j (hj : j < l.length), j < i → g l[j] = true) ∧ L = [] ∧ p = none) (fun f _ _ => (l.length - ixS (f 8)).toNat) [] none ⟨SubO.nil _, PoSub.none _, ?_⟩ ?_
 ·simp only [tt, seval]
  exact ⟨0, rfl, by omega, fun j _ h => absurd h (Nat.not_lt_zero _)⟩
 ·rintro g' L p ⟨i, hix, hi, hall, rfl, rfl⟩
  simp only [tt, seval] at hix
  simp only [tt, seval, hix, Int.ofNat_lt]
  refine And.intro (fun hlt => ?_) (fun hge => ?_)
  ·refine ⟨by omega, by omega, _, drop_row Expr.row_len (List.getElem?_eq_getElem hlt), Expr.ne _ _, ?_⟩
   simp only [tt, seval, hix, Expr.tk, Expr.row_len]
   refine cZ (h l[i] (List.getElem_mem hlt)) (by decide) ?_ ?_ <;> simp only [tt, seval, hix]
   refine And.intro (fun hb => ?_) (fun hb => ?_)
   ·have hb : g l[i] = false := by simpa only [Bool.not_eq_true'] using hb
    refine ⟨vi i, [], ⟨i, rfl, ?_⟩, end0 rfl⟩
    rw [decide_eq_true (by omega), all_false (List.getElem_mem hlt) hb]; rfl
   ·have hb : g l[i] = true := by simpa only [Bool.not_eq_false'] using hb
    try rw [wrS i (by omega)]
    exact ⟨_, none, SubO.nil _, PoSub.none _, ⟨i + 1, rfl, by omega, fun j hj hji => by
     by_cases e : j = i
     ·subst e; exact hb
     ·exact hall j hj (by omega), rfl, rfl⟩, by simp only [ixS]; omega⟩
  ·refine ⟨vi (-1), [], ⟨-1, rfl, ?_⟩, end0 rfl⟩
   rw [all_true fun j hj => hall j hj (by omega)]; rfl
theorem ContainsH_d (l : List Expr) (g : Expr → Bool) (h : ∀ x ∈ l, Cl Tryz.prog 31 [.ag (csOf x.row)] [] fun r _ => r = vb (!g x)) : Cl Tryz.prog 67 [.c (.sl l.length (l.flatMap Expr.row) none), .c (.fn 31 [] [])] [] fun r _ => r = vb (!(l.all g)) := by
 refine cl_of_d follows_mixed false Tryz.func67 rfl (by kernel_rfl) ?_
 simp only [Tryz.f67, tt, seval]
 refine call0 (IndexH_d l g h) ?_ ?_ ?_
 ·decide
 ·simp only [tt, seval]
 rintro r ⟨n, rfl, hn⟩
 simp only [tt, seval]
 exact ⟨_, _, vbE hn, end0 rfl⟩
theorem hasSub_d (e : Expr) : Cl Tryz.prog 31 [.ag (csOf e.row)] [] fun r _ => r = vb (!plE e) := by
 refine foldE_ind (P := fun e b => Cl Tryz.prog 31 [.ag (csOf e.row)] [] fun r _ => r = vb (!b)) (fun e g hg => ?_) e
 obtain ⟨kind, op, not, val, qual, name, kids, sub⟩ := e
 obtain ⟨zb, hzb⟩ : ∃ zb, zb = !plF g (Expr.mk kind op not val qual name kids sub) := ⟨_, rfl⟩
 rw [← hzb]
 rw [plF] at hzb
 rw [Expr.row_mk]
 refine cl_of_d follows_mixed false Tryz.func31 rfl (by kernel_rfl) ?_
 simp only [Tryz.f31, tt, seval]
 refine fun _ => ?_
 by_cases h : ((0 : Int) < (sub.length : Int))
 ·try simp only [tt, seval, decide_eq_true h, Bool.not_true, Bool.not_false, reduceCtorEq, false_implies, true_implies, and_true, true_and]
  exact ⟨_, _, vbE (b := zb) (by rw [hzb]; cases sub with | nil => simp at h | cons x r => simp), end0 rfl⟩
 ·try simp only [tt, seval, decide_eq_false h, Bool.not_true, Bool.not_false, reduceCtorEq, false_implies, true_implies, and_true, true_and]
  refine cZ (ContainsH_d kids g (fun x hx => hg x (.inl hx))) (by decide) ?_ ?_ <;> simp only [tt, seval, Expr.row_mk]
  exact ⟨_, _, vbE (b := zb) (by rw [hzb]; cases sub with | nil => simp | cons x r => (simp only [List.length_cons] at h; omega)), end0 rfl⟩
theorem l15Plain_d_step (kind op : Int) (not : Bool) (val : Val) (qual name : ByteArray) (kids : List Expr) (sub : List Query) (g : Expr → Bool) (hg : ∀ x ∈ kids, Cl Tryz.prog 45 [.ag (csOf x.row)] [] fun r _ => r = vb (g x)) : Cl Tryz.prog 45 [.ag (csOf (Expr.mk kind op not val qual name kids sub).row)] [] fun r _ => r = vb (plF g (Expr.mk kind op not val qual name kids sub)) := by
 obtain ⟨zb, hzb⟩ : ∃ zb, zb = plF g (Expr.mk kind op not val qual name kids sub) := ⟨_, rfl⟩
 rw [← hzb]
 rw [plF] at hzb
 rw [Expr.row_mk]
 refine cl_of_d follows_mixed false Tryz.func45 rfl (by kernel_rfl) ?_
 simp only [Tryz.f45, tt, seval]
 refine dLoop.intro (fun f L p => ∃ i : Nat, f 3 = vi i ∧ i ≤ kids.length ∧ (∀ j (hj : j < kids.length), j < i → g kids[j] = true) ∧ L = [(1, .str [.v (.int .i64 kind), .v (.int .i64 op), .v (.bool not), .v (.int .i64 val.kind), .v (.int .i64 val.num), .v (.string val.text), .v (.string qual), .v (.string name), .sl kids.length (kids.flatMap Expr.row) none, .sl sub.length (sub.flatMap Query.row) none])] ∧ p = none) (fun f _ _ => (kids.length - ixS (f 3)).toNat) [(1, .str [.v (.int .i64 kind), .v (.int .i64 op), .v (.bool not), .v (.int .i64 val.kind), .v (.int .i64 val.num), .v (.string val.text), .v (.string qual), .v (.string name), .sl kids.length (kids.flatMap Expr.row) none, .sl sub.length (sub.flatMap Query.row) none])] none ⟨SubO.cons rfl (SubO.nil _), PoSub.none _, ?_⟩ ?_
 ·simp only [tt, seval]
  exact ⟨0, rfl, by omega, fun j _ h => absurd h (Nat.not_lt_zero _)⟩
 ·rintro g' L p ⟨i, ix, hi, hal, rfl, rfl⟩
  simp only [tt, seval] at ix
  simp only [tt, seval, ix, Int.ofNat_lt]
  refine fun _ => And.intro (fun hlt => ?_) (fun hge => ?_)
  ·have hlt : i < kids.length := by omega
   refine ⟨by omega, by omega, _, drop_row Expr.row_len (List.getElem?_eq_getElem hlt), Expr.ne _ _, ?_⟩
   simp only [tt, seval, ix, Expr.tk, Expr.row_len]
   refine cZ (hg kids[i] (List.getElem_mem hlt)) (by decide) ?_ ?_ <;> simp only [tt, seval, ix]
   refine And.intro (fun hb => ?_) (fun hb => ?_)
   ·have hb : g kids[i] = false := by simpa only [Bool.not_eq_true'] using hb
    exact ⟨_, _, vbE (by rw [hzb, all_false (List.getElem_mem hlt) hb]; rfl), end0 rfl⟩
   ·have hb : g kids[i] = true := by simpa only [Bool.not_eq_false'] using hb
    try simp only [tt, seval, ix]
    try rw [wrS i (by omega)]
    exact ⟨_, none, SubO.cons rfl (SubO.nil _), PoSub.none _, ⟨i + 1, rfl, by omega, fun j hj hji => by
     by_cases e : j = i
     ·subst e; exact hb
     ·exact hal j hj (by omega), rfl, rfl⟩, by simp only [ixS]; omega⟩
  ·rw [all_true fun j hj => hal j hj (by omega), Bool.true_and] at hzb
   try simp only [tt, seval]
   refine fun _ => ?_
   refine ⟨_, _, vbE (b := zb) ?_, end0 rfl⟩
   rw [hzb]
   cases sub with
   | nil => rfl
   | cons x r =>
    have h : ¬ (((x :: r).length : Nat) : Int) = 0 := by simp only [List.length_cons]; omega
    rw [decide_eq_false h]; rfl
theorem l15Plain_d (e : Expr) : Cl Tryz.prog 45 [.ag (csOf e.row)] [] fun r _ => r = vb (plE e) := by
 refine foldE_ind (P := fun e b => Cl Tryz.prog 45 [.ag (csOf e.row)] [] fun r _ => r = vb b) (fun e g hg => ?_) e
 obtain ⟨kind, op, not, val, qual, name, kids, sub⟩ := e
 exact l15Plain_d_step kind op not val qual name kids sub g fun x hx => hg x (.inl hx)
theorem l15Same_d (t u : Tok) : Cl Tryz.prog 92 [.ag (csOf t.row), .ag (csOf u.row)] [] fun r _ => r = vb (sameT t u) := by
 obtain ⟨tk, tt', ta⟩ := t
 obtain ⟨uk, ut, ua⟩ := u
 simp only [Tok.row]
 refine cl_of_d follows_mixed false Tryz.func92 rfl (by kernel_rfl) ?_
 simp only [Tryz.f92, tt, seval]
 by_cases hk : tk = uk
 case neg =>
  try simp only [tt, seval, hk, decide_eq_false hk]
  exact ⟨_, _, vbE (by simp [sameT, hk]), end0 rfl⟩
 try simp only [tt, seval, hk, decide_true]
 exact ⟨_, _, vbE (by simp [sameT, hk]), end0 rfl⟩
theorem l14Is_d (t : Tok) (s : ByteArray) : Cl Tryz.prog 89 [.ag (csOf t.row), vs s] [] fun r _ => r = vb (sameT t (gT s)) := by
 obtain ⟨tk, tt', ta⟩ := t
 simp only [Tok.row]
 refine cl_of_d follows_mixed false Tryz.func89 rfl (by kernel_rfl) ?_
 simp only [Tryz.f89, tt, seval]
 by_cases hk : tk = 5
 case neg =>
  try simp only [tt, seval, hk, decide_eq_false hk]
  exact ⟨_, _, vbE (by simp [sameT, gT, hk]), end0 rfl⟩
 try simp only [tt, seval, hk, decide_true]
 exact ⟨_, _, vbE (by show _ = (decide ((5 : Int) = 5) && decide (tt' = s)); simp only [decide_true, Bool.true_and]), end0 rfl⟩
theorem l15Word_d (t : Tok) (k : Nat) (h1 : 1 ≤ k) (h2 : k ≤ 28) : Cl Tryz.prog 148 [.ag (csOf t.row), vi k] [] fun r _ => r = vb (sameT t (kT k)) := by
 obtain ⟨tk, tt', ta⟩ := t
 simp only [Tok.row]
 refine cl_of_d follows_mixed false Tryz.func148 rfl (by kernel_rfl) ?_
 simp only [Tryz.f148, tt, seval]
 refine dDrawn.intro [] (pln [0, 2, 4, 6, 8, 10, 12, 15, 16, 18, 20]) (by kernel_rfl) ?_
 simp only [tt, seval]
 by_cases hk : tk = 1
 case neg =>
  try simp only [tt, seval, hk, decide_eq_false hk]
  exact ⟨_, _, vbE (by simp [sameT, kT, hk]), end0 rfl⟩
 try simp only [tt, seval, hk, decide_true]
 refine cZ (KeyText_d k h1 h2) (by decide) ?_ ?_ <;> simp only [tt, seval]
 exact ⟨_, _, vbE (by show _ = (decide ((1 : Int) = 1) && decide (tt' = kw k)); simp only [decide_true, Bool.true_and]), end0 rfl⟩
def DerC (e : Expr) (f : DF) : Prop := ∀ (l : List Tok) (n : Nat) (v : Int), n = l.length → l.length ≤ 2000 → Cl Tryz.prog 46 [.c (.sl n (l.flatMap Tok.row) none), .ag (csOf e.row), vi v] [] fun r _ => r = vb (f l v)
theorem l15Kid_d (kind op : Int) (not : Bool) (val : Val) (qual name : ByteArray) (kids : List Expr) (sub : List Query) (g : Expr → DF) (hg : ∀ x ∈ kids, DerC x (g x)) (k : Nat) (hk : k < kids.length) (l : List Tok) (n : Nat) (hn : n = l.length) (hl : l.length ≤ 2000) : Cl Tryz.prog 94 [.c (.sl n (l.flatMap Tok.row) none), .ag (csOf (Expr.mk kind op not val qual name kids sub).row), vi k] [] fun r _ => r = vb (kidD g kind op kids k l) := by
 subst hn
 have c1 := hg kids[k] (List.getElem_mem hk) l _ (nd kind op k) rfl hl
 have c2 := Needs_d kind op not val qual name kids sub k hk
 have e1 : kidD g kind op kids k l = g kids[k] l (nd kind op k) := by unfold kidD; rw [List.getElem?_eq_getElem hk]
 rw [e1]
 generalize g kids[k] l (nd kind op k) = z at *
 rw [Expr.row_mk] at c2 ⊢
 refine cl_of_d follows_mixed false Tryz.func94 rfl (by kernel_rfl) ?_
 simp only [Tryz.f94, tt, seval]
 refine dDrawn.intro [] (pln [0, 2, 4, 6, 8, 10, 12, 14, 17, 19, 20]) (by kernel_rfl) ?_
 simp only [tt, seval]
 refine ⟨by omega, by omega, _, drop_row Expr.row_len (List.getElem?_eq_getElem hk), Expr.ne _ _, ?_⟩
 simp only [tt, seval, Expr.tk, Expr.row_len]
 refine cZ (c2) (by decide) ?_ ?_ <;> simp only [tt, seval]
 refine cZ (c1) (by decide) ?_ ?_ <;> simp only [tt, seval]
 exact ⟨_, _, rfl, end0 rfl⟩
theorem atQ_lt {l : List Tok} {i : Nat} (h : i < l.length) (u : Tok) : atQ l i u = sameT l[i] u := by unfold atQ; rw [List.getElem?_eq_getElem h]
theorem atQ_ge {l : List Tok} {i : Nat} (h : ¬ i < l.length) (u : Tok) : atQ l i u = false := by unfold atQ; rw [List.getElem?_eq_none_iff.2 (by omega)]
theorem any_no {n : Nat} {p : Nat → Bool} (h : ∀ j, j < n → p j = false) : (List.range n).any p = false := by
 rw [List.any_eq_false]; exact fun x hx => by rw [h x (List.mem_range.1 hx)]; simp
theorem any_yes {n i : Nat} {p : Nat → Bool} (h : i < n) (hp : p i = true) : (List.range n).any p = true := List.any_eq_true.2 ⟨i, List.mem_range.2 h, hp⟩
set_option maxHeartbeats 4000000 in
theorem l15Two_d (kind op : Int) (not : Bool) (val : Val) (qual name : ByteArray) (kids : List Expr) (sub : List Query) (g : Expr → DF) (hg : ∀ x ∈ kids, DerC x (g x)) (h3 : 3 ≤ kids.length) (l : List Tok) (n : Nat) (hn : n = l.length) (hl : l.length ≤ 2000) : Cl Tryz.prog 150 [.c (.sl n (l.flatMap Tok.row) none), .ag (csOf (Expr.mk kind op not val qual name kids sub).row)] [] fun r _ => r = vb (twoD g kind op kids l) := by
 subst hn
 obtain ⟨p, hp⟩ : ∃ p : Nat → Bool, p = fun j => (decide (1 ≤ j) && (atQ l j (kT 13) && (kidD g kind op kids 1 (l.take j) && kidD g kind op kids 2 (l.drop (j + 1))))) := ⟨_, rfl⟩
 obtain ⟨zb, hzb⟩ : ∃ zb, zb = (List.range l.length).any p := ⟨_, rfl⟩
 rw [show twoD g kind op kids l = zb by rw [hzb, hp]; rfl]
 have c1 := l15Kid_d kind op not val qual name kids sub g hg 1 (by omega)
 have c2 := l15Kid_d kind op not val qual name kids sub g hg 2 (by omega)
 rw [Expr.row_mk] at c1 c2 ⊢
 refine cl_of_d follows_mixed false Tryz.func150 rfl (by kernel_rfl) ?_
 simp only [Tryz.f150, tt, seval]
 refine dLoop.intro (fun f L po => ∃ i : Nat, f 5 = vi i ∧ 1 ≤ i ∧ i ≤ l.length + 1 ∧ (∀ j, j < i → p j = false) ∧ L = [(3, .str [.v (.int .i64 kind), .v (.int .i64 op), .v (.bool not), .v (.int .i64 val.kind), .v (.int .i64 val.num), .v (.string val.text), .v (.string qual), .v (.string name), .sl kids.length (kids.flatMap Expr.row) none, .sl sub.length (sub.flatMap Query.row) none])] ∧ po = none) (fun f _ _ => (l.length + 1 - ixS (f 5)).toNat) [(3, .str [.v (.int .i64 kind), .v (.int .i64 op), .v (.bool not), .v (.int .i64 val.kind), .v (.int .i64 val.num), .v (.string val.text), .v (.string qual), .v (.string name), .sl kids.length (kids.flatMap Expr.row) none, .sl sub.length (sub.flatMap Query.row) none])] none ⟨SubO.cons rfl (SubO.nil _), PoSub.none _, ?_⟩ ?_
 ·simp only [tt, seval]
  exact ⟨1, rfl, by omega, by omega, fun j h => by rw [hp]; simp only; rw [decide_eq_false (by omega)]; rfl⟩
 rintro g' L po ⟨i, ix, hi1, hi, hal, rfl, rfl⟩
 simp only [tt, seval] at ix
 simp only [tt, seval, ix, Int.ofNat_lt]
 refine fun _ => And.intro (fun hlt => ?_) (fun hge => ?_)
 ·have hlt : i < l.length := by omega
  have hpi : p i = (sameT l[i] (kT 13) && (kidD g kind op kids 1 (l.take i) && kidD g kind op kids 2 (l.drop (i + 1)))) := by rw [hp]; simp only; rw [atQ_lt hlt, decide_eq_true hi1, Bool.true_and]
  have c1 := c1 (l.take i) i (by rw [List.length_take]; omega) (by rw [List.length_take]; omega)
  have c2 := c2 (l.drop (i + 1)) (l.length - (i + 1)) (by rw [List.length_drop]) (by rw [List.length_drop]; omega)
  generalize kidD g kind op kids 1 (l.take i) = b1 at *
  generalize kidD g kind op kids 2 (l.drop (i + 1)) = b2 at *
  have e1 : ((i : Int) - 0).toNat = i := by omega
  have e3 : IntKind.i64.wrap ((i : Int) + 1) = (i : Int) + 1 := wrap_id (by omega) (by omega)
  have e4 : ((i : Int) + 1).toNat = i + 1 := by omega
  have e5 : ((l.length : Int) - ((i : Int) + 1)).toNat = l.length - (i + 1) := by omega
  have e7 : (l.drop (i + 1)).take (l.length - (i + 1)) = l.drop (i + 1) := List.take_of_length_le (by rw [List.length_drop]; exact Nat.le_refl _)
  refine dDrawn.intro [] (pln [0, 2, 4, 6, 9, 10, 12, 14, 16, 18, 21, 22, 24, 26, 28, 30, 32, 34, 37, 38]) (by kernel_rfl) ?_
  simp only [tt, seval]
  try simp only [tt, seval, ix]
  refine ⟨by omega, by omega, _, drop_row Tok.row_len (List.getElem?_eq_getElem hlt), Tok.ne _ _, ?_⟩
  try simp only [tt, seval, ix, Tok.tk]
  refine cZ (l15Word_d l[i] 13 (by omega) (by omega)) (by decide) ?_ ?_ <;> simp only [tt, seval, ix]
  cases hc : sameT l[i] (kT 13)
  case false =>
   have hpi0 : p i = false := by rw [hpi, hc]; rfl
   try simp only [tt, seval, hc, Bool.not_true, Bool.not_false, reduceCtorEq, false_implies, true_implies, and_true, true_and, not_true_eq_false, not_false_eq_true, ix]
   try simp only [tt, seval, e3, ix]
   exact ⟨_, none, SubO.cons rfl (SubO.nil _), PoSub.none _, ⟨i + 1, rfl, by omega, by omega, fun j hj => by
    by_cases e : j = i
    ·rw [e]; exact hpi0
    ·exact hal j (by omega), rfl, rfl⟩, by simp only [ixS]; omega⟩
  try simp only [tt, seval, hc, Bool.not_true, Bool.not_false, reduceCtorEq, false_implies, true_implies, and_true, true_and, not_true_eq_false, not_false_eq_true, ix]
  refine ⟨by omega, by omega, ?_⟩
  simp only [e1, take_rows Tok.row_len]
  refine cZ (c1) (by decide) ?_ ?_ <;> simp only [tt, seval, ix]
  cases b1
  case false =>
   have hpi0 : p i = false := by rw [hpi, hc]; rfl
   try simp only [tt, seval, Bool.not_true, Bool.not_false, reduceCtorEq, false_implies, true_implies, and_true, true_and, not_true_eq_false, not_false_eq_true, ix]
   try simp only [tt, seval, e3, ix]
   exact ⟨_, none, SubO.cons rfl (SubO.nil _), PoSub.none _, ⟨i + 1, rfl, by omega, by omega, fun j hj => by
    by_cases e : j = i
    ·rw [e]; exact hpi0
    ·exact hal j (by omega), rfl, rfl⟩, by simp only [ixS]; omega⟩
  try simp only [tt, seval, Bool.not_true, Bool.not_false, reduceCtorEq, false_implies, true_implies, and_true, true_and, not_true_eq_false, not_false_eq_true, ix, e3]
  refine ⟨by omega, by omega, Int.le_refl _, ?_⟩
  simp only [e4, e5, drop_rows Tok.row_len, take_rows Tok.row_len, e7]
  refine cZ (c2) (by decide) ?_ ?_ <;> simp only [tt, seval, ix]
  cases b2
  case false =>
   have hpi0 : p i = false := by rw [hpi, hc]; rfl
   try simp only [tt, seval, Bool.not_true, Bool.not_false, reduceCtorEq, false_implies, true_implies, and_true, true_and, not_true_eq_false, not_false_eq_true, ix]
   try simp only [tt, seval, e3, ix]
   exact ⟨_, none, SubO.cons rfl (SubO.nil _), PoSub.none _, ⟨i + 1, rfl, by omega, by omega, fun j hj => by
    by_cases e : j = i
    ·rw [e]; exact hpi0
    ·exact hal j (by omega), rfl, rfl⟩, by simp only [ixS]; omega⟩
  try simp only [tt, seval, Bool.not_true, Bool.not_false, reduceCtorEq, false_implies, true_implies, and_true, true_and, not_true_eq_false, not_false_eq_true, ix]
  exact ⟨_, _, vbE (b := zb) (by rw [hzb, any_yes hlt (by rw [hpi, hc]; rfl)]), end0 rfl⟩
 ·try simp only [tt, seval]
  exact ⟨_, _, vbE (b := zb) (by rw [hzb, any_no fun j hj => hal j (by omega)]), end0 rfl⟩
theorem l15Among_d (kind op : Int) (not : Bool) (val : Val) (qual name : ByteArray) (kids : List Expr) (sub : List Query) (g : Expr → DF) (hg : ∀ x ∈ kids, DerC x (g x)) : ∀ (m k : Nat), k + m + 1 = kids.length → kids.length ≤ 2000 → ∀ (l : List Tok) (n : Nat), n = l.length → l.length ≤ 2000 → Cl Tryz.prog 151 [.c (.sl n (l.flatMap Tok.row) none), .ag (csOf (Expr.mk kind op not val qual name kids sub).row), vi k] [] fun r _ => r = vb (amongD g kind op kids m k l)
 | 0, k, hk, h9, l, n, hn, hl => by
  subst hn
  have c1 := l15Kid_d kind op not val qual name kids sub g hg k (by omega) l _ rfl hl
  rw [amongD]
  generalize kidD g kind op kids k l = z at *
  rw [Expr.row_mk] at c1 ⊢
  refine cl_of_d follows_mixed false Tryz.func151 rfl (by kernel_rfl) ?_
  simp only [Tryz.f151, tt, seval]
  refine fun _ => ?_
  rw [wrap_id (n := (kids.length : Int) - 1) (by omega) (by omega)]
  refine And.intro (fun h => ?_) (fun h => absurd (show (k : Int) = (kids.length : Int) - 1 by omega) h)
  refine cZ (c1) (by decide) ?_ ?_ <;> simp only [tt, seval]
  exact ⟨_, _, rfl, end0 rfl⟩
 | m + 1, k, hk, h9, l, n, hn, hl => by
  subst hn
  have cm := l15Among_d kind op not val qual name kids sub g hg m (k + 1) (by omega) h9
  obtain ⟨p, hp⟩ : ∃ p : Nat → Bool, p = fun j => (atQ l j cmT && (kidD g kind op kids k (l.take j) && amongD g kind op kids m (k + 1) (l.drop (j + 1)))) := ⟨_, rfl⟩
  obtain ⟨zb, hzb⟩ : ∃ zb, zb = (List.range l.length).any p := ⟨_, rfl⟩
  rw [show amongD g kind op kids (m + 1) k l = zb by rw [hzb, hp]; rfl]
  have c1 := l15Kid_d kind op not val qual name kids sub g hg k (by omega)
  rw [Expr.row_mk] at c1 cm ⊢
  refine cl_of_d follows_mixed false Tryz.func151 rfl (by kernel_rfl) ?_
  simp only [Tryz.f151, tt, seval]
  refine fun _ => ?_
  rw [wrap_id (n := (kids.length : Int) - 1) (by omega) (by omega)]
  refine And.intro (fun h => absurd h (by omega)) (fun h => ?_)
  refine dLoop.intro (fun f L po => ∃ i : Nat, f 7 = vi i ∧ i ≤ l.length ∧ (∀ j, j < i → p j = false) ∧ L = [(4, .str [.v (.int .i64 kind), .v (.int .i64 op), .v (.bool not), .v (.int .i64 val.kind), .v (.int .i64 val.num), .v (.string val.text), .v (.string qual), .v (.string name), .sl kids.length (kids.flatMap Expr.row) none, .sl sub.length (sub.flatMap Query.row) none])] ∧ po = none) (fun f _ _ => (l.length - ixS (f 7)).toNat) [(4, .str [.v (.int .i64 kind), .v (.int .i64 op), .v (.bool not), .v (.int .i64 val.kind), .v (.int .i64 val.num), .v (.string val.text), .v (.string qual), .v (.string name), .sl kids.length (kids.flatMap Expr.row) none, .sl sub.length (sub.flatMap Query.row) none])] none ⟨SubO.cons rfl (SubO.nil _), PoSub.none _, ?_⟩ ?_
  ·simp only [tt, seval]
   exact ⟨0, rfl, by omega, fun j h => absurd h (Nat.not_lt_zero _)⟩
  rintro g' L po ⟨i, ix, hi, hal, rfl, rfl⟩
  simp only [tt, seval] at ix
  simp only [tt, seval, ix, Int.ofNat_lt]
  refine fun _ => And.intro (fun hlt => ?_) (fun hge => ?_)
  ·have hlt : i < l.length := by omega
   have hpi : p i = (sameT l[i] cmT && (kidD g kind op kids k (l.take i) && amongD g kind op kids m (k + 1) (l.drop (i + 1)))) := by rw [hp]; simp only; rw [atQ_lt hlt]
   have c1 := c1 (l.take i) i (by rw [List.length_take]; omega) (by rw [List.length_take]; omega)
   have c2 := cm (l.drop (i + 1)) (l.length - (i + 1)) (by rw [List.length_drop]) (by rw [List.length_drop]; omega)
   have c0 : Cl Tryz.prog 89 [.ag (csOf l[i].row), vs ⟨#[44]⟩] [] fun r _ => r = vb (sameT l[i] cmT) := l14Is_d l[i] ⟨#[44]⟩
   generalize kidD g kind op kids k (l.take i) = b1 at *
   generalize amongD g kind op kids m (k + 1) (l.drop (i + 1)) = b2 at *
   have ek : ((k + 1 : Nat) : Int) = (k : Int) + 1 := by omega
   rw [ek] at c2
   have e1 : ((i : Int) - 0).toNat = i := by omega
   have e3 : IntKind.i64.wrap ((i : Int) + 1) = (i : Int) + 1 := wrap_id (by omega) (by omega)
   have e4 : ((i : Int) + 1).toNat = i + 1 := by omega
   have e5 : ((l.length : Int) - ((i : Int) + 1)).toNat = l.length - (i + 1) := by omega
   have e7 : (l.drop (i + 1)).take (l.length - (i + 1)) = l.drop (i + 1) := List.take_of_length_le (by rw [List.length_drop]; exact Nat.le_refl _)
   have e8 : IntKind.i64.wrap ((k : Int) + 1) = (k : Int) + 1 := wrap_id (by omega) (by omega)
   refine dDrawn.intro [] (pln [0, 2, 4, 6, 9, 10, 12, 14, 16, 18, 20, 23, 24, 26, 28, 30, 32, 34, 36, 38, 40, 43, 44]) (by kernel_rfl) ?_
   simp only [tt, seval]
   try simp only [tt, seval, ix, e8]
   refine ⟨by omega, by omega, _, drop_row Tok.row_len (List.getElem?_eq_getElem hlt), Tok.ne _ _, ?_⟩
   try simp only [tt, seval, ix, Tok.tk, e8]
   refine cZ (c0) (by decide) ?_ ?_ <;> simp only [tt, seval, ix, e8]
   cases hc : sameT l[i] cmT
   case false =>
    have hpi0 : p i = false := by rw [hpi, hc]; rfl
    try simp only [tt, seval, hc, Bool.not_true, Bool.not_false, reduceCtorEq, false_implies, true_implies, and_true, true_and, not_true_eq_false, not_false_eq_true, ix]
    try simp only [tt, seval, e3, ix]
    exact ⟨_, none, SubO.cons rfl (SubO.nil _), PoSub.none _, ⟨i + 1, rfl, by omega, fun j hj => by
     by_cases e : j = i
     ·rw [e]; exact hpi0
     ·exact hal j (by omega), rfl, rfl⟩, by simp only [ixS]; omega⟩
   try simp only [tt, seval, hc, Bool.not_true, Bool.not_false, reduceCtorEq, false_implies, true_implies, and_true, true_and, not_true_eq_false, not_false_eq_true, ix, e8]
   refine ⟨by omega, by omega, ?_⟩
   simp only [e1, take_rows Tok.row_len]
   refine cZ (c1) (by decide) ?_ ?_ <;> simp only [tt, seval, ix, e8]
   cases b1
   case false =>
    have hpi0 : p i = false := by rw [hpi, hc]; rfl
    try simp only [tt, seval, Bool.not_true, Bool.not_false, reduceCtorEq, false_implies, true_implies, and_true, true_and, not_true_eq_false, not_false_eq_true, ix]
    try simp only [tt, seval, e3, ix]
    exact ⟨_, none, SubO.cons rfl (SubO.nil _), PoSub.none _, ⟨i + 1, rfl, by omega, fun j hj => by
     by_cases e : j = i
     ·rw [e]; exact hpi0
     ·exact hal j (by omega), rfl, rfl⟩, by simp only [ixS]; omega⟩
   try simp only [tt, seval, Bool.not_true, Bool.not_false, reduceCtorEq, false_implies, true_implies, and_true, true_and, not_true_eq_false, not_false_eq_true, ix, e3, e8]
   refine ⟨by omega, by omega, Int.le_refl _, ?_⟩
   simp only [e4, e5, drop_rows Tok.row_len, take_rows Tok.row_len, e7]
   try simp only [tt, seval, Bool.not_true, Bool.not_false, reduceCtorEq, false_implies, true_implies, and_true, true_and, not_true_eq_false, not_false_eq_true, ix, e3, e8]
   refine cZ (c2) (by decide) ?_ ?_ <;> simp only [tt, seval, ix]
   cases b2
   case false =>
    have hpi0 : p i = false := by rw [hpi, hc]; rfl
    try simp only [tt, seval, Bool.not_true, Bool.not_false, reduceCtorEq, false_implies, true_implies, and_true, true_and, not_true_eq_false, not_false_eq_true, ix]
    try simp only [tt, seval, e3, ix]
    exact ⟨_, none, SubO.cons rfl (SubO.nil _), PoSub.none _, ⟨i + 1, rfl, by omega, fun j hj => by
     by_cases e : j = i
     ·rw [e]; exact hpi0
     ·exact hal j (by omega), rfl, rfl⟩, by simp only [ixS]; omega⟩
   try simp only [tt, seval, Bool.not_true, Bool.not_false, reduceCtorEq, false_implies, true_implies, and_true, true_and, not_true_eq_false, not_false_eq_true, ix]
   exact ⟨_, _, vbE (b := zb) (by rw [hzb, any_yes hlt (by rw [hpi, hc]; rfl)]), end0 rfl⟩
  ·try simp only [tt, seval]
   exact ⟨_, _, vbE (b := zb) (by rw [hzb, any_no fun j hj => hal j (by omega)]), end0 rfl⟩
def tlI : Option Nat → Int
 | some j => j
 | none => 0
theorem l15Tail_d (kind op : Int) (not : Bool) (val : Val) (qual name : ByteArray) (kids : List Expr) (sub : List Query) (l : List Tok) (n : Nat) (hn : n = l.length) (hl : l.length ≤ 2000) (i word : Nat) (hi : i < l.length) (w1 : 1 ≤ word) (w2 : word ≤ 28) : Cl Tryz.prog 149 [.c (.sl n (l.flatMap Tok.row) none), vi i, .ag (csOf (Expr.mk kind op not val qual name kids sub).row), vi word] [] fun r _ => r = .tu [([.v (.int .i64 (tlI (tailD not l i word)))], true), ([.v (.bool (tailD not l i word).isSome)], true)] := by
 subst hn
 rw [Expr.row_mk]
 have hd1 : ((l.length : Int) ≤ (i : Int)) = False := eq_false (by omega)
 have e3 : IntKind.i64.wrap ((i : Int) + 1) = (i : Int) + 1 := wrap_id (by omega) (by omega)
 have e6 : IntKind.i64.wrap ((i : Int) + 1 + 1) = (i : Int) + 1 + 1 := wrap_id (by omega) (by omega)
 cases not with
 | false =>
  refine cl_of_d follows_mixed false Tryz.func149 rfl (by kernel_rfl) ?_
  simp only [Tryz.f149, tt, seval]
  refine fun _ => ?_
  try simp only [tt, seval, hd1, decide_false, Bool.not_true, Bool.not_false, reduceCtorEq, false_implies, true_implies, and_true, true_and, not_true_eq_false, not_false_eq_true]
  refine ⟨by omega, by omega, _, drop_row Tok.row_len (List.getElem?_eq_getElem hi), Tok.ne _ _, ?_⟩
  try simp only [tt, seval, Tok.tk]
  refine cZ (l15Word_d l[i] word w1 w2) (by decide) ?_ ?_ <;> simp only [tt, seval]
  have ht : tailD false l i word = if sameT l[i] (kT word) = true then some (i + 1) else none := by unfold tailD; rw [if_neg (by simp), atQ_lt hi]
  rw [ht]
  cases hc : sameT l[i] (kT word)
  ·try simp only [tt, seval, hc, Bool.not_true, Bool.not_false, reduceCtorEq, false_implies, true_implies, and_true, true_and, not_true_eq_false, not_false_eq_true]
   exact ⟨_, _, rfl, end0 rfl⟩
  ·try simp only [tt, seval, hc, Bool.not_true, Bool.not_false, reduceCtorEq, false_implies, true_implies, and_true, true_and, not_true_eq_false, not_false_eq_true, e3]
   exact ⟨_, _, rfl, end0 rfl⟩
 | true =>
  have ht : tailD true l i word = if (sameT l[i] (kT 15) && atQ l (i + 1) (kT word)) = true then some (i + 2) else none := by unfold tailD; rw [if_pos rfl, atQ_lt hi]
  refine cl_of_d follows_mixed false Tryz.func149 rfl (by kernel_rfl) ?_
  simp only [Tryz.f149, tt, seval]
  refine fun _ => ?_
  try simp only [tt, seval, hd1, decide_false, Bool.not_true, Bool.not_false, reduceCtorEq, false_implies, true_implies, and_true, true_and, not_true_eq_false, not_false_eq_true]
  refine ⟨by omega, by omega, _, drop_row Tok.row_len (List.getElem?_eq_getElem hi), Tok.ne _ _, ?_⟩
  try simp only [tt, seval, Tok.tk]
  refine cZ (l15Word_d l[i] 15 (by omega) (by omega)) (by decide) ?_ ?_ <;> simp only [tt, seval]
  rw [ht]
  cases hc : sameT l[i] (kT 15)
  ·try simp only [tt, seval, hc, Bool.not_true, Bool.not_false, reduceCtorEq, false_implies, true_implies, and_true, true_and, not_true_eq_false, not_false_eq_true]
   exact ⟨_, _, rfl, end0 rfl⟩
  try simp only [tt, seval, hc, Bool.not_true, Bool.not_false, reduceCtorEq, false_implies, true_implies, and_true, true_and, not_true_eq_false, not_false_eq_true, e3]
  refine fun _ => ?_
  by_cases h2 : (l.length : Int) ≤ (i : Int) + 1
  ·have h2' : ¬ i + 1 < l.length := by omega
   rw [atQ_ge h2']
   try simp only [tt, seval, decide_eq_true h2, Bool.not_true, Bool.not_false, reduceCtorEq, false_implies, true_implies, and_true, true_and, not_true_eq_false, not_false_eq_true]
   exact ⟨_, _, rfl, end0 rfl⟩
  have h2' : i + 1 < l.length := by omega
  rw [atQ_lt h2']
  try simp only [tt, seval, decide_eq_false h2, Bool.not_true, Bool.not_false, reduceCtorEq, false_implies, true_implies, and_true, true_and, not_true_eq_false, not_false_eq_true]
  have hx : ((i : Int) + 1).toNat < l.length := by omega
  refine ⟨by omega, by omega, _, drop_row Tok.row_len (List.getElem?_eq_getElem hx), Tok.ne _ _, ?_⟩
  try simp only [tt, seval, Tok.tk]
  refine cZ (l15Word_d l[((i : Int) + 1).toNat] word w1 w2) (by decide) ?_ ?_ <;> simp only [tt, seval]
  have e9 : l[((i : Int) + 1).toNat] = l[i + 1] := by congr 1
  rw [e9]
  cases hd : sameT l[i + 1] (kT word)
  ·try simp only [tt, seval, hd, Bool.not_true, Bool.not_false, reduceCtorEq, false_implies, true_implies, and_true, true_and, not_true_eq_false, not_false_eq_true]
   exact ⟨_, _, rfl, end0 rfl⟩
  ·try simp only [tt, seval, hd, Bool.not_true, Bool.not_false, reduceCtorEq, false_implies, true_implies, and_true, true_and, not_true_eq_false, not_false_eq_true, e6]
   exact ⟨_, _, rfl, end0 rfl⟩
def kidsN (kind : Int) : Nat := if kind = 3 ∨ kind = 5 then 1 else if kind = 4 ∨ kind = 7 then 2 else if kind = 6 then 3 else 0
set_option maxHeartbeats 4000000 in
theorem l15Prim_d (kind op : Int) (not : Bool) (val : Val) (qual name : ByteArray) (kids : List Expr) (sub : List Query) (l : List Tok) (n : Nat) (hn : n = l.length) (h0 : -9223372036854775808 ≤ val.num) (h1 : val.num ≤ 9223372036854775807) : Cl Tryz.prog 91 [.c (.sl n (l.flatMap Tok.row) none), .ag (csOf (Expr.mk kind op not val qual name kids sub).row)] [] fun r _ => r = vb (primD kind val qual name l) := by
 subst hn
 obtain ⟨zb, hzb⟩ : ∃ zb, zb = primD kind val qual name l := ⟨_, rfl⟩
 rw [← hzb]
 rw [primD] at hzb
 have cl := l10Lit_d val h0 h1
 rw [Expr.row_mk]
 refine cl_of_d follows_mixed false Tryz.func91 rfl (by kernel_rfl) ?_
 simp only [Tryz.f91, tt, seval]
 refine And.intro (fun hk => ?_) (fun hk => ?_)
 ·rw [if_pos hk] at hzb
  refine dDrawn.intro [] (pln [0, 2, 4, 6, 8, 10, 12, 14, 16, 19, 21, 22, 24]) (by kernel_rfl) ?_
  simp only [tt, seval]
  refine fun _ => ?_
  by_cases h1 : (l.length : Int) = 1
  case neg =>
   try simp only [tt, seval, decide_eq_false h1, Bool.not_true, Bool.not_false, reduceCtorEq, false_implies, true_implies, and_true, true_and, not_true_eq_false, not_false_eq_true]
   exact ⟨_, _, vbE (b := zb) (by rw [hzb, decide_eq_false (by omega)]; rfl), end0 rfl⟩
  try simp only [tt, seval, decide_eq_true h1, Bool.not_true, Bool.not_false, reduceCtorEq, false_implies, true_implies, and_true, true_and, not_true_eq_false, not_false_eq_true]
  obtain ⟨t, rfl⟩ : ∃ t, l = [t] := List.length_eq_one_iff.1 (by omega)
  have cs := l15Same_d t (litT val)
  have ez : sameT t (litT val) = zb := by rw [hzb]; rfl
  rw [ez] at cs
  refine ⟨by omega, t.row ++ [], rfl, Tok.ne _ _, ?_⟩
  try simp only [tt, seval, Tok.tk]
  refine cZ (cl) (by decide) ?_ ?_ <;> simp only [tt, seval, Val.row, Tok.row]
  refine cZ (cs) (by decide) ?_ ?_ <;> simp only [tt, seval, Tok.row]
  exact ⟨_, _, rfl, end0 rfl⟩
 rw [if_neg hk] at hzb
 refine And.intro (fun hq => ?_) (fun hq => ?_)
 ·have hq' : qual = ⟨#[]⟩ := by simpa using hq
  rw [if_pos hq'] at hzb
  refine dDrawn.intro [] (pln [0, 2, 4, 6, 8, 10, 12, 14, 16, 19, 21, 22, 24]) (by kernel_rfl) ?_
  simp only [tt, seval]
  refine fun _ => ?_
  by_cases h1 : (l.length : Int) = 1
  case neg =>
   try simp only [tt, seval, decide_eq_false h1, Bool.not_true, Bool.not_false, reduceCtorEq, false_implies, true_implies, and_true, true_and, not_true_eq_false, not_false_eq_true]
   exact ⟨_, _, vbE (b := zb) (by rw [hzb, decide_eq_false (by omega)]; rfl), end0 rfl⟩
  try simp only [tt, seval, decide_eq_true h1, Bool.not_true, Bool.not_false, reduceCtorEq, false_implies, true_implies, and_true, true_and, not_true_eq_false, not_false_eq_true]
  obtain ⟨t, rfl⟩ : ∃ t, l = [t] := List.length_eq_one_iff.1 (by omega)
  have cs := l15Same_d t (nT name)
  have ez : sameT t (nT name) = zb := by rw [hzb]; rfl
  rw [ez] at cs
  refine ⟨by omega, t.row ++ [], rfl, Tok.ne _ _, ?_⟩
  try simp only [tt, seval, Tok.tk]
  refine cZ (l10Name_d name) (by decide) ?_ ?_ <;> simp only [tt, seval, Tok.row]
  refine cZ (cs) (by decide) ?_ ?_ <;> simp only [tt, seval, Tok.row]
  exact ⟨_, _, rfl, end0 rfl⟩
 have hq' : ¬ qual = ⟨#[]⟩ := by simpa using hq
 rw [if_neg hq'] at hzb
 refine dDrawn.intro [] (pln [0, 2, 4, 6, 8, 10, 12, 14, 16, 19, 21, 22, 24, 26, 28, 30, 33, 35, 36, 38, 40, 42, 44, 46, 48, 51, 53, 54, 56]) (by kernel_rfl) ?_
 simp only [tt, seval]
 refine fun _ => ?_
 by_cases h1 : (l.length : Int) = 3
 case neg =>
  try simp only [tt, seval, decide_eq_false h1, Bool.not_true, Bool.not_false, reduceCtorEq, false_implies, true_implies, and_true, true_and, not_true_eq_false, not_false_eq_true]
  exact ⟨_, _, vbE (b := zb) (by rw [hzb, decide_eq_false (by omega)]; rfl), end0 rfl⟩
 try simp only [tt, seval, decide_eq_true h1, Bool.not_true, Bool.not_false, reduceCtorEq, false_implies, true_implies, and_true, true_and, not_true_eq_false, not_false_eq_true]
 obtain ⟨t, u, v, rfl⟩ : ∃ t u v, l = [t, u, v] := by
  match l, (show l.length = 3 by omega) with
  | [t, u, v], _ => exact ⟨t, u, v, rfl⟩
 have c1 := l15Same_d t (nT qual)
 have c2 := l15Same_d u (gT ⟨#[46]⟩)
 have c3 := l15Same_d v (nT name)
 have ez : zb = (sameT t (nT qual) && (sameT u (gT ⟨#[46]⟩) && sameT v (nT name))) := by rw [hzb]; rfl
 refine ⟨by omega, t.row ++ [u, v].flatMap Tok.row, rfl, Tok.ne _ _, ?_⟩
 try simp only [tt, seval, Tok.tk]
 refine cZ (l10Name_d qual) (by decide) ?_ ?_ <;> simp only [tt, seval, Tok.row]
 refine cZ (c1) (by decide) ?_ ?_ <;> simp only [tt, seval, Tok.row]
 cases h2 : sameT t (nT qual)
 ·try simp only [tt, seval, h2, Bool.not_true, Bool.not_false, reduceCtorEq, false_implies, true_implies, and_true, true_and, not_true_eq_false, not_false_eq_true]
  exact ⟨_, _, vbE (b := zb) (by rw [ez, h2]; rfl), end0 rfl⟩
 try simp only [tt, seval, h2, Bool.not_true, Bool.not_false, reduceCtorEq, false_implies, true_implies, and_true, true_and, not_true_eq_false, not_false_eq_true]
 refine ⟨u.row ++ v.row, rfl, Tok.ne _ _, ?_⟩
 try simp only [tt, seval, Tok.tk]
 refine cZ (l10Sign_d ⟨#[46]⟩) (by decide) ?_ ?_ <;> simp only [tt, seval, Tok.row]
 refine cZ (c2) (by decide) ?_ ?_ <;> simp only [tt, seval, Tok.row]
 cases h3 : sameT u (gT ⟨#[46]⟩)
 ·try simp only [tt, seval, h3, Bool.not_true, Bool.not_false, reduceCtorEq, false_implies, true_implies, and_true, true_and, not_true_eq_false, not_false_eq_true]
  exact ⟨_, _, vbE (b := zb) (by rw [ez, h2, h3]; rfl), end0 rfl⟩
 try simp only [tt, seval, h3, Bool.not_true, Bool.not_false, reduceCtorEq, false_implies, true_implies, and_true, true_and, not_true_eq_false, not_false_eq_true]
 refine ⟨v.row ++ [], rfl, Tok.ne _ _, ?_⟩
 try simp only [tt, seval, Tok.tk]
 refine cZ (l10Name_d name) (by decide) ?_ ?_ <;> simp only [tt, seval, Tok.row]
 refine cZ (c3) (by decide) ?_ ?_ <;> simp only [tt, seval, Tok.row]
 exact ⟨_, _, vbE (b := zb) (by rw [ez, h2, h3]; rfl), end0 rfl⟩
theorem tailD_le {not : Bool} {l : List Tok} {i j word : Nat} (h : tailD not l i word = some j) : j ≤ l.length := by
 unfold tailD at h
 split at h
 ·split at h
  ·rename_i hc
   rw [Bool.and_eq_true] at hc
   injection h with h
   by_cases e : i + 1 < l.length
   ·omega
   ·rw [atQ_ge e] at hc; cases hc.2
  ·cases h
 ·split at h
  ·rename_i hc
   injection h with h
   by_cases e : i < l.length
   ·omega
   ·rw [atQ_ge e] at hc; cases hc
  ·cases h
set_option maxHeartbeats 16000000 in
theorem l15Split_d (kind op : Int) (not : Bool) (val : Val) (qual name : ByteArray) (kids : List Expr) (sub : List Query) (g : Expr → DF) (hg : ∀ x ∈ kids, DerC x (g x)) (hnk : kidsN kind ≤ kids.length) (h9 : kids.length ≤ 2000) (l : List Tok) (n : Nat) (hn : n = l.length) (hl : l.length ≤ 2000) : Cl Tryz.prog 95 [.c (.sl n (l.flatMap Tok.row) none), .ag (csOf (Expr.mk kind op not val qual name kids sub).row)] [] fun r _ => r = vb (splitD g kind op not kids l) := by
 subst hn
 obtain ⟨p, hp⟩ : ∃ p : Nat → Bool, p = fun j => (decide (1 ≤ j) && splitAt g kind op not kids l j) := ⟨_, rfl⟩
 obtain ⟨zb, hzb⟩ : ∃ zb, zb = (List.range l.length).any p := ⟨_, rfl⟩
 rw [show splitD g kind op not kids l = zb by rw [hzb, hp]; rfl]
 have c0 := fun h => l15Kid_d kind op not val qual name kids sub g hg 0 h
 have c1 := fun h => l15Kid_d kind op not val qual name kids sub g hg 1 h
 have ctl := fun i word hi w1 w2 => l15Tail_d kind op not val qual name kids sub l l.length rfl hl i word hi w1 w2
 have ctw := fun h => l15Two_d kind op not val qual name kids sub g hg h
 have cam := fun h => l15Among_d kind op not val qual name kids sub g hg (kids.length - 2) 1 h h9
 rw [Expr.row_mk] at c0 c1 ctl ctw cam ⊢
 refine cl_of_d follows_mixed false Tryz.func95 rfl (by kernel_rfl) ?_
 simp only [Tryz.f95, tt, seval]
 refine fun _ => ?_
 refine dLoop.intro (fun f L po => ∃ i : Nat, f 6 = vi i ∧ 1 ≤ i ∧ i ≤ l.length + 1 ∧ (∀ j, j < i → p j = false) ∧ L = [(3, .str [.v (.int .i64 kind), .v (.int .i64 op), .v (.bool not), .v (.int .i64 val.kind), .v (.int .i64 val.num), .v (.string val.text), .v (.string qual), .v (.string name), .sl kids.length (kids.flatMap Expr.row) none, .sl sub.length (sub.flatMap Query.row) none])] ∧ po = none) (fun f _ _ => (l.length + 1 - ixS (f 6)).toNat) [(3, .str [.v (.int .i64 kind), .v (.int .i64 op), .v (.bool not), .v (.int .i64 val.kind), .v (.int .i64 val.num), .v (.string val.text), .v (.string qual), .v (.string name), .sl kids.length (kids.flatMap Expr.row) none, .sl sub.length (sub.flatMap Query.row) none])] none ⟨SubO.cons rfl (SubO.nil _), PoSub.none _, ?_⟩ ?_
 ·simp only [tt, seval]
  exact ⟨1, rfl, by omega, by omega, fun j h => by rw [hp]; simp only; rw [decide_eq_false (by omega)]; rfl⟩
 rintro g' L po ⟨i, ix, hi1, hi, hal, rfl, rfl⟩
 simp only [tt, seval] at ix
 simp only [tt, seval, ix, Int.ofNat_lt]
 refine And.intro (fun hlt => ?_) (fun hge => ?_)
 case refine_2 =>
  try simp only [tt, seval]
  exact ⟨_, _, vbE (b := zb) (by rw [hzb, any_no fun j hj => hal j (by omega)]), end0 rfl⟩
 have hlt : i < l.length := by omega
 have hps : p i = splitAt g kind op not kids l i := by rw [hp]; simp only; rw [decide_eq_true hi1, Bool.true_and]
 have e1 : ((i : Int) - 0).toNat = i := by omega
 have e3 : IntKind.i64.wrap ((i : Int) + 1) = (i : Int) + 1 := wrap_id (by omega) (by omega)
 have e4 : ((i : Int) + 1).toNat = i + 1 := by omega
 have e5 : ((l.length : Int) - ((i : Int) + 1)).toNat = l.length - (i + 1) := by omega
 have e7 : (l.drop (i + 1)).take (l.length - (i + 1)) = l.drop (i + 1) := List.take_of_length_le (by rw [List.length_drop]; exact Nat.le_refl _)
 have lt1 : (l.take i).length = i := by rw [List.length_take]; omega
 have ld1 : (l.drop (i + 1)).length = l.length - (i + 1) := by rw [List.length_drop]
 have c0 := fun h => c0 h (l.take i) i lt1.symm (by omega)
 generalize hb0 : kidD g kind op kids 0 (l.take i) = b0 at c0
 unfold splitAt at hps
 rw [hb0] at hps
 refine And.intro (fun hk => ?_) (fun hk => ?_)
 ·rw [if_pos hk, atQ_lt hlt] at hps
  rw [kidsN, if_neg (by omega), if_pos (by omega)] at hnk
  have c1 := c1 (by omega) (l.drop (i + 1)) (l.length - (i + 1)) ld1.symm (by omega)
  generalize kidD g kind op kids 1 (l.drop (i + 1)) = b1 at hps c1
  have cs := l15Same_d l[i] (opTk op)
  refine dDrawn.intro [] (pln [0, 2, 4, 6, 8, 10, 13, 15, 16, 18, 20, 22, 24, 27, 28, 30, 32, 34, 36, 38, 40, 43, 44]) (by kernel_rfl) ?_
  simp only [tt, seval]
  try simp only [tt, seval, ix]
  refine ⟨by omega, by omega, _, drop_row Tok.row_len (List.getElem?_eq_getElem hlt), Tok.ne _ _, ?_⟩
  try simp only [tt, seval, ix, Tok.tk]
  refine cZ (l10Op_d op) (by decide) ?_ ?_ <;> simp only [tt, seval, ix, Tok.row]
  refine cZ (cs) (by decide) ?_ ?_ <;> simp only [tt, seval, ix, Tok.row]
  cases hc : sameT l[i] (opTk op)
  case false =>
   have hpi0 : p i = false := by rw [hps, hc]; rfl
   try simp only [tt, seval, hc, Bool.not_true, Bool.not_false, reduceCtorEq, false_implies, true_implies, and_true, true_and, not_true_eq_false, not_false_eq_true, ix]
   try simp only [tt, seval, e3, ix]
   exact ⟨_, none, SubO.cons rfl (SubO.nil _), PoSub.none _, ⟨i + 1, rfl, by omega, by omega, fun j hj => by
    by_cases e : j = i
    ·rw [e]; exact hpi0
    ·exact hal j (by omega), rfl, rfl⟩, by simp only [ixS]; omega⟩
  try simp only [tt, seval, hc, Bool.not_true, Bool.not_false, reduceCtorEq, false_implies, true_implies, and_true, true_and, not_true_eq_false, not_false_eq_true, ix]
  refine ⟨by omega, by omega, ?_⟩
  simp only [e1, take_rows Tok.row_len]
  refine cZ (c0 (by omega)) (by decide) ?_ ?_ <;> simp only [tt, seval, ix]
  cases b0
  case false =>
   have hpi0 : p i = false := by rw [hps, hc]; rfl
   try simp only [tt, seval, Bool.not_true, Bool.not_false, reduceCtorEq, false_implies, true_implies, and_true, true_and, not_true_eq_false, not_false_eq_true, ix]
   try simp only [tt, seval, e3, ix]
   exact ⟨_, none, SubO.cons rfl (SubO.nil _), PoSub.none _, ⟨i + 1, rfl, by omega, by omega, fun j hj => by
    by_cases e : j = i
    ·rw [e]; exact hpi0
    ·exact hal j (by omega), rfl, rfl⟩, by simp only [ixS]; omega⟩
  try simp only [tt, seval, Bool.not_true, Bool.not_false, reduceCtorEq, false_implies, true_implies, and_true, true_and, not_true_eq_false, not_false_eq_true, ix, e3]
  refine ⟨by omega, by omega, Int.le_refl _, ?_⟩
  simp only [e4, e5, drop_rows Tok.row_len, take_rows Tok.row_len, e7]
  refine cZ (c1) (by decide) ?_ ?_ <;> simp only [tt, seval, ix]
  cases b1
  case false =>
   have hpi0 : p i = false := by rw [hps, hc]; rfl
   try simp only [tt, seval, Bool.not_true, Bool.not_false, reduceCtorEq, false_implies, true_implies, and_true, true_and, not_true_eq_false, not_false_eq_true, ix]
   try simp only [tt, seval, e3, ix]
   exact ⟨_, none, SubO.cons rfl (SubO.nil _), PoSub.none _, ⟨i + 1, rfl, by omega, by omega, fun j hj => by
    by_cases e : j = i
    ·rw [e]; exact hpi0
    ·exact hal j (by omega), rfl, rfl⟩, by simp only [ixS]; omega⟩
  try simp only [tt, seval, Bool.not_true, Bool.not_false, reduceCtorEq, false_implies, true_implies, and_true, true_and, not_true_eq_false, not_false_eq_true, ix]
  exact ⟨_, _, vbE (b := zb) (by rw [hzb, any_yes hlt (by rw [hps, hc]; rfl)]), end0 rfl⟩
 rw [if_neg hk] at hps
 try simp only [tt, seval, ix]
 refine And.intro (fun hk5 => ?_) (fun hk5 => ?_)
 ·rw [if_pos hk5, atQ_lt hlt] at hps
  rw [kidsN, if_pos (by omega)] at hnk
  have e10 : IntKind.i64.wrap ((l.length : Int) - 1) = (l.length : Int) - 1 := wrap_id (by omega) (by omega)
  have e11 : IntKind.i64.wrap ((i : Int) + 2) = (i : Int) + 2 := wrap_id (by omega) (by omega)
  have hn1 : l.length - 1 < l.length := by omega
  have hx1 : ((l.length : Int) - 1).toNat < l.length := by omega
  have hg1 : l[((l.length : Int) - 1).toNat] = l[l.length - 1] := by congr 1; omega
  rw [atQ_lt hn1] at hps
  cases not
  ·try simp only [tt, seval, ix, e3]
   refine dDrawn.intro [] (pln [0, 2, 4, 6, 9, 10, 12, 14, 16, 18, 20, 22, 24, 26, 28, 30, 32, 35, 36, 38, 40, 42, 44, 46, 48, 50, 52, 54, 56, 59, 60, 62, 64, 66, 68, 70, 72, 75, 76]) (by kernel_rfl) ?_
   simp only [tt, seval]
   try simp only [tt, seval, ix, e10]
   refine ⟨by omega, by omega, _, drop_row Tok.row_len (List.getElem?_eq_getElem hlt), Tok.ne _ _, ?_⟩
   try simp only [tt, seval, ix, Tok.tk, e10]
   refine cZ (l15Word_d l[i] 16 (by omega) (by omega)) (by decide) ?_ ?_ <;> simp only [tt, seval, ix, e10]
   cases hc : sameT l[i] (kT 16)
   case false =>
    have hpi0 : p i = false := by rw [hps, hc]; rfl
    try simp only [tt, seval, hc, Bool.not_true, Bool.not_false, reduceCtorEq, false_implies, true_implies, and_true, true_and, not_true_eq_false, not_false_eq_true, ix]
    try simp only [tt, seval, e3, ix]
    exact ⟨_, none, SubO.cons rfl (SubO.nil _), PoSub.none _, ⟨i + 1, rfl, by omega, by omega, fun j hj => by
     by_cases e : j = i
     ·rw [e]; exact hpi0
     ·exact hal j (by omega), rfl, rfl⟩, by simp only [ixS]; omega⟩
   by_cases h2 : (i : Int) + 1 = (l.length : Int) - 1
   case neg =>
    have hpi0 : p i = false := by rw [hps, hc, decide_eq_false (by simp; omega)]; rfl
    try simp only [tt, seval, hc, Bool.not_true, Bool.not_false, reduceCtorEq, false_implies, true_implies, and_true, true_and, not_true_eq_false, not_false_eq_true, ix, decide_eq_false h2, e10]
    try simp only [tt, seval, e3, ix]
    exact ⟨_, none, SubO.cons rfl (SubO.nil _), PoSub.none _, ⟨i + 1, rfl, by omega, by omega, fun j hj => by
     by_cases e : j = i
     ·rw [e]; exact hpi0
     ·exact hal j (by omega), rfl, rfl⟩, by simp only [ixS]; omega⟩
   try simp only [tt, seval, hc, Bool.not_true, Bool.not_false, reduceCtorEq, false_implies, true_implies, and_true, true_and, not_true_eq_false, not_false_eq_true, ix, decide_eq_true h2, e10]
   refine ⟨by omega, by omega, _, drop_row Tok.row_len (List.getElem?_eq_getElem hx1), Tok.ne _ _, ?_⟩
   try simp only [tt, seval, ix, Tok.tk, e10]
   refine cZ (l15Word_d l[((l.length : Int) - 1).toNat] 20 (by omega) (by omega)) (by decide) ?_ ?_ <;> simp only [tt, seval, ix, e10]
   rw [hg1]
   cases hd : sameT l[l.length - 1] (kT 20)
   case false =>
    have hpi0 : p i = false := by rw [hps, hc, hd]; simp
    try simp only [tt, seval, hd, Bool.not_true, Bool.not_false, reduceCtorEq, false_implies, true_implies, and_true, true_and, not_true_eq_false, not_false_eq_true, ix]
    try simp only [tt, seval, e3, ix]
    exact ⟨_, none, SubO.cons rfl (SubO.nil _), PoSub.none _, ⟨i + 1, rfl, by omega, by omega, fun j hj => by
     by_cases e : j = i
     ·rw [e]; exact hpi0
     ·exact hal j (by omega), rfl, rfl⟩, by simp only [ixS]; omega⟩
   try simp only [tt, seval, hd, Bool.not_true, Bool.not_false, reduceCtorEq, false_implies, true_implies, and_true, true_and, not_true_eq_false, not_false_eq_true, ix]
   refine ⟨by omega, by omega, ?_⟩
   simp only [e1, take_rows Tok.row_len]
   refine cZ (c0 (by omega)) (by decide) ?_ ?_ <;> simp only [tt, seval, ix]
   cases b0
   case false =>
    have hpi0 : p i = false := by rw [hps]; simp
    try simp only [tt, seval, Bool.not_true, Bool.not_false, reduceCtorEq, false_implies, true_implies, and_true, true_and, not_true_eq_false, not_false_eq_true, ix]
    try simp only [tt, seval, e3, ix]
    exact ⟨_, none, SubO.cons rfl (SubO.nil _), PoSub.none _, ⟨i + 1, rfl, by omega, by omega, fun j hj => by
     by_cases e : j = i
     ·rw [e]; exact hpi0
     ·exact hal j (by omega), rfl, rfl⟩, by simp only [ixS]; omega⟩
   try simp only [tt, seval, Bool.not_true, Bool.not_false, reduceCtorEq, false_implies, true_implies, and_true, true_and, not_true_eq_false, not_false_eq_true, ix]
   exact ⟨_, _, vbE (b := zb) (by rw [hzb, any_yes hlt (by rw [hps, hc, hd, decide_eq_true (by simp; omega)]; rfl)]), end0 rfl⟩
  ·try simp only [tt, seval, ix, e3, e11]
   refine dDrawn.intro [] (pln [0, 2, 4, 6, 9, 10, 12, 14, 16, 18, 20, 22, 24, 26, 28, 30, 32, 35, 36, 38, 40, 42, 44, 46, 48, 50, 52, 54, 56, 59, 60, 62, 64, 66, 68, 70, 72, 75, 76]) (by kernel_rfl) ?_
   simp only [tt, seval]
   try simp only [tt, seval, ix, e10, e11, e3]
   refine ⟨by omega, by omega, _, drop_row Tok.row_len (List.getElem?_eq_getElem hlt), Tok.ne _ _, ?_⟩
   try simp only [tt, seval, ix, Tok.tk, e10, e11, e3]
   refine cZ (l15Word_d l[i] 16 (by omega) (by omega)) (by decide) ?_ ?_ <;> simp only [tt, seval, ix, e10, e11, e3]
   cases hc : sameT l[i] (kT 16)
   case false =>
    have hpi0 : p i = false := by rw [hps, hc]; rfl
    try simp only [tt, seval, hc, Bool.not_true, Bool.not_false, reduceCtorEq, false_implies, true_implies, and_true, true_and, not_true_eq_false, not_false_eq_true, ix]
    try simp only [tt, seval, e3, ix]
    exact ⟨_, none, SubO.cons rfl (SubO.nil _), PoSub.none _, ⟨i + 1, rfl, by omega, by omega, fun j hj => by
     by_cases e : j = i
     ·rw [e]; exact hpi0
     ·exact hal j (by omega), rfl, rfl⟩, by simp only [ixS]; omega⟩
   by_cases h2 : (i : Int) + 2 = (l.length : Int) - 1
   case neg =>
    have hpi0 : p i = false := by rw [hps, hc, decide_eq_false (by simp; omega)]; rfl
    try simp only [tt, seval, hc, Bool.not_true, Bool.not_false, reduceCtorEq, false_implies, true_implies, and_true, true_and, not_true_eq_false, not_false_eq_true, ix, decide_eq_false h2, e10, e11]
    try simp only [tt, seval, e3, ix]
    exact ⟨_, none, SubO.cons rfl (SubO.nil _), PoSub.none _, ⟨i + 1, rfl, by omega, by omega, fun j hj => by
     by_cases e : j = i
     ·rw [e]; exact hpi0
     ·exact hal j (by omega), rfl, rfl⟩, by simp only [ixS]; omega⟩
   try simp only [tt, seval, hc, Bool.not_true, Bool.not_false, reduceCtorEq, false_implies, true_implies, and_true, true_and, not_true_eq_false, not_false_eq_true, ix, decide_eq_true h2, e10, e11, e3]
   refine ⟨by omega, by omega, _, drop_row Tok.row_len (List.getElem?_eq_getElem hx1), Tok.ne _ _, ?_⟩
   try simp only [tt, seval, ix, Tok.tk, e10, e11, e3]
   refine cZ (l15Word_d l[((l.length : Int) - 1).toNat] 20 (by omega) (by omega)) (by decide) ?_ ?_ <;> simp only [tt, seval, ix, e10, e11, e3]
   rw [hg1]
   cases hd : sameT l[l.length - 1] (kT 20)
   case false =>
    have hpi0 : p i = false := by rw [hps, hc, hd]; simp
    try simp only [tt, seval, hd, Bool.not_true, Bool.not_false, reduceCtorEq, false_implies, true_implies, and_true, true_and, not_true_eq_false, not_false_eq_true, ix]
    try simp only [tt, seval, e3, ix]
    exact ⟨_, none, SubO.cons rfl (SubO.nil _), PoSub.none _, ⟨i + 1, rfl, by omega, by omega, fun j hj => by
     by_cases e : j = i
     ·rw [e]; exact hpi0
     ·exact hal j (by omega), rfl, rfl⟩, by simp only [ixS]; omega⟩
   have hi2 : i + 1 < l.length := by omega
   have hx2 : ((i : Int) + 1).toNat < l.length := by omega
   have hg2 : l[((i : Int) + 1).toNat] = l[i + 1] := by congr 1
   rw [atQ_lt hi2] at hps
   try simp only [tt, seval, hd, Bool.not_true, Bool.not_false, reduceCtorEq, false_implies, true_implies, and_true, true_and, not_true_eq_false, not_false_eq_true, ix, e3]
   refine ⟨by omega, by omega, _, drop_row Tok.row_len (List.getElem?_eq_getElem hx2), Tok.ne _ _, ?_⟩
   try simp only [tt, seval, ix, Tok.tk]
   refine cZ (l15Word_d l[((i : Int) + 1).toNat] 15 (by omega) (by omega)) (by decide) ?_ ?_ <;> simp only [tt, seval, ix]
   rw [hg2]
   cases he : sameT l[i + 1] (kT 15)
   case false =>
    have hpi0 : p i = false := by rw [hps, he]; simp
    try simp only [tt, seval, he, Bool.not_true, Bool.not_false, reduceCtorEq, false_implies, true_implies, and_true, true_and, not_true_eq_false, not_false_eq_true, ix]
    try simp only [tt, seval, e3, ix]
    exact ⟨_, none, SubO.cons rfl (SubO.nil _), PoSub.none _, ⟨i + 1, rfl, by omega, by omega, fun j hj => by
     by_cases e : j = i
     ·rw [e]; exact hpi0
     ·exact hal j (by omega), rfl, rfl⟩, by simp only [ixS]; omega⟩
   try simp only [tt, seval, he, Bool.not_true, Bool.not_false, reduceCtorEq, false_implies, true_implies, and_true, true_and, not_true_eq_false, not_false_eq_true, ix]
   refine ⟨by omega, by omega, ?_⟩
   simp only [e1, take_rows Tok.row_len]
   refine cZ (c0 (by omega)) (by decide) ?_ ?_ <;> simp only [tt, seval, ix]
   cases b0
   case false =>
    have hpi0 : p i = false := by rw [hps]; simp
    try simp only [tt, seval, Bool.not_true, Bool.not_false, reduceCtorEq, false_implies, true_implies, and_true, true_and, not_true_eq_false, not_false_eq_true, ix]
    try simp only [tt, seval, e3, ix]
    exact ⟨_, none, SubO.cons rfl (SubO.nil _), PoSub.none _, ⟨i + 1, rfl, by omega, by omega, fun j hj => by
     by_cases e : j = i
     ·rw [e]; exact hpi0
     ·exact hal j (by omega), rfl, rfl⟩, by simp only [ixS]; omega⟩
   try simp only [tt, seval, Bool.not_true, Bool.not_false, reduceCtorEq, false_implies, true_implies, and_true, true_and, not_true_eq_false, not_false_eq_true, ix]
   exact ⟨_, _, vbE (b := zb) (by rw [hzb, any_yes hlt (by rw [hps, hc, hd, he, decide_eq_true (by simp; omega)]; rfl)]), end0 rfl⟩
 rw [if_neg hk5] at hps
 try simp only [tt, seval, ix]
 refine And.intro (fun hk6 => ?_) (fun hk6 => ?_)
 ·rw [if_pos hk6] at hps
  rw [kidsN, if_neg (by omega), if_neg (by omega), if_pos hk6] at hnk
  have ct := ctl i 18 hlt (by omega) (by omega)
  cases ht : tailD not l i 18 with
  | none =>
   rw [ht] at hps ct
   have hpi0 : p i = false := hps
   simp only [tlI, Option.isSome_none] at ct
   refine cZ (ct) (by decide) ?_ ?_ <;> simp only [tt, seval, ix]
   try simp only [tt, seval, Bool.not_true, Bool.not_false, reduceCtorEq, false_implies, true_implies, and_true, true_and, not_true_eq_false, not_false_eq_true, ix]
   refine dDrawn.intro [] (pln [0, 2, 4, 6, 8, 10, 13, 14, 16, 18, 20, 22, 24, 27, 28]) (by kernel_rfl) ?_
   simp only [tt, seval]
   try simp only [tt, seval, Bool.not_true, Bool.not_false, reduceCtorEq, false_implies, true_implies, and_true, true_and, not_true_eq_false, not_false_eq_true, ix]
   try simp only [tt, seval, e3, ix]
   exact ⟨_, none, SubO.cons rfl (SubO.nil _), PoSub.none _, ⟨i + 1, rfl, by omega, by omega, fun j hj => by
    by_cases e : j = i
    ·rw [e]; exact hpi0
    ·exact hal j (by omega), rfl, rfl⟩, by simp only [ixS]; omega⟩
  | some j =>
   have hj := tailD_le ht
   rw [ht] at hps ct
   simp only [tlI, Option.isSome_some] at ct
   have ctw := ctw (by omega) (l.drop j) (l.length - j) (by rw [List.length_drop]) (by rw [List.length_drop]; omega)
   have hps : p i = (b0 && twoD g kind op kids (l.drop j)) := hps
   generalize twoD g kind op kids (l.drop j) = b1 at hps ctw
   have e14 : ((j : Int)).toNat = j := by omega
   have e15 : ((l.length : Int) - (j : Int)).toNat = l.length - j := by omega
   have e17 : (l.drop j).take (l.length - j) = l.drop j := List.take_of_length_le (by rw [List.length_drop]; exact Nat.le_refl _)
   refine cZ (ct) (by decide) ?_ ?_ <;> simp only [tt, seval, ix]
   try simp only [tt, seval, Bool.not_true, Bool.not_false, reduceCtorEq, false_implies, true_implies, and_true, true_and, not_true_eq_false, not_false_eq_true, ix]
   refine dDrawn.intro [] (pln [0, 2, 4, 6, 8, 10, 13, 14, 16, 18, 20, 22, 24, 27, 28]) (by kernel_rfl) ?_
   simp only [tt, seval]
   try simp only [tt, seval, Bool.not_true, Bool.not_false, reduceCtorEq, false_implies, true_implies, and_true, true_and, not_true_eq_false, not_false_eq_true, ix]
   refine ⟨by omega, by omega, ?_⟩
   simp only [e1, take_rows Tok.row_len]
   refine cZ (c0 (by omega)) (by decide) ?_ ?_ <;> simp only [tt, seval, ix]
   cases b0
   case false =>
    have hpi0 : p i = false := by rw [hps]; rfl
    try simp only [tt, seval, Bool.not_true, Bool.not_false, reduceCtorEq, false_implies, true_implies, and_true, true_and, not_true_eq_false, not_false_eq_true, ix]
    try simp only [tt, seval, e3, ix]
    exact ⟨_, none, SubO.cons rfl (SubO.nil _), PoSub.none _, ⟨i + 1, rfl, by omega, by omega, fun j hj => by
     by_cases e : j = i
     ·rw [e]; exact hpi0
     ·exact hal j (by omega), rfl, rfl⟩, by simp only [ixS]; omega⟩
   try simp only [tt, seval, Bool.not_true, Bool.not_false, reduceCtorEq, false_implies, true_implies, and_true, true_and, not_true_eq_false, not_false_eq_true, ix]
   refine ⟨by omega, by omega, Int.le_refl _, ?_⟩
   simp only [e14, e15, drop_rows Tok.row_len, take_rows Tok.row_len, e17]
   refine cZ (ctw) (by decide) ?_ ?_ <;> simp only [tt, seval, ix]
   cases b1
   case false =>
    have hpi0 : p i = false := by rw [hps]; rfl
    try simp only [tt, seval, Bool.not_true, Bool.not_false, reduceCtorEq, false_implies, true_implies, and_true, true_and, not_true_eq_false, not_false_eq_true, ix]
    try simp only [tt, seval, e3, ix]
    exact ⟨_, none, SubO.cons rfl (SubO.nil _), PoSub.none _, ⟨i + 1, rfl, by omega, by omega, fun j hj => by
     by_cases e : j = i
     ·rw [e]; exact hpi0
     ·exact hal j (by omega), rfl, rfl⟩, by simp only [ixS]; omega⟩
   try simp only [tt, seval, Bool.not_true, Bool.not_false, reduceCtorEq, false_implies, true_implies, and_true, true_and, not_true_eq_false, not_false_eq_true, ix]
   exact ⟨_, _, vbE (b := zb) (by rw [hzb, any_yes hlt (by rw [hps]; rfl)]), end0 rfl⟩
 rw [if_neg hk6] at hps
 try simp only [tt, seval, ix]
 refine And.intro (fun hk7 => ?_) (fun hk7 => ?_)
 ·rw [if_pos hk7] at hps
  rw [kidsN, if_neg (by omega), if_pos (by omega)] at hnk
  have ct := ctl i 17 hlt (by omega) (by omega)
  cases ht : tailD not l i 17 with
  | none =>
   rw [ht] at hps ct
   have hpi0 : p i = false := hps
   simp only [tlI, Option.isSome_none] at ct
   refine cZ (ct) (by decide) ?_ ?_ <;> simp only [tt, seval, ix]
   try simp only [tt, seval, Bool.not_true, Bool.not_false, reduceCtorEq, false_implies, true_implies, and_true, true_and, not_true_eq_false, not_false_eq_true, ix]
   refine dDrawn.intro [] (pln [0, 2, 4, 6, 8, 10, 12, 14, 16, 18, 20, 22, 25, 26, 28, 30, 32, 34, 36, 38, 41, 42, 44, 46, 48, 50, 52, 55, 56, 58, 60, 62, 64, 66, 68, 70, 72, 75, 76]) (by kernel_rfl) ?_
   simp only [tt, seval]
   try simp only [tt, seval, Bool.not_true, Bool.not_false, reduceCtorEq, false_implies, true_implies, and_true, true_and, not_true_eq_false, not_false_eq_true, ix]
   try simp only [tt, seval, e3, ix]
   exact ⟨_, none, SubO.cons rfl (SubO.nil _), PoSub.none _, ⟨i + 1, rfl, by omega, by omega, fun j hj => by
    by_cases e : j = i
    ·rw [e]; exact hpi0
    ·exact hal j (by omega), rfl, rfl⟩, by simp only [ixS]; omega⟩
  | some j =>
   have hj := tailD_le ht
   rw [ht] at hps ct
   simp only [tlI, Option.isSome_some] at ct
   have e10 : IntKind.i64.wrap ((l.length : Int) - 1) = (l.length : Int) - 1 := wrap_id (by omega) (by omega)
   have e13 : IntKind.i64.wrap ((j : Int) + 1) = (j : Int) + 1 := wrap_id (by omega) (by omega)
   have hps : p i = (decide (j + 1 < l.length) && (atQ l j lpT && (atQ l (l.length - 1) rpT && (b0 && amongD g kind op kids (kids.length - 2) 1 ((l.drop (j + 1)).take (l.length - 1 - (j + 1))))))) := hps
   refine cZ (ct) (by decide) ?_ ?_ <;> simp only [tt, seval, ix]
   try simp only [tt, seval, Bool.not_true, Bool.not_false, reduceCtorEq, false_implies, true_implies, and_true, true_and, not_true_eq_false, not_false_eq_true, ix]
   refine dDrawn.intro [] (pln [0, 2, 4, 6, 8, 10, 12, 14, 16, 18, 20, 22, 25, 26, 28, 30, 32, 34, 36, 38, 41, 42, 44, 46, 48, 50, 52, 55, 56, 58, 60, 62, 64, 66, 68, 70, 72, 75, 76]) (by kernel_rfl) ?_
   simp only [tt, seval]
   try simp only [tt, seval, Bool.not_true, Bool.not_false, reduceCtorEq, false_implies, true_implies, and_true, true_and, not_true_eq_false, not_false_eq_true, ix, e10]
   by_cases h2 : (j : Int) < (l.length : Int) - 1
   case neg =>
    have hpi0 : p i = false := by rw [hps, decide_eq_false (by omega)]; rfl
    try simp only [tt, seval, Bool.not_true, Bool.not_false, reduceCtorEq, false_implies, true_implies, and_true, true_and, not_true_eq_false, not_false_eq_true, ix, decide_eq_false h2, e10]
    try simp only [tt, seval, e3, ix]
    exact ⟨_, none, SubO.cons rfl (SubO.nil _), PoSub.none _, ⟨i + 1, rfl, by omega, by omega, fun j hj => by
     by_cases e : j = i
     ·rw [e]; exact hpi0
     ·exact hal j (by omega), rfl, rfl⟩, by simp only [ixS]; omega⟩
   have hjl : j < l.length := by omega
   have hn1 : l.length - 1 < l.length := by omega
   have hx1 : ((l.length : Int) - 1).toNat < l.length := by omega
   have hg1 : l[((l.length : Int) - 1).toNat] = l[l.length - 1] := by congr 1; omega
   have hxj : ((j : Int)).toNat < l.length := by omega
   have hlen : ((l.drop (j + 1)).take (l.length - 1 - (j + 1))).length = l.length - 1 - (j + 1) := by rw [List.length_take, List.length_drop]; omega
   have cam := cam (by omega) ((l.drop (j + 1)).take (l.length - 1 - (j + 1))) (l.length - 1 - (j + 1)) hlen.symm (by omega)
   rw [decide_eq_true (by omega), atQ_lt hjl, atQ_lt hn1] at hps
   generalize amongD g kind op kids (kids.length - 2) 1 ((l.drop (j + 1)).take (l.length - 1 - (j + 1))) = b1 at hps cam
   have e14 : ((j : Int) + 1).toNat = j + 1 := by omega
   have e15 : ((l.length : Int) - 1 - ((j : Int) + 1)).toNat = l.length - 1 - (j + 1) := by omega
   have q1 : Cl Tryz.prog 89 [.ag (csOf l[j].row), vs ⟨#[40]⟩] [] fun r _ => r = vb (sameT l[j] lpT) := l14Is_d l[j] ⟨#[40]⟩
   have q2 : Cl Tryz.prog 89 [.ag (csOf l[l.length - 1].row), vs ⟨#[41]⟩] [] fun r _ => r = vb (sameT l[l.length - 1] rpT) := l14Is_d l[l.length - 1] ⟨#[41]⟩
   try simp only [tt, seval, Bool.not_true, Bool.not_false, reduceCtorEq, false_implies, true_implies, and_true, true_and, not_true_eq_false, not_false_eq_true, ix, decide_eq_true h2, e10]
   refine ⟨by omega, by omega, _, drop_row Tok.row_len (List.getElem?_eq_getElem hxj), Tok.ne _ _, ?_⟩
   try simp only [tt, seval, ix, Tok.tk, e10]
   refine cZ (q1) (by decide) ?_ ?_ <;> simp only [tt, seval, ix, e10]
   cases hc : sameT l[j] lpT
   case false =>
    have hpi0 : p i = false := by rw [hps, hc]; rfl
    try simp only [tt, seval, hc, Bool.not_true, Bool.not_false, reduceCtorEq, false_implies, true_implies, and_true, true_and, not_true_eq_false, not_false_eq_true, ix]
    try simp only [tt, seval, e3, ix]
    exact ⟨_, none, SubO.cons rfl (SubO.nil _), PoSub.none _, ⟨i + 1, rfl, by omega, by omega, fun j hj => by
     by_cases e : j = i
     ·rw [e]; exact hpi0
     ·exact hal j (by omega), rfl, rfl⟩, by simp only [ixS]; omega⟩
   try simp only [tt, seval, hc, Bool.not_true, Bool.not_false, reduceCtorEq, false_implies, true_implies, and_true, true_and, not_true_eq_false, not_false_eq_true, ix, e10]
   refine ⟨by omega, by omega, _, drop_row Tok.row_len (List.getElem?_eq_getElem hx1), Tok.ne _ _, ?_⟩
   rw [hg1]
   try simp only [tt, seval, ix, Tok.tk, e10]
   refine cZ (q2) (by decide) ?_ ?_ <;> simp only [tt, seval, ix, e10]
   cases hd : sameT l[l.length - 1] rpT
   case false =>
    have hpi0 : p i = false := by rw [hps, hd]; simp
    try simp only [tt, seval, hd, Bool.not_true, Bool.not_false, reduceCtorEq, false_implies, true_implies, and_true, true_and, not_true_eq_false, not_false_eq_true, ix]
    try simp only [tt, seval, e3, ix]
    exact ⟨_, none, SubO.cons rfl (SubO.nil _), PoSub.none _, ⟨i + 1, rfl, by omega, by omega, fun j hj => by
     by_cases e : j = i
     ·rw [e]; exact hpi0
     ·exact hal j (by omega), rfl, rfl⟩, by simp only [ixS]; omega⟩
   try simp only [tt, seval, hd, Bool.not_true, Bool.not_false, reduceCtorEq, false_implies, true_implies, and_true, true_and, not_true_eq_false, not_false_eq_true, ix]
   refine ⟨by omega, by omega, ?_⟩
   simp only [e1, take_rows Tok.row_len]
   refine cZ (c0 (by omega)) (by decide) ?_ ?_ <;> simp only [tt, seval, ix]
   cases b0
   case false =>
    have hpi0 : p i = false := by rw [hps]; simp
    try simp only [tt, seval, Bool.not_true, Bool.not_false, reduceCtorEq, false_implies, true_implies, and_true, true_and, not_true_eq_false, not_false_eq_true, ix]
    try simp only [tt, seval, e3, ix]
    exact ⟨_, none, SubO.cons rfl (SubO.nil _), PoSub.none _, ⟨i + 1, rfl, by omega, by omega, fun j hj => by
     by_cases e : j = i
     ·rw [e]; exact hpi0
     ·exact hal j (by omega), rfl, rfl⟩, by simp only [ixS]; omega⟩
   try simp only [tt, seval, Bool.not_true, Bool.not_false, reduceCtorEq, false_implies, true_implies, and_true, true_and, not_true_eq_false, not_false_eq_true, ix, e10, e13]
   refine ⟨by omega, by omega, by omega, ?_⟩
   simp only [e14, e15, drop_rows Tok.row_len, take_rows Tok.row_len]
   refine cZ (cam) (by decide) ?_ ?_ <;> simp only [tt, seval, ix]
   cases b1
   case false =>
    have hpi0 : p i = false := by rw [hps]; simp
    try simp only [tt, seval, Bool.not_true, Bool.not_false, reduceCtorEq, false_implies, true_implies, and_true, true_and, not_true_eq_false, not_false_eq_true, ix]
    try simp only [tt, seval, e3, ix]
    exact ⟨_, none, SubO.cons rfl (SubO.nil _), PoSub.none _, ⟨i + 1, rfl, by omega, by omega, fun j hj => by
     by_cases e : j = i
     ·rw [e]; exact hpi0
     ·exact hal j (by omega), rfl, rfl⟩, by simp only [ixS]; omega⟩
   try simp only [tt, seval, Bool.not_true, Bool.not_false, reduceCtorEq, false_implies, true_implies, and_true, true_and, not_true_eq_false, not_false_eq_true, ix]
   exact ⟨_, _, vbE (b := zb) (by rw [hzb, any_yes hlt (by rw [hps, hc, hd]; rfl)]), end0 rfl⟩
 rw [if_neg hk7] at hps
 have hpi0 : p i = false := hps
 try simp only [tt, seval, ix]
 try simp only [tt, seval, e3, ix]
 exact ⟨_, none, SubO.cons rfl (SubO.nil _), PoSub.none _, ⟨i + 1, rfl, by omega, by omega, fun j hj => by
  by_cases e : j = i
  ·rw [e]; exact hpi0
  ·exact hal j (by omega), rfl, rfl⟩, by simp only [ixS]; omega⟩
def eqV (v u : Val) : Bool := decide (v.kind = u.kind) && (decide (v.num = u.num) && decide (v.text = u.text))
theorem eqV_iff {v u : Val} : eqV v u = true ↔ v = u := by
 obtain ⟨a, b, c⟩ := v
 obtain ⟨a2, b2, c2⟩ := u
 simp only [eqV, Bool.and_eq_true, decide_eq_true_eq, Val.mk.injEq]
def SaE (a b : Expr) : Prop := Cl Tryz.prog 37 [.ag (csOf a.row), .ag (csOf b.row)] [] fun r _ => ∃ t : Bool, r = vb t ∧ (t = true ↔ a = b)
theorem eqValG (v u : Val) (w : World) : (Op.equalIn 10000 28 (.agg [.int .i64 v.kind, .int .i64 v.num, .string v.text].toArray) (.agg [.int .i64 u.kind, .int .i64 u.num, .string u.text].toArray)).run Tryz.prog w = .ok (eqV v u) w := by
 refine Go.Vc.equalIn_fk (ks := [(0, .int), (1, .int), (2, .str)]) (by kernel_rfl) (by kernel_rfl) (by kernel_rfl) ?_ w
 obtain ⟨a, b, c⟩ := v
 obtain ⟨a2, b2, c2⟩ := u
 simp only [Go.Vc.eqFK, List.getElem?_cons_zero, List.getElem?_cons_succ, eqV]
 by_cases h1 : a = a2 <;> by_cases h2 : b = b2 <;> by_cases h3 : c = c2 <;> simp [h1, h2, h3]
theorem beqq (b : Bool) : (b == b) = true := by cases b <;> rfl
theorem bne {a b : Bool} (h : ¬ a = b) : (a == b) = false := by cases a <;> cases b <;> simp_all
theorem EqualE_d (xs bs : List Expr) (h : ∀ x, x ∈ xs → ∀ y, y ∈ bs → SaE x y) : Cl Tryz.prog 133 [.c (.sl xs.length (xs.flatMap Expr.row) none), .c (.sl bs.length (bs.flatMap Expr.row) none), .c (.fn 37 [] [])] [] fun r _ => ∃ t : Bool, r = vb t ∧ (t = true ↔ xs = bs) := by
 refine cl_of_d follows_mixed false Tryz.func133 rfl (by kernel_rfl) ?_
 simp only [Tryz.f133, tt, seval]
 refine fun _ _ => And.intro (fun hab => ?_) (fun hab => ?_)
 ·have hab' : ¬ xs.length = bs.length := by simpa [Int.ofNat_inj] using hab
  exact ⟨_, _, ⟨false, rfl, by simp; intro e; exact hab' (by rw [e])⟩, end0 rfl⟩
 have hab : xs.length = bs.length := by simpa [Int.ofNat_inj] using hab
 refine fun _ => ?_
 refine dLoop.intro (fun f L p => ∃ i : Nat, f 17 = vi i ∧ i ≤ xs.length ∧ (∀ j (hj : j < xs.length) (hk : j < bs.length), j < i → xs[j] = bs[j]) ∧ L = [] ∧ p = none) (fun f _ _ => (xs.length - ixS (f 17)).toNat) [] none ⟨SubO.nil _, PoSub.none _, ?_⟩ ?_
 ·simp only [tt, seval]
  exact ⟨0, rfl, Nat.zero_le _, fun j _ _ h => absurd h (Nat.not_lt_zero _)⟩
 rintro g L p ⟨i, ix, hi, hal, rfl, rfl⟩
 simp only [tt, seval] at ix
 simp only [tt, seval, ix, Int.ofNat_lt]
 refine And.intro (fun hlt => ?_) (fun hge => ?_)
 ·have hlt : i < xs.length := by omega
  have hlb : i < bs.length := by omega
  have hS := h xs[i] (List.getElem_mem hlt) bs[i] (List.getElem_mem hlb)
  unfold SaE at hS
  obtain ⟨x, hx⟩ : ∃ x, x = xs[i] := ⟨_, rfl⟩
  obtain ⟨y, hy⟩ : ∃ y, y = bs[i] := ⟨_, rfl⟩
  rw [← hx, ← hy] at hS
  obtain ⟨kind, op, not, val, qual, name, kids, sub⟩ := x
  obtain ⟨kind2, op2, not2, val2, qual2, name2, kids2, sub2⟩ := y
  rw [Expr.row_mk, Expr.row_mk] at hS
  refine ⟨by omega, by omega, _, drop_row Expr.row_len (List.getElem?_eq_getElem hlt), Expr.ne _ _, ?_⟩
  rw [← hx, Expr.row_mk]
  try simp only [tt, seval, ix, lc]
  refine ⟨by omega, by omega, _, drop_row Expr.row_len (List.getElem?_eq_getElem hlb), Expr.ne _ _, ?_⟩
  rw [← hy, Expr.row_mk]
  try simp only [tt, seval, ix, lc]
  refine call0 (hS) ?_ ?_ ?_
  ·decide
  ·simp only [tt, seval, ix]
  rintro r ⟨tb, rfl, htb⟩
  simp only [tt, seval, ix]
  rw [hx, hy] at htb
  refine And.intro (fun hb => ?_) (fun hb => ?_)
  ·have hb : tb = false := by simpa only [Bool.not_eq_true'] using hb
   refine ⟨_, _, ⟨false, rfl, ?_⟩, end0 rfl⟩
   simp only [Bool.false_eq_true, false_iff]
   intro e
   have : xs[i] = bs[i] := by simp only [e]
   rw [htb.2 this] at hb; cases hb
  ·have hb : tb = true := by simpa only [Bool.not_eq_false'] using hb
   try simp only [tt, seval, ix]
   try rw [wrS i (by omega)]
   exact ⟨_, none, SubO.nil _, PoSub.none _, ⟨i + 1, rfl, by omega, fun j hj hk hji => by
    by_cases e : j = i
    ·subst e; exact htb.1 hb
    ·exact hal j hj hk (by omega), rfl, rfl⟩, by simp only [ixS]; omega⟩
 ·try simp only [tt, seval]
  exact ⟨_, _, ⟨true, rfl, by simp only [true_iff]; exact List.ext_getElem hab fun j h1 h2 => hal j h1 h2 (by omega)⟩, end0 rfl⟩
theorem sameExprs_d (xs bs : List Expr) (h : ∀ x, x ∈ xs → ∀ y, y ∈ bs → SaE x y) : Cl Tryz.prog 80 [.c (.sl xs.length (xs.flatMap Expr.row) none), .c (.sl bs.length (bs.flatMap Expr.row) none)] [] fun r _ => ∃ t : Bool, r = vb t ∧ (t = true ↔ xs = bs) := by
 refine cl_of_d follows_mixed false Tryz.func80 rfl (by kernel_rfl) ?_
 simp only [Tryz.f80, tt, seval]
 refine call0 (EqualE_d xs bs h) ?_ ?_ ?_
 ·decide
 ·simp only [tt, seval]
 rintro r ⟨tb, rfl, htb⟩
 simp only [tt, seval]
 exact ⟨_, _, ⟨tb, rfl, htb⟩, end0 rfl⟩
theorem EqualQ0_d (xs : List Query) : Cl Tryz.prog 81 [.c (.sl xs.length (xs.flatMap Query.row) none), .c (.sl 0 [] none), .c (.fn 82 [] [])] [] fun r _ => ∃ t : Bool, r = vb t ∧ (t = true ↔ xs = []) := by
 refine cl_of_d follows_mixed false Tryz.func81 rfl (by kernel_rfl) ?_
 simp only [Tryz.f81, tt, seval]
 refine fun _ => And.intro (fun hab => ?_) (fun hab => ?_)
 ·have hab' : ¬ xs.length = 0 := by simpa using hab
  exact ⟨_, _, ⟨false, rfl, by simp; intro e; exact hab' (by rw [e]; rfl)⟩, end0 rfl⟩
 have hab : xs.length = 0 := by simpa using hab
 obtain rfl := List.eq_nil_of_length_eq_zero hab
 try simp only [tt, seval, List.length_nil]
 refine dLoop.intro (fun f L p => f 17 = vi 0 ∧ L = [] ∧ p = none) (fun _ _ _ => 0) [] none ⟨SubO.nil _, PoSub.none _, ?_⟩ ?_
 ·simp only [tt, seval]
  try exact ⟨rfl, rfl, rfl⟩
 rintro g L p ⟨ix, rfl, rfl⟩
 simp only [tt, seval] at ix
 simp only [tt, seval, ix]
 exact ⟨_, _, ⟨true, rfl, by simp⟩, end0 rfl⟩
set_option maxHeartbeats 4000000 in
theorem iSameExpr_step (kind op : Int) (not : Bool) (val : Val) (qual name : ByteArray) (kids : List Expr) (sub : List Query) (kind2 op2 : Int) (not2 : Bool) (val2 : Val) (qual2 name2 : ByteArray) (kids2 : List Expr) (sub2 : List Query) (hs : sub2 = []) (hk : ∀ x, x ∈ kids → ∀ y, y ∈ kids2 → SaE x y) : SaE (Expr.mk kind op not val qual name kids sub) (Expr.mk kind2 op2 not2 val2 qual2 name2 kids2 sub2) := by
 unfold SaE
 rw [Expr.row_mk, Expr.row_mk]
 subst hs
 refine cl_of_d follows_mixed false Tryz.func37 rfl (by kernel_rfl) ?_
 simp only [Tryz.f37, tt, seval]
 by_cases hne : kind = kind2
 case neg =>
  try simp only [tt, seval, decide_eq_false hne, hne]
  exact ⟨_, _, ⟨false, rfl, by simp [hne]⟩, end0 rfl⟩
 subst hne
 try simp only [tt, seval, decide_true, beqq]
 by_cases hne : op = op2
 case neg =>
  try simp only [tt, seval, decide_eq_false hne, hne]
  exact ⟨_, _, ⟨false, rfl, by simp [hne]⟩, end0 rfl⟩
 subst hne
 try simp only [tt, seval, decide_true, beqq]
 by_cases hne : not = not2
 case neg =>
  try simp only [tt, seval, decide_eq_false hne, bne hne, hne]
  exact ⟨_, _, ⟨false, rfl, by simp [hne]⟩, end0 rfl⟩
 subst hne
 try simp only [tt, seval, decide_true, beqq]
 rw [pu_eqagg (by kernel_rfl) (eqValG val val2)]
 try simp only [tt, seval]
 by_cases hne : val = val2
 case neg =>
  have hv : eqV val val2 = false := by cases hv : eqV val val2 with | false => rfl | true => exact absurd (eqV_iff.1 hv) hne
  try simp only [tt, seval, hv]
  exact ⟨_, _, ⟨false, rfl, by simp [hne]⟩, end0 rfl⟩
 rw [eqV_iff.2 hne]
 subst hne
 try simp only [tt, seval]
 by_cases hne : qual = qual2
 case neg =>
  try simp only [tt, seval, decide_eq_false hne, hne]
  exact ⟨_, _, ⟨false, rfl, by simp [hne]⟩, end0 rfl⟩
 subst hne
 try simp only [tt, seval, decide_true, beqq]
 by_cases hne : name = name2
 case neg =>
  try simp only [tt, seval, decide_eq_false hne, hne]
  exact ⟨_, _, ⟨false, rfl, by simp [hne]⟩, end0 rfl⟩
 subst hne
 try simp only [tt, seval, decide_true, beqq]
 refine call0 (sameExprs_d kids kids2 hk) ?_ ?_ ?_
 ·decide
 ·simp only [tt, seval, Expr.row_mk]
 rintro r ⟨tk, rfl, htk⟩
 simp only [tt, seval, Expr.row_mk]
 cases tk
 ·try simp only [tt, seval]
  exact ⟨_, _, ⟨false, rfl, by simp at htk; simp [htk]⟩, end0 rfl⟩
 obtain rfl := htk.1 rfl
 try simp only [tt, seval]
 refine call0 (EqualQ0_d sub) ?_ ?_ ?_
 ·decide
 ·simp only [tt, seval, Expr.row_mk, List.flatMap_nil, List.length_nil]
 rintro r ⟨tb, rfl, htb⟩
 simp only [tt, seval, Expr.row_mk, List.flatMap_nil, List.length_nil]
 exact ⟨_, _, ⟨tb, rfl, by simp [htb]⟩, end0 rfl⟩
theorem iSameExpr_d (b : Expr) : plE b = true → ∀ a, SaE a b := by
 refine foldE_ind (F := plF) (P := fun b p => p = true → ∀ a, SaE a b) (fun b g hg hp a => ?_) b
 obtain ⟨kind, op, not, val, qual, name, kids, sub⟩ := a
 obtain ⟨kind2, op2, not2, val2, qual2, name2, kids2, sub2⟩ := b
 simp only [plF, Bool.and_eq_true, List.all_eq_true, List.isEmpty_iff] at hp
 exact iSameExpr_step _ _ _ _ _ _ _ _ _ _ _ _ _ _ _ _ hp.2 fun x _ y hy => hg y (.inl hy) (hp.1 y hy) x
end Go.Proofs.YtabhiapifcanoaaGreatDoor
set_option maxRecDepth 8000
namespace Go.Proofs.YtabhiapifcanoaaGreatDoor
open Go Go.Dv Go.Cv
open Go.Vc (D shrI xorI andI)
theorem takeE_neg {L : List Tok} (h : (takeE L).2 < 0) : (takeE L).2 = -1 := by
 unfold takeE takeM at h ⊢
 split at h
 ·exact absurd h (by decide)
 ·split at h
  ·rename_i h0
   exact absurd h (by simp only; omega)
  ·rename_i h0
   rw [if_neg h0]
def derR (L : List Tok) (e : Expr) (t : Bool) : Prop := t = true ↔ (okE e = true ∧ plE e = true ∧ L.length ≤ 2000 ∧ takeE L = (e, -1))
theorem iDerives_d (L : List Tok) (hL : L.length ≤ 1048576) (hT : ∀ t ∈ L, t.text.size ≤ 1048576) (e : Expr) (hsz : szExpr e ≤ 1048576) : Cl Tryz.prog 12 [.c (.sl (L).length ((L).flatMap Tok.row) none), .ag (csOf e.row)] [] fun r _ => ∃ t, r = vb t ∧ derR L e t := by
 have c0 := iExprOk_d e hsz
 have c3 := hasSub_d e
 have c4 := iSameExpr_d e
 have c1 := iTakeExpr_d L hL hT
 have hneg := takeE_neg (L := L)
 unfold derR
 generalize takeE L = y at *
 obtain ⟨x, bad⟩ := y
 simp only at c1
 have c4 := fun h => c4 h x
 unfold SaE at c4
 obtain ⟨kx, ox, nx, vx, qx, mx, ksx, ssx⟩ := x
 obtain ⟨kind, op, not, val, qual, name, kids, sub⟩ := e
 simp only [Expr.row_mk, told, lc] at c0 c1 c3 c4 ⊢
 refine cl_of_d follows_mixed false Tryz.func12 rfl (by kernel_rfl) ?_
 simp only [Tryz.f12, tt, seval]
 refine cZ (c0) (by decide) ?_ ?_ <;> simp only [tt, seval, told, Val.row, lc]
 cases hok : okE (Expr.mk kind op not val qual name kids sub)
 ·try simp only [tt, seval, hok, Bool.not_true, Bool.not_false, reduceCtorEq, false_implies, true_implies, and_true, true_and]
  exact ⟨_, _, ⟨false, rfl, by simp⟩, end0 rfl⟩
 try simp only [tt, seval, hok, Bool.not_true, Bool.not_false, reduceCtorEq, false_implies, true_implies, and_true, true_and]
 refine cZ (c3) (by decide) ?_ ?_ <;> simp only [tt, seval, told, Val.row, lc]
 cases hp : plE (Expr.mk kind op not val qual name kids sub)
 ·try simp only [tt, seval, hp, Bool.not_true, Bool.not_false, reduceCtorEq, false_implies, true_implies, and_true, true_and]
  exact ⟨_, _, ⟨false, rfl, by simp⟩, end0 rfl⟩
 try simp only [tt, seval, hp, Bool.not_true, Bool.not_false, reduceCtorEq, false_implies, true_implies, and_true, true_and]
 refine fun _ => And.intro (fun hlen => ?_) (fun hlen => ?_)
 ·exact ⟨_, _, ⟨false, rfl, by simp; omega⟩, end0 rfl⟩
 refine call0 (c1) ?_ ?_ ?_
 ·decide
 ·simp only [tt, seval, told, Val.row, lc]
 rintro r ⟨Fk, Fs, rfl⟩
 simp only [tt, seval, told, Val.row, lc]
 by_cases hb : bad < 0
 ·try simp only [tt, seval, decide_eq_true hb, Bool.not_true, Bool.not_false, reduceCtorEq, false_implies, true_implies, and_true, true_and]
  refine call0 (c4 hp) ?_ ?_ ?_
  ·decide
  ·simp only [tt, seval, told, Val.row, lc]
  rintro r ⟨t, rfl, ht⟩
  simp only [tt, seval, told, Val.row, lc]
  obtain rfl := hneg hb
  exact ⟨_, _, ⟨t, rfl, by rw [ht]; simp; omega⟩, end0 rfl⟩
 ·try simp only [tt, seval, decide_eq_false hb, Bool.not_true, Bool.not_false, reduceCtorEq, false_implies, true_implies, and_true, true_and]
  exact ⟨_, _, ⟨false, rfl, by simp; omega⟩, end0 rfl⟩
end Go.Proofs.YtabhiapifcanoaaGreatDoor
set_option maxRecDepth 8000
namespace Go.Proofs.YtabhiapifcanoaaGreatDoor
open Go Go.Dv
open Go.Vc (D shrI xorI andI)
theorem flat0 {l : List Tok} (h : 0 < l.length) : l.flatMap Tok.row = l[0].row ++ (l.drop 1).flatMap Tok.row := by
 cases l with
 | nil => cases h
 | cons t r => rfl
theorem flat1 (l : List Tok) : (l.flatMap Tok.row).drop 3 = (l.drop 1).flatMap Tok.row := drop_rows Tok.row_len l 1
set_option maxHeartbeats 16000000 in
theorem l15Derives_step (kind op : Int) (not : Bool) (val : Val) (qual name : ByteArray) (kids : List Expr) (sub : List Query) (g : Expr → DF) (hg : ∀ x ∈ kids, DerC x (g x)) (hnk : kidsN kind ≤ kids.length) (h9 : kids.length ≤ 2000) (h0 : -9223372036854775808 ≤ val.num) (h1 : val.num ≤ 9223372036854775807) : ∀ N : Nat, ∀ (l : List Tok) (n : Nat) (v : Int), l.length < N → n = l.length → l.length ≤ 2000 → Cl Tryz.prog 46 [.c (.sl n (l.flatMap Tok.row) none), .ag (csOf (Expr.mk kind op not val qual name kids sub).row), vi v] [] fun r _ => r = vb (derF g (Expr.mk kind op not val qual name kids sub) l v) := by
 intro N
 induction N with
 | zero => exact fun l n v h => absurd h (Nat.not_lt_zero _)
 | succ N ih =>
  intro l n v hN hn hl
  subst hn
  obtain ⟨zb, hzb⟩ : ∃ zb, zb = derF g (Expr.mk kind op not val qual name kids sub) l v := ⟨_, rfl⟩
  rw [← hzb]
  rw [derF_eq] at hzb
  obtain ⟨pa, hpa⟩ : ∃ pa, pa = (decide (2 ≤ l.length) && (atQ l 0 lpT && (atQ l (l.length - 1) rpT && derF g (Expr.mk kind op not val qual name kids sub) ((l.drop 1).take (l.length - 2)) 1))) := ⟨_, rfl⟩
  rw [← hpa] at hzb
  have crec := fun h => ih ((l.drop 1).take (l.length - 2)) (l.length - 2) 1 h
  have clv := LevelOf_d (Expr.mk kind op not val qual name kids sub)
  have cpr := l15Prim_d kind op not val qual name kids sub l l.length rfl h0 h1
  have csp := l15Split_d kind op not val qual name kids sub g hg hnk h9 l l.length rfl hl
  have c0 := fun h => l15Kid_d kind op not val qual name kids sub g hg 0 h
  have e10 : 1 ≤ l.length → IntKind.i64.wrap ((l.length : Int) - 1) = (l.length : Int) - 1 := fun _ => wrap_id (by omega) (by omega)
  rw [Expr.row_mk] at crec clv cpr csp c0 ⊢
  refine cl_of_d follows_mixed false Tryz.func46 rfl (by kernel_rfl) ?_
  simp only [Tryz.f46, tt, seval]
  refine fun _ => ?_
  refine dDrawn.intro [] (pln [0, 2, 4, 6, 8, 10, 13, 14, 16, 18, 20, 22, 24, 26, 29, 30, 32, 34, 36, 38, 40, 42, 45, 46]) (by kernel_rfl) ?_
  simp only [tt, seval]
  by_cases h2 : (2 : Int) ≤ (l.length : Int)
  case' neg =>
   have hA : pa = false := by rw [hpa, decide_eq_false (by omega)]; rfl
   clear hpa crec
   try simp only [tt, seval, decide_eq_false h2, Bool.not_true, Bool.not_false, reduceCtorEq, false_implies, true_implies, and_true, true_and, not_true_eq_false, not_false_eq_true]
  rotate_left
  have e10 := e10 (by omega)
  have hl1 : 0 < l.length := by omega
  have hn1 : l.length - 1 < l.length := by omega
  have hx1 : ((l.length : Int) - 1).toNat < l.length := by omega
  have hg1 : l[((l.length : Int) - 1).toNat] = l[l.length - 1] := by congr 1; omega
  have q1 : Cl Tryz.prog 89 [.ag (csOf l[0].row), vs ⟨#[40]⟩] [] fun r _ => r = vb (sameT l[0] lpT) := l14Is_d l[0] ⟨#[40]⟩
  have q2 : Cl Tryz.prog 89 [.ag (csOf l[l.length - 1].row), vs ⟨#[41]⟩] [] fun r _ => r = vb (sameT l[l.length - 1] rpT) := l14Is_d l[l.length - 1] ⟨#[41]⟩
  have hlen : ((l.drop 1).take (l.length - 2)).length = l.length - 2 := by rw [List.length_take, List.length_drop]; omega
  have crec := crec (by omega) hlen.symm (by omega)
  rw [decide_eq_true (show 2 ≤ l.length by omega), atQ_lt hl1, atQ_lt hn1] at hpa
  generalize derF g (Expr.mk kind op not val qual name kids sub) ((l.drop 1).take (l.length - 2)) 1 = b1 at hpa crec
  have e15 : ((l.length : Int) - 1 - 1).toNat = l.length - 2 := by omega
  try simp only [tt, seval, decide_eq_true h2, Bool.not_true, Bool.not_false, reduceCtorEq, false_implies, true_implies, and_true, true_and, not_true_eq_false, not_false_eq_true, e10]
  refine ⟨by omega, l[0].row ++ (l.drop 1).flatMap Tok.row, flat0 hl1, Tok.ne _ _, ?_⟩
  try simp only [tt, seval, Tok.tk, e10]
  refine cZ (q1) (by decide) ?_ ?_ <;> simp only [tt, seval, e10]
  cases hc : sameT l[0] lpT
  case' false =>
   have hA : pa = false := by rw [hpa, hc]; rfl
   clear hpa crec
   try simp only [tt, seval, hc, Bool.not_true, Bool.not_false, reduceCtorEq, false_implies, true_implies, and_true, true_and, not_true_eq_false, not_false_eq_true]
  rotate_left
  try simp only [tt, seval, hc, Bool.not_true, Bool.not_false, reduceCtorEq, false_implies, true_implies, and_true, true_and, not_true_eq_false, not_false_eq_true, e10]
  refine ⟨by omega, by omega, _, drop_row Tok.row_len (List.getElem?_eq_getElem hx1), Tok.ne _ _, ?_⟩
  rw [hg1]
  try simp only [tt, seval, Tok.tk, e10]
  refine cZ (q2) (by decide) ?_ ?_ <;> simp only [tt, seval, e10]
  cases hd : sameT l[l.length - 1] rpT
  case' false =>
   have hA : pa = false := by rw [hpa, hd]; simp
   clear hpa crec
   try simp only [tt, seval, hd, Bool.not_true, Bool.not_false, reduceCtorEq, false_implies, true_implies, and_true, true_and, not_true_eq_false, not_false_eq_true]
  rotate_left
  try simp only [tt, seval, hd, Bool.not_true, Bool.not_false, reduceCtorEq, false_implies, true_implies, and_true, true_and, not_true_eq_false, not_false_eq_true, e10]
  refine ⟨by omega, by omega, ?_⟩
  simp only [e15, flat1, take_rows Tok.row_len]
  refine cZ (crec) (by decide) ?_ ?_ <;> simp only [tt, seval, Expr.row_mk]
  cases b1
  case' false =>
   have hA : pa = false := by rw [hpa]; simp
   clear hpa crec
   try simp only [tt, seval, Bool.not_true, Bool.not_false, reduceCtorEq, false_implies, true_implies, and_true, true_and, not_true_eq_false, not_false_eq_true]
  rotate_left
  ·try simp only [tt, seval, Bool.not_true, Bool.not_false, reduceCtorEq, false_implies, true_implies, and_true, true_and, not_true_eq_false, not_false_eq_true]
   exact ⟨_, _, vbE (b := zb) (by rw [hzb, hpa, hc, hd]; rfl), end0 rfl⟩
  all_goals
   rw [hA, Bool.false_or] at hzb
   refine cZ (clv) (by decide) ?_ ?_ <;> simp only [tt, seval, Expr.row_mk]
   refine And.intro (fun hlv => ?_) (fun hlv => ?_)
   ·exact ⟨_, _, vbE (b := zb) (by rw [hzb, decide_eq_false (by omega)]; rfl), end0 rfl⟩
   rw [decide_eq_true (by omega), Bool.true_and, coreD_mk] at hzb
   try simp only [tt, seval]
   by_cases k12 : kind = 1 ∨ kind = 2
   ·rw [if_pos k12] at hzb
    rw [← hzb] at cpr
    rcases k12 with k1 | k2
    ·try simp only [tt, seval, k1]
     refine cZ (cpr) (by decide) ?_ ?_ <;> simp only [tt, seval, Expr.row_mk, k1]
     exact ⟨_, _, rfl, end0 rfl⟩
    ·try simp only [tt, seval, k2]
     refine cZ (cpr) (by decide) ?_ ?_ <;> simp only [tt, seval, Expr.row_mk, k2]
     exact ⟨_, _, rfl, end0 rfl⟩
   rw [if_neg k12] at hzb
   have kn1 : ¬ kind = 1 := fun h => k12 (.inl h)
   have kn2 : ¬ kind = 2 := fun h => k12 (.inr h)
   try simp only [tt, seval, kn1, kn2]
   by_cases k3 : kind = 3
   case neg =>
    rw [if_neg k3] at hzb
    rw [← hzb] at csp
    try simp only [tt, seval, k3]
    refine cZ (csp) (by decide) ?_ ?_ <;> simp only [tt, seval, Expr.row_mk]
    exact ⟨_, _, rfl, end0 rfl⟩
   rw [if_pos k3] at hzb
   subst k3
   rw [kidsN, if_pos (by omega)] at hnk
   have c0 := c0 (by omega)
   try simp only [tt, seval]
   refine dDrawn.intro [] (pln [0, 2, 4, 6, 8, 10, 12, 14, 17, 19, 20, 22, 24, 26, 28, 31, 32, 34]) (by kernel_rfl) ?_
   simp only [tt, seval]
   by_cases hl0 : (0 : Int) < (l.length : Int)
   case neg =>
    try simp only [tt, seval, decide_eq_false hl0, Bool.not_true, Bool.not_false, reduceCtorEq, false_implies, true_implies, and_true, true_and, not_true_eq_false, not_false_eq_true]
    exact ⟨_, _, vbE (b := zb) (by rw [hzb, atQ_ge (by omega)]; rfl), end0 rfl⟩
   have hl1 : 0 < l.length := by omega
   rw [atQ_lt hl1] at hzb
   have cs := l15Same_d l[0] (opTk op)
   have c0 := c0 (l.drop 1) (l.length - 1) (by rw [List.length_drop]) (by rw [List.length_drop]; omega)
   generalize kidD g 3 op kids 0 (l.drop 1) = b0 at hzb c0
   have e15 : ((l.length : Int) - 1).toNat = l.length - 1 := by omega
   have e17 : (l.drop 1).take (l.length - 1) = l.drop 1 := List.take_of_length_le (by rw [List.length_drop]; exact Nat.le_refl _)
   try simp only [tt, seval, decide_eq_true hl0, Bool.not_true, Bool.not_false, reduceCtorEq, false_implies, true_implies, and_true, true_and, not_true_eq_false, not_false_eq_true]
   refine ⟨by omega, l[0].row ++ (l.drop 1).flatMap Tok.row, flat0 hl1, Tok.ne _ _, ?_⟩
   try simp only [tt, seval, Tok.tk]
   refine cZ (l10Op_d op) (by decide) ?_ ?_ <;> simp only [tt, seval, Tok.row]
   refine cZ (cs) (by decide) ?_ ?_ <;> simp only [tt, seval, Tok.row]
   cases hc : sameT l[0] (opTk op)
   ·try simp only [tt, seval, hc, Bool.not_true, Bool.not_false, reduceCtorEq, false_implies, true_implies, and_true, true_and, not_true_eq_false, not_false_eq_true]
    exact ⟨_, _, vbE (b := zb) (by rw [hzb, hc]; rfl), end0 rfl⟩
   try simp only [tt, seval, hc, Bool.not_true, Bool.not_false, reduceCtorEq, false_implies, true_implies, and_true, true_and, not_true_eq_false, not_false_eq_true]
   refine ⟨by omega, Int.le_refl _, ?_⟩
   simp only [e15, flat1, take_rows Tok.row_len, e17]
   refine cZ (c0) (by decide) ?_ ?_ <;> simp only [tt, seval]
   exact ⟨_, _, vbE (b := zb) (by rw [hzb, hc]; rfl), end0 rfl⟩
theorem kidsN_le {kind op : Int} {not : Bool} {val : Val} {qual name : ByteArray} {nk : Nat} {ns : Int} (hs : shapeB kind op not val qual name nk ns = true) : kidsN kind ≤ nk ∧ nk ≤ 2000 := by
 rcases shape_cases hs with ⟨rfl, _, h, _⟩ | ⟨rfl, _, _, h, _⟩ | ⟨rfl, _, h, _⟩ | ⟨rfl, _, h, _⟩ | ⟨rfl, h, _⟩ | ⟨rfl, h, _⟩ | ⟨rfl, h, _⟩ | ⟨rfl, h, _⟩ | ⟨rfl, h, _⟩
 all_goals (simp [kidsN]; omega)
theorem derE_d (e : Expr) : fmE e = true → Rg e → DerC e (derE e) :=
 foldE3_ind (F1 := fmF) (F2 := plF) (F3 := derF) (P := fun e f p d => f = true → Rg e → DerC e d) (fun e gf gp g hg hf hr => by
  have hb : ∀ x, below x e → Rg x := fun x hx => rg_down hr hx
  obtain ⟨kind, op, not, val, qual, name, kids, sub⟩ := e
  have hnum := hr.num
  obtain ⟨hs, hk, _⟩ := fm_parts hf
  obtain ⟨h1, h2⟩ := kidsN_le hs
  intro l n v hn hl
  exact l15Derives_step kind op not val qual name kids sub g (fun x hx => hg x (.inl hx) (hk x hx) (hb x (.inl hx))) h1 h2 hnum.1 hnum.2 (l.length + 1) l n v (Nat.lt_succ_self _) hn hl) e
set_option maxHeartbeats 4000000 in
theorem Derives_d (L : List Tok) (e : Expr) (hsz : szExpr e ≤ 1048576) (hr : Rg e) : Cl Tryz.prog 16 [.c (.sl (L).length ((L).flatMap Tok.row) none), .ag (csOf e.row)] [] fun r _ => ∃ t, r = vb t ∧ derR L e t := by
 have c1 := ExprOk_d e hsz
 have c2 := l15Plain_d e
 have c3 := fun (hf : fmE e = true) (hl : L.length ≤ 2000) => derE_d e hf hr L L.length 1 rfl hl
 have hi := fun (hf : fmE e = true) (hp : plE e = true) => der_iff (L := L) hf hp hr
 unfold derR
 generalize takeE L = y at *
 generalize derE e L 1 = b at *
 obtain ⟨kind, op, not, val, qual, name, kids, sub⟩ := e
 rw [Expr.row_mk] at c1 c2 c3 ⊢
 refine cl_of_d follows_mixed false Tryz.func16 rfl (by kernel_rfl) ?_
 simp only [Tryz.f16, tt, seval]
 refine cZ (c1) (by decide) ?_ ?_ <;> simp only [tt, seval, Expr.row_mk]
 cases hok : okE (Expr.mk kind op not val qual name kids sub)
 ·try simp only [tt, seval, hok, Bool.not_true, Bool.not_false, reduceCtorEq, false_implies, true_implies, and_true, true_and, not_true_eq_false, not_false_eq_true]
  exact ⟨_, _, ⟨false, rfl, by simp⟩, end0 rfl⟩
 have hf : fmE (Expr.mk kind op not val qual name kids sub) = true := by
  rw [okE, Bool.and_eq_true, Bool.and_eq_true] at hok
  exact hok.2.2
 try simp only [tt, seval, hok, Bool.not_true, Bool.not_false, reduceCtorEq, false_implies, true_implies, and_true, true_and, not_true_eq_false, not_false_eq_true]
 refine cZ (c2) (by decide) ?_ ?_ <;> simp only [tt, seval, Expr.row_mk]
 cases hp : plE (Expr.mk kind op not val qual name kids sub)
 ·try simp only [tt, seval, hp, Bool.not_true, Bool.not_false, reduceCtorEq, false_implies, true_implies, and_true, true_and, not_true_eq_false, not_false_eq_true]
  exact ⟨_, _, ⟨false, rfl, by simp⟩, end0 rfl⟩
 try simp only [tt, seval, hp, Bool.not_true, Bool.not_false, reduceCtorEq, false_implies, true_implies, and_true, true_and, not_true_eq_false, not_false_eq_true]
 refine fun _ => ?_
 by_cases h2 : (L.length : Int) ≤ 2000
 case neg =>
  try simp only [tt, seval, decide_eq_false h2, Bool.not_true, Bool.not_false, reduceCtorEq, false_implies, true_implies, and_true, true_and, not_true_eq_false, not_false_eq_true]
  exact ⟨_, _, ⟨false, rfl, by simp; omega⟩, end0 rfl⟩
 try simp only [tt, seval, decide_eq_true h2, Bool.not_true, Bool.not_false, reduceCtorEq, false_implies, true_implies, and_true, true_and, not_true_eq_false, not_false_eq_true]
 refine cZ (c3 hf (by omega)) (by decide) ?_ ?_ <;> simp only [tt, seval, Expr.row_mk]
 exact ⟨_, _, ⟨b, rfl, (hi hf hp).trans ⟨fun h => ⟨by omega, h⟩, fun h => h.2⟩⟩, end0 rfl⟩
set_option maxHeartbeats 8000000 in
theorem lawED_d (a : List Tok) (e : Expr) (hr : Rg e) : Cl Tryz.prog 4 [.c (.sl (a).length ((a).flatMap Tok.row) none), .ag (csOf e.row)] [] fun r _ => r = vb true := by
 have z1 := szToks_d a 1048576 (by omega) (by omega)
 have z2 := fun l h0 h1 => szExpr_d e l h0 h1
 have te := fun h => toExpr_d e h
 have qe := eqExpr_d e
 have cs := fun h => Derives_d a e h hr
 have ci := fun hL hT h => iDerives_d a hL hT e h
 unfold derR at cs ci
 have hz : ∀ (h : szExpr e ≤ 1048576), True := fun _ => trivial
 generalize hzs : szExpr e = se at *
 generalize okE e = ok at *
 generalize plE e = pl at *
 generalize hP : (takeE a = (e, -1)) = P at *
 obtain ⟨kind, op, not, val, qual, name, kids, sub⟩ := e
 rw [Expr.row_mk] at z2 te qe cs ci ⊢
 refine cl_of_d follows_mixed false Tryz.func4 rfl (by kernel_rfl) ?_
 simp only [Tryz.f4, tt, seval]
 refine cZ (z1) (by decide) ?_ ?_ <;> simp only [tt, seval, Expr.row_mk, Val.row]
 refine And.intro (fun hneg => ⟨_, _, rfl, end0 rfl⟩) (fun hpos => ?_)
 have hs1 : szToks a ≤ 1048576 := by
  unfold subL at hpos
  split at hpos
  ·omega
  ·exact absurd hpos (by decide)
 have hb1 : subL 1048576 (szToks a) ≤ 1048576 := by unfold subL; split <;> omega
 refine cZ (z2 (subL 1048576 (szToks a)) (by omega) hb1) (by decide) ?_ ?_ <;> simp only [tt, seval, Expr.row_mk, Val.row]
 refine And.intro (fun hneg2 => ⟨_, _, rfl, end0 rfl⟩) (fun hpos2 => ?_)
 have hs2 : se ≤ 1048576 := by
  generalize subL 1048576 (szToks a) = l1 at *
  unfold subL at hpos2
  split at hpos2
  ·omega
  ·exact absurd hpos2 (by decide)
 have te := te hs2
 have cs := cs hs2
 have ci := ci (szToks_len hs1) (szToks_text hs1) hs2
 refine dDrawn.intro [21, 24] (.take 0 (.br 1 (.take 2 (.br 3 (.br 4 (.take 5 .done) .nobr) .nobr)) (.br 2 (.br 1 (.br 3 (.br 4 (.take 5 .done) .nobr) .nobr) .nobr) .nobr))) (by kernel_rfl) ?_
 simp only [tt, seval]
 all_goals try simp only [tt, seval, Expr.row_mk, Val.row]
 all_goals repeat' first | refine brC ?_ ?_ | refine brC2 ?_ ?_
 all_goals
  refine cZ (toToks_o a hs1) (by decide) ?_ ?_ <;> simp only [tt, seval, Expr.row_mk, Val.row]
 all_goals repeat' first | refine brC ?_ ?_ | refine brC2 ?_ ?_
 all_goals
  refine cZ (te) (by decide) ?_ ?_ <;> simp only [tt, seval, Expr.row_mk, Val.row]
 all_goals repeat' first | refine brC ?_ ?_ | refine brC2 ?_ ?_
 all_goals
  refine call0 (cs) ?_ ?_ ?_
  ·decide
  ·simp only [tt, seval, Expr.row_mk, Val.row]
   try decide
  rintro r ⟨t1, rfl, ht1⟩
  simp only [tt, seval, Expr.row_mk, Val.row]
 all_goals
  refine cZ (toToks_o a hs1) (by decide) ?_ ?_ <;> simp only [tt, seval, Expr.row_mk, Val.row]
  refine cZ (te) (by decide) ?_ ?_ <;> simp only [tt, seval, Expr.row_mk, Val.row]
  refine call0 (ci) ?_ ?_ ?_
  ·decide
  ·simp only [tt, seval, Expr.row_mk, Val.row]
  rintro r ⟨t2, rfl, ht2⟩
  simp only [tt, seval, Expr.row_mk, Val.row]
  obtain rfl : t1 = t2 := Bool.eq_iff_iff.2 (ht1.trans ht2.symm)
  try simp only [tt, seval, beqq, Bool.not_true]
  refine cZ (toToks_o a hs1) (by decide) ?_ ?_ <;> simp only [tt, seval, Expr.row_mk, Val.row]
  refine cZ (eqToks_d a) (by decide) ?_ ?_ <;> simp only [tt, seval, Expr.row_mk, Val.row]
  try simp only [tt, seval, Bool.not_true]
  refine dDrawn.intro [] (pln [0, 2, 5, 7, 8]) (by kernel_rfl) ?_
  simp only [tt, seval]
  try simp only [tt, seval, Expr.row_mk, Val.row]
  refine cZ (te) (by decide) ?_ ?_ <;> simp only [tt, seval, Expr.row_mk, Val.row]
  refine cZ (qe) (by decide) ?_ ?_ <;> simp only [tt, seval, Expr.row_mk, Val.row]
  try simp only [tt, seval, Bool.not_true]
  exact ⟨_, _, rfl, end0 rfl⟩
end Go.Proofs.YtabhiapifcanoaaGreatDoor
