/-
  Plain trees; the draw; the law.
  Conditions: none.
-/
import Derived.Test.YtabhiapifcanoaaGreatDoorOTB3
import Derived.Test.YtabhiapifcanoaaGreatDoorOTD2
import Derived.Test.YtabhiapifcanoaaGreatDoorOTG
import Derived.Test.YtabhiapifcanoaaGreatDoorOTV
set_option linter.unusedVariables false
set_option linter.unusedSimpArgs false
set_option linter.unusedSectionVars false
set_option linter.unnecessarySimpa false
set_option maxRecDepth 8000
namespace Go.Proofs.YtabhiapifcanoaaGreatDoor
open Go Go.Dv
open Go.Vc (D shrI xorI andI and255)
theorem IndexH_d (l : List Expr) (g : Expr → Bool) (h : ∀ x ∈ l, Cl Tryz.prog 31 [.ag (csOf x.row)] [] fun r _ => r = vb (!g x)) : Cl Tryz.prog 112 [.c (.sl l.length (l.flatMap Expr.row) none), .c (.fn 31 [] [])] [] fun r _ => ∃ n : Int, r = vi n ∧ decide (0 ≤ n) = !(l.all g) := by
 refine cl_of_d follows_mixed false Tryz.func112 rfl (by kernel_rfl) ?_
 simp only [Tryz.f112, tt, seval]
 refine fun _ => ?_
 refine dLoop.intro (fun f L p => ∃ i : Nat, f 8 = vi i ∧ i ≤ l.length ∧ (∀ j (hj : j < l.length), j < i → g l[j] = true) ∧ L = [] ∧ p = none) (fun f _ _ => (l.length - ixS (f 8)).toNat) [] none ⟨SubO.nil _, PoSub.none _, ?_⟩ ?_
 ·simp only [tt, seval]
  exact ⟨0, rfl, by omega, fun j _ h => absurd h (Nat.not_lt_zero _)⟩
 ·rintro g' L p ⟨i, hix, hi, hall, rfl, rfl⟩
  simp only [tt, seval] at hix
  simp only [tt, seval, hix, Int.ofNat_lt]
  refine And.intro (fun hlt => ?_) (fun hge => ?_)
  ·refine ⟨by omega, by omega, _, drop_row Expr.row_len (List.getElem?_eq_getElem hlt), Expr.ne _ _, ?_⟩
   simp only [tt, seval, hix, Expr.tk, Expr.row_len]
   refine cZ (h l[i] (List.getElem_mem hlt)) (by decide) ?_ ?_ <;> simp only [tt, seval, hix]
   refine And.intro (fun hb => ?_) (fun hb => ?_)
   ·have hb : g l[i] = false := by simpa only [Bool.not_eq_true'] using hb
    refine ⟨vi i, [], ⟨i, rfl, ?_⟩, end0 rfl⟩
    rw [decide_eq_true (by omega), all_false (List.getElem_mem hlt) hb]; rfl
   ·have hb : g l[i] = true := by simpa only [Bool.not_eq_false'] using hb
    try rw [wrS i (by omega)]
    exact ⟨_, none, SubO.nil _, PoSub.none _, ⟨i + 1, rfl, by omega, fun j hj hji => by
     by_cases e : j = i
     ·subst e; exact hb
     ·exact hall j hj (by omega), rfl, rfl⟩, by simp only [ixS]; omega⟩
  ·refine ⟨vi (-1), [], ⟨-1, rfl, ?_⟩, end0 rfl⟩
   rw [all_true fun j hj => hall j hj (by omega)]; rfl
theorem ContainsH_d (l : List Expr) (g : Expr → Bool) (h : ∀ x ∈ l, Cl Tryz.prog 31 [.ag (csOf x.row)] [] fun r _ => r = vb (!g x)) : Cl Tryz.prog 67 [.c (.sl l.length (l.flatMap Expr.row) none), .c (.fn 31 [] [])] [] fun r _ => r = vb (!(l.all g)) := by
 refine cl_of_d follows_mixed false Tryz.func67 rfl (by kernel_rfl) ?_
 simp only [Tryz.f67, tt, seval]
 refine call0 (IndexH_d l g h) ?_ ?_ ?_
 ·decide
 ·simp only [tt, seval]
 rintro r ⟨n, rfl, hn⟩
 simp only [tt, seval]
 exact ⟨_, _, vbE hn, end0 rfl⟩
theorem hasSub_d (e : Expr) : Cl Tryz.prog 31 [.ag (csOf e.row)] [] fun r _ => r = vb (!plE e) := by
 refine foldE_ind (P := fun e b => Cl Tryz.prog 31 [.ag (csOf e.row)] [] fun r _ => r = vb (!b)) (fun e g hg => ?_) e
 obtain ⟨kind, op, not, val, qual, name, kids, sub⟩ := e
 obtain ⟨zb, hzb⟩ : ∃ zb, zb = !plF g (Expr.mk kind op not val qual name kids sub) := ⟨_, rfl⟩
 rw [← hzb]
 rw [plF] at hzb
 rw [Expr.row_mk]
 refine cl_of_d follows_mixed false Tryz.func31 rfl (by kernel_rfl) ?_
 simp only [Tryz.f31, tt, seval]
 refine fun _ => ?_
 by_cases h : ((0 : Int) < (sub.length : Int))
 ·try simp only [tt, seval, decide_eq_true h, Bool.not_true, Bool.not_false, reduceCtorEq, false_implies, true_implies, and_true, true_and]
  exact ⟨_, _, vbE (b := zb) (by rw [hzb]; cases sub with | nil => simp at h | cons x r => simp), end0 rfl⟩
 ·try simp only [tt, seval, decide_eq_false h, Bool.not_true, Bool.not_false, reduceCtorEq, false_implies, true_implies, and_true, true_and]
  refine cZ (ContainsH_d kids g (fun x hx => hg x (.inl hx))) (by decide) ?_ ?_ <;> simp only [tt, seval, Expr.row_mk]
  exact ⟨_, _, vbE (b := zb) (by rw [hzb]; cases sub with | nil => simp | cons x r => (simp only [List.length_cons] at h; omega)), end0 rfl⟩
theorem plain_d_step (kind op : Int) (not : Bool) (val : Val) (qual name : ByteArray) (kids : List Expr) (sub : List Query) (g : Expr → Bool) (hg : ∀ x ∈ kids, Cl Tryz.prog 11 [.ag (csOf x.row)] [] fun r _ => r = vb (g x)) : Cl Tryz.prog 11 [.ag (csOf (Expr.mk kind op not val qual name kids sub).row)] [] fun r _ => r = vb (plF g (Expr.mk kind op not val qual name kids sub)) := by
 obtain ⟨zb, hzb⟩ : ∃ zb, zb = plF g (Expr.mk kind op not val qual name kids sub) := ⟨_, rfl⟩
 rw [← hzb]
 rw [plF] at hzb
 rw [Expr.row_mk]
 refine cl_of_d follows_mixed false Tryz.func11 rfl (by kernel_rfl) ?_
 simp only [Tryz.f11, tt, seval]
 refine dLoop.intro (fun f L p => ∃ i : Nat, f 3 = vi i ∧ i ≤ kids.length ∧ (∀ j (hj : j < kids.length), j < i → g kids[j] = true) ∧ L = [(1, .str [.v (.int .i64 kind), .v (.int .i64 op), .v (.bool not), .v (.int .i64 val.kind), .v (.int .i64 val.num), .v (.string val.text), .v (.string qual), .v (.string name), .sl kids.length (kids.flatMap Expr.row) none, .sl sub.length (sub.flatMap Query.row) none])] ∧ p = none) (fun f _ _ => (kids.length - ixS (f 3)).toNat) [(1, .str [.v (.int .i64 kind), .v (.int .i64 op), .v (.bool not), .v (.int .i64 val.kind), .v (.int .i64 val.num), .v (.string val.text), .v (.string qual), .v (.string name), .sl kids.length (kids.flatMap Expr.row) none, .sl sub.length (sub.flatMap Query.row) none])] none ⟨SubO.cons rfl (SubO.nil _), PoSub.none _, ?_⟩ ?_
 ·simp only [tt, seval]
  exact ⟨0, rfl, by omega, fun j _ h => absurd h (Nat.not_lt_zero _)⟩
 ·rintro g' L p ⟨i, ix, hi, hal, rfl, rfl⟩
  simp only [tt, seval] at ix
  simp only [tt, seval, ix, Int.ofNat_lt]
  refine fun _ => And.intro (fun hlt => ?_) (fun hge => ?_)
  ·have hlt : i < kids.length := by omega
   refine ⟨by omega, by omega, _, drop_row Expr.row_len (List.getElem?_eq_getElem hlt), Expr.ne _ _, ?_⟩
   simp only [tt, seval, ix, Expr.tk, Expr.row_len]
   refine cZ (hg kids[i] (List.getElem_mem hlt)) (by decide) ?_ ?_ <;> simp only [tt, seval, ix]
   refine And.intro (fun hb => ?_) (fun hb => ?_)
   ·have hb : g kids[i] = false := by simpa only [Bool.not_eq_true'] using hb
    exact ⟨_, _, vbE (by rw [hzb, all_false (List.getElem_mem hlt) hb]; rfl), end0 rfl⟩
   ·have hb : g kids[i] = true := by simpa only [Bool.not_eq_false'] using hb
    try simp only [tt, seval, ix]
    try rw [wrS i (by omega)]
    exact ⟨_, none, SubO.cons rfl (SubO.nil _), PoSub.none _, ⟨i + 1, rfl, by omega, fun j hj hji => by
     by_cases e : j = i
     ·subst e; exact hb
     ·exact hal j hj (by omega), rfl, rfl⟩, by simp only [ixS]; omega⟩
  ·rw [all_true fun j hj => hal j hj (by omega), Bool.true_and] at hzb
   try simp only [tt, seval]
   refine fun _ => ?_
   refine ⟨_, _, vbE (b := zb) ?_, end0 rfl⟩
   rw [hzb]
   cases sub with
   | nil => rfl
   | cons x r =>
    have h : ¬ (((x :: r).length : Nat) : Int) = 0 := by simp only [List.length_cons]; omega
    rw [decide_eq_false h]; rfl
theorem plain_d (e : Expr) : Cl Tryz.prog 11 [.ag (csOf e.row)] [] fun r _ => r = vb (plE e) := by
 refine foldE_ind (P := fun e b => Cl Tryz.prog 11 [.ag (csOf e.row)] [] fun r _ => r = vb b) (fun e g hg => ?_) e
 obtain ⟨kind, op, not, val, qual, name, kids, sub⟩ := e
 exact plain_d_step kind op not val qual name kids sub g fun x hx => hg x (.inl hx)
def eqV (v u : Val) : Bool := decide (v.kind = u.kind) && (decide (v.num = u.num) && decide (v.text = u.text))
theorem eqV_iff {v u : Val} : eqV v u = true ↔ v = u := by
 obtain ⟨a, b, c⟩ := v
 obtain ⟨a2, b2, c2⟩ := u
 simp only [eqV, Bool.and_eq_true, decide_eq_true_eq, Val.mk.injEq]
def SaE (a b : Expr) : Prop := Cl Tryz.prog 37 [.ag (csOf a.row), .ag (csOf b.row)] [] fun r _ => ∃ t : Bool, r = vb t ∧ (t = true ↔ a = b)
theorem eqValG (v u : Val) (w : World) : (Op.equalIn 10000 28 (.agg [.int .i64 v.kind, .int .i64 v.num, .string v.text].toArray) (.agg [.int .i64 u.kind, .int .i64 u.num, .string u.text].toArray)).run Tryz.prog w = .ok (eqV v u) w := by
 refine Go.Vc.equalIn_fk (ks := [(0, .int), (1, .int), (2, .str)]) (by kernel_rfl) (by kernel_rfl) (by kernel_rfl) ?_ w
 obtain ⟨a, b, c⟩ := v
 obtain ⟨a2, b2, c2⟩ := u
 simp only [Go.Vc.eqFK, List.getElem?_cons_zero, List.getElem?_cons_succ, eqV]
 by_cases h1 : a = a2 <;> by_cases h2 : b = b2 <;> by_cases h3 : c = c2 <;> simp [h1, h2, h3]
theorem beqq (b : Bool) : (b == b) = true := by cases b <;> rfl
theorem bne {a b : Bool} (h : ¬ a = b) : (a == b) = false := by cases a <;> cases b <;> simp_all
theorem EqualE_d (xs bs : List Expr) (h : ∀ x, x ∈ xs → ∀ y, y ∈ bs → SaE x y) : Cl Tryz.prog 133 [.c (.sl xs.length (xs.flatMap Expr.row) none), .c (.sl bs.length (bs.flatMap Expr.row) none), .c (.fn 37 [] [])] [] fun r _ => ∃ t : Bool, r = vb t ∧ (t = true ↔ xs = bs) := by
 refine cl_of_d follows_mixed false Tryz.func133 rfl (by kernel_rfl) ?_
 simp only [Tryz.f133, tt, seval]
 refine fun _ _ => And.intro (fun hab => ?_) (fun hab => ?_)
 ·have hab' : ¬ xs.length = bs.length := by simpa [Int.ofNat_inj] using hab
  exact ⟨_, _, ⟨false, rfl, by simp; intro e; exact hab' (by rw [e])⟩, end0 rfl⟩
 have hab : xs.length = bs.length := by simpa [Int.ofNat_inj] using hab
 refine fun _ => ?_
 refine dLoop.intro (fun f L p => ∃ i : Nat, f 17 = vi i ∧ i ≤ xs.length ∧ (∀ j (hj : j < xs.length) (hk : j < bs.length), j < i → xs[j] = bs[j]) ∧ L = [] ∧ p = none) (fun f _ _ => (xs.length - ixS (f 17)).toNat) [] none ⟨SubO.nil _, PoSub.none _, ?_⟩ ?_
 ·simp only [tt, seval]
  exact ⟨0, rfl, Nat.zero_le _, fun j _ _ h => absurd h (Nat.not_lt_zero _)⟩
 rintro g L p ⟨i, ix, hi, hal, rfl, rfl⟩
 simp only [tt, seval] at ix
 simp only [tt, seval, ix, Int.ofNat_lt]
 refine And.intro (fun hlt => ?_) (fun hge => ?_)
 ·have hlt : i < xs.length := by omega
  have hlb : i < bs.length := by omega
  have hS := h xs[i] (List.getElem_mem hlt) bs[i] (List.getElem_mem hlb)
  unfold SaE at hS
  obtain ⟨x, hx⟩ : ∃ x, x = xs[i] := ⟨_, rfl⟩
  obtain ⟨y, hy⟩ : ∃ y, y = bs[i] := ⟨_, rfl⟩
  rw [← hx, ← hy] at hS
  obtain ⟨kind, op, not, val, qual, name, kids, sub⟩ := x
  obtain ⟨kind2, op2, not2, val2, qual2, name2, kids2, sub2⟩ := y
  rw [Expr.row_mk, Expr.row_mk] at hS
  refine ⟨by omega, by omega, _, drop_row Expr.row_len (List.getElem?_eq_getElem hlt), Expr.ne _ _, ?_⟩
  rw [← hx, Expr.row_mk]
  try simp only [tt, seval, ix, lc]
  refine ⟨by omega, by omega, _, drop_row Expr.row_len (List.getElem?_eq_getElem hlb), Expr.ne _ _, ?_⟩
  rw [← hy, Expr.row_mk]
  try simp only [tt, seval, ix, lc]
  refine call0 (hS) ?_ ?_ ?_
  ·decide
  ·simp only [tt, seval, ix]
  rintro r ⟨tb, rfl, htb⟩
  simp only [tt, seval, ix]
  rw [hx, hy] at htb
  refine And.intro (fun hb => ?_) (fun hb => ?_)
  ·have hb : tb = false := by simpa only [Bool.not_eq_true'] using hb
   refine ⟨_, _, ⟨false, rfl, ?_⟩, end0 rfl⟩
   simp only [Bool.false_eq_true, false_iff]
   intro e
   have : xs[i] = bs[i] := by simp only [e]
   rw [htb.2 this] at hb; cases hb
  ·have hb : tb = true := by simpa only [Bool.not_eq_false'] using hb
   try simp only [tt, seval, ix]
   try rw [wrS i (by omega)]
   exact ⟨_, none, SubO.nil _, PoSub.none _, ⟨i + 1, rfl, by omega, fun j hj hk hji => by
    by_cases e : j = i
    ·subst e; exact htb.1 hb
    ·exact hal j hj hk (by omega), rfl, rfl⟩, by simp only [ixS]; omega⟩
 ·try simp only [tt, seval]
  exact ⟨_, _, ⟨true, rfl, by simp only [true_iff]; exact List.ext_getElem hab fun j h1 h2 => hal j h1 h2 (by omega)⟩, end0 rfl⟩
theorem sameExprs_d (xs bs : List Expr) (h : ∀ x, x ∈ xs → ∀ y, y ∈ bs → SaE x y) : Cl Tryz.prog 80 [.c (.sl xs.length (xs.flatMap Expr.row) none), .c (.sl bs.length (bs.flatMap Expr.row) none)] [] fun r _ => ∃ t : Bool, r = vb t ∧ (t = true ↔ xs = bs) := by
 refine cl_of_d follows_mixed false Tryz.func80 rfl (by kernel_rfl) ?_
 simp only [Tryz.f80, tt, seval]
 refine call0 (EqualE_d xs bs h) ?_ ?_ ?_
 ·decide
 ·simp only [tt, seval]
 rintro r ⟨tb, rfl, htb⟩
 simp only [tt, seval]
 exact ⟨_, _, ⟨tb, rfl, htb⟩, end0 rfl⟩
theorem EqualQ0_d (xs : List Query) : Cl Tryz.prog 81 [.c (.sl xs.length (xs.flatMap Query.row) none), .c (.sl 0 [] none), .c (.fn 82 [] [])] [] fun r _ => ∃ t : Bool, r = vb t ∧ (t = true ↔ xs = []) := by
 refine cl_of_d follows_mixed false Tryz.func81 rfl (by kernel_rfl) ?_
 simp only [Tryz.f81, tt, seval]
 refine fun _ => And.intro (fun hab => ?_) (fun hab => ?_)
 ·have hab' : ¬ xs.length = 0 := by simpa using hab
  exact ⟨_, _, ⟨false, rfl, by simp; intro e; exact hab' (by rw [e]; rfl)⟩, end0 rfl⟩
 have hab : xs.length = 0 := by simpa using hab
 obtain rfl := List.eq_nil_of_length_eq_zero hab
 try simp only [tt, seval, List.length_nil]
 refine dLoop.intro (fun f L p => f 17 = vi 0 ∧ L = [] ∧ p = none) (fun _ _ _ => 0) [] none ⟨SubO.nil _, PoSub.none _, ?_⟩ ?_
 ·simp only [tt, seval]
  try exact ⟨rfl, rfl, rfl⟩
 rintro g L p ⟨ix, rfl, rfl⟩
 simp only [tt, seval] at ix
 simp only [tt, seval, ix]
 exact ⟨_, _, ⟨true, rfl, by simp⟩, end0 rfl⟩
set_option maxHeartbeats 4000000 in
theorem iSameExpr_step (kind op : Int) (not : Bool) (val : Val) (qual name : ByteArray) (kids : List Expr) (sub : List Query) (kind2 op2 : Int) (not2 : Bool) (val2 : Val) (qual2 name2 : ByteArray) (kids2 : List Expr) (sub2 : List Query) (hs : sub2 = []) (hk : ∀ x, x ∈ kids → ∀ y, y ∈ kids2 → SaE x y) : SaE (Expr.mk kind op not val qual name kids sub) (Expr.mk kind2 op2 not2 val2 qual2 name2 kids2 sub2) := by
 unfold SaE
 rw [Expr.row_mk, Expr.row_mk]
 subst hs
 refine cl_of_d follows_mixed false Tryz.func37 rfl (by kernel_rfl) ?_
 simp only [Tryz.f37, tt, seval]
 by_cases hne : kind = kind2
 case neg =>
  try simp only [tt, seval, decide_eq_false hne, hne]
  exact ⟨_, _, ⟨false, rfl, by simp [hne]⟩, end0 rfl⟩
 subst hne
 try simp only [tt, seval, decide_true, beqq]
 by_cases hne : op = op2
 case neg =>
  try simp only [tt, seval, decide_eq_false hne, hne]
  exact ⟨_, _, ⟨false, rfl, by simp [hne]⟩, end0 rfl⟩
 subst hne
 try simp only [tt, seval, decide_true, beqq]
 by_cases hne : not = not2
 case neg =>
  try simp only [tt, seval, decide_eq_false hne, bne hne, hne]
  exact ⟨_, _, ⟨false, rfl, by simp [hne]⟩, end0 rfl⟩
 subst hne
 try simp only [tt, seval, decide_true, beqq]
 rw [pu_eqagg (by kernel_rfl) (eqValG val val2)]
 try simp only [tt, seval]
 by_cases hne : val = val2
 case neg =>
  have hv : eqV val val2 = false := by cases hv : eqV val val2 with | false => rfl | true => exact absurd (eqV_iff.1 hv) hne
  try simp only [tt, seval, hv]
  exact ⟨_, _, ⟨false, rfl, by simp [hne]⟩, end0 rfl⟩
 rw [eqV_iff.2 hne]
 subst hne
 try simp only [tt, seval]
 by_cases hne : qual = qual2
 case neg =>
  try simp only [tt, seval, decide_eq_false hne, hne]
  exact ⟨_, _, ⟨false, rfl, by simp [hne]⟩, end0 rfl⟩
 subst hne
 try simp only [tt, seval, decide_true, beqq]
 by_cases hne : name = name2
 case neg =>
  try simp only [tt, seval, decide_eq_false hne, hne]
  exact ⟨_, _, ⟨false, rfl, by simp [hne]⟩, end0 rfl⟩
 subst hne
 try simp only [tt, seval, decide_true, beqq]
 refine call0 (sameExprs_d kids kids2 hk) ?_ ?_ ?_
 ·decide
 ·simp only [tt, seval, Expr.row_mk]
 rintro r ⟨tk, rfl, htk⟩
 simp only [tt, seval, Expr.row_mk]
 cases tk
 ·try simp only [tt, seval]
  exact ⟨_, _, ⟨false, rfl, by simp at htk; simp [htk]⟩, end0 rfl⟩
 obtain rfl := htk.1 rfl
 try simp only [tt, seval]
 refine call0 (EqualQ0_d sub) ?_ ?_ ?_
 ·decide
 ·simp only [tt, seval, Expr.row_mk, List.flatMap_nil, List.length_nil]
 rintro r ⟨tb, rfl, htb⟩
 simp only [tt, seval, Expr.row_mk, List.flatMap_nil, List.length_nil]
 exact ⟨_, _, ⟨tb, rfl, by simp [htb]⟩, end0 rfl⟩
theorem iSameExpr_d (b : Expr) : plE b = true → ∀ a, SaE a b := by
 refine foldE_ind (F := plF) (P := fun b p => p = true → ∀ a, SaE a b) (fun b g hg hp a => ?_) b
 obtain ⟨kind, op, not, val, qual, name, kids, sub⟩ := a
 obtain ⟨kind2, op2, not2, val2, qual2, name2, kids2, sub2⟩ := b
 simp only [plF, Bool.and_eq_true, List.all_eq_true, List.isEmpty_iff] at hp
 exact iSameExpr_step _ _ _ _ _ _ _ _ _ _ _ _ _ _ _ _ hp.2 fun x _ y hy => hg y (.inl hy) (hp.1 y hy) x
end Go.Proofs.YtabhiapifcanoaaGreatDoor
set_option maxRecDepth 8000
namespace Go.Proofs.YtabhiapifcanoaaGreatDoor
open Go Go.Dv Go.Cv
open Go.Vc (D shrI xorI andI and255)
theorem takeE_neg {L : List Tok} (h : (takeE L).2 < 0) : (takeE L).2 = -1 := by
 unfold takeE takeM at h ⊢
 split at h
 ·exact absurd h (by decide)
 ·split at h
  ·rename_i h0
   exact absurd h (by simp only; omega)
  ·rename_i h0
   rw [if_neg h0]
noncomputable def cntR (L : List Tok) : Int := if (takeE L).2 < 0 ∧ plE (takeE L).1 = true then 1 else 0
theorem iCountTrees_d (L : List Tok) (hL : L.length ≤ 1048576) (hT : ∀ t ∈ L, t.text.size ≤ 1048576) : Cl Tryz.prog 8 [.c (.sl (L).length ((L).flatMap Tok.row) none)] [] fun r _ => r = vi (if 9 < L.length then 0 else cntR L) := by
 obtain ⟨z, hz⟩ : ∃ z, z = (if 9 < L.length then 0 else cntR L) := ⟨_, rfl⟩
 rw [← hz]
 rw [cntR] at hz
 have c1 := iTakeExpr_d L hL hT
 have c2 := hasSub_d (takeE L).1
 generalize (takeE L).1 = x at *
 generalize (takeE L).2 = bad at *
 obtain ⟨kx, ox, nx, vx, qx, mx, ksx, ssx⟩ := x
 simp only [Expr.row_mk, told, lc] at c1 c2
 refine cl_of_d follows_mixed false Tryz.func8 rfl (by kernel_rfl) ?_
 simp only [Tryz.f8, tt, seval]
 refine fun _ => And.intro (fun hlen => ?_) (fun hlen => ?_)
 ·have hlen : 9 < L.length := by omega
  exact ⟨_, _, viE (by rw [hz, if_pos hlen]), end0 rfl⟩
 have hlen : ¬ 9 < L.length := by omega
 rw [if_neg hlen] at hz
 refine call0 (c1) ?_ ?_ ?_
 ·decide
 ·simp only [tt, seval, told, Val.row, lc]
 rintro r ⟨Fk, Fs, rfl⟩
 simp only [tt, seval, told, Val.row, lc]
 by_cases hb : (0 : Int) ≤ bad
 ·try simp only [tt, seval, decide_eq_true hb, Bool.not_true, Bool.not_false, reduceCtorEq, false_implies, true_implies, and_true, true_and]
  exact ⟨_, _, viE (by rw [hz, if_neg (by omega)]), end0 rfl⟩
 try simp only [tt, seval, decide_eq_false hb, Bool.not_true, Bool.not_false, reduceCtorEq, false_implies, true_implies, and_true, true_and]
 refine cZ (c2) (by decide) ?_ ?_ <;> simp only [tt, seval, told, Val.row, lc]
 cases hp : plE (Expr.mk kx ox nx vx qx mx ksx ssx)
 ·try simp only [tt, seval, hp, Bool.not_true, Bool.not_false, reduceCtorEq, false_implies, true_implies, and_true, true_and]
  exact ⟨_, _, viE (by rw [hz, if_neg (fun h => by rw [hp] at h; exact absurd h.2 (by decide))]), end0 rfl⟩
 ·try simp only [tt, seval, hp, Bool.not_true, Bool.not_false, reduceCtorEq, false_implies, true_implies, and_true, true_and]
  exact ⟨_, _, viE (by rw [hz, if_pos ⟨by omega, hp⟩]), end0 rfl⟩
def derR (L : List Tok) (e : Expr) (t : Bool) : Prop := t = true ↔ (okE e = true ∧ plE e = true ∧ L.length ≤ 2000 ∧ takeE L = (e, -1))
theorem iDerives_d (L : List Tok) (hL : L.length ≤ 1048576) (hT : ∀ t ∈ L, t.text.size ≤ 1048576) (e : Expr) (hsz : szExpr e ≤ 1048576) : Cl Tryz.prog 12 [.c (.sl (L).length ((L).flatMap Tok.row) none), .ag (csOf e.row)] [] fun r _ => ∃ t, r = vb t ∧ derR L e t := by
 have c0 := iExprOk_d e hsz
 have c3 := hasSub_d e
 have c4 := iSameExpr_d e
 have c1 := iTakeExpr_d L hL hT
 have hneg := takeE_neg (L := L)
 unfold derR
 generalize takeE L = y at *
 obtain ⟨x, bad⟩ := y
 simp only at c1
 have c4 := fun h => c4 h x
 unfold SaE at c4
 obtain ⟨kx, ox, nx, vx, qx, mx, ksx, ssx⟩ := x
 obtain ⟨kind, op, not, val, qual, name, kids, sub⟩ := e
 simp only [Expr.row_mk, told, lc] at c0 c1 c3 c4 ⊢
 refine cl_of_d follows_mixed false Tryz.func12 rfl (by kernel_rfl) ?_
 simp only [Tryz.f12, tt, seval]
 refine cZ (c0) (by decide) ?_ ?_ <;> simp only [tt, seval, told, Val.row, lc]
 cases hok : okE (Expr.mk kind op not val qual name kids sub)
 ·try simp only [tt, seval, hok, Bool.not_true, Bool.not_false, reduceCtorEq, false_implies, true_implies, and_true, true_and]
  exact ⟨_, _, ⟨false, rfl, by simp⟩, end0 rfl⟩
 try simp only [tt, seval, hok, Bool.not_true, Bool.not_false, reduceCtorEq, false_implies, true_implies, and_true, true_and]
 refine cZ (c3) (by decide) ?_ ?_ <;> simp only [tt, seval, told, Val.row, lc]
 cases hp : plE (Expr.mk kind op not val qual name kids sub)
 ·try simp only [tt, seval, hp, Bool.not_true, Bool.not_false, reduceCtorEq, false_implies, true_implies, and_true, true_and]
  exact ⟨_, _, ⟨false, rfl, by simp⟩, end0 rfl⟩
 try simp only [tt, seval, hp, Bool.not_true, Bool.not_false, reduceCtorEq, false_implies, true_implies, and_true, true_and]
 refine fun _ => And.intro (fun hlen => ?_) (fun hlen => ?_)
 ·exact ⟨_, _, ⟨false, rfl, by simp; omega⟩, end0 rfl⟩
 refine call0 (c1) ?_ ?_ ?_
 ·decide
 ·simp only [tt, seval, told, Val.row, lc]
 rintro r ⟨Fk, Fs, rfl⟩
 simp only [tt, seval, told, Val.row, lc]
 by_cases hb : bad < 0
 ·try simp only [tt, seval, decide_eq_true hb, Bool.not_true, Bool.not_false, reduceCtorEq, false_implies, true_implies, and_true, true_and]
  refine call0 (c4 hp) ?_ ?_ ?_
  ·decide
  ·simp only [tt, seval, told, Val.row, lc]
  rintro r ⟨t, rfl, ht⟩
  simp only [tt, seval, told, Val.row, lc]
  obtain rfl := hneg hb
  exact ⟨_, _, ⟨t, rfl, by rw [ht]; simp; omega⟩, end0 rfl⟩
 ·try simp only [tt, seval, decide_eq_false hb, Bool.not_true, Bool.not_false, reduceCtorEq, false_implies, true_implies, and_true, true_and]
  exact ⟨_, _, ⟨false, rfl, by simp; omega⟩, end0 rfl⟩
theorem dre_tk2 (full : Bool) {d : Nat} {e : Expr} (hd : d ≤ 3) (h : DrE d e) : TkC full e (tkE full e) ∧ Sm 60000 (tkE full e) := by
 have hm := dN_mono hd
 rw [dN3] at hm
 have hs := tkE_sm full e h.fm h.rg
 have hn := h.nn
 exact ⟨l10Expr_d full e h.fm h.rg (Nat.le_trans h.sz (by omega)), hs.le (by omega)⟩
set_option maxHeartbeats 8000000 in
theorem l15Tokens_d (e : Expr) {d : Nat} (hd : d ≤ 3) (he : DrE d e) (c : Cur) (h0 : 0 ≤ c.i) : Cl Tryz.prog 29 [.c (.p 9000 0), .ag (csOf e.row)] [c.cs] (CuS (TlR 100000)) := by
 obtain ⟨k1, p1, n1, v1, q1, m1, ks1, ss1⟩ := e
 rw [Expr.row_mk]
 refine cl_of_d follows_mixed false Tryz.func29 rfl (by kernel_rfl) ?_
 simp only [Tryz.f29, tt, seval]
 refine dDrawn.intro [9, 10] (.take 2 (.br 0 (.br 1 (.br 3 (.br 4 (.take 5 .done) .nobr) .nobr) (.br 3 (.take 1 (.br 4 (.take 5 .done) .nobr)) .nobr)) (.br 1 (.br 0 (.br 3 (.br 4 (.take 5 .done) .nobr) .nobr) (.br 3 (.br 0 (.br 4 (.take 5 .done) .nobr) .nobr) .nobr)) (.br 3 (.take 1 (.br 0 (.br 4 (.take 5 .done) .nobr) .nobr)) .nobr)))) (by kernel_rfl) ?_
 simp only [tt, seval]
 all_goals try simp only [tt, seval, Cur.cs, baE, Tok.row]
 all_goals repeat' first | refine brC ?_ ?_ | refine brC2 ?_ ?_
 all_goals
  refine CallQ.intro (l1Once_d c h0 3) ?_ ?_ ?_
  ·decide
  ·simp only [tt, seval, Cur.cs, baE, Tok.row, Expr.row_mk, Val.row]
   try decide
  rintro r os ⟨c1, ⟨full, rfl⟩, rfl, i1⟩ hos
  simp only [tt, seval, Cur.cs, baE, Tok.row, Expr.row_mk, Val.row]
 all_goals repeat' first | refine brA ?_ ?_ | refine brA2 ?_ ?_ | refine brA3 ?_ ?_
 all_goals
  obtain ⟨ce, hsm⟩ := dre_tk2 full hd he
  have hs1 := hsm.1
  have ce := ce [] (by simp only [List.length_nil]; omega)
  rw [Expr.row_mk, List.nil_append] at ce
  generalize tkE full (Expr.mk k1 p1 n1 v1 q1 m1 ks1 ss1) = L0 at *
 all_goals repeat' first | refine brC ?_ ?_ | refine brC2 ?_ ?_
 all_goals
  refine cZ (ce) (by decide) ?_ ?_
  ·simp only [tt, seval, Cur.cs, baE, Tok.row, Val.row, List.flatMap_nil, List.length_nil]
   try decide
  simp only [tt, seval, Cur.cs, baE, Tok.row, Val.row, List.flatMap_nil, List.length_nil]
 all_goals repeat' first | refine brC ?_ ?_ | refine brC2 ?_ ?_
 all_goals
  refine CallQ.intro (l1Once_d c1 i1 4) ?_ ?_ ?_
  ·decide
  ·simp only [tt, seval, Cur.cs, baE, Tok.row]
   try decide
  rintro r os ⟨c2, ⟨b2, rfl⟩, rfl, i2⟩ hos
  simp only [tt, seval, Cur.cs, baE, Tok.row]
 all_goals
  refine And.intro (fun _ => ?_) (fun _ => ?_)
  ·try simp only [tt, seval, Cur.cs, baE, Tok.row]
   refine callF [10010] ?_
   simp only [tt, seval, Cur.cs, baE, Tok.row]
   refine Call1.intro (l12Turned_d L0 (Nat.le_trans hsm.1 (by decide)) (fun t ht => Nat.le_trans (hsm.2 t ht) (by decide)) c2 i2) ?_ ?_ ?_
   ·decide
   ·simp only [tt, seval, Cur.cs, baE, Tok.row]
   rintro r os ⟨c3, ⟨l, rfl, hl, hlt⟩, rfl, i3⟩ hos
   simp only [tt, seval, Cur.cs, baE, Tok.row]
   refine ⟨.c (.sl l.length (l.flatMap Tok.row) none), [c3.cs], ⟨c3, ⟨l, rfl, Nat.le_trans hl (by omega), hlt⟩, rfl, i3⟩, endOk ?_⟩
   simp only [tt, seval, Cur.cs, baE, Tok.row]
  ·try simp only [tt, seval, Cur.cs, baE, Tok.row]
   refine ⟨.c (.sl L0.length (L0.flatMap Tok.row) none), [c2.cs], ⟨c2, ⟨L0, rfl, by omega, fun t ht => Nat.le_trans (hsm.2 t ht) (by decide)⟩, rfl, i2⟩, endOk ?_⟩
   simp only [tt, seval, Cur.cs, baE, Tok.row]
def wordsL : List Tok := [kT 15, kT 13, kT 14, gT ⟨#[45]⟩, gT ⟨#[61]⟩, gT ⟨#[40]⟩, gT ⟨#[41]⟩, nT ⟨#[97]⟩, nT ⟨#[97]⟩, nT ⟨#[98]⟩, kT 16, kT 20, kT 17, gT ⟨#[43]⟩]
theorem words_sm : ∀ t ∈ wordsL, t.text.size ≤ 100 := by decide
set_option maxHeartbeats 8000000 in
theorem DrawCountTrees_d (bs : List Int) : Cl Tryz.prog 7 [.c (.sl bs.length (bs.flatMap brow) none)] [] fun r _ => ∃ l : List Tok, r = .c (.sl l.length (l.flatMap Tok.row) none) ∧ l.length ≤ 100000 ∧ ∀ t ∈ l, t.text.size ≤ 100 := by
 refine cl_of_d follows_mixed false Tryz.func7 rfl (by kernel_rfl) ?_
 simp only [Tryz.f7, tt, seval]
 refine callN (l1New_d bs) (by decide) ?_
 rintro cs ⟨c, rfl, h0⟩
 simp only [tt, seval, Cur.cs, baE, Tok.row]
 refine CallQ.intro (l1Once_d c h0 4) ?_ ?_ ?_
 ·decide
 ·simp only [tt, seval, Cur.cs, baE, Tok.row]
 rintro r os ⟨c1, ⟨b1, rfl⟩, rfl, i1⟩ hos
 simp only [tt, seval, Cur.cs, baE, Tok.row]
 refine And.intro (fun _ => ?_) (fun _ => ?_)
 ·try simp only [tt, seval, Cur.cs, baE, Tok.row]
  refine cZ (l10Key_d 15 (by omega) (by omega)) (by decide) ?_ ?_ <;> simp only [tt, seval, Cur.cs, baE, Tok.row, kT]
  refine cZ (l10Key_d 13 (by omega) (by omega)) (by decide) ?_ ?_ <;> simp only [tt, seval, Cur.cs, baE, Tok.row, kT]
  refine cZ (l10Key_d 14 (by omega) (by omega)) (by decide) ?_ ?_ <;> simp only [tt, seval, Cur.cs, baE, Tok.row, kT]
  refine cZ (l10Sign_d ⟨#[45]⟩) (by decide) ?_ ?_ <;> simp only [tt, seval, Cur.cs, baE, Tok.row, gT]
  refine cZ (l10Sign_d ⟨#[61]⟩) (by decide) ?_ ?_ <;> simp only [tt, seval, Cur.cs, baE, Tok.row, gT]
  refine cZ (l10Sign_d ⟨#[40]⟩) (by decide) ?_ ?_ <;> simp only [tt, seval, Cur.cs, baE, Tok.row, gT]
  refine cZ (l10Sign_d ⟨#[41]⟩) (by decide) ?_ ?_ <;> simp only [tt, seval, Cur.cs, baE, Tok.row, gT]
  refine cZ (l10Name_d ⟨#[97]⟩) (by decide) ?_ ?_ <;> simp only [tt, seval, Cur.cs, baE, Tok.row, nT]
  refine cZ (l10Name_d ⟨#[97]⟩) (by decide) ?_ ?_ <;> simp only [tt, seval, Cur.cs, baE, Tok.row, nT]
  refine cZ (l10Name_d ⟨#[98]⟩) (by decide) ?_ ?_ <;> simp only [tt, seval, Cur.cs, baE, Tok.row, nT]
  refine cZ (l10Key_d 16 (by omega) (by omega)) (by decide) ?_ ?_ <;> simp only [tt, seval, Cur.cs, baE, Tok.row, kT]
  refine cZ (l10Key_d 20 (by omega) (by omega)) (by decide) ?_ ?_ <;> simp only [tt, seval, Cur.cs, baE, Tok.row, kT]
  refine cZ (l10Key_d 17 (by omega) (by omega)) (by decide) ?_ ?_ <;> simp only [tt, seval, Cur.cs, baE, Tok.row, kT]
  refine cZ (l10Sign_d ⟨#[43]⟩) (by decide) ?_ ?_ <;> simp only [tt, seval, Cur.cs, baE, Tok.row, gT]
  refine CallQ.intro (l1Below_d c1 i1 10) ?_ ?_ ?_
  ·decide
  ·simp only [tt, seval, Cur.cs, baE, Tok.row]
  rintro r os ⟨y, c2, rfl, rfl, hy, i2⟩ hos
  simp only [tt, seval, Cur.cs, baE, Tok.row]
  have hy2 := hy.2 (by omega)
  obtain ⟨n, rfl⟩ : ∃ n : Nat, y = n := ⟨y.toNat, by omega⟩
  refine dLoop.gh [.ren 28 45] ⟨by decide, by decide, ?_⟩
  refine dLoop0.intro (fun f Lo p => ∃ (i : Nat) (c : Cur) (l : List Tok), f 7 = vi i ∧ f 5 = .c (.s 45 l.length) ∧ i ≤ n ∧ 0 ≤ c.i ∧ l.length = i ∧ (∀ t ∈ l, t.text.size ≤ 100) ∧ Lo = [(10, .str c.cs), (45, .arr 56 (l).length ((l).flatMap Tok.row) none), (27, .arr 56 14 (wordsL.flatMap Tok.row) none)] ∧ p = none) (fun f _ _ => (n - ixS (f 7)).toNat) [(10, .str c2.cs), (45, .arr 56 (([] : List Tok)).length ((([] : List Tok)).flatMap Tok.row) none), (27, .arr 56 14 (wordsL.flatMap Tok.row) none)] none ⟨SubO.cons rfl (SubO.cons rfl (SubO.cons rfl (SubO.nil _))), PoSub.none _, ?_⟩ ?_
  ·simp only [tt, seval]
   exact ⟨0, c2, [], rfl, rfl, by omega, i2, rfl, (fun _ h => by cases h), rfl⟩
  rintro g Lo p ⟨i, c, l, h7, h5, hi, i3, hl, hlt, rfl, rfl⟩
  simp only [tt, seval] at h7 h5
  simp only [tt, seval, h7, h5, Int.ofNat_lt]
  refine And.intro (fun hlo => ?_) (fun hge => ?_)
  ·skip
   refine CallQ.intro (l1Below_d c i3 14) ?_ ?_ ?_
   ·decide
   ·simp only [tt, seval, Cur.cs, baE, Tok.row, h7]
   rintro r os ⟨z, c3, rfl, rfl, hz, i4⟩ hos
   simp only [tt, seval, Cur.cs, baE, Tok.row, h7]
   have hz2 := hz.2 (by omega)
   obtain ⟨k, rfl⟩ : ∃ k : Nat, z = k := ⟨z.toNat, by omega⟩
   have hk : k < wordsL.length := by show k < 14; omega
   refine ⟨by omega, by omega, ?_⟩
   rw [drop_row Tok.row_len (show wordsL[(k : Int).toNat]? = some wordsL[k] from List.getElem?_eq_getElem hk)]
   have hws := words_sm wordsL[k] (List.getElem_mem hk)
   obtain ⟨w, hw⟩ : ∃ w, w = wordsL[k] := ⟨_, rfl⟩
   rw [← hw] at hws ⊢
   obtain ⟨wk, wt, wa⟩ := w
   simp only [tt, seval, Tok.tk, Tok.row, h5, h7]
   refine ⟨by kernel_rfl, ⟨by simp only [maxLen]; omega, by omega⟩, ?_⟩
   rw [tok1 l, len1 l (Tok.mk wk wt wa)]
   try rw [wrS i (by omega)]
   refine ⟨[(10, .str c3.cs), (45, .arr 56 ((l ++ [Tok.mk wk wt wa])).length (((l ++ [Tok.mk wk wt wa])).flatMap Tok.row) none), (27, .arr 56 14 (wordsL.flatMap Tok.row) none)], none, SubO.cons rfl (SubO.cons rfl (SubO.cons rfl (SubO.nil _))), PoSub.none _, ⟨i + 1, c3, l ++ [Tok.mk wk wt wa], rfl, rfl, by omega, i4, by simp [hl], fun t ht => ?_, rfl, rfl⟩, by simp only [ixS]; omega⟩
   rcases List.mem_append.1 ht with ht | ht
   ·exact hlt t ht
   ·rw [List.mem_singleton.1 ht]; exact hws
  ·refine ⟨.c (.sl l.length (l.flatMap Tok.row) none), [], ⟨l, rfl, by omega, hlt⟩, endOk ?_⟩
   simp only [tt, seval, Cur.cs, baE, Tok.row]
 ·try simp only [tt, seval, Cur.cs, baE, Tok.row]
  refine CallQ.intro (l1Below_d c1 i1 2) ?_ ?_ ?_
  ·decide
  ·simp only [tt, seval, Cur.cs, baE, Tok.row]
  rintro r os ⟨y, c2, rfl, rfl, hy, i2⟩ hos
  simp only [tt, seval, Cur.cs, baE, Tok.row]
  have hy2 := hy.2 (by omega)
  obtain ⟨d, hd⟩ : ∃ d : Nat, (1 : Int) + y = d := ⟨((1 : Int) + y).toNat, by omega⟩
  rw [wrap_id (n := (1 : Int) + y) (by omega) (by omega), hd]
  refine CallQ.intro ((drawn_all d (by omega)).1 c2 i2) ?_ ?_ ?_
  ·decide
  ·simp only [tt, seval, Cur.cs, baE, Tok.row, Expr.row_mk]
  rintro r os ⟨c3, ⟨⟨k1, p1, n1, v1, q1, m1, ks1, ss1⟩, rfl, he⟩, rfl, i3⟩ hos
  simp only [tt, seval, Cur.cs, baE, Tok.row, Expr.row_mk]
  have ct := l15Tokens_d _ (show d ≤ 3 by omega) he c3 i3
  rw [Expr.row_mk] at ct
  refine CallQ.intro (ct) ?_ ?_ ?_
  ·decide
  ·simp only [tt, seval, Cur.cs, baE, Tok.row]
  rintro r os ⟨c4, ⟨l, rfl, hl, hlt⟩, rfl, i4⟩ hos
  simp only [tt, seval, Cur.cs, baE, Tok.row]
  refine fun _ => ?_
  by_cases h9 : (9 : Int) < (l.length : Int)
  ·try simp only [tt, seval, decide_eq_true h9]
   refine CallQ.intro (l1Once_d c4 i4 12) ?_ ?_ ?_
   ·decide
   ·simp only [tt, seval, Cur.cs, baE, Tok.row]
   rintro r os ⟨c5, ⟨b5, rfl⟩, rfl, i5⟩ hos
   simp only [tt, seval, Cur.cs, baE, Tok.row]
   refine And.intro (fun _ => ?_) (fun _ => ?_)
   ·skip
    refine CallQ.intro (l1Below_d c5 i5 10) ?_ ?_ ?_
    ·decide
    ·simp only [tt, seval, Cur.cs, baE, Tok.row]
    rintro r os ⟨z, c6, rfl, rfl, hz, i6⟩ hos
    simp only [tt, seval, Cur.cs, baE, Tok.row]
    have hz2 := hz.2 (by omega)
    obtain ⟨k, rfl⟩ : ∃ k : Nat, z = k := ⟨z.toNat, by omega⟩
    refine ⟨by omega, by omega, ?_⟩
    rw [show ((k : Int) - 0).toNat = k by omega, take_rows Tok.row_len]
    have e2 : (l.take k).length = k := by rw [List.length_take]; omega
    refine ⟨.c (.sl k ((l.take k).flatMap Tok.row) none), [], ⟨l.take k, by rw [e2], by omega, fun t ht => hlt t (List.mem_of_mem_take ht)⟩, endOk ?_⟩
    simp only [tt, seval, Cur.cs, baE, Tok.row]
   ·refine ⟨.c (.sl l.length (l.flatMap Tok.row) none), [], ⟨l, rfl, hl, hlt⟩, endOk ?_⟩
    simp only [tt, seval, Cur.cs, baE, Tok.row]
  ·try simp only [tt, seval, decide_eq_false h9]
   refine ⟨.c (.sl l.length (l.flatMap Tok.row) none), [], ⟨l, rfl, hl, hlt⟩, endOk ?_⟩
   simp only [tt, seval, Cur.cs, baE, Tok.row]
set_option maxHeartbeats 8000000 in
theorem lawOT_d (bs : List Int) : Cl Tryz.prog 3 [.c (.sl bs.length (bs.flatMap brow) none)] [] fun r _ => r = vb true := by
 refine cl_of_d follows_mixed false Tryz.func3 rfl (by kernel_rfl) ?_
 simp only [Tryz.f3, tt, seval]
 refine cZ (big_d bs) (by decide) ?_ ?_ <;> simp only [tt, seval, Cur.cs, baE, Tok.row]
 refine And.intro (fun hbig => ⟨_, _, rfl, end0 rfl⟩) (fun hbig => ?_)
 refine call0 (DrawCountTrees_d bs) ?_ ?_ ?_
 ·decide
 ·simp only [tt, seval, Cur.cs, baE, Tok.row]
 rintro r ⟨L, rfl, hL, hT⟩
 simp only [tt, seval, Cur.cs, baE, Tok.row]
 have hT1 : ∀ t ∈ L, t.text.size ≤ 1048576 := fun t ht => Nat.le_trans (hT t ht) (by decide)
 have cc := iCountTrees_d L (by omega) hT1
 refine fun _ => And.intro (fun h9 => ?_) (fun h9 => ?_)
 ·rw [if_pos (show 9 < L.length by omega)] at cc
  refine cZ (cc) (by decide) ?_ ?_ <;> simp only [tt, seval, Cur.cs, baE, Tok.row]
  exact ⟨_, _, rfl, end0 rfl⟩
 rw [if_neg (show ¬ 9 < L.length by omega)] at cc
 have c1 := iTakeExpr_d L (by omega) hT1
 have c2 := TakeExpr_d L (by omega) hT1
 have hsz := Nat.le_trans (takeE_sz hT (by omega)) (by decide : 400000 ≤ 1048576)
 have c3 := plain_d (takeE L).1
 have c4 := iDerives_d L (by omega) hT1 (takeE L).1 hsz
 have c5 := ExprOk_d (takeE L).1 hsz
 have hneg := takeE_neg (L := L)
 unfold derR at c4
 rw [cntR] at cc
 generalize takeE L = y at *
 obtain ⟨x, bad⟩ := y
 simp only at c1 c2 c3 c4 c5 hneg cc
 obtain ⟨kx, ox, nx, vx, qx, mx, ksx, ssx⟩ := x
 simp only [Expr.row_mk, told, lc] at c1 c2 c3 c4 c5
 obtain ⟨nz, hnz⟩ : ∃ nz : Int, nz = (if bad < 0 ∧ plE (Expr.mk kx ox nx vx qx mx ksx ssx) = true then 1 else 0) := ⟨_, rfl⟩
 rw [← hnz] at cc
 refine cZ (cc) (by decide) ?_ ?_ <;> simp only [tt, seval, Cur.cs, baE, Tok.row]
 refine call0 (c1) ?_ ?_ ?_
 ·decide
 ·simp only [tt, seval, told, Val.row, lc]
 rintro r ⟨Fk, Fs, rfl⟩
 simp only [tt, seval, told, Val.row, lc]
 refine cZ (c2) (by decide) ?_ ?_ <;> simp only [tt, seval, told, Val.row, lc]
 by_cases hb : bad < 0
 ·obtain rfl := hneg hb
  try simp only [tt, seval, decide_eq_true hb, Bool.not_true, Bool.not_false, reduceCtorEq, false_implies, true_implies, and_true, true_and, not_true_eq_false, not_false_eq_true]
  refine cZ (c3) (by decide) ?_ ?_ <;> simp only [tt, seval, told, Val.row, lc]
  cases hp : plE (Expr.mk kx ox nx vx qx mx ksx ssx)
  ·try simp only [tt, seval, hp, Bool.not_true, Bool.not_false, reduceCtorEq, false_implies, true_implies, and_true, true_and, not_true_eq_false, not_false_eq_true]
   exact ⟨_, _, vbE (decide_eq_true (hnz.trans (if_neg fun h => by rw [hp] at h; exact absurd h.2 (by decide)))), end0 rfl⟩
  ·obtain rfl : nz = 1 := hnz.trans (if_pos ⟨hb, hp⟩)
   try simp only [tt, seval, hp, Bool.not_true, Bool.not_false, reduceCtorEq, false_implies, true_implies, and_true, true_and, not_true_eq_false, not_false_eq_true]
   refine dDrawn.intro [] (pln [0, 2, 4, 6, 8, 12, 11, 15, 16, 18, 20]) (by kernel_rfl) ?_
   simp only [tt, seval]
   all_goals try simp only [tt, seval, told, Val.row, lc]
   all_goals repeat' first | refine brC ?_ ?_ | refine brC2 ?_ ?_
   all_goals
    refine call0 (c4) ?_ ?_ ?_
    ·decide
    ·simp only [tt, seval, told, Val.row, lc]
    rintro r ⟨tb, rfl, htb⟩
    simp only [tt, seval, told, Val.row, lc]
   all_goals repeat' first | refine brC ?_ ?_ | refine brC2 ?_ ?_
   all_goals
    refine cZ (c5) (by decide) ?_ ?_ <;> simp only [tt, seval, told, Val.row, lc]
   all_goals
    obtain rfl : okE (Expr.mk kx ox nx vx qx mx ksx ssx) = tb := by rw [Bool.eq_iff_iff, htb]; exact ⟨fun h => ⟨h, hp, by omega, rfl⟩, fun h => h.1⟩
    try simp only [tt, seval, beqq]
    exact ⟨_, _, rfl, end0 rfl⟩
 ·try simp only [tt, seval, decide_eq_false hb, Bool.not_true, Bool.not_false, reduceCtorEq, false_implies, true_implies, and_true, true_and, not_true_eq_false, not_false_eq_true]
  exact ⟨_, _, vbE (decide_eq_true (hnz.trans (if_neg fun h => hb h.1))), end0 rfl⟩
end Go.Proofs.YtabhiapifcanoaaGreatDoor
