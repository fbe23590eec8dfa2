/-
  Trees in order, second half.
  Conditions: none.
-/
import Derived.Test.YtoegnikpokgbfaaGreatDoorPCF1
set_option linter.unusedVariables false
set_option linter.unusedSimpArgs false
set_option linter.unusedSectionVars false
set_option linter.unnecessarySimpa false
set_option maxRecDepth 8000
namespace Go.Proofs.YtoegnikpokgbfaaGreatDoor
open Go Go.Dv
open Go.Vc (D shrI xorI andI and255)
theorem baE : ByteArray.empty = ⟨#[]⟩ := rfl
theorem all_false {α : Type} {g : α → Bool} {l : List α} {x : α} (h : x ∈ l) (hx : g x = false) : l.all g = false := by
 cases h' : l.all g with
 | false => rfl
 | true => have := List.all_eq_true.1 h' x h; rw [hx] at this; cases this
theorem all_true {α : Type} {g : α → Bool} {l : List α} (h : ∀ j (hj : j < l.length), g l[j] = true) : l.all g = true := List.all_eq_true.2 fun x hx => by
 obtain ⟨j, hj, rfl⟩ := List.mem_iff_getElem.1 hx
 exact h j hj
def zeroE : Expr → Bool | .mk kind op not val qual name kids sub => zeroB kind op not val qual name kids.length sub.length
def itB : Item → Bool | .mk star qual e as_ => if star = true then (mayB qual && (decide (as_ = ⟨#[]⟩) && zeroE e)) else (decide (qual = ⟨#[]⟩) && mayB as_)
def srB (i : Nat) : Source → Bool | .mk table as_ on => nameB table && (mayB as_ && (decide (on.length ≤ 1) && (decide (¬ i = 0) || decide (on.length = 0))))
def srAll (l : List Source) : Bool := (List.range l.length).all fun i => match l[i]? with | some s => srB i s | none => true
def hdB : Query → Bool | .mk _ items from_ where_ order limit => decide (1 ≤ items.length ∧ items.length ≤ 12) && (decide (1 ≤ from_.length ∧ from_.length ≤ 3) && (decide (where_.length ≤ 1) && (decide (order.length ≤ 12) && (decide (-1 ≤ limit) && (items.all itB && srAll from_)))))
theorem sr_false {l : List Source} {i : Nat} (h : i < l.length) (hb : srB i l[i] = false) : srAll l = false := by
 refine all_false (x := i) (List.mem_range.2 h) ?_
 rw [List.getElem?_eq_getElem h]; exact hb
theorem sr_true {l : List Source} (h : ∀ j (hj : j < l.length), srB j l[j] = true) : srAll l = true := List.all_eq_true.2 fun j hj => by
 have hj := List.mem_range.1 hj
 rw [List.getElem?_eq_getElem hj]; exact h j hj
def fmQ (g : Expr → Bool) (q : Query) : Bool := hdB q && (exprsQ q).all g
def fmF (g : Expr → Bool) : Expr → Bool | .mk kind op not val qual name kids sub => shapeB kind op not val qual name kids.length sub.length && (kids.all g && sub.all (fmQ g))
noncomputable def fmE : Expr → Bool := foldE fmF
theorem IndexE_d (l : List Expr) (g : Expr → Bool) (h : ∀ x ∈ l, Cl Tryz.prog 200 [.ag (csOf x.row)] [] fun r _ => r = vb (!g x)) : Cl Tryz.prog 175 [.c (.sl l.length (l.flatMap Expr.row) none), .c (.fn 200 [] [])] [] fun r _ => ∃ n : Int, r = vi n ∧ decide (0 ≤ n) = !(l.all g) := by
 refine cl_of_d follows_mixed false Tryz.func175 rfl (by kernel_rfl) ?_
 simp only [Tryz.f175, tt, seval]
 refine fun _ => ?_
 refine dLoop.intro (fun f L p => ∃ i : Nat, f 8 = vi i ∧ i ≤ l.length ∧ (∀ j (hj : j < l.length), j < i → g l[j] = true) ∧ L = [] ∧ p = none) (fun f _ _ => (l.length - ixS (f 8)).toNat) [] none ⟨SubO.nil _, PoSub.none _, ?_⟩ ?_
 ·simp only [tt, seval]
  exact ⟨0, rfl, by omega, fun j _ h => absurd h (Nat.not_lt_zero _)⟩
 ·rintro g' L p ⟨i, hix, hi, hall, rfl, rfl⟩
  simp only [tt, seval] at hix
  simp only [tt, seval, hix, Int.ofNat_lt]
  refine And.intro (fun hlt => ?_) (fun hge => ?_)
  ·refine ⟨by omega, by omega, _, drop_row Expr.row_len (List.getElem?_eq_getElem hlt), Expr.ne _ _, ?_⟩
   simp only [seval, Expr.tk, Expr.row_len]
   refine cZ (h l[i] (List.getElem_mem hlt)) (by decide) ?_ ?_ <;> simp only [tt, seval, hix]
   refine And.intro (fun hb => ?_) (fun hb => ?_)
   ·have hb : g l[i] = false := by simpa only [Bool.not_eq_true'] using hb
    refine ⟨vi i, [], ⟨i, rfl, ?_⟩, end0 rfl⟩
    rw [decide_eq_true (by omega), all_false (List.getElem_mem hlt) hb]; rfl
   ·have hb : g l[i] = true := by simpa only [Bool.not_eq_false'] using hb
    try rw [wrS i (by omega)]
    exact ⟨_, none, SubO.nil _, PoSub.none _, ⟨i + 1, rfl, by omega, fun j hj hji => by
     by_cases e : j = i
     ·subst e; exact hb
     ·exact hall j hj (by omega), rfl, rfl⟩, by simp only [ixS]; omega⟩
  ·refine ⟨vi (-1), [], ⟨-1, rfl, ?_⟩, end0 rfl⟩
   rw [all_true fun j hj => hall j hj (by omega)]; rfl
theorem ContainsE_d (l : List Expr) (g : Expr → Bool) (h : ∀ x ∈ l, Cl Tryz.prog 200 [.ag (csOf x.row)] [] fun r _ => r = vb (!g x)) : Cl Tryz.prog 117 [.c (.sl l.length (l.flatMap Expr.row) none), .c (.fn 200 [] [])] [] fun r _ => r = vb (!(l.all g)) := by
 refine cl_of_d follows_mixed false Tryz.func117 rfl (by kernel_rfl) ?_
 simp only [Tryz.f117, tt, seval]
 refine call0 (IndexE_d l g h) ?_ ?_ ?_
 ·decide
 ·simp only [tt, seval]
 rintro r ⟨n, rfl, hn⟩
 simp only [tt, seval]
 exact ⟨_, _, vbE hn, end0 rfl⟩
theorem IndexQ_d (l : List Query) (g : Query → Bool) (h : ∀ x ∈ l, Cl Tryz.prog 139 [.ag (csOf x.row)] [] fun r _ => r = vb (!g x)) : Cl Tryz.prog 201 [.c (.sl l.length (l.flatMap Query.row) none), .c (.fn 139 [] [])] [] fun r _ => ∃ n : Int, r = vi n ∧ decide (0 ≤ n) = !(l.all g) := by
 refine cl_of_d follows_mixed false Tryz.func201 rfl (by kernel_rfl) ?_
 simp only [Tryz.f201, tt, seval]
 refine fun _ => ?_
 refine dLoop.intro (fun f L p => ∃ i : Nat, f 8 = vi i ∧ i ≤ l.length ∧ (∀ j (hj : j < l.length), j < i → g l[j] = true) ∧ L = [] ∧ p = none) (fun f _ _ => (l.length - ixS (f 8)).toNat) [] none ⟨SubO.nil _, PoSub.none _, ?_⟩ ?_
 ·simp only [tt, seval]
  exact ⟨0, rfl, by omega, fun j _ h => absurd h (Nat.not_lt_zero _)⟩
 ·rintro g' L p ⟨i, hix, hi, hall, rfl, rfl⟩
  simp only [tt, seval] at hix
  simp only [tt, seval, hix, Int.ofNat_lt]
  refine And.intro (fun hlt => ?_) (fun hge => ?_)
  ·refine ⟨by omega, by omega, _, drop_row Query.row_len (List.getElem?_eq_getElem hlt), Query.ne _ _, ?_⟩
   simp only [seval, Query.tk, Query.row_len]
   refine cZ (h l[i] (List.getElem_mem hlt)) (by decide) ?_ ?_ <;> simp only [tt, seval, hix]
   refine And.intro (fun hb => ?_) (fun hb => ?_)
   ·have hb : g l[i] = false := by simpa only [Bool.not_eq_true'] using hb
    refine ⟨vi i, [], ⟨i, rfl, ?_⟩, end0 rfl⟩
    rw [decide_eq_true (by omega), all_false (List.getElem_mem hlt) hb]; rfl
   ·have hb : g l[i] = true := by simpa only [Bool.not_eq_false'] using hb
    try rw [wrS i (by omega)]
    exact ⟨_, none, SubO.nil _, PoSub.none _, ⟨i + 1, rfl, by omega, fun j hj hji => by
     by_cases e : j = i
     ·subst e; exact hb
     ·exact hall j hj (by omega), rfl, rfl⟩, by simp only [ixS]; omega⟩
  ·refine ⟨vi (-1), [], ⟨-1, rfl, ?_⟩, end0 rfl⟩
   rw [all_true fun j hj => hall j hj (by omega)]; rfl
theorem ContainsQ_d (l : List Query) (g : Query → Bool) (h : ∀ x ∈ l, Cl Tryz.prog 139 [.ag (csOf x.row)] [] fun r _ => r = vb (!g x)) : Cl Tryz.prog 138 [.c (.sl l.length (l.flatMap Query.row) none), .c (.fn 139 [] [])] [] fun r _ => r = vb (!(l.all g)) := by
 refine cl_of_d follows_mixed false Tryz.func138 rfl (by kernel_rfl) ?_
 simp only [Tryz.f138, tt, seval]
 refine call0 (IndexQ_d l g h) ?_ ?_ ?_
 ·decide
 ·simp only [tt, seval]
 rintro r ⟨n, rfl, hn⟩
 simp only [tt, seval]
 exact ⟨_, _, vbE hn, end0 rfl⟩
theorem ar1_d (e : Expr) (b : Bool) (h : Cl Tryz.prog 77 [.ag (csOf e.row)] [] fun r _ => r = vb b) : Cl Tryz.prog 200 [.ag (csOf e.row)] [] fun r _ => r = vb (!b) := by
 obtain ⟨kind, op, not, val, qual, name, kids, sub⟩ := e
 rw [Expr.row_mk] at h ⊢
 refine cl_of_d follows_mixed false Tryz.func200 rfl (by kernel_rfl) ?_
 simp only [Tryz.f200, tt, seval]
 refine cZ (h) (by decide) ?_ ?_ <;> simp only [tt, seval]
 exact ⟨_, _, rfl, end0 rfl⟩
theorem if1_d (e : Query) (b : Bool) (h : Cl Tryz.prog 140 [.ag (csOf e.row)] [] fun r _ => r = vb b) : Cl Tryz.prog 139 [.ag (csOf e.row)] [] fun r _ => r = vb (!b) := by
 obtain ⟨distinct, items, from_, where_, order, limit⟩ := e
 rw [Query.row_mk] at h ⊢
 refine cl_of_d follows_mixed false Tryz.func139 rfl (by kernel_rfl) ?_
 simp only [Tryz.f139, tt, seval]
 refine cZ (h) (by decide) ?_ ?_ <;> simp only [tt, seval]
 exact ⟨_, _, rfl, end0 rfl⟩
theorem areFormed_d (l : List Expr) (g : Expr → Bool) (h : ∀ x ∈ l, Cl Tryz.prog 77 [.ag (csOf x.row)] [] fun r _ => r = vb (g x)) : Cl Tryz.prog 137 [.c (.sl l.length (l.flatMap Expr.row) none)] [] fun r _ => r = vb (l.all g) := by
 refine cl_of_d follows_mixed false Tryz.func137 rfl (by kernel_rfl) ?_
 simp only [Tryz.f137, tt, seval]
 refine cZ (ContainsE_d l g (fun x hx => ar1_d x (g x) (h x hx))) (by decide) ?_ ?_ <;> simp only [tt, seval]
 exact ⟨_, _, vbE (Bool.not_not _), end0 rfl⟩
theorem iZero_d (e : Expr) : Cl Tryz.prog 203 [.ag (csOf e.row)] [] fun r _ => r = vb (zeroE e) := by
 obtain ⟨kind, op, not, val, qual, name, kids, sub⟩ := e
 rw [Expr.row_mk]
 refine cl_of_d follows_mixed false Tryz.func203 rfl (by kernel_rfl) ?_
 simp only [Tryz.f203, tt, seval]
 refine cZ (iSameZ_d kind op not val qual name kids sub) (by decide) ?_ ?_ <;> simp only [tt, seval, Expr.row_mk, baE]
 exact ⟨_, _, rfl, end0 rfl⟩
set_option maxHeartbeats 4000000 in
theorem isFormed_step (kind op : Int) (not : Bool) (val : Val) (qual name : ByteArray) (kids : List Expr) (sub : List Query) (g : Expr → Bool) (hkids : ∀ x ∈ kids, Cl Tryz.prog 77 [.ag (csOf x.row)] [] fun r _ => r = vb (g x)) (hsub : ∀ q ∈ sub, Cl Tryz.prog 140 [.ag (csOf q.row)] [] fun r _ => r = vb (fmQ g q)) (hkl : kids.length ≤ 1048576) (hsl : sub.length ≤ 1048576) : Cl Tryz.prog 77 [.ag (csOf (Expr.mk kind op not val qual name kids sub).row)] [] fun r _ => r = vb (fmF g (Expr.mk kind op not val qual name kids sub)) := by
 obtain ⟨zb, hzb⟩ : ∃ zb, zb = fmF g (Expr.mk kind op not val qual name kids sub) := ⟨_, rfl⟩
 rw [← hzb, Expr.row_mk]
 refine cl_of_d follows_mixed false Tryz.func77 rfl (by kernel_rfl) ?_
 simp only [Tryz.f77, tt, seval]
 obtain ⟨nk, hnk⟩ : ∃ nk : Int, nk = kids.length := ⟨_, rfl⟩
 obtain ⟨ns, hns⟩ : ∃ ns : Int, ns = sub.length := ⟨_, rfl⟩
 rw [fmF, shapeB, ← hnk, ← hns] at hzb
 by_cases hk : 1 ≤ kind ∧ kind ≤ 9
 case neg =>
  have hokf : okF kind op val qual name = false := by simp only [okF]; (repeat' split) <;> first | omega | (exact decide_eq_false (by omega))
  refine cZ (formOf_d kind op not val qual name kids sub) (by decide) ?_ ?_ <;> simp only [tt, seval, Expr.row_mk, formS, hokf]
  exact ⟨_, _, vbE (by rw [hzb, hokf]; rfl), end0 rfl⟩
 have fo := formOf_d kind op not val qual name kids sub
 unfold formS at fo
 generalize okF kind op val qual name = okv at fo hzb
 rcases (show kind = 1 ∨ kind = 2 ∨ kind = 3 ∨ kind = 4 ∨ kind = 5 ∨ kind = 6 ∨ kind = 7 ∨ kind = 8 ∨ kind = 9 by omega) with rfl | rfl | rfl | rfl | rfl | rfl | rfl | rfl | rfl
 all_goals
  refine cZ (fo) (by decide) ?_ ?_ <;> simp only [tt, seval, Expr.row_mk, fmT]
  cases hok : okv
  case false => (try simp only [tt, seval]); exact ⟨_, _, vbE (by clear hnk hns; rw [hzb]; simp [fmT, *]; try omega), end0 rfl⟩
  simp only [tt, seval]
  first
   | ((by_cases ho : op = 0; case neg => (try simp only [tt, seval, ho]); exact ⟨_, _, vbE (by clear hnk hns; rw [hzb]; simp [fmT, *]; try omega), end0 rfl⟩); try simp only [tt, seval, ho])
   | skip
  first
   | (cases hno : not; case true => (try simp only [tt, seval]); exact ⟨_, _, vbE (by clear hnk hns; rw [hzb]; simp [fmT, *]; try omega), end0 rfl⟩); (try simp only [tt, seval])
   | skip
  first
   | (rw [pu_neagg (by kernel_rfl) (eqValE val)]; (try simp only [tt, seval]); cases hv : zV val; case false => (try simp only [tt, seval]); exact ⟨_, _, vbE (by clear hnk hns; rw [hzb]; simp [fmT, *]; try omega), end0 rfl⟩); (try simp only [tt, seval])
   | skip
  first
   | ((by_cases hq : qual = ⟨#[]⟩; case neg => (try simp only [tt, seval, hq]); exact ⟨_, _, vbE (by clear hnk hns; rw [hzb]; simp [fmT, *]; try omega), end0 rfl⟩); try simp only [tt, seval, hq]; (by_cases hn : name = ⟨#[]⟩; case neg => (try simp only [tt, seval, hn]); exact ⟨_, _, vbE (by clear hnk hns; rw [hzb]; simp [fmT, *]; try omega), end0 rfl⟩); try simp only [tt, seval, hn])
   | skip
  refine fun _ => ?_
  rw [← hnk]
  first
   | ((by_cases hlo : nk < 0; case pos => (try simp only [tt, seval, hlo]); exact ⟨_, _, vbE (by clear hnk hns; rw [hzb]; simp [fmT, *]; try omega), end0 rfl⟩); try simp only [tt, seval, hlo])
   | ((by_cases hlo : nk < 1; case pos => (try simp only [tt, seval, hlo]); exact ⟨_, _, vbE (by clear hnk hns; rw [hzb]; simp [fmT, *]; try omega), end0 rfl⟩); try simp only [tt, seval, hlo])
   | ((by_cases hlo : nk < 2; case pos => (try simp only [tt, seval, hlo]); exact ⟨_, _, vbE (by clear hnk hns; rw [hzb]; simp [fmT, *]; try omega), end0 rfl⟩); try simp only [tt, seval, hlo])
   | ((by_cases hlo : nk < 3; case pos => (try simp only [tt, seval, hlo]); exact ⟨_, _, vbE (by clear hnk hns; rw [hzb]; simp [fmT, *]; try omega), end0 rfl⟩); try simp only [tt, seval, hlo])
  refine fun _ => ?_
  try rw [← hnk]
  first
   | ((by_cases hhi : 0 < nk; case pos => (try simp only [tt, seval, hhi]); exact ⟨_, _, vbE (by clear hnk hns; rw [hzb]; simp [fmT, *]; try omega), end0 rfl⟩); try simp only [tt, seval, hhi])
   | ((by_cases hhi : 1 < nk; case pos => (try simp only [tt, seval, hhi]); exact ⟨_, _, vbE (by clear hnk hns; rw [hzb]; simp [fmT, *]; try omega), end0 rfl⟩); try simp only [tt, seval, hhi])
   | ((by_cases hhi : 2 < nk; case pos => (try simp only [tt, seval, hhi]); exact ⟨_, _, vbE (by clear hnk hns; rw [hzb]; simp [fmT, *]; try omega), end0 rfl⟩); try simp only [tt, seval, hhi])
   | ((by_cases hhi : 3 < nk; case pos => (try simp only [tt, seval, hhi]); exact ⟨_, _, vbE (by clear hnk hns; rw [hzb]; simp [fmT, *]; try omega), end0 rfl⟩); try simp only [tt, seval, hhi])
   | ((by_cases hhi : 9 < nk; case pos => (try simp only [tt, seval, hhi]); exact ⟨_, _, vbE (by clear hnk hns; rw [hzb]; simp [fmT, *]; try omega), end0 rfl⟩); try simp only [tt, seval, hhi])
  refine fun _ => ?_
  try rw [← hns]
  first
   | ((by_cases hns0 : ns = 0; case neg => (try simp only [tt, seval, hns0]); exact ⟨_, _, vbE (by clear hnk hns; rw [hzb]; simp [fmT, *]; try omega), end0 rfl⟩); try simp only [tt, seval, hns0])
   | ((by_cases hns0 : ns = 1; case neg => (try simp only [tt, seval, hns0]); exact ⟨_, _, vbE (by clear hnk hns; rw [hzb]; simp [fmT, *]; try omega), end0 rfl⟩); try simp only [tt, seval, hns0])
  refine cZ (areFormed_d kids g hkids) (by decide) ?_ ?_ <;> simp only [tt, seval]
  cases hka : kids.all g
  case false => (try simp only [tt, seval]); exact ⟨_, _, vbE (by clear hnk hns; rw [hzb]; simp [fmT, *]; try omega), end0 rfl⟩
  simp only [tt, seval]
  refine cZ (ContainsQ_d sub (fmQ g) (fun q hq => if1_d q (fmQ g q) (hsub q hq))) (by decide) ?_ ?_ <;> simp only [tt, seval]
  cases hsa : sub.all (fmQ g)
  case false => (try simp only [tt, seval]); exact ⟨_, _, vbE (by clear hnk hns; rw [hzb]; simp [fmT, *]; try omega), end0 rfl⟩
  simp only [tt, seval]
  exact ⟨_, _, vbE (by clear hnk hns; rw [hzb]; simp [fmT, *]; try omega), end0 rfl⟩
theorem q_items (distinct : Bool) (items : List Item) (from_ : List Source) (where_ : List Expr) (order : List SortKey) (limit : Int) (g : Expr → Bool) (h : ¬ (1 ≤ items.length ∧ items.length ≤ 12)) : fmQ g (Query.mk distinct items from_ where_ order limit) = false := by simp only [fmQ, hdB, decide_eq_false h, Bool.false_and]
theorem q_from (distinct : Bool) (items : List Item) (from_ : List Source) (where_ : List Expr) (order : List SortKey) (limit : Int) (g : Expr → Bool) (h : ¬ (1 ≤ from_.length ∧ from_.length ≤ 3)) : fmQ g (Query.mk distinct items from_ where_ order limit) = false := by simp only [fmQ, hdB, decide_eq_false h, Bool.false_and, Bool.and_false]
theorem q_where (distinct : Bool) (items : List Item) (from_ : List Source) (where_ : List Expr) (order : List SortKey) (limit : Int) (g : Expr → Bool) (h : ¬ where_.length ≤ 1) : fmQ g (Query.mk distinct items from_ where_ order limit) = false := by simp only [fmQ, hdB, decide_eq_false h, Bool.false_and, Bool.and_false]
theorem q_order (distinct : Bool) (items : List Item) (from_ : List Source) (where_ : List Expr) (order : List SortKey) (limit : Int) (g : Expr → Bool) (h : ¬ order.length ≤ 12) : fmQ g (Query.mk distinct items from_ where_ order limit) = false := by simp only [fmQ, hdB, decide_eq_false h, Bool.false_and, Bool.and_false]
theorem q_limit (distinct : Bool) (items : List Item) (from_ : List Source) (where_ : List Expr) (order : List SortKey) (limit : Int) (g : Expr → Bool) (h : ¬ -1 ≤ limit) : fmQ g (Query.mk distinct items from_ where_ order limit) = false := by simp only [fmQ, hdB, decide_eq_false h, Bool.false_and, Bool.and_false]
theorem q_it (distinct : Bool) (items : List Item) (from_ : List Source) (where_ : List Expr) (order : List SortKey) (limit : Int) (g : Expr → Bool) {x : Item} (hm : x ∈ items) (h : itB x = false) : fmQ g (Query.mk distinct items from_ where_ order limit) = false := by simp only [fmQ, hdB, all_false hm h, Bool.false_and, Bool.and_false]
theorem q_sr (distinct : Bool) (items : List Item) (from_ : List Source) (where_ : List Expr) (order : List SortKey) (limit : Int) (g : Expr → Bool) {i : Nat} (hm : i < from_.length) (h : srB i from_[i] = false) : fmQ g (Query.mk distinct items from_ where_ order limit) = false := by simp only [fmQ, hdB, sr_false hm h, Bool.false_and, Bool.and_false]
theorem q_ok (distinct : Bool) (items : List Item) (from_ : List Source) (where_ : List Expr) (order : List SortKey) (limit : Int) (g : Expr → Bool) (h1 : 1 ≤ items.length ∧ items.length ≤ 12) (h2 : 1 ≤ from_.length ∧ from_.length ≤ 3) (h3 : where_.length ≤ 1) (h4 : order.length ≤ 12) (h5 : -1 ≤ limit) (h6 : ∀ j (hj : j < items.length), itB items[j] = true) (h7 : ∀ j (hj : j < from_.length), srB j from_[j] = true) :
 fmQ g (Query.mk distinct items from_ where_ order limit) = (exprsQ (Query.mk distinct items from_ where_ order limit)).all g := by simp only [fmQ, hdB, decide_eq_true h1, decide_eq_true h2, decide_eq_true h3, decide_eq_true h4, decide_eq_true h5, all_true h6, sr_true h7, Bool.true_and]
set_option maxHeartbeats 1000000 in
theorem isFormedQuery_d (q : Query) (g : Expr → Bool) (h : ∀ x ∈ exprsQ q, Cl Tryz.prog 77 [.ag (csOf x.row)] [] fun r _ => r = vb (g x)) (hsz : szQuery q ≤ 1048576) : Cl Tryz.prog 140 [.ag (csOf q.row)] [] fun r _ => r = vb (fmQ g q) := by
 obtain ⟨distinct, items, from_, where_, order, limit⟩ := q
 obtain ⟨zb, hzb⟩ : ∃ zb, zb = fmQ g (Query.mk distinct items from_ where_ order limit) := ⟨_, rfl⟩
 rw [← hzb, Query.row_mk]
 refine cl_of_d follows_mixed false Tryz.func140 rfl (by kernel_rfl) ?_
 simp only [Tryz.f140, tt, seval]
 refine fun _ => ?_
 by_cases c1 : (items.length : Int) < 1
 case pos =>
  simp only [tt, seval, decide_eq_true c1]
  exact ⟨_, _, vbE (by rw [hzb]; exact (q_items distinct items from_ where_ order limit g (by omega)).symm), end0 rfl⟩
 simp only [tt, seval, decide_eq_false c1]
 refine fun _ => ?_
 by_cases c2 : (12 : Int) < items.length
 case pos =>
  simp only [tt, seval, decide_eq_true c2]
  exact ⟨_, _, vbE (by rw [hzb]; exact (q_items distinct items from_ where_ order limit g (by omega)).symm), end0 rfl⟩
 simp only [tt, seval, decide_eq_false c2]
 refine fun _ => ?_
 by_cases c3 : (from_.length : Int) < 1
 case pos =>
  simp only [tt, seval, decide_eq_true c3]
  exact ⟨_, _, vbE (by rw [hzb]; exact (q_from distinct items from_ where_ order limit g (by omega)).symm), end0 rfl⟩
 simp only [tt, seval, decide_eq_false c3]
 refine fun _ => ?_
 by_cases c4 : (3 : Int) < from_.length
 case pos =>
  simp only [tt, seval, decide_eq_true c4]
  exact ⟨_, _, vbE (by rw [hzb]; exact (q_from distinct items from_ where_ order limit g (by omega)).symm), end0 rfl⟩
 simp only [tt, seval, decide_eq_false c4]
 refine fun _ => ?_
 by_cases c5 : (1 : Int) < where_.length
 case pos =>
  simp only [tt, seval, decide_eq_true c5]
  exact ⟨_, _, vbE (by rw [hzb]; exact (q_where distinct items from_ where_ order limit g (by omega)).symm), end0 rfl⟩
 simp only [tt, seval, decide_eq_false c5]
 refine fun _ => ?_
 by_cases c6 : (12 : Int) < order.length
 case pos =>
  simp only [tt, seval, decide_eq_true c6]
  exact ⟨_, _, vbE (by rw [hzb]; exact (q_order distinct items from_ where_ order limit g (by omega)).symm), end0 rfl⟩
 simp only [tt, seval, decide_eq_false c6]
 refine And.intro (fun c7 => ?_) (fun c7 => ?_)
 ·exact ⟨_, _, vbE (by rw [hzb]; exact (q_limit distinct items from_ where_ order limit g (by omega)).symm), end0 rfl⟩
 ·try simp only [tt, seval]
  refine fun _ => ?_
  refine dLoop.intro (fun f L p => ∃ i : Nat, f 49 = vi i ∧ i ≤ items.length ∧ (∀ j (hj : j < items.length), j < i → itB items[j] = true) ∧ L = [(1, .str [.v (.bool distinct), .sl items.length (items.flatMap Item.row) none, .sl from_.length (from_.flatMap Source.row) none, .sl where_.length (where_.flatMap Expr.row) none, .sl order.length (order.flatMap SortKey.row) none, .v (.int .i64 limit)])] ∧ p = none) (fun f _ _ => (items.length - ixS (f 49)).toNat) [(1, .str [.v (.bool distinct), .sl items.length (items.flatMap Item.row) none, .sl from_.length (from_.flatMap Source.row) none, .sl where_.length (where_.flatMap Expr.row) none, .sl order.length (order.flatMap SortKey.row) none, .v (.int .i64 limit)])] none ⟨SubO.cons rfl (SubO.nil _), PoSub.none _, ?_⟩ ?_
  ·simp only [tt, seval]
   exact ⟨0, rfl, by omega, fun j _ h => absurd h (Nat.not_lt_zero _)⟩
  ·rintro g' L p ⟨i, ix, hi, hall, rfl, rfl⟩
   simp only [tt, seval] at ix
   simp only [tt, seval, ix, Int.ofNat_lt]
   refine And.intro (fun hlt => ?_) (fun hge => ?_)
   ·have hlt : i < items.length := by omega
    obtain ⟨it, hit⟩ : ∃ it, it = items[i] := ⟨_, rfl⟩
    refine ⟨by omega, by omega, _, drop_row Item.row_len (List.getElem?_eq_getElem hlt), Item.ne _ _, ?_⟩
    obtain ⟨star, qual, ⟨k, o, n, v, q, m, ks, ss⟩, as_⟩ := it
    rw [← hit, Item.row_mk, Expr.row_mk]
    simp only [tt, seval]
    cases star
    case true =>
     simp only [tt, seval]
     refine cZ (isAs_d qual) (by decide) ?_ ?_ <;> simp only [tt, seval]
     cases hm : mayB qual
     case false =>
      simp only [tt, seval]
      exact ⟨_, _, vbE (by rw [hzb]; exact (q_it distinct items from_ where_ order limit g (hit ▸ List.getElem_mem hlt) (by simp [itB, hm])).symm), end0 rfl⟩
     simp only [tt, seval]
     by_cases ha : as_ = ⟨#[]⟩
     case neg =>
      simp only [tt, seval, decide_eq_false ha]
      exact ⟨_, _, vbE (by rw [hzb]; exact (q_it distinct items from_ where_ order limit g (hit ▸ List.getElem_mem hlt) (by simp [itB, hm, ha])).symm), end0 rfl⟩
     simp only [tt, seval, decide_eq_true ha]
     refine cZ (iZero_d (Expr.mk k o n v q m ks ss)) (by decide) ?_ ?_ <;> simp only [tt, seval, Expr.row_mk]
     cases hz : zeroB k o n v q m ks.length ss.length
     case false =>
      simp only [tt, seval, zeroE, hz]
      exact ⟨_, _, vbE (by rw [hzb]; exact (q_it distinct items from_ where_ order limit g (hit ▸ List.getElem_mem hlt) (by simp [itB, hm, ha, zeroE, hz])).symm), end0 rfl⟩
     simp only [tt, seval, zeroE, hz, ix]
     try rw [wrS i (by omega)]
     exact ⟨_, none, SubO.cons rfl (SubO.nil _), PoSub.none _, ⟨i + 1, rfl, by omega, fun j hj hji => by
      by_cases e : j = i
      ·subst e; rw [← hit]; simp [itB, hm, ha, zeroE, hz]
      ·exact hall j hj (by omega), rfl, rfl⟩, by simp only [ixS]; omega⟩
    case false =>
     simp only [tt, seval]
     by_cases hq : qual = ⟨#[]⟩
     case neg =>
      simp only [tt, seval, decide_eq_false hq]
      exact ⟨_, _, vbE (by rw [hzb]; exact (q_it distinct items from_ where_ order limit g (hit ▸ List.getElem_mem hlt) (by simp [itB, hq])).symm), end0 rfl⟩
     simp only [tt, seval, decide_eq_true hq]
     refine cZ (isAs_d as_) (by decide) ?_ ?_ <;> simp only [tt, seval, ix]
     cases hm : mayB as_
     case false =>
      simp only [tt, seval]
      exact ⟨_, _, vbE (by rw [hzb]; exact (q_it distinct items from_ where_ order limit g (hit ▸ List.getElem_mem hlt) (by simp [itB, hm])).symm), end0 rfl⟩
     simp only [tt, seval]
     try rw [wrS i (by omega)]
     exact ⟨_, none, SubO.cons rfl (SubO.nil _), PoSub.none _, ⟨i + 1, rfl, by omega, fun j hj hji => by
      by_cases e : j = i
      ·subst e; rw [← hit]; simp [itB, hm, hq]
      ·exact hall j hj (by omega), rfl, rfl⟩, by simp only [ixS]; omega⟩
   ·have hall := fun j hj => hall j hj (by omega)
    have hall1 := hall
    clear hall
    refine fun _ => ?_
    refine dLoop.intro (fun f L p => ∃ i : Nat, f 92 = vi i ∧ i ≤ from_.length ∧ (∀ j (hj : j < from_.length), j < i → srB j from_[j] = true) ∧ L = [(1, .str [.v (.bool distinct), .sl items.length (items.flatMap Item.row) none, .sl from_.length (from_.flatMap Source.row) none, .sl where_.length (where_.flatMap Expr.row) none, .sl order.length (order.flatMap SortKey.row) none, .v (.int .i64 limit)])] ∧ p = none) (fun f _ _ => (from_.length - ixS (f 92)).toNat) [(1, .str [.v (.bool distinct), .sl items.length (items.flatMap Item.row) none, .sl from_.length (from_.flatMap Source.row) none, .sl where_.length (where_.flatMap Expr.row) none, .sl order.length (order.flatMap SortKey.row) none, .v (.int .i64 limit)])] none ⟨SubO.cons rfl (SubO.nil _), PoSub.none _, ?_⟩ ?_
    ·simp only [tt, seval]
     exact ⟨0, rfl, by omega, fun j _ h => absurd h (Nat.not_lt_zero _)⟩
    ·rintro g' L p ⟨i, ix, hi, hall, rfl, rfl⟩
     simp only [tt, seval] at ix
     simp only [tt, seval, ix, Int.ofNat_lt]
     refine And.intro (fun hlt => ?_) (fun hge => ?_)
     ·have hlt : i < from_.length := by omega
      obtain ⟨it, hit⟩ : ∃ it, it = from_[i] := ⟨_, rfl⟩
      refine ⟨by omega, by omega, _, drop_row Source.row_len (List.getElem?_eq_getElem hlt), Source.ne _ _, ?_⟩
      obtain ⟨table, as_, on⟩ := it
      rw [← hit, Source.row_mk]
      simp only [tt, seval]
      refine cZ (iNameOk_d table) (by decide) ?_ ?_ <;> simp only [tt, seval]
      cases hnb : decide (1 ≤ table.size ∧ table.size ≤ 20)
      case false =>
       simp only [tt, seval]
       exact ⟨_, _, vbE (by rw [hzb]; exact (q_sr distinct items from_ where_ order limit g hlt (by rw [← hit]; simp [srB, nameB, hnb])).symm), end0 rfl⟩
      simp only [tt, seval]
      refine cZ (isAs_d as_) (by decide) ?_ ?_ <;> simp only [tt, seval]
      cases hm : mayB as_
      case false =>
       simp only [tt, seval]
       exact ⟨_, _, vbE (by rw [hzb]; exact (q_sr distinct items from_ where_ order limit g hlt (by rw [← hit]; simp [srB, nameB, hnb, hm])).symm), end0 rfl⟩
      simp only [tt, seval]
      refine fun _ => ?_
      by_cases c8 : (1 : Int) < on.length
      case pos =>
       simp only [tt, seval, decide_eq_true c8]
       exact ⟨_, _, vbE (by rw [hzb]; exact (q_sr distinct items from_ where_ order limit g hlt (by rw [← hit]; simp only [srB, decide_eq_false (show ¬ on.length ≤ 1 by omega), Bool.false_and, Bool.and_false])).symm), end0 rfl⟩
      simp only [tt, seval, decide_eq_false c8]
      by_cases c9 : (i : Int) = 0
      case neg =>
       simp only [tt, seval, c9, ix]
       try rw [wrS i (by omega)]
       exact ⟨_, none, SubO.cons rfl (SubO.nil _), PoSub.none _, ⟨i + 1, rfl, by omega, fun j hj hji => by
        by_cases e : j = i
        ·subst e; rw [← hit]; simp only [srB, nameB, hnb, hm, decide_eq_true (show on.length ≤ 1 by omega), decide_eq_true (show ¬ j = 0 by omega), Bool.true_and, Bool.true_or]
        ·exact hall j hj (by omega), rfl, rfl⟩, by simp only [ixS]; omega⟩
      simp only [tt, seval, decide_eq_true c9, ix]
      refine fun _ => ?_
      refine And.intro (fun c10 => ?_) (fun c10 => ?_)
      ·exact ⟨_, _, vbE (by rw [hzb]; exact (q_sr distinct items from_ where_ order limit g hlt (by rw [← hit]; simp only [srB, decide_eq_false (show ¬ ¬ i = 0 by omega), decide_eq_false (show ¬ on.length = 0 by omega), Bool.or_false, Bool.and_false])).symm), end0 rfl⟩
      ·have hi0 : i = 0 := by omega
       try rw [wrS i (by omega)]
       exact ⟨_, none, SubO.cons rfl (SubO.nil _), PoSub.none _, ⟨i + 1, rfl, by omega, fun j hj hji => by
        by_cases e : j = i
        ·subst e; rw [← hit]; simp only [srB, nameB, hnb, hm, decide_eq_true (show on.length ≤ 1 by omega), decide_eq_true (show on.length = 0 by omega), Bool.true_and, Bool.or_true]
        ·exact hall j hj (by omega), rfl, rfl⟩, by simp only [ixS]; omega⟩
     ·have hall := fun j hj => hall j hj (by omega)
      refine cZ (iexprs_d distinct items from_ where_ order limit hsz) (by decide) ?_ ?_ <;> simp only [tt, seval, Query.row_mk]
      refine cZ (areFormed_d (exprsQ (Query.mk distinct items from_ where_ order limit)) g h) (by decide) ?_ ?_ <;> simp only [tt, seval]
      exact ⟨_, _, vbE (by rw [hzb, q_ok distinct items from_ where_ order limit g ⟨by omega, by omega⟩ ⟨by omega, by omega⟩ (by omega) (by omega) (by omega) hall1 hall]), end0 rfl⟩
set_option maxHeartbeats 1000000 in
theorem l7RightQuery_d (q : Query) (g : Expr → Bool) (h : ∀ x ∈ exprsQ q, Cl Tryz.prog 45 [.ag (csOf x.row)] [] fun r _ => r = vb (g x)) (hsz : szQuery q ≤ 1048576) : Cl Tryz.prog 104 [.ag (csOf q.row)] [] fun r _ => r = vb (fmQ g q) := by
 obtain ⟨distinct, items, from_, where_, order, limit⟩ := q
 obtain ⟨zb, hzb⟩ : ∃ zb, zb = fmQ g (Query.mk distinct items from_ where_ order limit) := ⟨_, rfl⟩
 rw [← hzb, Query.row_mk]
 refine cl_of_d follows_mixed false Tryz.func104 rfl (by kernel_rfl) ?_
 simp only [Tryz.f104, tt, seval]
 refine fun _ => ?_
 refine cZ (l1In_d items.length 1 12) (by decide) ?_ ?_ <;> simp only [tt, seval]
 by_cases c1 : (1 : Int) ≤ items.length ∧ (items.length : Int) ≤ 12
 case neg =>
  simp only [tt, seval, decide_eq_false c1]
  exact ⟨_, _, vbE (by rw [hzb]; exact (q_items distinct items from_ where_ order limit g (by omega)).symm), end0 rfl⟩
 simp only [tt, seval, decide_eq_true c1]
 refine fun _ => ?_
 refine cZ (l1In_d from_.length 1 3) (by decide) ?_ ?_ <;> simp only [tt, seval]
 by_cases c2 : (1 : Int) ≤ from_.length ∧ (from_.length : Int) ≤ 3
 case neg =>
  simp only [tt, seval, decide_eq_false c2]
  exact ⟨_, _, vbE (by rw [hzb]; exact (q_from distinct items from_ where_ order limit g (by omega)).symm), end0 rfl⟩
 simp only [tt, seval, decide_eq_true c2]
 refine fun _ => ?_
 by_cases c5 : (1 : Int) < where_.length
 case pos =>
  simp only [tt, seval, decide_eq_true c5]
  exact ⟨_, _, vbE (by rw [hzb]; exact (q_where distinct items from_ where_ order limit g (by omega)).symm), end0 rfl⟩
 simp only [tt, seval, decide_eq_false c5]
 refine fun _ => ?_
 by_cases c6 : (12 : Int) < order.length
 case pos =>
  simp only [tt, seval, decide_eq_true c6]
  exact ⟨_, _, vbE (by rw [hzb]; exact (q_order distinct items from_ where_ order limit g (by omega)).symm), end0 rfl⟩
 simp only [tt, seval, decide_eq_false c6]
 refine And.intro (fun c7 => ?_) (fun c7 => ?_)
 ·exact ⟨_, _, vbE (by rw [hzb]; exact (q_limit distinct items from_ where_ order limit g (by omega)).symm), end0 rfl⟩
 ·try simp only [tt, seval]
  refine dLoop.intro (fun f L p => ∃ i : Nat, f 3 = vi i ∧ i ≤ items.length ∧ (∀ j (hj : j < items.length), j < i → itB items[j] = true) ∧ L = [(1, .str [.v (.bool distinct), .sl items.length (items.flatMap Item.row) none, .sl from_.length (from_.flatMap Source.row) none, .sl where_.length (where_.flatMap Expr.row) none, .sl order.length (order.flatMap SortKey.row) none, .v (.int .i64 limit)])] ∧ p = none) (fun f _ _ => (items.length - ixS (f 3)).toNat) [(1, .str [.v (.bool distinct), .sl items.length (items.flatMap Item.row) none, .sl from_.length (from_.flatMap Source.row) none, .sl where_.length (where_.flatMap Expr.row) none, .sl order.length (order.flatMap SortKey.row) none, .v (.int .i64 limit)])] none ⟨SubO.cons rfl (SubO.nil _), PoSub.none _, ?_⟩ ?_
  ·simp only [tt, seval]
   exact ⟨0, rfl, by omega, fun j _ h => absurd h (Nat.not_lt_zero _)⟩
  ·rintro g' L p ⟨i, ix, hi, hall, rfl, rfl⟩
   simp only [tt, seval] at ix
   simp only [tt, seval, ix, Int.ofNat_lt]
   refine fun _ => ?_
   refine And.intro (fun hlt => ?_) (fun hge => ?_)
   ·have hlt : i < items.length := by omega
    obtain ⟨it, hit⟩ : ∃ it, it = items[i] := ⟨_, rfl⟩
    refine ⟨by omega, by omega, _, drop_row Item.row_len (List.getElem?_eq_getElem hlt), Item.ne _ _, ?_⟩
    obtain ⟨star, qual, ⟨k, o, n, v, q, m, ks, ss⟩, as_⟩ := it
    rw [← hit, Item.row_mk, Expr.row_mk]
    simp only [tt, seval]
    cases star
    case true =>
     simp only [tt, seval]
     refine cZ (l7Maybe_d qual) (by decide) ?_ ?_ <;> simp only [tt, seval]
     cases hm : mayB qual
     case false =>
      simp only [tt, seval]
      exact ⟨_, _, vbE (by rw [hzb]; exact (q_it distinct items from_ where_ order limit g (hit ▸ List.getElem_mem hlt) (by simp [itB, hm])).symm), end0 rfl⟩
     simp only [tt, seval]
     by_cases ha : as_ = ⟨#[]⟩
     case neg =>
      simp only [tt, seval, decide_eq_false ha]
      exact ⟨_, _, vbE (by rw [hzb]; exact (q_it distinct items from_ where_ order limit g (hit ▸ List.getElem_mem hlt) (by simp [itB, hm, ha])).symm), end0 rfl⟩
     simp only [tt, seval, decide_eq_true ha]
     refine cZ (SameZ_d k o n v q m ks ss) (by decide) ?_ ?_ <;> simp only [tt, seval, Expr.row_mk, baE]
     cases hz : zeroB k o n v q m ks.length ss.length
     case false =>
      simp only [tt, seval]
      exact ⟨_, _, vbE (by rw [hzb]; exact (q_it distinct items from_ where_ order limit g (hit ▸ List.getElem_mem hlt) (by simp [itB, hm, ha, zeroE, hz])).symm), end0 rfl⟩
     simp only [tt, seval, ix]
     try rw [wrS i (by omega)]
     exact ⟨_, none, SubO.cons rfl (SubO.nil _), PoSub.none _, ⟨i + 1, rfl, by omega, fun j hj hji => by
      by_cases e : j = i
      ·subst e; rw [← hit]; simp [itB, hm, ha, zeroE, hz]
      ·exact hall j hj (by omega), rfl, rfl⟩, by simp only [ixS]; omega⟩
    case false =>
     simp only [tt, seval]
     by_cases hq : qual = ⟨#[]⟩
     case neg =>
      simp only [tt, seval, decide_eq_false hq]
      exact ⟨_, _, vbE (by rw [hzb]; exact (q_it distinct items from_ where_ order limit g (hit ▸ List.getElem_mem hlt) (by simp [itB, hq])).symm), end0 rfl⟩
     simp only [tt, seval, decide_eq_true hq]
     refine cZ (l7Maybe_d as_) (by decide) ?_ ?_ <;> simp only [tt, seval, ix]
     cases hm : mayB as_
     case false =>
      simp only [tt, seval]
      exact ⟨_, _, vbE (by rw [hzb]; exact (q_it distinct items from_ where_ order limit g (hit ▸ List.getElem_mem hlt) (by simp [itB, hm])).symm), end0 rfl⟩
     simp only [tt, seval]
     try rw [wrS i (by omega)]
     exact ⟨_, none, SubO.cons rfl (SubO.nil _), PoSub.none _, ⟨i + 1, rfl, by omega, fun j hj hji => by
      by_cases e : j = i
      ·subst e; rw [← hit]; simp [itB, hm, hq]
      ·exact hall j hj (by omega), rfl, rfl⟩, by simp only [ixS]; omega⟩
   ·have hall := fun j hj => hall j hj (by omega)
    have hall1 := hall
    clear hall
    refine dLoop.intro (fun f L p => ∃ i : Nat, f 5 = vi i ∧ i ≤ from_.length ∧ (∀ j (hj : j < from_.length), j < i → srB j from_[j] = true) ∧ L = [(1, .str [.v (.bool distinct), .sl items.length (items.flatMap Item.row) none, .sl from_.length (from_.flatMap Source.row) none, .sl where_.length (where_.flatMap Expr.row) none, .sl order.length (order.flatMap SortKey.row) none, .v (.int .i64 limit)])] ∧ p = none) (fun f _ _ => (from_.length - ixS (f 5)).toNat) [(1, .str [.v (.bool distinct), .sl items.length (items.flatMap Item.row) none, .sl from_.length (from_.flatMap Source.row) none, .sl where_.length (where_.flatMap Expr.row) none, .sl order.length (order.flatMap SortKey.row) none, .v (.int .i64 limit)])] none ⟨SubO.cons rfl (SubO.nil _), PoSub.none _, ?_⟩ ?_
    ·simp only [tt, seval]
     exact ⟨0, rfl, by omega, fun j _ h => absurd h (Nat.not_lt_zero _)⟩
    ·rintro g' L p ⟨i, ix, hi, hall, rfl, rfl⟩
     simp only [tt, seval] at ix
     simp only [tt, seval, ix, Int.ofNat_lt]
     refine fun _ => ?_
     refine And.intro (fun hlt => ?_) (fun hge => ?_)
     ·have hlt : i < from_.length := by omega
      obtain ⟨it, hit⟩ : ∃ it, it = from_[i] := ⟨_, rfl⟩
      refine ⟨by omega, by omega, _, drop_row Source.row_len (List.getElem?_eq_getElem hlt), Source.ne _ _, ?_⟩
      obtain ⟨table, as_, on⟩ := it
      rw [← hit, Source.row_mk]
      simp only [tt, seval]
      refine cZ (NameOk_d table) (by decide) ?_ ?_ <;> simp only [tt, seval]
      cases hnb : decide (1 ≤ table.size ∧ table.size ≤ 20)
      case false =>
       simp only [tt, seval]
       exact ⟨_, _, vbE (by rw [hzb]; exact (q_sr distinct items from_ where_ order limit g hlt (by rw [← hit]; simp [srB, nameB, hnb])).symm), end0 rfl⟩
      simp only [tt, seval]
      refine cZ (l7Maybe_d as_) (by decide) ?_ ?_ <;> simp only [tt, seval]
      cases hm : mayB as_
      case false =>
       simp only [tt, seval]
       exact ⟨_, _, vbE (by rw [hzb]; exact (q_sr distinct items from_ where_ order limit g hlt (by rw [← hit]; simp [srB, nameB, hnb, hm])).symm), end0 rfl⟩
      simp only [tt, seval]
      refine fun _ => ?_
      by_cases c8 : (1 : Int) < on.length
      case pos =>
       simp only [tt, seval, decide_eq_true c8]
       exact ⟨_, _, vbE (by rw [hzb]; exact (q_sr distinct items from_ where_ order limit g hlt (by rw [← hit]; simp only [srB, decide_eq_false (show ¬ on.length ≤ 1 by omega), Bool.false_and, Bool.and_false])).symm), end0 rfl⟩
      simp only [tt, seval, decide_eq_false c8, ix]
      by_cases c9 : (i : Int) = 0
      case neg =>
       simp only [tt, seval, c9, ix]
       try rw [wrS i (by omega)]
       exact ⟨_, none, SubO.cons rfl (SubO.nil _), PoSub.none _, ⟨i + 1, rfl, by omega, fun j hj hji => by
        by_cases e : j = i
        ·subst e; rw [← hit]; simp only [srB, nameB, hnb, hm, decide_eq_true (show on.length ≤ 1 by omega), decide_eq_true (show ¬ j = 0 by omega), Bool.true_and, Bool.true_or]
        ·exact hall j hj (by omega), rfl, rfl⟩, by simp only [ixS]; omega⟩
      simp only [tt, seval, decide_eq_true c9, ix]
      refine fun _ => ?_
      refine And.intro (fun c10 => ?_) (fun c10 => ?_)
      ·exact ⟨_, _, vbE (by rw [hzb]; exact (q_sr distinct items from_ where_ order limit g hlt (by rw [← hit]; simp only [srB, decide_eq_false (show ¬ ¬ i = 0 by omega), decide_eq_false (show ¬ on.length = 0 by omega), Bool.or_false, Bool.and_false])).symm), end0 rfl⟩
      ·have hi0 : i = 0 := by omega
       try rw [wrS i (by omega)]
       exact ⟨_, none, SubO.cons rfl (SubO.nil _), PoSub.none _, ⟨i + 1, rfl, by omega, fun j hj hji => by
        by_cases e : j = i
        ·subst e; rw [← hit]; simp only [srB, nameB, hnb, hm, decide_eq_true (show on.length ≤ 1 by omega), decide_eq_true (show on.length = 0 by omega), Bool.true_and, Bool.or_true]
        ·exact hall j hj (by omega), rfl, rfl⟩, by simp only [ixS]; omega⟩
     ·have hall := fun j hj => hall j hj (by omega)
      have hq := q_ok distinct items from_ where_ order limit g ⟨by omega, by omega⟩ ⟨by omega, by omega⟩ (by omega) (by omega) (by omega) hall1 hall
      have hql := exprsQ_len (Query.mk distinct items from_ where_ order limit)
      refine cZ (l7Exprs_d distinct items from_ where_ order limit hsz) (by decide) ?_ ?_ <;> simp only [tt, seval, Query.row_mk]
      rw [hq] at hzb
      generalize exprsQ (Query.mk distinct items from_ where_ order limit) = l at *
      refine dLoop.intro (fun f L p => ∃ i : Nat, f 8 = vi i ∧ i ≤ l.length ∧ (∀ j (hj : j < l.length), j < i → g l[j] = true) ∧ L = [(1, .str [.v (.bool distinct), .sl items.length (items.flatMap Item.row) none, .sl from_.length (from_.flatMap Source.row) none, .sl where_.length (where_.flatMap Expr.row) none, .sl order.length (order.flatMap SortKey.row) none, .v (.int .i64 limit)])] ∧ p = none) (fun f _ _ => (l.length - ixS (f 8)).toNat) [(1, .str [.v (.bool distinct), .sl items.length (items.flatMap Item.row) none, .sl from_.length (from_.flatMap Source.row) none, .sl where_.length (where_.flatMap Expr.row) none, .sl order.length (order.flatMap SortKey.row) none, .v (.int .i64 limit)])] none ⟨SubO.cons rfl (SubO.nil _), PoSub.none _, ?_⟩ ?_
      ·simp only [tt, seval]
       exact ⟨0, rfl, by omega, fun j _ h => absurd h (Nat.not_lt_zero _)⟩
      ·rintro g' L p ⟨i, ix, hi, hal, rfl, rfl⟩
       simp only [tt, seval] at ix
       simp only [tt, seval, ix, Int.ofNat_lt]
       refine fun _ => And.intro (fun hlt => ?_) (fun hge => ?_)
       ·have hlt : i < l.length := by omega
        refine ⟨by omega, by omega, _, drop_row Expr.row_len (List.getElem?_eq_getElem hlt), Expr.ne _ _, ?_⟩
        simp only [seval, Expr.tk, Expr.row_len]
        refine cZ (h l[i] (List.getElem_mem hlt)) (by decide) ?_ ?_ <;> simp only [tt, seval, ix]
        refine And.intro (fun hb => ?_) (fun hb => ?_)
        ·have hb : g l[i] = false := by simpa only [Bool.not_eq_true'] using hb
         exact ⟨_, _, vbE (by rw [hzb]; exact (all_false (List.getElem_mem hlt) hb).symm), end0 rfl⟩
        ·have hb : g l[i] = true := by simpa only [Bool.not_eq_false'] using hb
         try rw [wrS i (by omega)]
         exact ⟨_, none, SubO.cons rfl (SubO.nil _), PoSub.none _, ⟨i + 1, rfl, by omega, fun j hj hji => by
          by_cases e : j = i
          ·subst e; exact hb
          ·exact hal j hj (by omega), rfl, rfl⟩, by simp only [ixS]; omega⟩
       ·exact ⟨_, _, vbE (by rw [hzb]; exact (all_true fun j hj => hal j hj (by omega)).symm), end0 rfl⟩
theorem takeD_all {n : Nat} {l : List D} (h : l.length = n) : takeD n l = some l := by
 have := takeD_row (r := []) h
 rwa [List.append_nil] at this
theorem shape_ns {kind op : Int} {not : Bool} {val : Val} {qual name : ByteArray} {nk ns : Int} (h : shapeB kind op not val qual name nk ns = true) : ns ≤ 1 := by
 simp only [shapeB, Bool.and_eq_true, decide_eq_true_eq] at h
 have h := h.2.2.2.2.2.2
 rw [h]; unfold fmT; (repeat' split) <;> decide
theorem l7Right_step (kind op : Int) (not : Bool) (val : Val) (qual name : ByteArray) (kids : List Expr) (sub : List Query) (g : Expr → Bool) (hg : ∀ x, below x (Expr.mk kind op not val qual name kids sub) → Cl Tryz.prog 45 [.ag (csOf x.row)] [] fun r _ => r = vb (g x)) (hsz : szExpr (Expr.mk kind op not val qual name kids sub) ≤ 1048576) : Cl Tryz.prog 45 [.ag (csOf (Expr.mk kind op not val qual name kids sub).row)] [] fun r _ => r = vb (fmF g (Expr.mk kind op not val qual name kids sub)) := by
 have hks := hsz
 rw [szExpr_mk, szExprs_eq, szQuerys_eq] at hks
 obtain ⟨zb, hzb⟩ : ∃ zb, zb = fmF g (Expr.mk kind op not val qual name kids sub) := ⟨_, rfl⟩
 rw [← hzb]
 have e : fmF g (Expr.mk kind op not val qual name kids sub) = (shapeB kind op not val qual name kids.length sub.length && (kids.all g && sub.all (fmQ g))) := rfl
 rw [e] at hzb
 rw [Expr.row_mk]
 refine cl_of_d follows_mixed false Tryz.func45 rfl (by kernel_rfl) ?_
 simp only [Tryz.f45, tt, seval]
 refine cZ (l7Shape_d kind op not val qual name kids sub (by omega) (by omega)) (by decide) ?_ ?_ <;> simp only [tt, seval, Expr.row_mk]
 cases hb : shapeB kind op not val qual name kids.length sub.length
 case false =>
  simp only [tt, seval]
  exact ⟨_, _, vbE (by rw [hzb, hb]; rfl), end0 rfl⟩
 have hns := shape_ns hb
 rw [hb, Bool.true_and] at hzb
 simp only [tt, seval]
 refine dLoop.intro (fun f L p => ∃ i : Nat, f 3 = vi i ∧ i ≤ kids.length ∧ (∀ j (hj : j < kids.length), j < i → g kids[j] = true) ∧ L = [(1, .str [.v (.int .i64 kind), .v (.int .i64 op), .v (.bool not), .v (.int .i64 val.kind), .v (.int .i64 val.num), .v (.string val.text), .v (.string qual), .v (.string name), .sl kids.length (kids.flatMap Expr.row) none, .sl sub.length (sub.flatMap Query.row) none])] ∧ p = none) (fun f _ _ => (kids.length - ixS (f 3)).toNat) [(1, .str [.v (.int .i64 kind), .v (.int .i64 op), .v (.bool not), .v (.int .i64 val.kind), .v (.int .i64 val.num), .v (.string val.text), .v (.string qual), .v (.string name), .sl kids.length (kids.flatMap Expr.row) none, .sl sub.length (sub.flatMap Query.row) none])] none ⟨SubO.cons rfl (SubO.nil _), PoSub.none _, ?_⟩ ?_
 ·simp only [tt, seval]
  exact ⟨0, rfl, by omega, fun j _ h => absurd h (Nat.not_lt_zero _)⟩
 ·rintro g' L p ⟨i, ix, hi, hal, rfl, rfl⟩
  simp only [tt, seval] at ix
  simp only [tt, seval, ix, Int.ofNat_lt]
  refine fun _ => And.intro (fun hlt => ?_) (fun hge => ?_)
  ·have hlt : i < kids.length := by omega
   refine ⟨by omega, by omega, _, drop_row Expr.row_len (List.getElem?_eq_getElem hlt), Expr.ne _ _, ?_⟩
   simp only [seval, Expr.tk, Expr.row_len]
   refine cZ (hg kids[i] (.inl (List.getElem_mem hlt))) (by decide) ?_ ?_ <;> simp only [tt, seval, ix]
   refine And.intro (fun hb => ?_) (fun hb => ?_)
   ·have hb : g kids[i] = false := by simpa only [Bool.not_eq_true'] using hb
    exact ⟨_, _, vbE (by rw [hzb, all_false (List.getElem_mem hlt) hb]; rfl), end0 rfl⟩
   ·have hb : g kids[i] = true := by simpa only [Bool.not_eq_false'] using hb
    try rw [wrS i (by omega)]
    exact ⟨_, none, SubO.cons rfl (SubO.nil _), PoSub.none _, ⟨i + 1, rfl, by omega, fun j hj hji => by
     by_cases e : j = i
     ·subst e; exact hb
     ·exact hal j hj (by omega), rfl, rfl⟩, by simp only [ixS]; omega⟩
  ·rw [all_true fun j hj => hal j hj (by omega), Bool.true_and] at hzb
   refine fun _ => ?_
   rcases sub with _ | ⟨q, _ | ⟨q2, rest⟩⟩
   ·simp only [tt, seval]
    exact ⟨_, _, vbE (by rw [hzb]; rfl), end0 rfl⟩
   ·simp only [tt, seval]
    refine ⟨q.row ++ [], by simp, Query.ne _ _, ?_⟩
    simp only [tt, seval, takeD_all (Query.row_len q), Query.row_len]
    refine cZ (l7RightQuery_d q g (fun x hx => hg x (.inr ⟨q, by show q ∈ [q]; simp, hx⟩)) (Nat.le_trans (sub_sz (e := (Expr.mk kind op not val qual name kids [q])) (by show q ∈ [q]; simp)) hsz)) (by decide) ?_ ?_ <;> simp only [tt, seval]
    exact ⟨_, _, vbE (by rw [hzb]; simp), end0 rfl⟩
   ·simp only [List.length_cons] at hns; omega
theorem l7Right_d (e : Expr) : szExpr e ≤ 1048576 → Cl Tryz.prog 45 [.ag (csOf e.row)] [] fun r _ => r = vb (fmE e) := by
 refine foldE_ind (P := fun e b => szExpr e ≤ 1048576 → Cl Tryz.prog 45 [.ag (csOf e.row)] [] fun r _ => r = vb b) (fun e g hg hsz => ?_) e
 obtain ⟨kind, op, not, val, qual, name, kids, sub⟩ := e
 exact l7Right_step kind op not val qual name kids sub g (fun x hx => hg x hx (Nat.le_trans (below_sz hx) hsz)) hsz
theorem isFormed_d (e : Expr) : szExpr e ≤ 1048576 → Cl Tryz.prog 77 [.ag (csOf e.row)] [] fun r _ => r = vb (fmE e) := by
 refine foldE_ind (P := fun e b => szExpr e ≤ 1048576 → Cl Tryz.prog 77 [.ag (csOf e.row)] [] fun r _ => r = vb b) (fun e g hg hsz => ?_) e
 obtain ⟨kind, op, not, val, qual, name, kids, sub⟩ := e
 have hks := hsz
 rw [szExpr_mk, szExprs_eq, szQuerys_eq] at hks
 have hg := fun x hx => hg x hx (Nat.le_trans (below_sz hx) hsz)
 exact isFormed_step kind op not val qual name kids sub g (fun x hx => hg x (.inl hx)) (fun q hq => isFormedQuery_d q g (fun x hx => hg x (.inr ⟨q, hq, hx⟩)) (Nat.le_trans (sub_sz (e := (Expr.mk kind op not val qual name kids sub)) hq) hsz)) (by omega) (by omega)
noncomputable def okE (e : Expr) : Bool := decide (dpE e ≤ 24) && (decide (ndE e ≤ 200) && fmE e)
theorem isSmall_d (d n : Nat) : Cl Tryz.prog 74 [vi d, vi n] [] fun r _ => r = vb (decide (d ≤ 24) && decide (n ≤ 200)) := by
 refine cl_of_d follows_mixed false Tryz.func74 rfl (by kernel_rfl) ?_
 simp only [Tryz.f74, tt, seval]
 by_cases h1 : (d : Int) ≤ 24
 ·simp only [tt, seval, decide_eq_true h1]
  exact ⟨_, _, vbE (by rw [decide_eq_true (show d ≤ 24 by omega), Bool.true_and]; exact decide_eq_decide.2 (by omega)), end0 rfl⟩
 ·simp only [tt, seval, decide_eq_false h1]
  exact ⟨_, _, vbE (by rw [decide_eq_false (show ¬ d ≤ 24 by omega)]; rfl), end0 rfl⟩
theorem iExprOk_d (e : Expr) (hsz : szExpr e ≤ 1048576) : Cl Tryz.prog 35 [.ag (csOf e.row)] [] fun r _ => r = vb (okE e) := by
 obtain ⟨zb, hzb⟩ : ∃ zb, zb = okE e := ⟨_, rfl⟩
 rw [← hzb]
 rw [okE] at hzb
 have c1 := (iDepthOf_d e).1 hsz
 have c2 := (SizeOf_d e).1 hsz
 have c3 := isFormed_d e hsz
 obtain ⟨kind, op, not, val, qual, name, kids, sub⟩ := e
 generalize dpE (Expr.mk kind op not val qual name kids sub) = d at *
 generalize ndE (Expr.mk kind op not val qual name kids sub) = n at *
 generalize fmE (Expr.mk kind op not val qual name kids sub) = b at *
 rw [Expr.row_mk] at c1 c2 c3 ⊢
 refine cl_of_d follows_mixed false Tryz.func35 rfl (by kernel_rfl) ?_
 simp only [Tryz.f35, tt, seval]
 refine dDrawn.intro [] (pln [0, 4, 3, 7, 9, 10, 12, 15, 16, 18]) (by kernel_rfl) ?_
 simp only [tt, seval]
 refine cZ (c1) (by decide) ?_ ?_ <;> simp only [tt, seval]
 refine cZ (c2) (by decide) ?_ ?_ <;> simp only [tt, seval]
 refine cZ (isSmall_d d n) (by decide) ?_ ?_ <;> simp only [tt, seval]
 cases hb : (decide (d ≤ 24) && decide (n ≤ 200))
 ·simp only [tt, seval]
  exact ⟨_, _, vbE (by rw [hzb, ← Bool.and_assoc, hb]; rfl), end0 rfl⟩
 ·simp only [tt, seval]
  refine cZ (c3) (by decide) ?_ ?_ <;> simp only [tt, seval]
  exact ⟨_, _, vbE (by rw [hzb, ← Bool.and_assoc, hb]; rfl), end0 rfl⟩
theorem ExprOk_d (e : Expr) (hsz : szExpr e ≤ 1048576) : Cl Tryz.prog 14 [.ag (csOf e.row)] [] fun r _ => r = vb (okE e) := by
 obtain ⟨zb, hzb⟩ : ∃ zb, zb = okE e := ⟨_, rfl⟩
 rw [← hzb]
 rw [okE] at hzb
 have c1 := (DepthOf_d e).1 hsz
 have c2 := l7Left_d e hsz 200 (by omega) (by omega)
 have c3 := l7Right_d e hsz
 obtain ⟨kind, op, not, val, qual, name, kids, sub⟩ := e
 generalize dpE (Expr.mk kind op not val qual name kids sub) = d at *
 generalize ndE (Expr.mk kind op not val qual name kids sub) = n at *
 generalize fmE (Expr.mk kind op not val qual name kids sub) = b at *
 rw [Expr.row_mk] at c1 c2 c3 ⊢
 refine cl_of_d follows_mixed false Tryz.func14 rfl (by kernel_rfl) ?_
 simp only [Tryz.f14, tt, seval]
 refine cZ (c2) (by decide) ?_ ?_ <;> simp only [tt, seval]
 by_cases h2 : n ≤ 200
 case neg =>
  have h0 : subL 200 n < 0 := by unfold subL; split <;> omega
  simp only [tt, seval, decide_eq_false (show ¬ (0 : Int) ≤ subL 200 n by omega)]
  exact ⟨_, _, vbE (by rw [hzb, decide_eq_false h2, Bool.false_and, Bool.and_false]), end0 rfl⟩
 have h0 : 0 ≤ subL 200 n := by unfold subL; split <;> omega
 simp only [tt, seval, decide_eq_true h0]
 refine cZ (c3) (by decide) ?_ ?_ <;> simp only [tt, seval]
 cases b
 case false =>
  simp only [tt, seval]
  exact ⟨_, _, vbE (by rw [hzb, Bool.and_false, Bool.and_false]), end0 rfl⟩
 simp only [tt, seval]
 refine cZ (c1) (by decide) ?_ ?_ <;> simp only [tt, seval]
 exact ⟨_, _, vbE (by rw [hzb, decide_eq_true h2, Bool.and_true, Bool.and_true]; exact decide_eq_decide.2 (by omega)), end0 rfl⟩
theorem ll : (∀ a b : List Tok, (a ++ b).length = a.length + b.length) ∧ (∀ (t : Tok) (a : List Tok), (t :: a).length = a.length + 1) ∧ ([] : List Tok).length = 0 := ⟨fun _ _ => List.length_append, fun _ _ => List.length_cons, rfl⟩
def kT (k : Nat) : Tok := ⟨1, kw k, 0⟩
def gT (s : ByteArray) : Tok := ⟨5, s, 0⟩
def nT (s : ByteArray) : Tok := ⟨2, s, 0⟩
def iT (n : Int) : Tok := ⟨3, itoaB n, 0⟩
def lpT : Tok := gT ⟨#[40]⟩
def rpT : Tok := gT ⟨#[41]⟩
def cmT : Tok := gT ⟨#[44]⟩
def dtT : Tok := gT ⟨#[46]⟩
def stT : Tok := gT ⟨#[42]⟩
def litT (v : Val) : Tok := if v.kind = 1 then iT v.num else if v.kind = 2 then ⟨4, v.text, 0⟩ else if v.kind = 3 then (if v.num = 1 then kT 21 else kT 22) else kT 20
def opTk (op : Int) : Tok := ⟨if op = 1 ∨ op = 2 ∨ op = 15 then 1 else 5, opT op, 0⟩
def qualL (q : ByteArray) : List Tok := if q = ⟨#[]⟩ then [] else [nT q, dtT]
def asL (a : ByteArray) : List Tok := if a = ⟨#[]⟩ then [] else [kT 12, nT a]
def notL (b : Bool) : List Tok := if b = true then [kT 15] else []
def parL (w : Bool) (l : List Tok) : List Tok := if w = true then lpT :: (l ++ [rpT]) else l
def zeroX : Expr := .mk 0 0 false ⟨0, 0, ⟨#[]⟩⟩ ⟨#[]⟩ ⟨#[]⟩ [] []
def wrF (full : Bool) (kind op : Int) (kids : List Expr) (k : Nat) : Bool := wrapB kind op kids k || (full && decide (lvE (kids.getD k zeroX) < 9))
def kidL (full : Bool) (g : Expr → List Tok) (kind op : Int) (kids : List Expr) (k : Nat) : List Tok := parL (wrF full kind op kids k) (g (kids.getD k zeroX))
def seqN (f : Nat → List Tok) (n : Nat) : List Tok := (List.range n).flatMap f
theorem seqN_succ (f : Nat → List Tok) (n : Nat) : seqN f (n + 1) = seqN f n ++ f n := by
 unfold seqN
 rw [List.range_succ, List.flatMap_append]; simp
theorem seqN_mono (f : Nat → List Tok) {k m : Nat} (h : k ≤ m) : (seqN f k).length ≤ (seqN f m).length := by
 induction m with
 | zero => rw [Nat.le_zero.1 h]; exact Nat.le_refl _
 | succ m ih =>
  by_cases e : k = m + 1
  ·subst e; exact Nat.le_refl _
  ·rw [seqN_succ, List.length_append]; exact Nat.le_trans (ih (by omega)) (Nat.le_add_right _ _)
theorem seqN_lt (f : Nat → List Tok) {k m : Nat} (h : k < m) : (seqN f k).length + (f k).length ≤ (seqN f m).length := by
 have := seqN_mono f (show k + 1 ≤ m from h)
 rwa [seqN_succ, List.length_append] at this
def atL {α : Type} (l : List α) (h : α → List Tok) (i : Nat) : List Tok := match l[i]? with | some x => h x | none => []
theorem atL_get {α : Type} {l : List α} {h : α → List Tok} {i : Nat} (hi : i < l.length) : atL l h i = h l[i] := by rw [atL, List.getElem?_eq_getElem hi]
def cmL (i : Nat) : List Tok := if 0 < i then [cmT] else []
def itemT (g : Expr → List Tok) : Item → List Tok | .mk star qual e as_ => if star = true then qualL qual ++ [stT] else g e ++ asL as_
def onL (g : Expr → List Tok) : List Expr → List Tok | [] => [] | e :: _ => kT 5 :: g e
def srcT (g : Expr → List Tok) (i : Nat) : Source → List Tok | .mk table as_ on => (if 0 < i then (if 0 < on.length then [kT 4] else [cmT]) else []) ++ (nT table :: (asL as_ ++ onL g on))
def whL (g : Expr → List Tok) : List Expr → List Tok | [] => [] | e :: _ => kT 6 :: g e
def keyT (g : Expr → List Tok) : SortKey → List Tok | .mk e desc => g e ++ (if desc = true then [kT 10] else [])
def limL (n : Int) : List Tok := if 0 ≤ n then [kT 11, iT n] else []
def itemF (g : Expr → List Tok) (items : List Item) (i : Nat) : List Tok := cmL i ++ atL items (itemT g) i
def srcF (g : Expr → List Tok) (from_ : List Source) (i : Nat) : List Tok := atL from_ (srcT g i) i
def keyF (g : Expr → List Tok) (order : List SortKey) (i : Nat) : List Tok := (if i = 0 then [kT 7, kT 8] else [cmT]) ++ atL order (keyT g) i
def quT (g : Expr → List Tok) : Query → List Tok
 | .mk distinct items from_ where_ order limit =>
  kT 1 :: ((if distinct = true then [kT 2] else []) ++ (seqN (itemF g items) items.length ++ (kT 3 :: (seqN (srcF g from_) from_.length ++ (whL g where_ ++ (seqN (keyF g order) order.length ++ limL limit))))))
def subL' (g : Expr → List Tok) : List Query → List Tok | [] => [] | q :: _ => quT g q
def inF (full : Bool) (g : Expr → List Tok) (kind op : Int) (kids : List Expr) (j : Nat) : List Tok := cmL j ++ kidL full g kind op kids (j + 1)
def exT (full : Bool) (g : Expr → List Tok) : Expr → List Tok
 | .mk kind op not val qual name kids sub =>
  if kind = 1 then [litT val] else if kind = 2 then qualL qual ++ [nT name] else if kind = 3 then opTk op :: kidL full g kind op kids 0 else if kind = 9 then kT 19 :: lpT :: (subL' g sub ++ [rpT]) else
  kidL full g kind op kids 0 ++ (if kind = 4 then opTk op :: kidL full g kind op kids 1 else if kind = 5 then kT 16 :: (notL not ++ [kT 20]) else if kind = 6 then notL not ++ (kT 18 :: (kidL full g kind op kids 1 ++ (kT 13 :: kidL full g kind op kids 2))) else
   notL not ++ (kT 17 :: lpT :: ((if kind = 8 then subL' g sub else seqN (inF full g kind op kids) (kids.length - 1)) ++ [rpT])))
noncomputable def tkE (full : Bool) : Expr → List Tok := foldE (exT full)
def Expr.not : Expr → Bool | .mk _ _ n _ _ _ _ _ => n
def Query.lim : Query → Int | .mk _ _ _ _ _ l => l
inductive Rg : Expr → Prop
 | mk {kind op : Int} {not : Bool} {val : Val} {qual name : ByteArray} {kids : List Expr} {sub : List Query} : (-9223372036854775808 ≤ val.num ∧ val.num ≤ 9223372036854775807) → (∀ k, k ∈ kids → Rg k) → (∀ q, q ∈ sub → q.lim ≤ 9223372036854775807) → (∀ q, q ∈ sub → ∀ x, x ∈ exprsQ q → Rg x) → Rg (.mk kind op not val qual name kids sub)
def RgQ (q : Query) : Prop := q.lim ≤ 9223372036854775807 ∧ ∀ x, x ∈ exprsQ q → Rg x
theorem Rg.num {kind op : Int} {not : Bool} {val : Val} {qual name : ByteArray} {kids : List Expr} {sub : List Query} (h : Rg (.mk kind op not val qual name kids sub)) : -9223372036854775808 ≤ val.num ∧ val.num ≤ 9223372036854775807 := by cases h; assumption
theorem rg_down {x e : Expr} (h : Rg e) (hb : below x e) : Rg x := by
 cases h with
 | mk h1 h2 h3 h4 =>
  rcases hb with hb | ⟨q, hq, hb⟩
  ·exact h2 x hb
  ·exact h4 q hq x hb
theorem rg_sub {q : Query} {e : Expr} (h : Rg e) (hq : q ∈ e.sub) : RgQ q := by
 cases h with
 | mk h1 h2 h3 h4 => exact ⟨h3 q hq, h4 q hq⟩
theorem foldE3_ind {α β γ : Type} [Inhabited α] [Inhabited β] [Inhabited γ] {F1 : (Expr → α) → Expr → α} {F2 : (Expr → β) → Expr → β} {F3 : (Expr → γ) → Expr → γ} {P : Expr → α → β → γ → Prop}
 (h : ∀ e g1 g2 g3, (∀ x, below x e → P x (g1 x) (g2 x) (g3 x)) → P e (F1 g1 e) (F2 g2 e) (F3 g3 e)) (e : Expr) : P e (foldE F1 e) (foldE F2 e) (foldE F3 e) := by
 suffices H : ∀ n : Nat, ∀ e : Expr, SizeOf.sizeOf e < n → P e (foldE F1 e) (foldE F2 e) (foldE F3 e) from H _ e (Nat.lt_succ_self _)
 intro n
 induction n with
 | zero => exact fun _ h => absurd h (Nat.not_lt_zero _)
 | succ n ih =>
  intro e he
  rw [foldE, foldE, foldE]
  refine h e _ _ _ fun x hx => ?_
  have := below_lt hx
  simp only [dif_pos this]
  exact ih x (by omega)
theorem kw_small : ∀ k : Nat, (kw k).size ≤ 40 := fun k => by
 by_cases h : k < 29
 ·exact (by decide : ∀ k : Fin 29, (kw k.1).size ≤ 40) ⟨k, h⟩
 ·have : kw k = ⟨#[]⟩ := by
   unfold kw
   rw [List.getD_eq_getElem?_getD, List.getElem?_eq_none (by show 29 ≤ k; omega)]; rfl
  rw [this]; decide
theorem sm_key (k : Nat) : (kT k).text.size ≤ 40 := kw_small k
theorem opT_small (op : Int) : (opT op).size ≤ 40 := by
 unfold opT
 split
 ·rename_i h
  have e : op.toNat < 17 := by omega
  exact (by decide : ∀ k : Fin 17, (opW.getD k.1 ⟨#[]⟩).size ≤ 40) ⟨op.toNat, e⟩
 ·decide
theorem itoaB_small {n : Int} (h0 : -9223372036854775808 ≤ n) (h1 : n ≤ 9223372036854775807) : (itoaB n).size ≤ 40 := by
 have := itoa_len h0 h1
 show ((Lib.itoa n).toArray).size ≤ 40
 rw [List.size_toArray]; omega
def Sm (n : Nat) (l : List Tok) : Prop := l.length ≤ n ∧ ∀ t ∈ l, t.text.size ≤ 40
theorem Sm.nil : Sm 0 [] := ⟨Nat.le_refl _, fun t h => by cases h⟩
theorem Sm.cons {n : Nat} {t : Tok} {l : List Tok} (h : t.text.size ≤ 40) (hl : Sm n l) : Sm (n + 1) (t :: l) := ⟨by simp; exact hl.1, fun x hx => by
 rcases List.mem_cons.1 hx with rfl | hx
 ·exact h
 ·exact hl.2 x hx⟩
theorem Sm.app {n m : Nat} {a b : List Tok} (h : Sm n a) (k : Sm m b) : Sm (n + m) (a ++ b) := ⟨by rw [List.length_append]; have := h.1; have := k.1; omega, fun x hx => by
 rcases List.mem_append.1 hx with hx | hx
 ·exact h.2 x hx
 ·exact k.2 x hx⟩
theorem Sm.le {n m : Nat} {l : List Tok} (h : Sm n l) (k : n ≤ m) : Sm m l := ⟨Nat.le_trans h.1 k, h.2⟩
theorem Sm.one {t : Tok} (h : t.text.size ≤ 40) : Sm 1 [t] := Sm.cons h Sm.nil
theorem Sm.ite {c : Prop} [Decidable c] {n : Nat} {a b : List Tok} (h : Sm n a) (k : Sm n b) : Sm n (if c then a else b) := by split <;> assumption
theorem Sm.seq {f : Nat → List Tok} {b : Nat → Nat} {n : Nat} (h : ∀ i, i < n → Sm (b i) (f i)) : Sm (((List.range n).map b).sum) (seqN f n) := by
 induction n with
 | zero => exact Sm.nil
 | succ n ih =>
  rw [seqN_succ, List.range_succ, List.map_append, List.sum_append, List.map_singleton, List.sum_singleton]
  exact (ih fun i hi => h i (by omega)).app (h n (by omega))
def optN {α : Type} (d : α → Nat) : Option α → Nat
 | some x => d x
 | none => 0
theorem range_sum {α : Type} (l : List α) (c : Nat) (d : α → Nat) : ((List.range l.length).map fun i => c + optN (fun x => d x) l[i]?).sum = c * l.length + (l.map d).sum := by
 have e : ∀ l : List α, (List.range l.length).map (fun i => c + optN (fun x => d x) l[i]?) = l.map fun x => c + d x := by
  intro l
  refine List.ext_getElem (by simp) fun i h1 h2 => ?_
  simp only [List.length_map, List.length_range] at h1
  simp [h1, optN]
 rw [e]
 induction l with
 | nil => simp
 | cons x r ih => simp only [List.map_cons, List.sum_cons, List.length_cons, ih, Nat.mul_add]; omega
theorem sm_lit {v : Val} (h : litB v = true) (hr : -9223372036854775808 ≤ v.num ∧ v.num ≤ 9223372036854775807) : (litT v).text.size ≤ 40 := by
 simp only [litB, Bool.and_eq_true, decide_eq_true_eq] at h
 unfold litT
 split
 ·exact itoaB_small hr.1 hr.2
 ·split
  ·exact h.2.2
  ·split
   ·split <;> exact sm_key _
   ·exact sm_key _
theorem sm_qual {q : ByteArray} (h : mayB q = true) : Sm 2 (qualL q) := by
 unfold qualL
 split
 ·exact Sm.nil.le (by omega)
 ·rename_i hq
  simp only [mayB, nameB, Bool.or_eq_true, decide_eq_true_eq, hq, false_or] at h
  exact Sm.cons (by show q.size ≤ 40; omega) (Sm.one (by decide))
theorem sm_as {q : ByteArray} (h : mayB q = true) : Sm 2 (asL q) := by
 unfold asL
 split
 ·exact Sm.nil.le (by omega)
 ·rename_i hq
  simp only [mayB, nameB, Bool.or_eq_true, decide_eq_true_eq, hq, false_or] at h
  exact Sm.cons (sm_key _) (Sm.one (by show q.size ≤ 40; omega))
theorem sm_not (b : Bool) : Sm 1 (notL b) := Sm.ite (Sm.one (sm_key _)) (Sm.nil.le (by omega))
theorem sm_par {w : Bool} {n : Nat} {l : List Tok} (h : Sm n l) : Sm (n + 2) (parL w l) := Sm.ite ((Sm.cons (by decide) (h.app (Sm.one (by decide)))).le (by omega)) (h.le (by omega))
theorem shape_parts {kind op : Int} {not : Bool} {val : Val} {qual name : ByteArray} {nk ns : Int} (h : shapeB kind op not val qual name nk ns = true) :
 okF kind op val qual name = true ∧ ((fmT kind).2.2.2.2.1 ≤ nk ∧ nk ≤ (fmT kind).2.2.2.2.2.1) ∧ ns = (fmT kind).2.2.2.2.2.2 := by
 simp only [shapeB, Bool.and_eq_true, decide_eq_true_eq] at h
 exact ⟨h.1, h.2.2.2.2.2.1, h.2.2.2.2.2.2⟩
theorem shape_cases {kind op : Int} {not : Bool} {val : Val} {qual name : ByteArray} {nk ns : Int} (h : shapeB kind op not val qual name nk ns = true) :
 (kind = 1 ∧ litB val = true ∧ nk = 0 ∧ ns = 0) ∨ (kind = 2 ∧ nameB name = true ∧ mayB qual = true ∧ nk = 0 ∧ ns = 0) ∨ (kind = 3 ∧ (op = 15 ∨ op = 16) ∧ nk = 1 ∧ ns = 0) ∨ (kind = 4 ∧ (1 ≤ op ∧ op ≤ 14) ∧ nk = 2 ∧ ns = 0) ∨ (kind = 5 ∧ nk = 1 ∧ ns = 0) ∨ (kind = 6 ∧ nk = 3 ∧ ns = 0) ∨ (kind = 7 ∧ (2 ≤ nk ∧ nk ≤ 9) ∧ ns = 0) ∨ (kind = 8 ∧ nk = 1 ∧ ns = 1) ∨ (kind = 9 ∧ nk = 0 ∧ ns = 1) := by
 obtain ⟨h1, h6, h7⟩ := shape_parts h
 clear h
 by_cases k1 : kind = 1
 ·subst k1; exact .inl ⟨rfl, h1, by have : 0 ≤ nk ∧ nk ≤ 0 := h6; omega, h7⟩
 by_cases k2 : kind = 2
 ·subst k2
  have h1 : (nameB name && mayB qual) = true := h1
  simp only [Bool.and_eq_true] at h1
  exact .inr (.inl ⟨rfl, h1.1, h1.2, by have : 0 ≤ nk ∧ nk ≤ 0 := h6; omega, h7⟩)
 by_cases k3 : kind = 3
 ·subst k3
  have h1 : (decide (op = 15) || decide (op = 16)) = true := h1
  simp only [Bool.or_eq_true, decide_eq_true_eq] at h1
  exact .inr (.inr (.inl ⟨rfl, h1, by have : 1 ≤ nk ∧ nk ≤ 1 := h6; omega, h7⟩))
 by_cases k4 : kind = 4
 ·subst k4
  have h1 : decide (1 ≤ op ∧ op ≤ 14) = true := h1
  simp only [decide_eq_true_eq] at h1
  exact .inr (.inr (.inr (.inl ⟨rfl, h1, by have : 2 ≤ nk ∧ nk ≤ 2 := h6; omega, h7⟩)))
 simp only [okF, if_neg k1, if_neg k2, if_neg k3, if_neg k4, decide_eq_true_eq] at h1
 rcases (show kind = 5 ∨ kind = 6 ∨ kind = 7 ∨ kind = 8 ∨ kind = 9 by omega) with rfl | rfl | rfl | rfl | rfl
 ·exact .inr (.inr (.inr (.inr (.inl ⟨rfl, by have : 1 ≤ nk ∧ nk ≤ 1 := h6; omega, h7⟩))))
 ·exact .inr (.inr (.inr (.inr (.inr (.inl ⟨rfl, by have : 3 ≤ nk ∧ nk ≤ 3 := h6; omega, h7⟩)))))
 ·exact .inr (.inr (.inr (.inr (.inr (.inr (.inl ⟨rfl, h6, h7⟩))))))
 ·exact .inr (.inr (.inr (.inr (.inr (.inr (.inr (.inl ⟨rfl, by have : 1 ≤ nk ∧ nk ≤ 1 := h6; omega, h7⟩)))))))
 ·exact .inr (.inr (.inr (.inr (.inr (.inr (.inr (.inr ⟨rfl, by have : 0 ≤ nk ∧ nk ≤ 0 := h6; omega, h7⟩)))))))
theorem fm_parts {gf : Expr → Bool} {kind op : Int} {not : Bool} {val : Val} {qual name : ByteArray} {kids : List Expr} {sub : List Query} (h : fmF gf (.mk kind op not val qual name kids sub) = true) :
 shapeB kind op not val qual name kids.length sub.length = true ∧ (∀ x ∈ kids, gf x = true) ∧ ∀ q ∈ sub, fmQ gf q = true := by
 simp only [fmF, Bool.and_eq_true, List.all_eq_true] at h
 exact h
theorem fq_parts {gf : Expr → Bool} {distinct : Bool} {items : List Item} {from_ : List Source} {where_ : List Expr} {order : List SortKey} {limit : Int} (h : fmQ gf (.mk distinct items from_ where_ order limit) = true) :
 (1 ≤ items.length ∧ items.length ≤ 12) ∧ (1 ≤ from_.length ∧ from_.length ≤ 3) ∧ where_.length ≤ 1 ∧ order.length ≤ 12 ∧ -1 ≤ limit ∧ (∀ x ∈ items, itB x = true) ∧ (∀ i (hi : i < from_.length), srB i from_[i] = true) ∧ ∀ x ∈ exprsQ (.mk distinct items from_ where_ order limit), gf x = true := by
 simp only [fmQ, hdB, Bool.and_eq_true, List.all_eq_true, decide_eq_true_eq] at h
 obtain ⟨⟨h1, h2, h3, h4, h5, h6, h7⟩, h8⟩ := h
 refine ⟨h1, h2, h3, h4, h5, h6, fun i hi => ?_, h8⟩
 have := List.all_eq_true.1 h7 i (List.mem_range.2 hi)
 rwa [List.getElem?_eq_getElem hi] at this
theorem list1 {α : Type} {l : List α} (h : (l.length : Int) = 1) : ∃ a, l = [a] := by
 match l, h with
 | [a], _ => exact ⟨a, rfl⟩
 | [], h => simp at h
 | _ :: _ :: _, h => simp at h; omega
theorem list2 {α : Type} {l : List α} (h : (l.length : Int) = 2) : ∃ a b, l = [a, b] := by
 match l, h with
 | [a, b], _ => exact ⟨a, b, rfl⟩
 | [], h => simp at h
 | [_], h => simp at h
 | _ :: _ :: _ :: _, h => simp at h; omega
theorem list3 {α : Type} {l : List α} (h : (l.length : Int) = 3) : ∃ a b c, l = [a, b, c] := by
 match l, h with
 | [a, b, c], _ => exact ⟨a, b, c, rfl⟩
 | [], h => simp at h
 | [_], h => simp at h
 | [_, _], h => simp at h
 | _ :: _ :: _ :: _ :: _, h => simp at h; omega
section
variable {gn : Expr → Nat} {g : Expr → List Tok}
def dI (gn : Expr → Nat) (x : Item) : Nat := if x.star = true then 0 else 150 * gn x.e
theorem sm_item {x : Item} (hx : itB x = true) (h : x.star = false → Sm (150 * gn x.e) (g x.e)) : Sm (3 + dI gn x) (itemT g x) := by
 obtain ⟨star, qual, e, as_⟩ := x
 cases star with
 | true =>
  simp only [itB, if_true, Bool.and_eq_true] at hx
  show Sm _ (qualL qual ++ [stT])
  exact ((sm_qual hx.1).app (Sm.one (by decide))).le (Nat.le_add_right _ _)
 | false =>
  simp only [itB, Bool.false_eq_true, if_false, Bool.and_eq_true] at hx
  show Sm (3 + 150 * gn e) (g e ++ asL as_)
  exact ((h rfl).app (sm_as hx.2)).le (by show 150 * gn e + 2 ≤ _; omega)
theorem dI_sum : ∀ l : List Item, (l.map (dI gn)).sum = 150 * ((exprsI l).map gn).sum
 | [] => rfl
 | .mk s q e a :: r => by
  have ih := dI_sum r
  cases s with
  | true =>
   have h : exprsI (.mk true q e a :: r) = exprsI r := rfl
   rw [h, ← ih, List.map_cons, List.sum_cons]
   show 0 + _ = _; omega
  | false =>
   have h : exprsI (.mk false q e a :: r) = e :: exprsI r := rfl
   rw [h, List.map_cons, List.sum_cons, List.map_cons, List.sum_cons, Nat.mul_add, ← ih]
   rfl
theorem sm_on {l : List Expr} (h : ∀ x ∈ l, Sm (150 * gn x) (g x)) : Sm (1 + 150 * (l.map gn).sum) (onL g l) := by
 cases l with
 | nil => exact Sm.nil.le (Nat.zero_le _)
 | cons e r => exact (Sm.cons (sm_key _) (h e (by simp))).le (by rw [List.map_cons, List.sum_cons]; omega)
theorem sm_wh {l : List Expr} (h : ∀ x ∈ l, Sm (150 * gn x) (g x)) : Sm (1 + 150 * (l.map gn).sum) (whL g l) := by
 cases l with
 | nil => exact Sm.nil.le (Nat.zero_le _)
 | cons e r => exact (Sm.cons (sm_key _) (h e (by simp))).le (by rw [List.map_cons, List.sum_cons]; omega)
theorem sm_src {x : Source} {i : Nat} (hx : srB i x = true) (h : ∀ y ∈ x.on, Sm (150 * gn y) (g y)) : Sm (5 + 150 * (x.on.map gn).sum) (srcT g i x) := by
 obtain ⟨table, as_, on⟩ := x
 simp only [srB, Bool.and_eq_true, nameB, decide_eq_true_eq] at hx
 show Sm (5 + 150 * (on.map gn).sum) ((if 0 < i then (if 0 < on.length then [kT 4] else [cmT]) else []) ++ (nT table :: (asL as_ ++ onL g on)))
 exact ((Sm.ite (Sm.ite (Sm.one (sm_key _)) (Sm.one (by decide))) (Sm.nil.le (by omega) : Sm 1 [])).app (Sm.cons (by show table.size ≤ 40; omega) ((sm_as hx.2.1).app (sm_on (l := on) h)))).le (by omega)
theorem sm_key' {x : SortKey} (h : Sm (150 * gn x.e) (g x.e)) : Sm (1 + 150 * gn x.e) (keyT g x) := by
 obtain ⟨e, desc⟩ := x
 exact (Sm.app h (Sm.ite (Sm.one (sm_key _)) (Sm.nil.le (by omega) : Sm 1 []))).le (by show 150 * gn e + 1 ≤ 1 + 150 * gn e; omega)
theorem on_sum' (l : List Source) : (l.map fun x => 150 * (x.on.map gn).sum).sum = 150 * ((l.flatMap Source.on).map gn).sum := by
 induction l with
 | nil => rfl
 | cons x r ih => rw [List.map_cons, List.sum_cons, ih, List.flatMap_cons, List.map_append, List.sum_append, Nat.mul_add]
theorem mul_sum {α : Type} (c : Nat) (f : α → Nat) (l : List α) : (l.map fun x => c * f x).sum = c * (l.map f).sum := by
 induction l with
 | nil => rfl
 | cons x r ih => rw [List.map_cons, List.sum_cons, ih, List.map_cons, List.sum_cons, Nat.mul_add]
theorem sm_q {gf : Expr → Bool} {q : Query} (hq : fmQ gf q = true) (hl : q.lim ≤ 9223372036854775807) (h : ∀ x ∈ exprsQ q, Sm (150 * gn x) (g x)) : Sm (105 + 150 * ((exprsQ q).map gn).sum) (quT g q) := by
 obtain ⟨distinct, items, from_, where_, order, limit⟩ := q
 obtain ⟨⟨_, a1⟩, ⟨_, a2⟩, a3, a4, a5, a6, a7, _⟩ := fq_parts hq
 have hl : limit ≤ 9223372036854775807 := hl
 have e : exprsQ (.mk distinct items from_ where_ order limit) = exprsI items ++ from_.flatMap Source.on ++ where_ ++ order.map SortKey.e := rfl
 rw [e] at h ⊢
 have s1 : Sm _ (seqN (itemF g items) items.length) := Sm.seq (b := fun i => 4 + optN (fun x => dI gn x) items[i]?) fun i hi => by
  have hm := List.getElem_mem hi
  have := sm_item (gn := gn) (g := g) (a6 _ hm) fun hs => h _ (by
   simp only [List.mem_append, exprsI, List.mem_map, List.mem_filter]
   exact .inl (.inl (.inl ⟨_, ⟨hm, by rw [hs]; rfl⟩, rfl⟩)))
  show Sm _ (cmL i ++ atL items (itemT g) i)
  rw [atL_get hi]
  simp only [List.getElem?_eq_getElem hi, optN]
  exact ((Sm.ite (Sm.one (by decide)) (Sm.nil.le (by omega) : Sm 1 [])).app this).le (by omega)
 have s2 : Sm _ (seqN (srcF g from_) from_.length) := Sm.seq (b := fun i => 5 + optN (fun x => 150 * (x.on.map gn).sum) from_[i]?) fun i hi => by
  have hm := List.getElem_mem hi
  have := sm_src (gn := gn) (g := g) (a7 _ hi) fun y hy => h _ (by
   simp only [List.mem_append, List.mem_flatMap]
   exact .inl (.inl (.inr ⟨_, hm, hy⟩)))
  show Sm _ (atL from_ (srcT g i) i)
  rw [atL_get hi]
  simp only [List.getElem?_eq_getElem hi, optN]
  exact this
 have s3 : Sm _ (seqN (keyF g order) order.length) := Sm.seq (b := fun i => 3 + optN (fun x => 150 * gn x.e) order[i]?) fun i hi => by
  have hm := List.getElem_mem hi
  have := sm_key' (gn := gn) (g := g) (x := order[i]) (h _ (by
   simp only [List.mem_append, List.mem_map]
   exact .inr ⟨_, hm, rfl⟩))
  show Sm _ ((if i = 0 then [kT 7, kT 8] else [cmT]) ++ atL order (keyT g) i)
  rw [atL_get hi]
  simp only [List.getElem?_eq_getElem hi, optN]
  exact ((Sm.ite (Sm.cons (sm_key _) (Sm.one (sm_key _))) ((Sm.one (by decide)).le (by omega))).app this).le (by omega)
 rw [range_sum items 4 (dI gn), dI_sum] at s1
 rw [range_sum from_ 5 (fun x => 150 * (x.on.map gn).sum), on_sum'] at s2
 rw [range_sum order 3 (fun x => 150 * gn x.e), show (fun x : SortKey => 150 * gn x.e) = (fun x => 150 * (fun y : SortKey => gn y.e) x) from rfl, mul_sum] at s3
 have s4 : Sm (1 + 150 * (where_.map gn).sum) (whL g where_) := sm_wh fun x hx => h x (by simp [hx])
 have s5 : Sm 2 (limL limit) := by
  unfold limL
  split
  ·exact Sm.cons (sm_key _) (Sm.one (itoaB_small (by omega) hl))
  ·exact Sm.nil.le (by omega)
 have e2 : ((order.map SortKey.e).map gn).sum = (order.map fun y : SortKey => gn y.e).sum := by rw [List.map_map]; rfl
 rw [List.map_append, List.map_append, List.map_append, List.sum_append, List.sum_append, List.sum_append, e2]
 exact (Sm.cons (sm_key _) ((Sm.ite (Sm.one (sm_key _)) (Sm.nil.le (by omega) : Sm 1 [])).app (s1.app (Sm.cons (sm_key _) (s2.app (s4.app (s3.app s5))))))).le (by omega)
theorem sm_step {full : Bool} {gf : Expr → Bool} {e : Expr} (hf : fmF gf e = true) (hr : Rg e) (h : ∀ x, below x e → gf x = true → Rg x → Sm (150 * gn x) (g x)) : Sm (150 * ndF gn e) (exT full g e) := by
 have hb : ∀ x, below x e → Rg x := fun x hx => rg_down hr hx
 have hsub : ∀ q ∈ e.sub, q.lim ≤ 9223372036854775807 := fun q hq => (rg_sub hr hq).1
 obtain ⟨kind, op, not, val, qual, name, kids, sub⟩ := e
 have hnum := hr.num
 obtain ⟨hs, hk, hq⟩ := fm_parts hf
 have hkid : ∀ k (hk' : k < kids.length), Sm (150 * gn kids[k] + 2) (kidL full g kind op kids k) := fun k hk' => by
  have hm := List.getElem_mem hk'
  rw [kidL, List.getD_eq_getElem?_getD, List.getElem?_eq_getElem hk']
  exact sm_par (h _ (.inl hm) (hk _ hm) (hb _ (.inl hm)))
 have hqs : ∀ q ∈ sub, Sm (105 + 150 * ((exprsQ q).map gn).sum) (quT g q) := fun q hm => sm_q (hq q hm) (hsub q hm) fun x hx => by
  obtain ⟨d, it, fr, wh, od, li⟩ := q
  exact h x (.inr ⟨_, hm, hx⟩) ((fq_parts (hq _ hm)).2.2.2.2.2.2.2 x hx) (hb _ (.inr ⟨_, hm, hx⟩))
 have en : ndF gn (.mk kind op not val qual name kids sub) = 1 + (kids.map gn).sum + (sub.map fun q => ((exprsQ q).map gn).sum).sum := rfl
 rw [en]
 rcases shape_cases hs with ⟨rfl, hl, hk0, hs0⟩ | ⟨rfl, hn, hm, hk0, hs0⟩ | ⟨rfl, ho, hk0, hs0⟩ | ⟨rfl, ho, hk0, hs0⟩ | ⟨rfl, hk0, hs0⟩ | ⟨rfl, hk0, hs0⟩ | ⟨rfl, hk0, hs0⟩ | ⟨rfl, hk0, hs0⟩ | ⟨rfl, hk0, hs0⟩
 ·show Sm _ [litT val]
  exact (Sm.one (sm_lit hl hnum)).le (by omega)
 ·show Sm _ (qualL qual ++ [nT name])
  simp only [nameB, decide_eq_true_eq] at hn
  exact ((sm_qual hm).app (Sm.one (by show name.size ≤ 40; omega))).le (by omega)
 ·obtain ⟨a, rfl⟩ := list1 hk0
  show Sm _ (opTk op :: kidL full g 3 op [a] 0)
  have k0 := hkid 0 (by simp)
  exact (Sm.cons (opT_small _) k0).le (by simp; omega)
 ·obtain ⟨a, b, rfl⟩ := list2 hk0
  show Sm _ (kidL full g 4 op [a, b] 0 ++ (opTk op :: kidL full g 4 op [a, b] 1))
  have k0 := hkid 0 (by simp)
  have k1 := hkid 1 (by simp)
  exact (k0.app (Sm.cons (opT_small _) k1)).le (by simp; omega)
 ·obtain ⟨a, rfl⟩ := list1 hk0
  show Sm _ (kidL full g 5 op [a] 0 ++ (kT 16 :: (notL not ++ [kT 20])))
  have k0 := hkid 0 (by simp)
  exact (k0.app (Sm.cons (sm_key _) ((sm_not _).app (Sm.one (sm_key _))))).le (by simp; omega)
 ·obtain ⟨a, b, c, rfl⟩ := list3 hk0
  show Sm _ (kidL full g 6 op [a, b, c] 0 ++ (notL not ++ (kT 18 :: (kidL full g 6 op [a, b, c] 1 ++ (kT 13 :: kidL full g 6 op [a, b, c] 2)))))
  have k0 := hkid 0 (by simp)
  have k1 := hkid 1 (by simp)
  have k2 := hkid 2 (by simp)
  exact (k0.app ((sm_not _).app (Sm.cons (sm_key _) (k1.app (Sm.cons (sm_key _) k2))))).le (by simp; omega)
 ·obtain ⟨a, r, rfl⟩ : ∃ a r, kids = a :: r := by
   cases kids with
   | nil => simp at hk0
   | cons a r => exact ⟨a, r, rfl⟩
  show Sm _ (kidL full g 7 op (a :: r) 0 ++ (notL not ++ (kT 17 :: lpT :: (seqN (inF full g 7 op (a :: r)) r.length ++ [rpT]))))
  have k0 := hkid 0 (by simp)
  have s1 : Sm _ (seqN (inF full g 7 op (a :: r)) r.length) := Sm.seq (b := fun i => 3 + optN (fun x => 150 * gn x) r[i]?) fun i hi => by
   have k1 := hkid (i + 1) (by simpa using hi)
   simp only [List.getElem?_eq_getElem hi, optN]
   exact ((Sm.ite (Sm.one (by decide)) (Sm.nil.le (by omega) : Sm 1 [])).app k1).le (by simp; omega)
  rw [range_sum r 3 (fun x => 150 * gn x), mul_sum] at s1
  have hr8 : r.length ≤ 8 := by simp at hk0; omega
  exact (k0.app ((sm_not _).app (Sm.cons (sm_key _) (Sm.cons (by decide) (s1.app (Sm.one (by decide))))))).le (by simp; omega)
 ·obtain ⟨a, rfl⟩ := list1 hk0
  obtain ⟨q, rfl⟩ := list1 hs0
  show Sm _ (kidL full g 8 op [a] 0 ++ (notL not ++ (kT 17 :: lpT :: (quT g q ++ [rpT]))))
  have k0 := hkid 0 (by simp)
  have s1 := hqs q (by simp)
  exact (k0.app ((sm_not _).app (Sm.cons (sm_key _) (Sm.cons (by decide) (s1.app (Sm.one (by decide))))))).le (by simp; omega)
 ·obtain ⟨q, rfl⟩ := list1 hs0
  show Sm _ (kT 19 :: lpT :: (quT g q ++ [rpT]))
  have s1 := hqs q (by simp)
  exact (Sm.cons (sm_key _) (Sm.cons (by decide) (s1.app (Sm.one (by decide))))).le (by simp; omega)
end
theorem tkE_sm (full : Bool) (e : Expr) : fmE e = true → Rg e → Sm (150 * ndE e) (tkE full e) :=
 foldE3_ind (F1 := fmF) (F2 := ndF) (F3 := exT full) (P := fun e f n t => f = true → Rg e → Sm (150 * n) t) (fun e gf gn g hg hf hr => sm_step hf hr hg) e
theorem quoteB_len (c : UInt8) (s : ByteArray) : (quoteB c s).size ≤ 2 * s.size + 2 := by
 have := quoteL_len c s.data.toList
 rw [size_toList] at this
 show ((c :: (quoteL c s.data.toList ++ [c])).toArray).size ≤ _
 rw [List.size_toArray, List.length_cons, List.length_append, List.length_singleton]; omega
theorem tok_len {t : Tok} (h : t.text.size ≤ 40) : (tokT t).size ≤ 300 := by
 have h2 := quoteB_len 34 t.text
 have h3 := quoteB_len 39 t.text
 unfold tokT nameT
 (repeat' split) <;> first | omega | exact Nat.zero_le _
theorem jn_len {l : List Tok} {n : Nat} (h : Sm n l) (i : Nat) : (jn l i).length ≤ 400 := by
 unfold jn
 split
 ·rename_i hi
  have := tok_len (h.2 _ (List.getElem_mem hi))
  rw [List.length_append, size_toList]
  split <;> simp <;> omega
 ·simp
theorem join_len {l : List Tok} {n : Nat} (h : Sm n l) (hn : n ≤ 100000) : (joinL l l.length).length ≤ 50000000 := by
 suffices H : ∀ k, (joinL l k).length ≤ 400 * k from Nat.le_trans (H _) (by have := h.1; omega)
 intro k
 induction k with
 | zero => exact Nat.zero_le _
 | succ k ih => rw [joinL_succ, List.length_append]; have := jn_len h k; omega
end Go.Proofs.YtoegnikpokgbfaaGreatDoor
