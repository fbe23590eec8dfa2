/-
  What is printed is balanced; operands that are wrapped.
  Conditions: none.
-/
import Derived.Test.YtoegnikpokgbfaaGreatDoorPCP
import Derived.Test.YtoegnikpokgbfaaGreatDoorPCF2
set_option linter.unusedVariables false
set_option linter.unusedSimpArgs false
set_option linter.unusedSectionVars false
set_option linter.unnecessarySimpa false
set_option maxRecDepth 8000
namespace Go.Proofs.YtoegnikpokgbfaaGreatDoor
open Go Go.Dv
open Go.Vc (D shrI xorI andI and255)
def Bal (l : List Tok) (c : Nat) : Prop := ∀ st n r, pc false st n (l ++ r) = pc false st (n + c) r
def plT (t : Tok) : Prop := isLP t = false ∧ isRP t = false ∧ isIE t = false
theorem Bal.nil : Bal [] 0 := fun _ _ _ => rfl
theorem Bal.app {a b : List Tok} {c d : Nat} (h : Bal a c) (k : Bal b d) : Bal (a ++ b) (c + d) := fun st n r => by
 rw [List.append_assoc, h, k, Nat.add_assoc]
theorem Bal.cons {t : Tok} {l : List Tok} {c : Nat} (h : plT t) (k : Bal l c) : Bal (t :: l) c := fun st n r => by
 rw [List.cons_append, pc_cons, h.1, h.2.1, h.2.2]
 exact k st n r
theorem Bal.one {t : Tok} (h : plT t) : Bal [t] 0 := Bal.cons h Bal.nil
theorem Bal.ite {p : Prop} [Decidable p] {a b : List Tok} {c : Nat} (h : Bal a c) (k : Bal b c) : Bal (if p then a else b) c := by split <;> assumption
theorem rp_step {l : List Tok} {c : Nat} (h : Bal l c) (b : Bool) (st : List Bool) (n : Nat) (r : List Tok) : pc false (b :: st) n (l ++ ([rpT] ++ r)) = pc false st (n + (c + if b = true then 1 else 0)) r := by
 rw [h]
 show pc false (b :: st) (n + c) (rpT :: r) = _
 rw [pc_cons, if_neg (by decide), if_pos (by decide)]
 show pc false st _ r = _
 cases b <;> simp [Nat.add_assoc]
theorem Bal.par {l : List Tok} {c : Nat} (h : Bal l c) : Bal (lpT :: (l ++ [rpT])) (c + 1) := fun st n r => by
 rw [List.cons_append, List.append_assoc, pc_cons, if_pos (by decide)]
 exact rp_step h true st n r
theorem Bal.ie {t : Tok} {l : List Tok} {c : Nat} (ht : isLP t = false ∧ isRP t = false ∧ isIE t = true) (h : Bal l c) : Bal (t :: lpT :: (l ++ [rpT])) c := fun st n r => by
 rw [List.cons_append, List.cons_append, List.append_assoc, pc_cons, ht.1, ht.2.1, ht.2.2, if_neg (by decide), if_neg (by decide), pc_cons, if_pos (by decide)]
 show pc false (false :: st) n (l ++ ([rpT] ++ r)) = _
 have := rp_step h false st n r
 simpa using this
theorem Bal.seq {f : Nat → List Tok} {b : Nat → Nat} {n : Nat} (h : ∀ i, i < n → Bal (f i) (b i)) : Bal (seqN f n) (((List.range n).map b).sum) := by
 induction n with
 | zero => exact Bal.nil
 | succ n ih =>
  rw [seqN_succ, List.range_succ, List.map_append, List.sum_append, List.map_singleton, List.sum_singleton]
  exact (ih fun i hi => h i (by omega)).app (h n (by omega))
theorem plK {k : Nat} (h : k < 29) (h1 : k ≠ 17) (h2 : k ≠ 19) : plT (kT k) :=
 (by decide : ∀ k : Fin 29, k.1 ≠ 17 → k.1 ≠ 19 → isLP (kT k.1) = false ∧ isRP (kT k.1) = false ∧ isIE (kT k.1) = false) ⟨k, h⟩ h1 h2
theorem plN (s : ByteArray) : plT (nT s) := by simp [plT, isLP, isRP, isIE, nT]
theorem plI (n : Int) : plT (iT n) := by simp [plT, isLP, isRP, isIE, iT]
theorem plG : plT cmT ∧ plT dtT ∧ plT stT := by
 refine ⟨?_, ?_, ?_⟩ <;> exact ⟨by decide, by decide, by decide⟩
theorem plL (v : Val) : plT (litT v) := by
 unfold litT
 repeat' split
 ·exact plI _
 ·simp [plT, isLP, isRP, isIE]
 ·exact plK (by decide) (by decide) (by decide)
 ·exact plK (by decide) (by decide) (by decide)
 ·exact plK (by decide) (by decide) (by decide)
theorem plO (op : Int) : plT (opTk op) := by
 by_cases h : 1 ≤ op ∧ op ≤ 16
 ·obtain ⟨k, rfl⟩ : ∃ k : Nat, op = k := ⟨op.toNat, by omega⟩
  have hk : k < 17 := by omega
  have := (by decide : ∀ k : Fin 17, isLP (opTk (k.1 : Int)) = false ∧ isRP (opTk (k.1 : Int)) = false ∧ isIE (opTk (k.1 : Int)) = false) ⟨k, hk⟩
  exact this
 ·have e : opT op = ⟨#[]⟩ := if_neg h
  unfold opTk
  rw [e, if_neg (by omega)]
  exact ⟨by decide, by decide, by decide⟩
theorem bal_qual (q : ByteArray) : Bal (qualL q) 0 := by
 unfold qualL
 exact Bal.ite Bal.nil (Bal.cons (plN _) (Bal.one plG.2.1))
theorem bal_as (a : ByteArray) : Bal (asL a) 0 := by
 unfold asL
 exact Bal.ite Bal.nil (Bal.cons (plK (by decide) (by decide) (by decide)) (Bal.one (plN _)))
theorem bal_not (b : Bool) : Bal (notL b) 0 := by
 unfold notL
 exact Bal.ite (Bal.one (plK (by decide) (by decide) (by decide))) Bal.nil
theorem Bal.eq {l : List Tok} {c d : Nat} (h : Bal l c) (e : c = d) : Bal l d := e ▸ h
section
variable {gn : Expr → Nat} {g : Expr → List Tok}
def dJ (gn : Expr → Nat) (x : Item) : Nat := if x.star = true then 0 else gn x.e
theorem dJ_sum (gn : Expr → Nat) : ∀ l : List Item, (l.map (dJ gn)).sum = ((exprsI l).map gn).sum
 | [] => rfl
 | .mk s q e a :: r => by
  have ih := dJ_sum gn r
  cases s with
  | true =>
   have h : exprsI (.mk true q e a :: r) = exprsI r := rfl
   rw [h, ← ih, List.map_cons, List.sum_cons]
   show 0 + _ = _; omega
  | false =>
   have h : exprsI (.mk false q e a :: r) = e :: exprsI r := rfl
   rw [h, List.map_cons, List.sum_cons, List.map_cons, List.sum_cons, ← ih]
   rfl
theorem bal_item {x : Item} (h : x.star = false → Bal (g x.e) (gn x.e)) : Bal (itemT g x) (dJ gn x) := by
 obtain ⟨star, qual, e, as_⟩ := x
 cases star with
 | true => exact ((bal_qual qual).app (Bal.one plG.2.2))
 | false => exact (Bal.app (h rfl) (bal_as as_)).eq (by show gn e + 0 = gn e; omega)
theorem bal_on {k : Nat} (hk : k < 29) (h1 : k ≠ 17) (h2 : k ≠ 19) {l : List Expr} (hl : l.length ≤ 1) (h : ∀ x, x ∈ l → Bal (g x) (gn x)) : Bal (match l with | [] => [] | e :: _ => kT k :: g e) ((l.map gn).sum) := by
 match l, hl with
 | [], _ => exact Bal.nil
 | [e], _ => exact (Bal.cons (plK hk h1 h2) (h e (by simp))).eq (by simp)
theorem bal_src {x : Source} {i : Nat} (hx : srB i x = true) (h : ∀ y, y ∈ x.on → Bal (g y) (gn y)) : Bal (srcT g i x) ((x.on.map gn).sum) := by
 obtain ⟨table, as_, on⟩ := x
 simp only [srB, Bool.and_eq_true, decide_eq_true_eq] at hx
 have ho : Bal (onL g on) ((on.map gn).sum) := by
  have := bal_on (k := 5) (by decide) (by decide) (by decide) (g := g) (gn := gn) hx.2.2.1 h
  cases on with
  | nil => exact Bal.nil
  | cons e r => exact this
 exact ((Bal.ite (Bal.ite (Bal.one (plK (by decide) (by decide) (by decide))) (Bal.one plG.1)) Bal.nil).app (Bal.cons (plN _) ((bal_as as_).app ho))).eq (by show 0 + (0 + (on.map gn).sum) = (on.map gn).sum; omega)
theorem bal_key {x : SortKey} (h : Bal (g x.e) (gn x.e)) : Bal (keyT g x) (gn x.e) := by
 obtain ⟨e, desc⟩ := x
 exact (Bal.app h (Bal.ite (Bal.one (plK (by decide) (by decide) (by decide))) Bal.nil)).eq (by show gn e + 0 = gn e; omega)
theorem on_sumW (gn : Expr → Nat) (l : List Source) : ((l.flatMap Source.on).map gn).sum = (l.map fun x => (x.on.map gn).sum).sum := by
 induction l with
 | nil => rfl
 | cons x r ih => rw [List.flatMap_cons, List.map_append, List.sum_append, ih, List.map_cons, List.sum_cons]
theorem bal_q {gf : Expr → Bool} {q : Query} (hq : fmQ gf q = true) (h : ∀ x, x ∈ exprsQ q → Bal (g x) (gn x)) : Bal (quT g q) (((exprsQ q).map gn).sum) := by
 obtain ⟨distinct, items, from_, where_, order, limit⟩ := q
 obtain ⟨_, _, a3, _, _, a6, a7, _⟩ := fq_parts hq
 have e : exprsQ (.mk distinct items from_ where_ order limit) = exprsI items ++ from_.flatMap Source.on ++ where_ ++ order.map SortKey.e := rfl
 rw [e] at h ⊢
 have s1 : Bal (seqN (itemF g items) items.length) _ := Bal.seq (b := fun i => 0 + optN (fun x => dJ gn x) items[i]?) fun i hi => by
  have hm := List.getElem_mem hi
  have := bal_item (gn := gn) (g := g) (x := items[i]) fun hs => h _ (by
   simp only [List.mem_append, exprsI, List.mem_map, List.mem_filter]
   exact .inl (.inl (.inl ⟨_, ⟨hm, by rw [hs]; rfl⟩, rfl⟩)))
  show Bal (cmL i ++ atL items (itemT g) i) _
  rw [atL_get hi]
  simp only [List.getElem?_eq_getElem hi, optN]
  exact Bal.app (Bal.ite (Bal.one plG.1) Bal.nil) this
 have s2 : Bal (seqN (srcF g from_) from_.length) _ := Bal.seq (b := fun i => 0 + optN (fun x => (x.on.map gn).sum) from_[i]?) fun i hi => by
  have hm := List.getElem_mem hi
  have := bal_src (gn := gn) (g := g) (a7 _ hi) fun y hy => h _ (by
   simp only [List.mem_append, List.mem_flatMap]
   exact .inl (.inl (.inr ⟨_, hm, hy⟩)))
  show Bal (atL from_ (srcT g i) i) _
  rw [atL_get hi]
  simp only [List.getElem?_eq_getElem hi, optN]
  exact this.eq (by omega)
 have s3 : Bal (seqN (keyF g order) order.length) _ := Bal.seq (b := fun i => 0 + optN (fun x => gn x.e) order[i]?) fun i hi => by
  have hm := List.getElem_mem hi
  have := bal_key (gn := gn) (g := g) (x := order[i]) (h _ (by
   simp only [List.mem_append, List.mem_map]
   exact .inr ⟨_, hm, rfl⟩))
  show Bal ((if i = 0 then [kT 7, kT 8] else [cmT]) ++ atL order (keyT g) i) _
  rw [atL_get hi]
  simp only [List.getElem?_eq_getElem hi, optN]
  exact Bal.app (Bal.ite (Bal.cons (plK (by decide) (by decide) (by decide)) (Bal.one (plK (by decide) (by decide) (by decide)))) (Bal.one plG.1)) this
 rw [range_sum items 0 (dJ gn), dJ_sum] at s1
 rw [range_sum from_ 0 (fun x => (x.on.map gn).sum)] at s2
 rw [range_sum order 0 (fun x => gn x.e)] at s3
 have s4 : Bal (whL g where_) ((where_.map gn).sum) := by
  have := bal_on (k := 6) (by decide) (by decide) (by decide) (g := g) (gn := gn) a3 fun x hx => h x (by simp [hx])
  cases where_ with
  | nil => exact Bal.nil
  | cons e r => exact this
 have s5 : Bal (limL limit) 0 := by
  unfold limL
  exact Bal.ite (Bal.cons (plK (by decide) (by decide) (by decide)) (Bal.one (plI _))) Bal.nil
 have e2 : ((order.map SortKey.e).map gn).sum = (order.map fun y : SortKey => gn y.e).sum := by rw [List.map_map]; rfl
 have e3 := on_sumW gn from_
 rw [List.map_append, List.map_append, List.map_append, List.sum_append, List.sum_append, List.sum_append, e2, e3]
 exact (Bal.cons (plK (by decide) (by decide) (by decide)) ((Bal.ite (Bal.one (plK (by decide) (by decide) (by decide))) Bal.nil).app (s1.app (Bal.cons (plK (by decide) (by decide) (by decide)) (s2.app (s4.app (s3.app s5))))))).eq (by omega)
def cW (kind op : Int) (kids : List Expr) : Nat := ((List.range kids.length).map fun k => if wrapB kind op kids k = true then 1 else 0).sum
def wpF (gn : Expr → Nat) : Expr → Nat | .mk kind op _ _ _ _ kids sub => (kids.map gn).sum + cW kind op kids + (sub.map fun q => ((exprsQ q).map gn).sum).sum
theorem bal_step {gf : Expr → Bool} {e : Expr} (hf : fmF gf e = true) (h : ∀ x, below x e → gf x = true → Bal (g x) (gn x)) : Bal (exT false g e) (wpF gn e) := by
 obtain ⟨kind, op, not, val, qual, name, kids, sub⟩ := e
 obtain ⟨hs, hk, hq⟩ := fm_parts hf
 have hkid : ∀ k (hk' : k < kids.length), Bal (kidL false g kind op kids k) (gn kids[k] + if wrapB kind op kids k = true then 1 else 0) := fun k hk' => by
  have hm := List.getElem_mem hk'
  rw [kidL, List.getD_eq_getElem?_getD, List.getElem?_eq_getElem hk']
  have hb := h _ (.inl hm) (hk _ hm)
  unfold parL wrF
  rw [Bool.false_and, Bool.or_false]
  by_cases hw : wrapB kind op kids k = true
  ·rw [if_pos hw, if_pos hw]; exact hb.par
  ·rw [if_neg hw, if_neg hw]; exact hb
 have hqs : ∀ q ∈ sub, Bal (quT g q) (((exprsQ q).map gn).sum) := fun q hm => bal_q (hq q hm) fun x hx => by
  obtain ⟨d, it, fr, wh, od, li⟩ := q
  exact h x (.inr ⟨_, hm, hx⟩) ((fq_parts (hq _ hm)).2.2.2.2.2.2.2 x hx)
 have en : wpF gn (.mk kind op not val qual name kids sub) = (kids.map gn).sum + cW kind op kids + (sub.map fun q => ((exprsQ q).map gn).sum).sum := rfl
 rw [en]
 have ie17 : isLP (kT 17) = false ∧ isRP (kT 17) = false ∧ isIE (kT 17) = true := by decide
 have ie19 : isLP (kT 19) = false ∧ isRP (kT 19) = false ∧ isIE (kT 19) = true := by decide
 have pk : ∀ {k : Nat}, k < 29 → k ≠ 17 → k ≠ 19 → plT (kT k) := plK
 rcases shape_cases hs with ⟨rfl, hl, hk0, hs0⟩ | ⟨rfl, hn, hm, hk0, hs0⟩ | ⟨rfl, ho, hk0, hs0⟩ | ⟨rfl, ho, hk0, hs0⟩ | ⟨rfl, hk0, hs0⟩ | ⟨rfl, hk0, hs0⟩ | ⟨rfl, hk0, hs0⟩ | ⟨rfl, hk0, hs0⟩ | ⟨rfl, hk0, hs0⟩
 ·obtain rfl := List.eq_nil_of_length_eq_zero (show kids.length = 0 by omega)
  obtain rfl := List.eq_nil_of_length_eq_zero (show sub.length = 0 by omega)
  exact Bal.one (plL _)
 ·obtain rfl := List.eq_nil_of_length_eq_zero (show kids.length = 0 by omega)
  obtain rfl := List.eq_nil_of_length_eq_zero (show sub.length = 0 by omega)
  exact (bal_qual qual).app (Bal.one (plN _))
 ·obtain rfl := List.eq_nil_of_length_eq_zero (show sub.length = 0 by omega)
  obtain ⟨a, rfl⟩ := list1 hk0
  have k0 := hkid 0 (by simp)
  show Bal (opTk op :: kidL false g 3 op [a] 0) _
  exact (Bal.cons (plO _) k0).eq (by simp [cW, List.range_succ])
 ·obtain rfl := List.eq_nil_of_length_eq_zero (show sub.length = 0 by omega)
  obtain ⟨a, b, rfl⟩ := list2 hk0
  have k0 := hkid 0 (by simp)
  have k1 := hkid 1 (by simp)
  show Bal (kidL false g 4 op [a, b] 0 ++ (opTk op :: kidL false g 4 op [a, b] 1)) _
  exact (k0.app (Bal.cons (plO _) k1)).eq (by simp [cW, List.range_succ]; omega)
 ·obtain rfl := List.eq_nil_of_length_eq_zero (show sub.length = 0 by omega)
  obtain ⟨a, rfl⟩ := list1 hk0
  have k0 := hkid 0 (by simp)
  show Bal (kidL false g 5 op [a] 0 ++ (kT 16 :: (notL not ++ [kT 20]))) _
  exact (k0.app (Bal.cons (pk (by decide) (by decide) (by decide)) ((bal_not _).app (Bal.one (pk (by decide) (by decide) (by decide)))))).eq (by simp [cW, List.range_succ])
 ·obtain rfl := List.eq_nil_of_length_eq_zero (show sub.length = 0 by omega)
  obtain ⟨a, b, c, rfl⟩ := list3 hk0
  have k0 := hkid 0 (by simp)
  have k1 := hkid 1 (by simp)
  have k2 := hkid 2 (by simp)
  show Bal (kidL false g 6 op [a, b, c] 0 ++ (notL not ++ (kT 18 :: (kidL false g 6 op [a, b, c] 1 ++ (kT 13 :: kidL false g 6 op [a, b, c] 2))))) _
  exact (k0.app ((bal_not _).app (Bal.cons (pk (by decide) (by decide) (by decide)) (k1.app (Bal.cons (pk (by decide) (by decide) (by decide)) k2))))).eq (by simp [cW, List.range_succ]; omega)
 ·obtain rfl := List.eq_nil_of_length_eq_zero (show sub.length = 0 by omega)
  obtain ⟨a, r, rfl⟩ : ∃ a r, kids = a :: r := by
   cases kids with
   | nil => simp at hk0
   | cons a r => exact ⟨a, r, rfl⟩
  have k0 := hkid 0 (by simp)
  have s1 : Bal (seqN (inF false g 7 op (a :: r)) r.length) _ := Bal.seq (b := fun i => optN (fun x => gn x) r[i]? + if wrapB 7 op (a :: r) (i + 1) = true then 1 else 0) fun i hi => by
   have k1 := hkid (i + 1) (by simpa using hi)
   simp only [List.getElem?_eq_getElem hi, optN]
   exact (Bal.app (Bal.ite (Bal.one plG.1) Bal.nil) k1).eq (by simp)
  show Bal (kidL false g 7 op (a :: r) 0 ++ (notL not ++ (kT 17 :: lpT :: (seqN (inF false g 7 op (a :: r)) r.length ++ [rpT])))) _
  refine (k0.app ((bal_not _).app (Bal.ie ie17 s1))).eq ?_
  have e1 : ∀ (f h : Nat → Nat) (n : Nat), ((List.range n).map fun i => f i + h i).sum = ((List.range n).map f).sum + ((List.range n).map h).sum := fun f h n => by
   induction n with
   | zero => rfl
   | succ n ih => simp only [List.range_succ, List.map_append, List.sum_append, List.map_singleton, List.sum_singleton, ih]; omega
  have e2 := range_sum r 0 (fun x => gn x)
  have e3 : ((List.range r.length).map fun i => optN (fun x => gn x) r[i]?).sum = (r.map fun x => gn x).sum := by simpa using e2
  rw [e1, e3]
  simp only [cW, List.length_cons, List.range_succ_eq_map, List.map_cons, List.sum_cons, List.map_map, List.map_nil, List.sum_nil]
  show _ = gn a + (r.map gn).sum + (_ + ((List.range r.length).map fun k => if wrapB 7 op (a :: r) (k + 1) = true then 1 else 0).sum) + 0
  simp only [List.getElem_cons_zero]
  show _ = gn a + (r.map fun x => gn x).sum + _ + 0
  omega
 ·obtain ⟨a, rfl⟩ := list1 hk0
  obtain ⟨q, rfl⟩ := list1 hs0
  have k0 := hkid 0 (by simp)
  have s1 := hqs q (by simp)
  show Bal (kidL false g 8 op [a] 0 ++ (notL not ++ (kT 17 :: lpT :: (quT g q ++ [rpT])))) _
  exact (k0.app ((bal_not _).app (Bal.ie ie17 s1))).eq (by simp [cW, List.range_succ])
 ·obtain rfl := List.eq_nil_of_length_eq_zero (show kids.length = 0 by omega)
  obtain ⟨q, rfl⟩ := list1 hs0
  have s1 := hqs q (by simp)
  show Bal (kT 19 :: lpT :: (quT g q ++ [rpT])) _
  exact (Bal.ie ie19 s1).eq (by simp [cW])
end
noncomputable def wpE : Expr → Nat := foldE wpF
theorem tkE_bal (e : Expr) : fmE e = true → Bal (tkE false e) (wpE e) :=
 foldE3_ind (F1 := fmF) (F2 := wpF) (F3 := exT false) (P := fun e f n t => f = true → Bal t n) (fun e gf gn g hg hf => bal_step hf fun x hx h => hg x hx h) e
theorem pc_printed {e : Expr} (h : fmE e = true) : pc false [] 0 (tkE false e) = ([], wpE e) := by
 have := tkE_bal e h [] 0 []
 rw [List.append_nil, Nat.zero_add] at this
 rw [this]; rfl
def cWn (kind op : Int) (kids : List Expr) (n : Nat) : Nat := ((List.range n).map fun k => if wrapB kind op kids k = true then 1 else 0).sum
theorem cWn_le (kind op : Int) (kids : List Expr) : ∀ n, cWn kind op kids n ≤ n
 | 0 => Nat.le_refl _
 | n + 1 => by
  have := cWn_le kind op kids n
  unfold cWn at this ⊢
  rw [List.range_succ, List.map_append, List.sum_append, List.map_singleton, List.sum_singleton]
  split <;> omega
theorem cWn_succ (kind op : Int) (kids : List Expr) (n : Nat) : cWn kind op kids (n + 1) = cWn kind op kids n + if wrapB kind op kids n = true then 1 else 0 := by
 unfold cWn
 rw [List.range_succ, List.map_append, List.sum_append, List.map_singleton, List.sum_singleton]
theorem wp_le {e : Expr} {g : Expr → Nat} (h : ∀ x, below x e → g x ≤ szExpr x) : wpF g e ≤ szExpr e := by
 obtain ⟨k, o, n, v, q, m, ks, ss⟩ := e
 have e1 : wpF g (.mk k o n v q m ks ss) = (ks.map g).sum + cW k o ks + (ss.map fun q => ((exprsQ q).map g).sum).sum := rfl
 rw [e1, szExpr_mk, szExprs_eq, szQuerys_eq]
 have h1 := sum_le (l := ks) (f := g) (g := szExpr) fun x hx => h x (.inl hx)
 have h2 := sum_le (l := ss) (f := fun q => ((exprsQ q).map g).sum) (g := szQuery) fun q hq => Nat.le_trans (sum_le fun x hx => Nat.le_trans (h x (.inr ⟨q, hq, hx⟩)) (Nat.le_succ _)) (exprsQ_sum q)
 have h3 : cW k o ks ≤ ks.length := cWn_le k o ks ks.length
 have h4 := sum_add1 szExpr ks
 omega
theorem wrapsOfAll_d (l : List Expr) (g : Expr → Nat) (h : ∀ x ∈ l, Cl Tryz.prog 13 [.ag (csOf x.row)] [] fun r _ => r = vi (g x : Nat)) (hl : l.length ≤ 1048576) (hs : (l.map g).sum ≤ 2097152) : Cl Tryz.prog 41 [.c (.sl l.length (l.flatMap Expr.row) none)] [] fun r _ => r = vi ((l.map g).sum : Nat) := by
 refine cl_of_d follows_mixed false Tryz.func41 rfl (by kernel_rfl) ?_
 simp only [Tryz.f41, tt, seval]
 refine fun _ => ?_
 refine dLoop.intro (fun f L p => ∃ i : Nat, f 8 = vi i ∧ i ≤ l.length ∧ f 3 = vi (((l.take i).map g).sum : Nat) ∧ L = [] ∧ p = none) (fun f _ _ => (l.length - ixS (f 8)).toNat) [] none ⟨SubO.nil _, PoSub.none _, ?_⟩ ?_
 ·simp only [tt, seval]
  exact ⟨0, rfl, by omega, by simp []⟩
 ·rintro g' L p ⟨i, hix, hi, hac, rfl, rfl⟩
  simp only [tt, seval] at hix hac
  simp only [tt, seval, hix, hac, Int.ofNat_lt]
  refine And.intro (fun hlt => ?_) (fun hge => ?_)
  ·have hlt : i < l.length := by omega
   obtain ⟨it, hit⟩ : ∃ it, it = l[i] := ⟨_, rfl⟩
   have hmem : it ∈ l := by rw [hit]; exact List.getElem_mem hlt
   refine ⟨by omega, by omega, _, drop_row Expr.row_len (List.getElem?_eq_getElem hlt), Expr.ne _ _, ?_⟩
   have hstep : ((l.take (i + 1)).map g).sum = ((l.take i).map g).sum + g l[i] := sum_snoc g hlt
   rw [← hit] at hstep
   obtain ⟨k, o, n, v, q, m, ks, ss⟩ := it
   rw [← hit, Expr.row_mk]
   simp only [tt, seval]
   refine cZ (h _ hmem) (by decide) ?_ ?_ <;> simp only [tt, seval, hix, Expr.row_mk]
   obtain ⟨rst, hrst⟩ := take_sum_le g l (i + 1)
   rw [wrS i (by omega)]
   rw [wrap_id (by omega) (by omega)]
   exact ⟨_, none, SubO.nil _, PoSub.none _, ⟨i + 1, rfl, by omega, viE (by rw [hstep]; omega), rfl, rfl⟩, by simp only [ixS]; omega⟩
  ·have hie : i = l.length := by omega
   subst hie
   rw [List.take_length] at hac
   try rw [List.take_length]
   exact ⟨_, _, rfl, end0 rfl⟩
theorem WrapsIn_d (q : Query) (g : Expr → Nat) (h : ∀ x ∈ exprsQ q, Cl Tryz.prog 13 [.ag (csOf x.row)] [] fun r _ => r = vi (g x : Nat)) (hsz : szQuery q ≤ 1048576) (hs : ((exprsQ q).map g).sum ≤ 2097152) : Cl Tryz.prog 43 [.ag (csOf q.row)] [] fun r _ => r = vi (((exprsQ q).map g).sum : Nat) := by
 have hlen := exprsQ_len q
 obtain ⟨distinct, items, from_, where_, order, limit⟩ := q
 rw [Query.row_mk]
 refine cl_of_d follows_mixed false Tryz.func43 rfl (by kernel_rfl) ?_
 simp only [Tryz.f43, tt, seval]
 refine cZ (iexprs_d distinct items from_ where_ order limit hsz) (by decide) ?_ ?_ <;> simp only [tt, seval, Query.row_mk]
 generalize exprsQ (Query.mk distinct items from_ where_ order limit) = l at *
 refine cZ (wrapsOfAll_d l g h (by omega) hs) (by decide) ?_ ?_ <;> simp only [tt, seval]
 exact ⟨_, _, rfl, end0 rfl⟩
theorem Wraps_step (kind op : Int) (not : Bool) (val : Val) (qual name : ByteArray) (kids : List Expr) (sub : List Query) (g : Expr → Nat) (hg : ∀ x, below x (Expr.mk kind op not val qual name kids sub) → (Cl Tryz.prog 13 [.ag (csOf x.row)] [] fun r _ => r = vi (g x : Nat)) ∧ g x ≤ szExpr x) (hsz : szExpr (Expr.mk kind op not val qual name kids sub) ≤ 1048576) : Cl Tryz.prog 13 [.ag (csOf (Expr.mk kind op not val qual name kids sub).row)] [] fun r _ => r = vi (wpF g (Expr.mk kind op not val qual name kids sub) : Nat) := by
 have hdl := wp_le (g := g) (fun x hx => (hg x hx).2)
 have hks := hsz
 rw [szExpr_mk, szExprs_eq, szQuerys_eq] at hks
 have e : wpF g (Expr.mk kind op not val qual name kids sub) = (kids.map g).sum + cW kind op kids + (sub.map fun q => ((exprsQ q).map g).sum).sum := rfl
 rw [e] at hdl ⊢
 have hkl : kids.length ≤ 1048576 := by have := sum_add1 szExpr kids; omega
 rw [Expr.row_mk]
 refine cl_of_d follows_mixed false Tryz.func13 rfl (by kernel_rfl) ?_
 simp only [Tryz.f13, tt, seval]
 refine cZ (wrapsOfAll_d kids g (fun x hx => (hg x (.inl hx)).1) hkl (by omega)) (by decide) ?_ ?_ <;> simp only [tt, seval]
 refine fun _ => ?_
 refine dLoop.intro (fun f L p => ∃ i : Nat, f 13 = vi i ∧ i ≤ kids.length ∧ f 3 = vi ((kids.map g).sum + cWn kind op kids i : Nat) ∧ L = [(1, .str [.v (.int .i64 kind), .v (.int .i64 op), .v (.bool not), .v (.int .i64 val.kind), .v (.int .i64 val.num), .v (.string val.text), .v (.string qual), .v (.string name), .sl kids.length (kids.flatMap Expr.row) none, .sl sub.length (sub.flatMap Query.row) none])] ∧ p = none) (fun f _ _ => (kids.length - ixS (f 13)).toNat) [(1, .str [.v (.int .i64 kind), .v (.int .i64 op), .v (.bool not), .v (.int .i64 val.kind), .v (.int .i64 val.num), .v (.string val.text), .v (.string qual), .v (.string name), .sl kids.length (kids.flatMap Expr.row) none, .sl sub.length (sub.flatMap Query.row) none])] none ⟨SubO.cons rfl (SubO.nil _), PoSub.none _, ?_⟩ ?_
 ·simp only [tt, seval]
  exact ⟨0, rfl, by omega, by simp [cWn]⟩
 ·rintro g' L p ⟨i, hix, hi, hac, rfl, rfl⟩
  simp only [tt, seval] at hix hac
  simp only [tt, seval, hix, Int.ofNat_lt]
  have hcl := cWn_le kind op kids i
  refine And.intro (fun hlt => ?_) (fun hge => ?_)
  ·have hlt : i < kids.length := by omega
   have hstep := cWn_succ kind op kids i
   refine cZ (iWrapped_d kind op not val qual name kids sub i hlt) (by decide) ?_ ?_ <;> simp only [tt, seval, hix, hac, Expr.row_mk]
   cases hw : wrapB kind op kids i
   case false =>
    simp only [tt, seval]
    try rw [wrS i (by omega)]
    exact ⟨_, none, SubO.cons rfl (SubO.nil _), PoSub.none _, ⟨i + 1, rfl, by omega, viE (by rw [hstep, hw]; simp; try omega), rfl, rfl⟩, by simp only [ixS]; omega⟩
   case true =>
    simp only [tt, seval]
    try rw [wrS i (by omega)]
    try rw [wrap_id (by omega) (by omega)]
    exact ⟨_, none, SubO.cons rfl (SubO.nil _), PoSub.none _, ⟨i + 1, rfl, by omega, viE (by rw [hstep, hw]; simp; try omega), rfl, rfl⟩, by simp only [ixS]; omega⟩
  have hie : i = kids.length := by omega
  subst hie
  have hac : g' 3 = vi ((kids.map g).sum + cW kind op kids : Nat) := hac
  (refine fun _ => ?_)
  refine dLoop.intro (fun f L p => ∃ i : Nat, f 25 = vi i ∧ i ≤ sub.length ∧ f 3 = vi (((kids.map g).sum + cW kind op kids + ((sub.take i).map fun q => ((exprsQ q).map g).sum).sum) : Nat) ∧ L = [(1, .str [.v (.int .i64 kind), .v (.int .i64 op), .v (.bool not), .v (.int .i64 val.kind), .v (.int .i64 val.num), .v (.string val.text), .v (.string qual), .v (.string name), .sl kids.length (kids.flatMap Expr.row) none, .sl sub.length (sub.flatMap Query.row) none])] ∧ p = none) (fun f _ _ => (sub.length - ixS (f 25)).toNat) [(1, .str [.v (.int .i64 kind), .v (.int .i64 op), .v (.bool not), .v (.int .i64 val.kind), .v (.int .i64 val.num), .v (.string val.text), .v (.string qual), .v (.string name), .sl kids.length (kids.flatMap Expr.row) none, .sl sub.length (sub.flatMap Query.row) none])] none ⟨SubO.cons rfl (SubO.nil _), PoSub.none _, ?_⟩ ?_
  ·try simp only [tt, seval, hac]
   exact ⟨0, rfl, by omega, by simp⟩
  ·rintro g' L p ⟨i, hix, hi, hac, rfl, rfl⟩
   simp only [tt, seval] at hix hac
   simp only [tt, seval, hix, hac, Int.ofNat_lt]
   refine And.intro (fun hlt => ?_) (fun hge => ?_)
   ·have hlt : i < sub.length := by omega
    obtain ⟨it, hit⟩ : ∃ it, it = sub[i] := ⟨_, rfl⟩
    have hmem : it ∈ sub := by rw [hit]; exact List.getElem_mem hlt
    refine ⟨by omega, by omega, _, drop_row Query.row_len (List.getElem?_eq_getElem hlt), Query.ne _ _, ?_⟩
    have hstep : ((sub.take (i + 1)).map fun q => ((exprsQ q).map g).sum).sum = ((sub.take i).map fun q => ((exprsQ q).map g).sum).sum + ((exprsQ sub[i]).map g).sum := sum_snoc _ hlt
    rw [← hit] at hstep
    obtain ⟨ds, its, frs, whs, ods, lim⟩ := it
    rw [← hit, Query.row_mk]
    simp only [tt, seval]
    obtain ⟨rst, hrst⟩ := take_sum_le (fun q => ((exprsQ q).map g).sum) sub (i + 1)
    refine cZ (WrapsIn_d (Query.mk ds its frs whs ods lim) g (fun x hx => (hg x (.inr ⟨_, hmem, hx⟩)).1) (Nat.le_trans (sub_sz (e := (Expr.mk kind op not val qual name kids sub)) hmem) hsz) (by omega)) (by decide) ?_ ?_ <;> simp only [tt, seval, hix, Query.row_mk]
    rw [wrS i (by omega)]
    rw [wrap_id (by omega) (by omega)]
    exact ⟨_, none, SubO.cons rfl (SubO.nil _), PoSub.none _, ⟨i + 1, rfl, by omega, viE (by rw [hstep]; omega), rfl, rfl⟩, by simp only [ixS]; omega⟩
   ·have hie : i = sub.length := by omega
    subst hie
    rw [List.take_length] at hac
    try rw [List.take_length]
    exact ⟨_, _, rfl, end0 rfl⟩
theorem Wraps_d (e : Expr) : (szExpr e ≤ 1048576 → Cl Tryz.prog 13 [.ag (csOf e.row)] [] fun r _ => r = vi (wpE e : Nat)) ∧ wpE e ≤ szExpr e := by
 refine foldE_ind (P := fun e d => (szExpr e ≤ 1048576 → Cl Tryz.prog 13 [.ag (csOf e.row)] [] fun r _ => r = vi (d : Nat)) ∧ d ≤ szExpr e) (fun e g hg => ⟨fun hsz => ?_, wp_le fun x hx => (hg x hx).2⟩) e
 obtain ⟨kind, op, not, val, qual, name, kids, sub⟩ := e
 exact Wraps_step kind op not val qual name kids sub g (fun x hx => ⟨(hg x hx).1 (Nat.le_trans (below_sz hx) hsz), (hg x hx).2⟩) hsz
def z0 : ByteArray := ⟨#[]⟩
def zVal : Val := ⟨0, 0, ⟨#[]⟩⟩
def mUn (op : Int) (e : Expr) : Expr := .mk 3 op false zVal z0 z0 [e] []
end Go.Proofs.YtoegnikpokgbfaaGreatDoor
