/-
  Pairs of parentheses, plainly.
  Conditions: none.
-/
import Derived.Test.YtoegnikpokgbfaaGreatDoorETA
set_option linter.unusedVariables false
set_option linter.unusedSimpArgs false
set_option linter.unusedSectionVars false
set_option maxRecDepth 8000
namespace Go.Proofs.YtoegnikpokgbfaaGreatDoor
open Go Go.Dv
open Go.Vc (D shrI xorI andI)
def isLP (t : Tok) : Bool := decide (t.kind = 5) && decide (t.text = ⟨#[40]⟩)
def isRP (t : Tok) : Bool := decide (t.kind = 5) && decide (t.text = ⟨#[41]⟩)
def isIE (t : Tok) : Bool := decide (t.kind = 1) && (decide (t.text = kw 17) || decide (t.text = kw 19))
def pAt (L : List Tok) (i : Nat) : Bool := if i = 0 then false else match L[i - 1]? with | some t => isIE t | none => false
section
variable {L : List Tok} {i m : Nat} {os : List Nat}
theorem pc_drop (hi : i < L.length) : L.drop i = L[i] :: L.drop (i + 1) := List.drop_eq_getElem_cons hi
end
def shutL : Nat → Nat → List Tok → Option Nat
 | _, _, [] => none
 | k, i, t :: r => if isLP t = true then shutL (k + 1) (i + 1) r else if isRP t = true then (if k = 1 then some i else shutL (k - 1) (i + 1) r) else shutL k (i + 1) r
def shut (L : List Tok) (a : Nat) : Option Nat := shutL 1 (a + 1) (L.drop (a + 1))
def grp (L : List Tok) (a : Nat) : Bool := (match L[a]? with | some t => isLP t | none => false) && !pAt L a
def pairAt (L : List Tok) (a : Nat) : Option (Nat × Nat) := if grp L a = true then (shut L a).map fun j => (a, j) else none
def prs (L : List Tok) : List (Nat × Nat) := (List.range L.length).filterMap (pairAt L)
structure StAt (L : List Tok) (i : Nat) (os : List Nat) (ps : List (Nat × Nat)) : Prop where
 op : ∀ p (hp : p < os.length), os[p] < i ∧ shut L os[p] = shutL (os.length - p) i (L.drop i)
 got : ∀ q ∈ ps, grp L q.1 = true ∧ q.1 < q.2 ∧ q.2 < i ∧ shut L q.1 = some q.2
 all : ∀ a, a < i → grp L a = true → a ∈ os ∨ ∃ j, (a, j) ∈ ps
 nd : (ps.map Prod.fst ++ os).Nodup
 lp : ∀ a ∈ os, ∃ t, L[a]? = some t ∧ isLP t = true
section
variable {L : List Tok} {i : Nat} {os : List Nat} {ps : List (Nat × Nat)}
theorem StAt.start (L : List Tok) : StAt L 0 [] [] := ⟨fun p hp => absurd hp (Nat.not_lt_zero _), fun _ h => absurd h (by simp), fun a ha => absurd ha (Nat.not_lt_zero _), List.nodup_nil, fun _ h => absurd h (by simp)⟩
theorem StAt.lt (h : StAt L i os ps) {a : Nat} (ha : a ∈ os) : a < i := by
 obtain ⟨p, hp, rfl⟩ := List.getElem_of_mem ha
 exact (h.op p hp).1
theorem shutL_other {k i : Nat} {t : Tok} {r : List Tok} (h1 : isLP t = false) (h2 : isRP t = false) : shutL k i (t :: r) = shutL k (i + 1) r := by
 rw [shutL, h1, h2]; rfl
theorem shutL_open {k i : Nat} {t : Tok} {r : List Tok} (h1 : isLP t = true) : shutL k i (t :: r) = shutL (k + 1) (i + 1) r := by
 rw [shutL, h1]; rfl
theorem shutL_shut {k i : Nat} {t : Tok} {r : List Tok} (h1 : isLP t = false) (h2 : isRP t = true) : shutL k i (t :: r) = if k = 1 then some i else shutL (k - 1) (i + 1) r := by
 rw [shutL, h1, h2]; rfl
theorem StAt.other (h : StAt L i os ps) (hi : i < L.length) (h1 : isLP L[i] = false) (h2 : isRP L[i] = false) : StAt L (i + 1) os ps := by
 refine ⟨fun p hp => ⟨Nat.lt_succ_of_lt (h.op p hp).1, ?_⟩, fun q hq => ?_, fun a ha hg => ?_, h.nd, h.lp⟩
 ·rw [(h.op p hp).2, pc_drop hi, shutL_other h1 h2]
 ·obtain ⟨a, b, c, d⟩ := h.got q hq
  exact ⟨a, b, Nat.lt_succ_of_lt c, d⟩
 ·rcases Nat.lt_succ_iff_lt_or_eq.1 ha with ha | rfl
  ·exact h.all a ha hg
  ·simp [grp, List.getElem?_eq_getElem hi, h1] at hg
theorem StAt.opened (h : StAt L i os ps) (hi : i < L.length) (h1 : isLP L[i] = true) : StAt L (i + 1) (os ++ [i]) ps := by
 refine ⟨fun p hp => ?_, fun q hq => ?_, fun a ha hg => ?_, ?_, fun a ha => (List.mem_append.1 ha).elim (h.lp a) fun e => ⟨_, by rw [List.mem_singleton.1 e]; exact List.getElem?_eq_getElem hi, h1⟩⟩
 ·rw [List.length_append, List.length_singleton] at hp
  by_cases hq : p < os.length
  ·rw [List.getElem_append_left hq, List.length_append, List.length_singleton]
   obtain ⟨k1, k2⟩ := h.op p hq
   refine ⟨Nat.lt_succ_of_lt k1, ?_⟩
   rw [k2, pc_drop hi, shutL_open h1, show os.length - p + 1 = os.length + 1 - p by omega]
  ·obtain rfl : p = os.length := by omega
   simp only [List.getElem_append_right (Nat.le_refl _), Nat.sub_self, List.getElem_cons_zero, List.length_append, List.length_singleton]
   refine ⟨Nat.lt_succ_self _, ?_⟩
   rw [show os.length + 1 - os.length = 1 by omega]; rfl
 ·obtain ⟨a, b, c, d⟩ := h.got q hq
  exact ⟨a, b, Nat.lt_succ_of_lt c, d⟩
 ·rcases Nat.lt_succ_iff_lt_or_eq.1 ha with ha | rfl
  ·rcases h.all a ha hg with k | k
   ·exact .inl (List.mem_append_left _ k)
   ·exact .inr k
  ·exact .inl (by simp)
 ·rw [← List.append_assoc]
  refine List.nodup_append.2 ⟨h.nd, by simp, fun a ha b hb e => ?_⟩
  rw [List.mem_singleton.1 hb] at e
  subst e
  rcases List.mem_append.1 ha with ha | ha
  ·obtain ⟨q, hq, rfl⟩ := List.mem_map.1 ha
   have := h.got q hq
   omega
  ·exact Nat.lt_irrefl _ (h.lt ha)
theorem StAt.none (h : StAt L i [] ps) (hi : i < L.length) (h1 : isLP L[i] = false) : StAt L (i + 1) [] ps := by
 refine ⟨fun p hp => absurd hp (Nat.not_lt_zero _), fun q hq => ?_, fun a ha hg => ?_, h.nd, h.lp⟩
 ·obtain ⟨a, b, c, d⟩ := h.got q hq
  exact ⟨a, b, Nat.lt_succ_of_lt c, d⟩
 ·rcases Nat.lt_succ_iff_lt_or_eq.1 ha with ha | rfl
  ·exact h.all a ha hg
  ·simp [grp, List.getElem?_eq_getElem hi, h1] at hg
theorem StAt.shut {a : Nat} (h : StAt L i (os ++ [a]) ps) (hi : i < L.length) (h1 : isLP L[i] = false) (h2 : isRP L[i] = true) :
 a < i ∧ StAt L (i + 1) os (if pAt L a = true then ps else ps ++ [(a, i)]) := by
 have ha : a < i := h.lt (by simp)
 have hl := h.lp a (by simp)
 have hs : Go.Proofs.YtoegnikpokgbfaaGreatDoor.shut L a = some i := by
  obtain ⟨_, k⟩ := h.op os.length (by simp)
  simp only [List.getElem_append_right (Nat.le_refl _), Nat.sub_self, List.getElem_cons_zero, List.length_append, List.length_singleton] at k
  rw [k, pc_drop hi, shutL_shut h1 h2, if_pos (by omega)]
 refine ⟨ha, ⟨fun p hp => ?_, fun q hq => ?_, fun b hb hg => ?_, ?_, fun b hb => h.lp b (by simp [hb])⟩⟩
 ·obtain ⟨k1, k2⟩ := h.op p (by simp; omega)
  rw [List.getElem_append_left hp] at k1 k2
  refine ⟨Nat.lt_succ_of_lt k1, ?_⟩
  rw [k2, pc_drop hi, shutL_shut h1 h2, List.length_append, List.length_singleton, if_neg (by omega), show os.length + 1 - p - 1 = os.length - p by omega]
 ·by_cases hp : pAt L a = true
  ·rw [if_pos hp] at hq
   obtain ⟨a, b, c, d⟩ := h.got q hq
   exact ⟨a, b, Nat.lt_succ_of_lt c, d⟩
  ·rw [if_neg hp] at hq
   rcases List.mem_append.1 hq with hq | hq
   ·obtain ⟨a, b, c, d⟩ := h.got q hq
    exact ⟨a, b, Nat.lt_succ_of_lt c, d⟩
   ·rw [List.mem_singleton.1 hq]
    obtain ⟨t, ht, hl⟩ := hl
    exact ⟨by simp [grp, ht, hl, hp], ha, Nat.lt_succ_self _, hs⟩
 ·have key : b ∈ os ++ [a] ∨ ∃ j, (b, j) ∈ ps := by
   rcases Nat.lt_succ_iff_lt_or_eq.1 hb with hb | rfl
   ·exact h.all b hb hg
   ·simp [grp, List.getElem?_eq_getElem hi, h1] at hg
  rcases key with k | ⟨j, k⟩
  ·rcases List.mem_append.1 k with k | k
   ·exact .inl k
   ·rw [List.mem_singleton.1 k] at hg ⊢
    have hp : pAt L a = false := by
     simp only [grp, Bool.and_eq_true, Bool.not_eq_true'] at hg; exact hg.2
    exact .inr ⟨i, by simp [hp]⟩
  ·refine .inr ⟨j, ?_⟩
   split
   ·exact k
   ·exact List.mem_append_left _ k
 ·have hn := h.nd
  rw [← List.append_assoc] at hn
  obtain ⟨n1, _, n3⟩ := List.nodup_append.1 hn
  by_cases hp : pAt L a = true
  ·rw [if_pos hp]; exact n1
  ·rw [if_neg hp, List.map_append]
   obtain ⟨m1, m2, m3⟩ := List.nodup_append.1 n1
   refine List.nodup_append.2 ⟨List.nodup_append.2 ⟨m1, by simp, fun x hx y hy e => ?_⟩, m2, fun x hx y hy e => ?_⟩
   ·exact n3 x (List.mem_append_left _ hx) a (by simp) (by simpa [e] using hy)
   ·rcases List.mem_append.1 hx with hx | hx
    ·exact m3 x hx y hy e
    ·exact n3 y (List.mem_append_right _ hy) a (by simp) (by simpa [← e] using hx)
theorem StAt.done (h : StAt L L.length os ps) (q : Nat × Nat) : q ∈ ps ↔ q ∈ prs L := by
 unfold prs
 rw [List.mem_filterMap]
 constructor
 ·intro hq
  obtain ⟨a, b, c, d⟩ := h.got q hq
  exact ⟨q.1, by simp; omega, by rw [pairAt, if_pos a, d]; rfl⟩
 ·rintro ⟨a, ha, hq⟩
  unfold pairAt at hq
  split at hq
  ·rename_i hg
   cases hs : Go.Proofs.YtoegnikpokgbfaaGreatDoor.shut L a with
   | none => rw [hs] at hq; cases hq
   | some j =>
    rw [hs] at hq
    obtain rfl : (a, j) = q := by simpa using hq
    rcases h.all a (by simpa using ha) hg with k | ⟨j', k⟩
    ·obtain ⟨p, hp, rfl⟩ := List.getElem_of_mem k
     have := (h.op p hp).2
     rw [List.drop_length, hs] at this
     cases this
    ·have := (h.got _ k).2.2.2
     rw [hs] at this
     cases this
     exact k
  ·cases hq
end
theorem prs_mem {L : List Tok} {q : Nat × Nat} (h : q ∈ prs L) : q.1 < L.length ∧ grp L q.1 = true ∧ shut L q.1 = some q.2 := by
 obtain ⟨a, ha, hq⟩ := List.mem_filterMap.1 h
 unfold pairAt at hq
 split at hq
 ·rename_i hg
  cases hs : shut L a with
  | none => rw [hs] at hq; cases hq
  | some j =>
   rw [hs] at hq
   obtain rfl : (a, j) = q := by simpa using hq
   exact ⟨by simpa using ha, hg, hs⟩
 ·cases hq
theorem shutL_bd : ∀ {l : List Tok} {k i j : Nat}, shutL k i l = some j → i ≤ j ∧ j < i + l.length
 | [], _, _, _, h => by cases h
 | t :: r, k, i, j, h => by
  rw [shutL] at h
  have next : ∀ {k'}, shutL k' (i + 1) r = some j → i ≤ j ∧ j < i + (t :: r).length := fun h => by
   have := shutL_bd h
   simp only [List.length_cons]
   omega
  split at h
  ·exact next h
  ·split at h
   ·split at h
    ·cases h; simp
    ·exact next h
   ·exact next h
theorem prs_bd {L : List Tok} {q : Nat × Nat} (h : q ∈ prs L) : q.1 < q.2 ∧ q.2 < L.length := by
 obtain ⟨h1, _, h2⟩ := prs_mem h
 have := shutL_bd h2
 rw [List.length_drop] at this
 omega
theorem prs_lt (L : List Tok) : (prs L).Pairwise (fun p q => p.1 < q.1) := by
 unfold prs
 refine List.pairwise_filterMap.2 ?_
 refine (List.pairwise_lt_range).imp ?_
 intro a b hab p hp q hq
 have f : ∀ {a : Nat} {p : Nat × Nat}, pairAt L a = some p → p.1 = a := fun {a p} h => by
  unfold pairAt at h
  split at h
  ·cases hs : shut L a with
   | none => rw [hs] at h; cases h
   | some j =>
    rw [hs] at h
    obtain rfl : (a, j) = p := by simpa using h
    rfl
  ·cases h
 rw [f hp, f hq]; exact hab
theorem rise_eq : ∀ {a b : List (Nat × Nat)}, a.Pairwise (fun p q => p.1 < q.1) → b.Pairwise (fun p q => p.1 < q.1) → (∀ q, q ∈ a ↔ q ∈ b) → a = b
 | [], [], _, _, _ => rfl
 | [], y :: b, _, _, h => absurd ((h y).2 (by simp)) (by simp)
 | x :: a, [], _, _, h => absurd ((h x).1 (by simp)) (by simp)
 | x :: a, y :: b, ha, hb, h => by
  rw [List.pairwise_cons] at ha hb
  have e : x = y := by
   rcases List.mem_cons.1 ((h x).1 (by simp)) with e | hx
   ·exact e
   ·rcases List.mem_cons.1 ((h y).2 (by simp)) with e | hy
    ·exact e.symm
    ·have := ha.1 y hy; have := hb.1 x hx; omega
  subst e
  congr 1
  refine rise_eq ha.2 hb.2 fun q => ⟨fun hq => ?_, fun hq => ?_⟩
  ·rcases List.mem_cons.1 ((h q).1 (List.mem_cons_of_mem _ hq)) with rfl | k
   ·have := ha.1 _ hq; omega
   ·exact k
  ·rcases List.mem_cons.1 ((h q).2 (List.mem_cons_of_mem _ hq)) with rfl | k
   ·have := hb.1 _ hq; omega
   ·exact k
theorem sorted_eq {L : List Tok} {os : List Nat} {ps qs : List (Nat × Nat)} (h : StAt L L.length os ps) (hp : ∀ q, q ∈ qs ↔ q ∈ ps) (hl : qs.Pairwise (fun p q => p.1 ≤ q.1)) (hn : (qs.map Prod.fst).Nodup) : qs = prs L := by
 refine rise_eq ?_ (prs_lt L) fun q => (hp q).trans (h.done q)
 rw [List.Nodup, List.pairwise_map] at hn
 exact (List.pairwise_and_iff.2 ⟨hl, hn⟩).imp fun {p q} h => by omega
end Go.Proofs.YtoegnikpokgbfaaGreatDoor
