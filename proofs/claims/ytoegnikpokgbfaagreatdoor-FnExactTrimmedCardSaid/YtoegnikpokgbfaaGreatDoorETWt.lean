/-
  The reference's pairs, and what is needless there.
  Conditions: none.
-/
import Derived.Test.YtoegnikpokgbfaaGreatDoorETB3
import Derived.Test.YtoegnikpokgbfaaGreatDoorETC2
import Derived.Test.YtoegnikpokgbfaaGreatDoorETWn
set_option linter.unusedVariables false
set_option linter.unusedSimpArgs false
set_option linter.unusedSectionVars false
set_option maxRecDepth 8000
namespace Go.Proofs.YtoegnikpokgbfaaGreatDoor
open Go Go.Dv
open Go.Vc (D shrI xorI andI)
theorem l14Is_d (t : Tok) (s : ByteArray) : Cl Tryz.prog 121 [.ag (csOf t.row), vs s] [] fun r _ => r = vb (decide (t.kind = 5) && decide (t.text = s)) := by
 obtain ⟨k, x, a⟩ := t
 refine cl_of_d follows_mixed false Tryz.func121 rfl (by kernel_rfl) ?_
 simp only [Tryz.f121, tt, seval]
 try simp only [tt, seval, Tok.row]
 by_cases hk : k = 5
 ·try simp only [tt, seval, decide_eq_true hk, hk]
  exact ⟨_, _, by simp [hk], end0 rfl⟩
 ·try simp only [tt, seval, decide_eq_false hk, hk]
  exact ⟨_, _, by simp [hk], end0 rfl⟩
def ShI (L : List Tok) (a i k : Nat) : Prop := (i = a ∧ k = 0) ∨ (a < i ∧ 1 ≤ k ∧ k ≤ i ∧ shutL k i (L.drop i) = shut L a)
def shV (L : List Tok) (a : Nat) : Int := match shut L a with | some j => (j : Nat) | none => -1
set_option maxHeartbeats 2000000 in
theorem l14Shut_d (L : List Tok) (hL : L.length ≤ 1048576) (a : Nat) (ha : a < L.length) (hlp : isLP L[a] = true) : Cl Tryz.prog 131 [.c (.sl L.length (L.flatMap Tok.row) none), vi a] [] fun r _ => r = vi (shV L a) := by
 refine cl_of_d follows_mixed false Tryz.func131 rfl (by kernel_rfl) ?_
 simp only [Tryz.f131, tt, seval]
 refine dLoop.intro (fun f Lo p => ∃ i k : Nat, f 6 = vi i ∧ f 5 = vi k ∧ i ≤ L.length ∧ ShI L a i k ∧ Lo = [] ∧ p = none) (fun f _ _ => (L.length - ixS (f 6)).toNat) [] none ⟨SubO.nil _, PoSub.none _, ?_⟩ ?_
 ·try simp only [tt, seval]
  exact ⟨a, 0, rfl, rfl, by omega, .inl ⟨rfl, rfl⟩⟩
 ·rintro g Lo p ⟨i, k, ix, kx, hi, hI, rfl, rfl⟩
  simp only [tt, seval] at ix kx
  simp only [tt, seval, ix, kx]
  refine fun _ => ?_
  by_cases hlt : i < L.length
  case neg =>
   have f1 : decide ((i : Int) < (L.length : Int)) = false := decide_eq_false (by omega)
   have f2 : ((i : Int) < (L.length : Int)) = False := eq_false (by omega)
   try simp only [tt, seval, f1, f2, ix, kx]
   (try refine And.intro (fun h => absurd h (by omega)) (fun _ => ?_))
   try simp only [tt, seval, ix, kx]
   refine ⟨_, _, ?_, end0 rfl⟩
   obtain ⟨rfl, _⟩ | ⟨h1, h2, h3, h4⟩ := hI
   ·exact absurd ha hlt
   ·have : i = L.length := by omega
    subst this
    rw [List.drop_length] at h4
    unfold shV
    rw [← h4]; rfl
  case pos =>
  have f1 : decide ((i : Int) < (L.length : Int)) = true := decide_eq_true (by omega)
  have f2 : ((i : Int) < (L.length : Int)) = True := eq_true (by omega)
  try simp only [tt, seval, f1, f2, ix, kx]
  (try refine And.intro (fun _ => ?_) (fun h => absurd h (by omega)))
  try simp only [tt, seval, ix, kx]
  have c1 := l14Is_d L[i] ⟨#[40]⟩
  have c2 := l14Is_d L[i] ⟨#[41]⟩
  have e1 : (decide (L[i].kind = 5) && decide (L[i].text = ⟨#[40]⟩)) = isLP L[i] := rfl
  have e2 : (decide (L[i].kind = 5) && decide (L[i].text = ⟨#[41]⟩)) = isRP L[i] := rfl
  rw [e1] at c1
  rw [e2] at c2
  have hx : isLP L[i] = true → isRP L[i] = false := fun h => by
   simp only [isLP, isRP, Bool.and_eq_true, decide_eq_true_eq] at h ⊢
   rw [h.1, h.2]; decide
  have hstep := pc_drop hlt
  have key : ∀ k', (isLP L[i] = true → k' = k + 1) → (isLP L[i] = false → isRP L[i] = true → k ≠ 1 → k' = k - 1 ) → (isLP L[i] = false → isRP L[i] = false → k' = k) → (isLP L[i] = false → isRP L[i] = true → k ≠ 1 ∧ k ≠ 0) → ShI L a (i + 1) k' := by
   intro k' h1 h2 h3 h4
   obtain ⟨rfl, rfl⟩ | ⟨g1, g2, g3, g4⟩ := hI
   ·refine .inr ⟨by omega, ?_, ?_, ?_⟩ <;> rw [h1 hlp]
    ·omega
    ·omega
    ·rfl
   ·rw [hstep] at g4
    cases q1 : isLP L[i] with
    | true => rw [h1 q1]; exact .inr ⟨by omega, by omega, by omega, by rw [← g4, shutL_open q1]⟩
    | false =>
     cases q2 : isRP L[i] with
     | false => rw [h3 q1 q2]; exact .inr ⟨by omega, by omega, by omega, by rw [← g4, shutL_other q1 q2]⟩
     | true =>
      have q3 := h4 q1 q2
      rw [h2 q1 q2 q3.1]
      exact .inr ⟨by omega, by omega, by omega, by rw [← g4, shutL_shut q1 q2, if_neg q3.1]⟩
  have hk0 : isLP L[i] = false → 1 ≤ k := fun h => by
   obtain ⟨rfl, rfl⟩ | ⟨_, h2, _⟩ := hI
   ·rw [hlp] at h; cases h
   ·exact h2
  have hki : k ≤ i := by
   obtain ⟨rfl, rfl⟩ | ⟨_, _, h2, _⟩ := hI
   ·exact Nat.zero_le _
   ·exact h2
  have hfin : isLP L[i] = false → isRP L[i] = true → k = 1 → shV L a = (i : Nat) := fun q1 q2 hk => by
   obtain ⟨rfl, rfl⟩ | ⟨g1, g2, g3, g4⟩ := hI
   ·cases hk
   ·rw [hstep, shutL_shut q1 q2, if_pos hk] at g4
    unfold shV
    rw [← g4]
  have hti : L[i]? = some L[i] := List.getElem?_eq_getElem hlt
  generalize isLP L[i] = b1 at *
  generalize isRP L[i] = b2 at *
  generalize L[i] = t at c1 c2 hti
  refine ⟨by omega, _, drop_row Tok.row_len hti, by simp [Tok.row], ?_⟩
  obtain ⟨tk, tx, ta⟩ := t
  try simp only [tt, seval, ix, kx, Tok.row, lc]
  refine cZ (c1) (by decide) ?_ ?_ <;> simp only [tt, seval, ix, kx, Tok.row]
  have wi : IntKind.i64.wrap ((i : Int) + 1) = ((i + 1 : Nat) : Int) := by rw [wrS i (by omega)]; omega
  have wk : IntKind.i64.wrap ((k : Int) + 1) = ((k + 1 : Nat) : Int) := by rw [wrap_id (n := (k : Int) + 1) (by omega) (by omega)]; omega
  cases b1
  case true =>
   obtain rfl := hx rfl
   try simp only [tt, seval, ix, kx, wk]
   (try refine And.intro (fun _ => ?_) (fun h => by cases h))
   try simp only [tt, seval, ix, kx, wk]
   refine ⟨by omega, by omega, _, drop_row Tok.row_len hti, by simp [Tok.row], ?_⟩
   try simp only [tt, seval, ix, kx, Tok.row, lc]
   refine cZ (c2) (by decide) ?_ ?_ <;> simp only [tt, seval, ix, kx, Tok.row, wi]
   exact ⟨_, none, SubO.nil _, PoSub.none _, ⟨i + 1, k + 1, rfl, rfl, by omega, key _ (fun _ => rfl) (fun h => by cases h) (fun h => by cases h) (fun h => by cases h), rfl, rfl⟩, by simp only [ixS]; omega⟩
  case false =>
   have k1 := hk0 rfl
   try simp only [tt, seval, ix, kx]
   (try refine And.intro (fun h => by cases h) (fun _ => ?_))
   try simp only [tt, seval, ix, kx]
   refine ⟨by omega, by omega, _, drop_row Tok.row_len hti, by simp [Tok.row], ?_⟩
   try simp only [tt, seval, ix, kx, Tok.row, lc]
   refine cZ (c2) (by decide) ?_ ?_ <;> simp only [tt, seval, ix, kx, Tok.row]
   cases b2
   case false =>
    try simp only [tt, seval, ix, kx, wi]
    exact ⟨_, none, SubO.nil _, PoSub.none _, ⟨i + 1, k, rfl, (by first | rfl | exact kx), by omega, key _ (fun h => by cases h) (fun _ h => by cases h) (fun _ _ => rfl) (fun _ h => by cases h), rfl, rfl⟩, by simp only [ixS]; omega⟩
   case true =>
    have wk1 : IntKind.i64.wrap ((k : Int) - 1) = ((k - 1 : Nat) : Int) := by rw [wrap_id (n := (k : Int) - 1) (by omega) (by omega)]; omega
    by_cases hk1 : k = 1
    ·have e0 : (k : Int) - 1 = 0 := by omega
     try simp only [tt, seval, ix, kx, wk1]
     exact And.intro (fun _ => ⟨_, _, by rw [hfin rfl rfl hk1], end0 rfl⟩) (fun h => absurd (by omega) h)
    ·try simp only [tt, seval, ix, kx, wk1]
     refine And.intro (fun h => absurd h (by omega)) (fun _ => ?_)
     rw [wi]
     exact ⟨_, none, SubO.nil _, PoSub.none _, ⟨i + 1, k - 1, rfl, rfl, by omega, key _ (fun h => by cases h) (fun _ _ _ => rfl) (fun _ h => by cases h) (fun _ _ => ⟨hk1, by omega⟩), rfl, rfl⟩, by simp only [ixS]; omega⟩
theorem prsT_succ (L : List Tok) (i : Nat) : ((List.range (i + 1)).filterMap (pairAt L)) = (List.range i).filterMap (pairAt L) ++ (match pairAt L i with | some p => [p] | none => []) := by
 rw [List.range_succ, List.filterMap_append]
 congr 1
 cases h : pairAt L i <;> simp [h]
theorem prow_app (a : List (Nat × Nat)) (i j : Nat) : a.flatMap prow ++ [D.sl 2 [.lit (.int .i64 i), .lit (.int .i64 j)]] = (a ++ [(i, j)]).flatMap prow := by rw [List.flatMap_append]; rfl
set_option maxHeartbeats 4000000 in
theorem PairsOf_d (L : List Tok) (hL : L.length ≤ 1048576) : Cl Tryz.prog 63 [.c (.sl L.length (L.flatMap Tok.row) none)] [] fun r _ => r = .c (.ow 45 (prs L).length ((prs L).flatMap prow) none) := by
 obtain ⟨e17, e19⟩ : kw 17 = ⟨#[73, 78]⟩ ∧ kw 19 = ⟨#[69, 88, 73, 83, 84, 83]⟩ := by constructor <;> rfl
 refine cl_of_d follows_mixed false Tryz.func63 rfl (by kernel_rfl) ?_
 simp only [Tryz.f63, tt, seval]
 refine dLoop.gh [.ren 6 58] ⟨by decide, by decide, ?_⟩
 refine dLoop0.intro (fun f Lo p => ∃ (i : Nat) (ps : List (Nat × Nat)), f 4 = vi i ∧ f 3 = .c (.s 58 ps.length) ∧ i ≤ L.length ∧ ps = (List.range i).filterMap (pairAt L) ∧ Lo = [(58, .arr 45 ps.length (ps.flatMap prow) none)] ∧ p = none) (fun f _ _ => (L.length - ixS (f 4)).toNat) [(58, .arr 45 0 [] none)] none ⟨SubO.cons rfl (SubO.nil _), PoSub.none _, ?_⟩ ?_
 ·simp only [tt, seval]
  exact ⟨0, [], rfl, rfl, Nat.zero_le _, rfl, rfl⟩
 ·rintro g Lo p ⟨i, ps, ix, ox, hi, hps, rfl, rfl⟩
  have hpl : ps.length ≤ i := by rw [hps]; exact Nat.le_trans (List.length_filterMap_le _ _) (by simp)
  have hst := prsT_succ L i
  rw [← hps] at hst
  simp only [tt, seval] at ix ox
  simp only [tt, seval, ix, ox]
  refine fun _ => ?_
  have wi : IntKind.i64.wrap ((i : Int) + 1) = ((i + 1 : Nat) : Int) := by rw [wrS i (by omega)]; omega
  have fin : ∀ qs : List (Nat × Nat), qs = ps ++ (match pairAt L i with | some p => [p] | none => []) → qs = (List.range (i + 1)).filterMap (pairAt L) := fun qs h => by rw [h, hst]
  by_cases hlt : i < L.length
  case neg =>
   have f1 : decide ((i : Int) < (L.length : Int)) = false := decide_eq_false (by omega)
   have f2 : ((i : Int) < (L.length : Int)) = False := eq_false (by omega)
   try simp only [tt, seval, f1, f2, ix, ox]
   (try refine And.intro (fun h => absurd h (by omega)) (fun _ => ?_))
   have : i = L.length := by omega
   subst this
   have hps : ps = prs L := hps
   try simp only [tt, seval, ix, ox]
   refine ⟨.c (.ow 45 ps.length (ps.flatMap prow) none), [], by rw [hps], endOk ?_⟩
   simp only [tt, seval]
  case pos =>
  have f1 : decide ((i : Int) < (L.length : Int)) = true := decide_eq_true (by omega)
  have f2 : ((i : Int) < (L.length : Int)) = True := eq_true (by omega)
  try simp only [tt, seval, f1, f2, ix, ox]
  (try refine And.intro (fun _ => ?_) (fun h => absurd h (by omega)))
  try simp only [tt, seval, ix, ox]
  have hti : L[i]? = some L[i] := List.getElem?_eq_getElem hlt
  have c1 := l14Is_d L[i] ⟨#[40]⟩
  have e1 : (decide (L[i].kind = 5) && decide (L[i].text = ⟨#[40]⟩)) = isLP L[i] := rfl
  rw [e1] at c1
  have c2 := l14Shut_d L hL i hlt
  have hg : grp L i = (isLP L[i] && !pAt L i) := by unfold grp; rw [hti]
  have hpa : pairAt L i = if grp L i = true then (shut L i).map fun j => (i, j) else none := rfl
  have hp0 : i ≠ 0 → pAt L i = isIE (L[i - 1]'(by omega)) := fun h => by
   unfold pAt
   rw [if_neg h, List.getElem?_eq_getElem (by omega)]
  generalize isLP L[i] = b1 at *
  generalize L[i] = t at c1 hti
  refine ⟨by omega, _, drop_row Tok.row_len hti, by simp [Tok.row], ?_⟩
  obtain ⟨tk, tx, ta⟩ := t
  try simp only [tt, seval, ix, ox, Tok.row, lc]
  refine cZ (c1) (by decide) ?_ ?_ <;> simp only [tt, seval, ix, ox, Tok.row]
  cases b1
  case false =>
   try simp only [tt, seval, ix, ox, wi]
   have hn : pairAt L i = none := by rw [hpa, hg]; rfl
   exact ⟨_, none, SubO.cons rfl (SubO.nil _), PoSub.none _, ⟨i + 1, ps, rfl, rfl, by omega, fin ps (by rw [hn]; simp), rfl, rfl⟩, by simp only [ixS]; omega⟩
  case true =>
   try simp only [tt, seval, ix, ox]
   by_cases h0 : i = 0
   case pos =>
    have f0 : decide ((0 : Int) < (i : Int)) = false := decide_eq_false (by omega)
    have hp : pAt L i = false := by rw [h0]; rfl
    try simp only [tt, seval, f0, ix, ox]
    have hgt : grp L i = true := by rw [hg, hp]; rfl
    rw [if_pos hgt] at hpa
    have c2 := c2 rfl
    unfold shV at c2
    cases hs : shut L i
    case none =>
     rw [hs] at c2 hpa
     have hn : pairAt L i = none := hpa
     refine cZ (c2) (by decide) ?_ ?_ <;> simp only [tt, seval, ix, ox]
     try simp only [tt, seval, ix, ox, wi]
     try rw [wi]
     exact ⟨_, none, SubO.cons rfl (SubO.nil _), PoSub.none _, ⟨i + 1, ps, rfl, rfl, by omega, fin ps (by rw [hn]; simp), rfl, rfl⟩, by simp only [ixS]; omega⟩
    case some j =>
     rw [hs] at c2 hpa
     have hn : pairAt L i = some (i, j) := hpa
     refine cZ (c2) (by decide) ?_ ?_ <;> simp only [tt, seval, ix, ox]
     (try refine And.intro (fun _ => ?_) (fun h => absurd (by omega) h))
     try simp only [tt, seval, ix, ox]
     refine ⟨by kernel_rfl, ⟨by simp only [maxLen]; omega, by omega⟩, ?_⟩
     try simp only [tt, seval, ix, ox, wi]
     try rw [wi]
     rw [prow_app, show ps.length + 1 = (ps ++ [(i, j)]).length by simp]
     exact ⟨_, none, SubO.cons rfl (SubO.nil _), PoSub.none _, ⟨i + 1, ps ++ [(i, j)], rfl, rfl, by omega, fin _ (by rw [hn]), rfl, rfl⟩, by simp only [ixS]; omega⟩
   case neg =>
    have f0 : decide ((0 : Int) < (i : Int)) = true := decide_eq_true (by omega)
    have hp := hp0 h0
    have ht2 : L[i - 1]? = some (L[i - 1]'(by omega)) := List.getElem?_eq_getElem (by omega)
    have wj : IntKind.i64.wrap ((i : Int) - 1) = ((i - 1 : Nat) : Int) := by rw [wrap_id (n := (i : Int) - 1) (by omega) (by omega)]; omega
    generalize (L[i - 1]'(by omega)) = u at hp ht2
    obtain ⟨uk, ux, ua⟩ := u
    have hp : pAt L i = (decide (uk = 1) && (decide (ux = ⟨#[73, 78]⟩) || decide (ux = ⟨#[69, 88, 73, 83, 84, 83]⟩))) := by rw [hp, ← e17, ← e19]; rfl
    try simp only [tt, seval, f0, ix, ox, wj]
    refine ⟨by omega, by omega, _, drop_row Tok.row_len ht2, by simp [Tok.row], ?_⟩
    try simp only [tt, seval, ix, ox, Tok.row, lc]
    by_cases hk : uk = 1
    case neg =>
     rw [decide_eq_false hk] at hp
     try simp only [tt, seval, decide_eq_false hk, hk, ix, ox]
     have hgt : grp L i = true := by rw [hg, hp]; rfl
     rw [if_pos hgt] at hpa
     have c2 := c2 rfl
     unfold shV at c2
     cases hs : shut L i
     case none =>
      rw [hs] at c2 hpa
      have hn : pairAt L i = none := hpa
      refine cZ (c2) (by decide) ?_ ?_ <;> simp only [tt, seval, ix, ox]
      try simp only [tt, seval, ix, ox, wi]
      try rw [wi]
      exact ⟨_, none, SubO.cons rfl (SubO.nil _), PoSub.none _, ⟨i + 1, ps, rfl, rfl, by omega, fin ps (by rw [hn]; simp), rfl, rfl⟩, by simp only [ixS]; omega⟩
     case some j =>
      rw [hs] at c2 hpa
      have hn : pairAt L i = some (i, j) := hpa
      refine cZ (c2) (by decide) ?_ ?_ <;> simp only [tt, seval, ix, ox]
      (try refine And.intro (fun _ => ?_) (fun h => absurd (by omega) h))
      try simp only [tt, seval, ix, ox]
      refine ⟨by kernel_rfl, ⟨by simp only [maxLen]; omega, by omega⟩, ?_⟩
      try simp only [tt, seval, ix, ox, wi]
      try rw [wi]
      rw [prow_app, show ps.length + 1 = (ps ++ [(i, j)]).length by simp]
      exact ⟨_, none, SubO.cons rfl (SubO.nil _), PoSub.none _, ⟨i + 1, ps ++ [(i, j)], rfl, rfl, by omega, fin _ (by rw [hn]), rfl, rfl⟩, by simp only [ixS]; omega⟩
    case pos =>
     rw [decide_eq_true hk] at hp
     try simp only [tt, seval, decide_eq_true hk, hk, ix, ox, wj]
     refine ⟨by omega, by omega, _, drop_row Tok.row_len ht2, by simp [Tok.row], ?_⟩
     try simp only [tt, seval, ix, ox, Tok.row, lc]
     by_cases h1 : ux = ⟨#[73, 78]⟩
     case pos =>
      rw [decide_eq_true h1] at hp
      try simp only [tt, seval, decide_eq_true h1, h1, ix, ox, wj]
      have hn : pairAt L i = none := by rw [hpa, hg, hp]; rfl
      try simp only [tt, seval, ix, ox, wi]
      try rw [wi]
      exact ⟨_, none, SubO.cons rfl (SubO.nil _), PoSub.none _, ⟨i + 1, ps, rfl, rfl, by omega, fin ps (by rw [hn]; simp), rfl, rfl⟩, by simp only [ixS]; omega⟩
     case neg =>
      rw [decide_eq_false h1] at hp
      try simp only [tt, seval, decide_eq_false h1, h1, ix, ox, wj]
      refine ⟨by omega, by omega, _, drop_row Tok.row_len ht2, by simp [Tok.row], ?_⟩
      try simp only [tt, seval, ix, ox, Tok.row, lc]
      by_cases h2 : ux = ⟨#[69, 88, 73, 83, 84, 83]⟩
      case pos =>
       rw [decide_eq_true h2] at hp
       try simp only [tt, seval, decide_eq_true h2, h2, ix, ox, wj]
       have hn : pairAt L i = none := by rw [hpa, hg, hp]; rfl
       try simp only [tt, seval, ix, ox, wi]
       try rw [wi]
       exact ⟨_, none, SubO.cons rfl (SubO.nil _), PoSub.none _, ⟨i + 1, ps, rfl, rfl, by omega, fin ps (by rw [hn]; simp), rfl, rfl⟩, by simp only [ixS]; omega⟩
      case neg =>
       rw [decide_eq_false h2] at hp
       try simp only [tt, seval, decide_eq_false h2, h2, ix, ox, wj]
       have hgt : grp L i = true := by rw [hg, hp]; rfl
       rw [if_pos hgt] at hpa
       have c2 := c2 rfl
       unfold shV at c2
       cases hs : shut L i
       case none =>
        rw [hs] at c2 hpa
        have hn : pairAt L i = none := hpa
        refine cZ (c2) (by decide) ?_ ?_ <;> simp only [tt, seval, ix, ox]
        try simp only [tt, seval, ix, ox, wi]
        try rw [wi]
        exact ⟨_, none, SubO.cons rfl (SubO.nil _), PoSub.none _, ⟨i + 1, ps, rfl, rfl, by omega, fin ps (by rw [hn]; simp), rfl, rfl⟩, by simp only [ixS]; omega⟩
       case some j =>
        rw [hs] at c2 hpa
        have hn : pairAt L i = some (i, j) := hpa
        refine cZ (c2) (by decide) ?_ ?_ <;> simp only [tt, seval, ix, ox]
        (try refine And.intro (fun _ => ?_) (fun h => absurd (by omega) h))
        try simp only [tt, seval, ix, ox]
        refine ⟨by kernel_rfl, ⟨by simp only [maxLen]; omega, by omega⟩, ?_⟩
        try simp only [tt, seval, ix, ox, wi]
        try rw [wi]
        rw [prow_app, show ps.length + 1 = (ps ++ [(i, j)]).length by simp]
        exact ⟨_, none, SubO.cons rfl (SubO.nil _), PoSub.none _, ⟨i + 1, ps ++ [(i, j)], rfl, rfl, by omega, fin _ (by rw [hn]), rfl, rfl⟩, by simp only [ixS]; omega⟩
end Go.Proofs.YtoegnikpokgbfaaGreatDoor
set_option maxRecDepth 8000
namespace Go.Proofs.YtoegnikpokgbfaaGreatDoor
open Go Go.Dv Go.Cv
open Go.Vc (D shrI xorI andI)
theorem delAt_len {l : List Tok} {i : Nat} (h : i < l.length) : (delAt l i).length = l.length - 1 := by unfold delAt; rw [List.length_append, List.length_take, List.length_drop]; omega
theorem woP_len {L : List Tok} {k : Nat} (h : k < (prs L).length) : (woP L (k : Int)).length + 2 = L.length := by
 obtain ⟨h1, h2⟩ := prs_bd (List.getElem_mem h)
 have e : woP L (k : Int) = delAt (delAt L (prs L)[k].2) (prs L)[k].1 := by
  unfold woP
  rw [dif_pos (by omega), dif_pos (by omega)]
  rfl
 rw [e, delAt_len (by rw [delAt_len h2]; omega), delAt_len h2]
 omega
end Go.Proofs.YtoegnikpokgbfaaGreatDoor
set_option maxRecDepth 8000
namespace Go.Proofs.YtoegnikpokgbfaaGreatDoor
open Go Go.Dv
open Go.Vc (D shrI xorI andI)
theorem take_tok (L : List Tok) (i : Nat) : (L.flatMap Tok.row).take (i * 3) = (L.take i).flatMap Tok.row := by
 induction L generalizing i with
 | nil => simp
 | cons t L ih =>
  cases i with
  | zero => simp
  | succ i =>
   rw [List.take_succ_cons, List.flatMap_cons, List.flatMap_cons, ← ih, List.take_append, List.take_of_length_le (by rw [Tok.row_len]; omega), Tok.row_len, show (i + 1) * 3 - 3 = i * 3 by omega]
theorem drop_tok (L : List Tok) (i : Nat) : (L.flatMap Tok.row).drop (i * 3) = (L.drop i).flatMap Tok.row := by
 induction L generalizing i with
 | nil => simp
 | cons t L ih =>
  cases i with
  | zero => simp
  | succ i =>
   rw [List.drop_succ_cons, List.flatMap_cons, ← ih, List.drop_append, List.drop_of_length_le (by rw [Tok.row_len]; omega), List.nil_append, Tok.row_len, show (i + 1) * 3 - 3 = i * 3 by omega]
theorem cut_eq {L : List Tok} {a j : Nat} (h : a < j) (hj : j < L.length) : (L.take a ++ (L.take j).drop (a + 1)) ++ L.drop (j + 1) = delAt (delAt L j) a := by
 unfold delAt
 have e1 : (L.take j).length = j := by rw [List.length_take]; omega
 rw [List.take_append, List.drop_append, e1, show a - j = 0 by omega, show a + 1 - j = 0 by omega, List.take_zero, List.append_nil, List.drop_zero, List.take_take, Nat.min_eq_left (by omega), List.append_assoc]
set_option maxHeartbeats 4000000 in
theorem WithoutPair_d (L : List Tok) (hL : L.length ≤ 1048576) (k : Int) : Cl Tryz.prog 64 [.c (.sl L.length (L.flatMap Tok.row) none), vi k] [] fun r _ => r = .c (.ow 61 (woP L k).length ((woP L k).flatMap Tok.row) none) := by
 have c1 := PairsOf_d L hL
 have hpl : (prs L).length ≤ L.length := by
  unfold prs
  exact Nat.le_trans (List.length_filterMap_le _ _) (by simp)
 refine cl_of_d follows_mixed false Tryz.func64 rfl (by kernel_rfl) ?_
 simp only [Tryz.f64, tt, seval]
 refine cZ (c1) (by decide) ?_ ?_ <;> simp only [tt, seval]
 (try refine fun _ => ?_)
 try rw [wrap_id (n := ((prs L).length : Int) - 1) (by omega) (by omega)]
 refine cZ (l1In_d k 0 (((prs L).length : Int) - 1)) (by decide) ?_ ?_ <;> simp only [tt, seval]
 by_cases hk : 0 ≤ k ∧ k ≤ ((prs L).length : Int) - 1
 case neg =>
  have e : woP L k = L := by
   unfold woP
   split
   ·rw [dif_neg (by omega)]
   ·rfl
  rw [e]
  try simp only [tt, seval, decide_eq_false hk]
  refine ⟨by kernel_rfl, flatMap_len Tok.row_len L, ⟨by simp only [maxLen]; omega, by omega⟩, ?_⟩
  rw [Nat.zero_add]
  refine ⟨.c (.ow 61 L.length (L.flatMap Tok.row) none), [], rfl, endOk ?_⟩
  simp only [tt, seval]
 case pos =>
  obtain ⟨kn, rfl⟩ : ∃ kn : Nat, k = kn := ⟨k.toNat, by omega⟩
  have hkn : kn < (prs L).length := by omega
  try simp only [tt, seval, decide_eq_true hk]
  obtain ⟨b1, b2⟩ := prs_bd (List.getElem_mem hkn)
  have ew : woP L (kn : Int) = delAt (delAt L (prs L)[kn].2) (prs L)[kn].1 := by
   unfold woP
   rw [dif_pos (by omega), dif_pos (by omega)]
   rfl
  have hdr := drop_row prow_len (List.getElem?_eq_getElem hkn)
  generalize (prs L)[kn] = q at *
  generalize (prs L).length = n at *
  generalize (prs L).flatMap prow = pd at *
  generalize ((prs L).drop (kn + 1)).flatMap prow = pr at *
  obtain ⟨a, j⟩ := q
  have b1 : a < j := b1
  have b2 : j < L.length := b2
  have hdr : List.drop (kn * 1) pd = D.sl 2 [.lit (.int .i64 (a : Nat)), .lit (.int .i64 (j : Nat))] :: pr := hdr
  have f1 : (0 : Int) ≤ (kn : Int) := by omega
  have f2 : (kn : Int) < (n : Int) := by omega
  have wa : IntKind.i64.wrap ((a : Int) + 1) = ((a + 1 : Nat) : Int) := by rw [wrap_id (n := (a : Int) + 1) (by omega) (by omega)]; omega
  have wj : IntKind.i64.wrap ((j : Int) + 1) = ((j + 1 : Nat) : Int) := by rw [wrap_id (n := (j : Int) + 1) (by omega) (by omega)]; omega
  refine ⟨by omega, by omega, ?_⟩
  simp only [tt, seval, hdr]
  refine ⟨_, rfl, by simp, ?_⟩
  simp only [tt, seval, Int.sub_zero, Int.toNat_natCast]
  refine ⟨by omega, by omega, by kernel_rfl, by rw [take_tok, flatMap_len Tok.row_len, List.length_take]; omega, ⟨by simp only [maxLen]; omega, by omega⟩, ?_⟩
  rw [take_tok, Nat.zero_add]
  refine dDrawn.intro [] (pln [0, 2, 4, 6, 8, 10, 12, 14, 16, 18, 20, 22, 24, 26, 28, 30, 33, 34]) (by kernel_rfl) ?_
  simp only [tt, seval]
  try simp only [tt, seval, hdr, wa, wj]
  refine ⟨by omega, by omega, _, rfl, by simp, ?_⟩
  try simp only [tt, seval, hdr, wa, wj]
  refine ⟨by omega, by omega, _, rfl, by simp, ?_⟩
  try simp only [tt, seval, hdr, wa, wj, Int.toNat_natCast]
  have et : ((j : Int) - ((a + 1 : Nat) : Int)).toNat = j - (a + 1) := by omega
  refine ⟨by omega, by omega, by omega, by kernel_rfl, by rw [et, drop_tok, take_tok, flatMap_len Tok.row_len, List.length_take, List.length_drop]; omega, ⟨by simp only [maxLen]; omega, by omega⟩, by omega, by omega, _, rfl, by simp, ?_⟩
  rw [et, drop_tok, take_tok]
  try simp only [tt, seval, hdr, wa, wj, Int.toNat_natCast]
  have el : ((L.length : Int) - ((j + 1 : Nat) : Int)).toNat = L.length - (j + 1) := by omega
  have eR : (L.take a ++ (L.drop (a + 1)).take (j - (a + 1))) ++ L.drop (j + 1) = woP L (kn : Int) := by
   rw [ew, ← cut_eq b1 b2, List.drop_take]
  have eN : (woP L (kn : Int)).length = a + (j - (a + 1)) + (L.length - (j + 1)) := by
   rw [← eR]
   simp only [List.length_append, List.length_take, List.length_drop]
   omega
  have eF : (woP L (kn : Int)).flatMap Tok.row = (L.take a).flatMap Tok.row ++ ((L.drop (a + 1)).take (j - (a + 1))).flatMap Tok.row ++ (L.drop (j + 1)).flatMap Tok.row := by
   rw [← eR, List.flatMap_append, List.flatMap_append]
  refine ⟨by omega, by omega, by omega, by kernel_rfl, by rw [el, drop_tok, take_tok, flatMap_len Tok.row_len, List.length_take, List.length_drop]; omega, ⟨by simp only [maxLen]; omega, by omega⟩, ?_⟩
  rw [el, drop_tok, take_tok, List.take_of_length_le (l := L.drop (j + 1)) (by rw [List.length_drop]; omega), ← eN, ← eF]
  refine ⟨.c (.ow 61 (woP L (kn : Int)).length ((woP L (kn : Int)).flatMap Tok.row) none), [], rfl, endOk ?_⟩
  simp only [tt, seval]
noncomputable def ndS (L : List Tok) : List Int := if 0 ≤ (takeE L).2 then [] else ndT L (takeE L).1 (prs L).length
set_option maxHeartbeats 4000000 in
theorem Needless_d (L : List Tok) (hL : L.length ≤ 1048576) (hT : ∀ t ∈ L, t.text.size ≤ 1048576) : Cl Tryz.prog 22 [.c (.sl L.length (L.flatMap Tok.row) none)] [] fun r _ => r = .c (.ow 3 (ndS L).length ((ndS L).flatMap irow) none) := by
 have c2 := TakeExpr_d L hL hT
 have c1 := PairsOf_d L hL
 have cw := fun k => WithoutPair_d L hL k
 have ct := fun k => TakeExpr_d (woP L k) (Nat.le_trans (woP_le L k) hL) (fun t ht => hT t (woP_mem ht))
 have cs := fun x => SameExprG x (takeE L).1
 have hni := fun k => @isN_iff L (takeE L).1 k
 have hpl : (prs L).length ≤ L.length := by
  unfold prs
  exact Nat.le_trans (List.length_filterMap_le _ _) (by simp)
 unfold ndS
 generalize (prs L).length = n at *
 generalize (prs L).flatMap prow = pd at *
 generalize (takeE L).2 = bad at *
 generalize (takeE L).1 = x at *
 obtain ⟨ls, hls⟩ : ∃ ls, ls = ndT L x := ⟨_, rfl⟩
 have hl0 : ls 0 = [] := by rw [hls]; rfl
 have hlt : ∀ k, ls (k + 1) = if isN L x k = true then ls k ++ [(k : Int)] else ls k := fun k => by rw [hls]; rfl
 have hll : ∀ k, (ls k).length ≤ k := fun k => by rw [hls]; exact ndT_len L x k
 rw [← hls]
 generalize isN L x = nb at *
 clear hls
 generalize woP L = wo at *
 obtain ⟨k2, p2, n2, v2, q2, m2, ks2, ss2⟩ := x
 simp only [Expr.row_mk, Val.row, lc] at c2 cs
 refine cl_of_d follows_mixed false Tryz.func22 rfl (by kernel_rfl) ?_
 simp only [Tryz.f22, tt, seval]
 try simp only [tt, seval, Expr.row_mk, Val.row, lc]
 refine cZ (c2) (by decide) ?_ ?_ <;> simp only [tt, seval, Expr.row_mk, Val.row, lc]
 refine And.intro (fun hb => ?_) (fun hb => ?_)
 ·rw [if_pos hb]
  refine ⟨.c (.ow 3 0 [] none), [], rfl, endOk ?_⟩
  simp only [tt, seval]
 ·rw [if_neg hb]
  refine cZ (c1) (by decide) ?_ ?_ <;> simp only [tt, seval, Expr.row_mk, Val.row, lc]
  refine dLoop.gh [.ren 10 44] ⟨by decide, by decide, ?_⟩
  refine dLoop0.intro (fun f L' p => ∃ i : Nat, f 7 = vi i ∧ f 3 = .c (.s 44 (ls i).length) ∧ i ≤ n ∧ L' = [(44, .arr 3 (ls i).length ((ls i).flatMap irow) none), (10020, .arr 45 n pd none), (4, .str [.v (.int .i64 k2), .v (.int .i64 p2), .v (.bool n2), .v (.int .i64 v2.kind), .v (.int .i64 v2.num), .v (.string v2.text), .v (.string q2), .v (.string m2), .sl ks2.length (ks2.flatMap Expr.row) none, .sl ss2.length (ss2.flatMap Query.row) none])] ∧ p = none) (fun f _ _ => (n - ixS (f 7)).toNat) [(44, .arr 3 (ls 0).length ((ls 0).flatMap irow) none), (10020, .arr 45 n pd none), (4, .str [.v (.int .i64 k2), .v (.int .i64 p2), .v (.bool n2), .v (.int .i64 v2.kind), .v (.int .i64 v2.num), .v (.string v2.text), .v (.string q2), .v (.string m2), .sl ks2.length (ks2.flatMap Expr.row) none, .sl ss2.length (ss2.flatMap Query.row) none])] none ⟨?_, PoSub.none _, ?_⟩ ?_
  ·rw [hl0]
   simp only [tt, seval]
   exact SubO.cons rfl (SubO.cons rfl (SubO.cons rfl (SubO.nil _)))
  ·rw [hl0]
   simp only [tt, seval]
   exact ⟨0, rfl, by rw [hl0]; rfl, Nat.zero_le _, by rw [hl0]; rfl⟩
  ·rintro g L' p ⟨i, ix, ox, hi, rfl, rfl⟩
   have hlen := hll i
   simp only [tt, seval] at ix ox
   simp only [tt, seval, ix, ox]
   refine fun _ => ?_
   refine And.intro (fun h1 => ?_) (fun hge => ?_)
   ·have h1 : i < n := by omega
    have c3 := ct (i : Int)
    have c4 := cs (takeE (wo (i : Int))).1
    have hi2 := hni (i : Int)
    generalize (takeE (wo (i : Int))).2 = bd at *
    generalize (takeE (wo (i : Int))).1 = x at *
    obtain ⟨k3, p3, n3, v3, q3, m3, ks3, ss3⟩ := x
    simp only [Expr.row_mk, Val.row, lc] at c3 c4
    refine cZ (cw (i : Int)) (by decide) ?_ ?_ <;> simp only [tt, seval, Expr.row_mk, Val.row, lc, ix, ox]
    refine callF [10030] ?_
    simp only [tt, seval, Expr.row_mk, Val.row, lc, ix, ox]
    refine Call1.intro (c3) ?_ ?_ ?_
    ·decide
    ·simp only [tt, seval, Expr.row_mk, Val.row, lc, ix, ox]
    rintro r os rfl hos
    simp only [tt, seval, Expr.row_mk, Val.row, lc, ix, ox]
    obtain rfl := List.eq_nil_of_length_eq_zero hos
    try simp only [tt, seval, Expr.row_mk, Val.row, lc, ix, ox]
    by_cases hb2 : bd < 0
    case neg =>
     have hnb : nb (i : Int) = false := by
      cases h : nb (i : Int) with
      | false => rfl
      | true => exact absurd (hi2.1 h).1 hb2
     try simp only [tt, seval, decide_eq_false hb2, eq_false hb2, Expr.row_mk, Val.row, lc, ix, ox]
     have e := hlt i
     rw [hnb, if_neg (by decide)] at e
     try simp only [tt, seval, Expr.row_mk, Val.row, lc, ix, ox]
     try rw [wrS i (by omega)]
     exact ⟨_, none, SubO.cons rfl (SubO.cons rfl (SubO.cons rfl (SubO.nil _))), PoSub.none _, ⟨i + 1, rfl, by rw [e], by omega, by rw [e], rfl⟩, by simp only [ixS]; omega⟩
    case pos =>
     try simp only [tt, seval, decide_eq_true hb2, eq_true hb2, Expr.row_mk, Val.row, lc, ix, ox]
     refine call0 (c4) ?_ ?_ ?_
     ·decide
     ·simp only [tt, seval, Expr.row_mk, Val.row, lc, ix, ox]
     rintro r ⟨t, rfl, ht⟩
     simp only [tt, seval, Expr.row_mk, Val.row, lc, ix, ox]
     have hnb : nb (i : Int) = t := by
      cases t with
      | false =>
       cases h : nb (i : Int) with
       | false => rfl
       | true => exact absurd (ht.2 (hi2.1 h).2) (by decide)
      | true => exact hi2.2 ⟨hb2, ht.1 rfl⟩
     cases t
     case false =>
      have e := hlt i
      rw [hnb, if_neg (by decide)] at e
      try simp only [tt, seval, Expr.row_mk, Val.row, lc, ix, ox]
      try rw [wrS i (by omega)]
      exact ⟨_, none, SubO.cons rfl (SubO.cons rfl (SubO.cons rfl (SubO.nil _))), PoSub.none _, ⟨i + 1, rfl, by rw [e], by omega, by rw [e], rfl⟩, by simp only [ixS]; omega⟩
     case true =>
      have e := hlt i
      rw [hnb, if_pos rfl] at e
      try simp only [tt, seval, Expr.row_mk, Val.row, lc, ix, ox]
      refine ⟨by kernel_rfl, ⟨by simp only [maxLen]; omega, by omega⟩, ?_⟩
      try simp only [tt, seval, ix, ox]
      try rw [wrS i (by omega)]
      rw [irow_app, show (ls i).length + 1 = (ls i ++ [(i : Int)]).length by simp, ← e]
      exact ⟨_, none, SubO.cons rfl (SubO.cons rfl (SubO.cons rfl (SubO.nil _))), PoSub.none _, ⟨i + 1, rfl, rfl, by omega, rfl, rfl⟩, by simp only [ixS]; omega⟩
   ·have : i = n := by omega
    subst this
    try simp only [tt, seval, ix, ox]
    refine ⟨.c (.ow 3 (ls i).length ((ls i).flatMap irow) none), [], rfl, endOk ?_⟩
    simp only [tt, seval]
end Go.Proofs.YtoegnikpokgbfaaGreatDoor
