/-
  Both trim.
  Conditions: none.
-/
import Derived.Test.YtoegnikpokgbfaaGreatDoorETWt
set_option linter.unusedVariables false
set_option linter.unusedSimpArgs false
set_option linter.unusedSectionVars false
set_option maxRecDepth 8000
namespace Go.Proofs.YtoegnikpokgbfaaGreatDoor
open Go Go.Dv
open Go.Vc (D shrI xorI andI)
theorem tk0 (s : PS) (k : Nat) : tkAt [] s k = none := by
 unfold tkAt
 split
 ·rfl
 ·simp
theorem pE9 {s s' : PS} {x : Expr} (h : pExpr [] 9 s = some (x, s')) : s'.b = true := by
 rw [pExpr_eq 9 (by omega) (by omega)] at h
 unfold stepE primM at h
 simp [isK, isKey, isSg, isT, tk0] at h
 rw [← h.2]; rfl
theorem pE8 {s s' : PS} {x : Expr} (h : pExpr [] 8 s = some (x, s')) : s'.b = true := by
 rw [pExpr_eq 8 (by omega) (by omega)] at h
 unfold stepE at h
 simp [isSg, isT, tk0] at h
 exact pE9 h
theorem pE7 {s s' : PS} {x : Expr} (h : pExpr [] 7 s = some (x, s')) : s'.b = true := by
 rw [pExpr_eq 7 (by omega) (by omega)] at h
 unfold stepE at h
 rw [if_neg (by decide), if_neg (by decide), if_neg (by decide), if_neg (by decide)] at h
 split at h
 ·cases h
 ·rename_i e s1 h1
  have hb := pE8 h1
  have := (OkM.chain (L := []) (pExpr_ok (L := []) 8) 7 _ e _ _ _ h).2.2 hb
  rw [this]; exact hb
theorem pE6 {s s' : PS} {x : Expr} (h : pExpr [] 6 s = some (x, s')) : s'.b = true := by
 rw [pExpr_eq 6 (by omega) (by omega)] at h
 unfold stepE at h
 rw [if_neg (by decide), if_neg (by decide), if_neg (by decide), if_neg (by decide)] at h
 split at h
 ·cases h
 ·rename_i e s1 h1
  have hb := pE7 h1
  have := (OkM.chain (L := []) (pExpr_ok (L := []) 7) 6 _ e _ _ _ h).2.2 hb
  rw [this]; exact hb
theorem pE5 {s s' : PS} {x : Expr} (h : pExpr [] 5 s = some (x, s')) : s'.b = true := by
 rw [pExpr_eq 5 (by omega) (by omega)] at h
 unfold stepE at h
 rw [if_neg (by decide), if_neg (by decide), if_neg (by decide), if_neg (by decide)] at h
 split at h
 ·cases h
 ·rename_i e s1 h1
  have hb := pE6 h1
  have := (OkM.chain (L := []) (pExpr_ok (L := []) 6) 5 _ e _ _ _ h).2.2 hb
  rw [this]; exact hb
theorem op0 (s : PS) (lv : Nat) : opAt [] s lv = 0 := by
 unfold opAt
 generalize opsL lv = l
 induction l with
 | nil => rfl
 | cons a l ih => simp [opIn, opHit, isT, tk0, ih]
theorem pE4 {s s' : PS} {x : Expr} (h : pExpr [] 4 s = some (x, s')) : s'.b = true := by
 rw [pExpr_eq 4 (by omega) (by omega)] at h
 unfold stepE at h
 rw [if_neg (by decide), if_pos rfl] at h
 unfold cmpM at h
 split at h
 ·cases h
 ·rename_i e s1 h1
  have hb := pE5 h1
  rw [if_pos (op0 _ _)] at h
  unfold cmpT at h
  simp [isKey, isT, tk0, tkIf] at h
  rw [← h.2]; exact hb
theorem pE3 {s s' : PS} {x : Expr} (h : pExpr [] 3 s = some (x, s')) : s'.b = true := by
 rw [pExpr_eq 3 (by omega) (by omega)] at h
 unfold stepE at h
 simp [isKey, isT, tk0] at h
 exact pE4 h
theorem pE2 {s s' : PS} {x : Expr} (h : pExpr [] 2 s = some (x, s')) : s'.b = true := by
 rw [pExpr_eq 2 (by omega) (by omega)] at h
 unfold stepE at h
 rw [if_neg (by decide), if_neg (by decide), if_neg (by decide), if_neg (by decide)] at h
 split at h
 ·cases h
 ·rename_i e s1 h1
  have hb := pE3 h1
  have := (OkM.chain (L := []) (pExpr_ok (L := []) 3) 2 _ e _ _ _ h).2.2 hb
  rw [this]; exact hb
theorem pE1 {s s' : PS} {x : Expr} (h : pExpr [] 1 s = some (x, s')) : s'.b = true := by
 rw [pExpr_eq 1 (by omega) (by omega)] at h
 unfold stepE at h
 rw [if_neg (by decide), if_neg (by decide), if_neg (by decide), if_neg (by decide)] at h
 split at h
 ·cases h
 ·rename_i e s1 h1
  have hb := pE2 h1
  have := (OkM.chain (L := []) (pExpr_ok (L := []) 2) 1 _ e _ _ _ h).2.2 hb
  rw [this]; exact hb
theorem takeE_nil : 0 ≤ (takeE []).2 := by
 unfold takeE takeM
 cases h : pExpr [] 1 s0 with
 | none => exact Int.le_refl _
 | some p =>
  obtain ⟨x, s⟩ := p
  have hb := pE1 h
  have he : endM [] s = s.a := by unfold endM; rw [if_neg (by rw [hb]; simp)]
  simp only [he]
  rw [if_pos (by omega)]
  show (0 : Int) ≤ s.a
  omega
noncomputable def trF : Nat → List Tok → List Tok
 | 0, L => L
 | n + 1, L => match ndS L with
  | [] => L
  | k :: _ => trF n (woP L k)
noncomputable def trT (L : List Tok) : List Tok := trF L.length L
theorem ndT_mem {L : List Tok} {e : Expr} : ∀ {n : Nat} {k : Int}, k ∈ ndT L e n → 0 ≤ k ∧ k < n ∧ isN L e k = true
 | 0, k, h => by cases h
 | n + 1, k, h => by
  rw [ndT] at h
  split at h
  ·rename_i hi
   rcases List.mem_append.1 h with h | h
   ·have := ndT_mem h; exact ⟨this.1, by omega, this.2.2⟩
   ·rw [List.mem_singleton.1 h]; exact ⟨by omega, by omega, hi⟩
  ·have := ndT_mem h; exact ⟨this.1, by omega, this.2.2⟩
theorem ndS_mem {L : List Tok} {k : Int} (h : k ∈ ndS L) : 0 ≤ k ∧ k < (prs L).length ∧ (takeE (woP L k)).2 < 0 := by
 unfold ndS at h
 split at h
 ·cases h
 ·obtain ⟨h1, h2, h3⟩ := ndT_mem h
  exact ⟨h1, h2, (isN_iff.1 h3).1⟩
theorem ndS_wo {L : List Tok} {k : Int} (h : k ∈ ndS L) : (woP L k).length + 2 = L.length ∧ woP L k ≠ [] := by
 obtain ⟨h1, h2, h3⟩ := ndS_mem h
 obtain ⟨kn, rfl⟩ : ∃ kn : Nat, k = kn := ⟨k.toNat, by omega⟩
 refine ⟨woP_len (by omega), fun e => ?_⟩
 rw [e] at h3
 have := takeE_nil
 omega
theorem trF_le : ∀ (n : Nat) (L : List Tok), (trF n L).length ≤ L.length
 | 0, _ => Nat.le_refl _
 | n + 1, L => by
  unfold trF
  split
  ·exact Nat.le_refl _
  ·exact Nat.le_trans (trF_le n _) (woP_le L _)
theorem trF_done {n : Nat} {L : List Tok} (h : ndS L = []) : trF n L = L := by
 cases n with
 | zero => rfl
 | succ n => unfold trF; rw [h]
theorem trF_step {n : Nat} {L : List Tok} {k : Int} {r : List Int} (h : ndS L = k :: r) (hn : L.length ≤ n) : trF n L = trF (woP L k).length (woP L k) := by
 have key : ∀ m M, M.length ≤ m → trF m M = trF M.length M := by
  intro m
  induction m with
  | zero => intro M hM; rw [show M.length = 0 by omega]
  | succ m ih =>
   intro M hM
   by_cases e : M.length = m + 1
   ·rw [e]
   ·rw [← ih M (by omega)]
    have : ∀ q N, N.length ≤ q → trF (q + 1) N = trF q N := by
     intro q
     induction q with
     | zero =>
      intro N hN
      have hN0 : N = [] := List.eq_nil_of_length_eq_zero (by omega)
      subst hN0
      have : ndS [] = [] := by unfold ndS; rw [if_pos takeE_nil]
      rw [trF_done this, trF_done this]
     | succ q ih2 =>
      intro N hN
      rw [trF, trF]
      split
      ·rfl
      ·rename_i k2 r2 hk
       exact ih2 _ (by have := (ndS_wo (L := N) (k := k2) (by rw [hk]; simp)).1; omega)
    exact this m M (by omega)
 have hw := (ndS_wo (L := L) (k := k) (by rw [h]; simp)).1
 cases n with
 | zero => omega
 | succ n =>
  rw [trF, h]
  exact key _ _ (by omega)
def lenS : S → Nat
 | .c (.sl n _ _) => n
 | .c (.s _ n) => n
 | _ => 0
theorem ndR_cases {L : List Tok} {r : S} (h : ndR L r) : (0 ≤ (takeE L).2 → r = .c (.v (.slice none 0 0))) ∧ (¬ 0 ≤ (takeE L).2 → ∃ F, r = .c (.ow 3 (ndS L).length ((ndS L).flatMap irow) (some F))) := by
 unfold ndR at h
 unfold ndS
 refine ⟨fun hb => by rw [if_pos hb] at h; exact h, fun hb => by rw [if_neg hb] at h ⊢; exact h⟩
set_option maxHeartbeats 4000000 in
theorem iTrimmed_d (L : List Tok) (hL : L.length ≤ 1048576) (hT : ∀ t ∈ L, t.text.size ≤ 1048576) : Cl Tryz.prog 31 [.c (.sl L.length (L.flatMap Tok.row) none)] [] fun r _ => ∃ F, r = .c (.sl (trT L).length ((trT L).flatMap Tok.row) (some [F])) := by
 refine cl_of_d follows_mixed true Tryz.func31 rfl (by kernel_rfl) ?_
 simp only [Tryz.f31, tt, seval]
 refine call0 (cloneT_t L hL) ?_ ?_ ?_
 ·decide
 ·simp only [tt, seval]
 rintro r ⟨F0, rfl⟩
 simp only [tt, seval]
 refine dLoop.intro (fun f Lo p => ∃ (M : List Tok) (F : List Nat) (Pl : List (List Nat)), f 3 = .c (.sl M.length (M.flatMap Tok.row) (some [F])) ∧ Sb F Pl.flatten ∧ trF M.length M = trT L ∧ M.length ≤ L.length ∧ (∀ t ∈ M, t.text.size ≤ 1048576) ∧ Lo = [] ∧ p = some Pl) (fun f _ _ => lenS (f 3)) [] (some [F0]) ⟨SubO.nil _, ?_, ?_⟩ ?_
 ·exact PoSub.refl _
 ·try simp only [tt, seval]
  exact ⟨L, F0, [F0], rfl, by simpa using Sb.refl F0, rfl, Nat.le_refl _, hT, rfl⟩
 ·rintro g Lo p ⟨M, F, Pl, ox, hF, htr, hMl, hMT, rfl, rfl⟩
  simp only [tt, seval] at ox
  simp only [tt, seval, ox]
  by_cases hb : 0 ≤ (takeE M).2
  case pos =>
   have cn := (iNeedless_d M (by omega) hMT).mono fun r _ h => (ndR_cases h).1 hb
   have hnd : ndS M = [] := by unfold ndS; rw [if_pos hb]
   rw [trF_done hnd] at htr
   refine cZ (cn) (by decide) ?_ ?_ <;> simp only [tt, seval, ox]
   try simp only [tt, seval, ox]
   rw [← htr]
   refine ⟨.c (.sl M.length (M.flatMap Tok.row) (some [F])), [], ⟨F, rfl⟩, endOk ?_⟩
   try simp only [tt, seval]
   try (simpa using hF)
  case neg =>
   have cn := (iNeedless_d M (by omega) hMT).mono fun r _ h => (ndR_cases h).2 hb
   have hst := @trF_step M.length M
   have hdn := @trF_done M.length M
   have hwo := @ndS_wo M
   have hnk := @ndS_mem M
   generalize ndS M = ls at *
   cases ls with
   | nil =>
    rw [hdn rfl] at htr
    refine call0 (cn) ?_ ?_ ?_
    ·decide
    ·simp only [tt, seval, ox]
    rintro r ⟨Fz, rfl⟩
    simp only [tt, seval, ox]
    (try refine fun _ => ?_)
    try simp only [tt, seval, ox]
    rw [← htr]
    refine ⟨.c (.sl M.length (M.flatMap Tok.row) (some [F])), [], ⟨F, rfl⟩, endOk ?_⟩
    try simp only [tt, seval]
    exact fun x => Nat.le_trans (hF x) (by rw [List.flatten_append, List.count_append]; omega)
   | cons k r =>
    have hw := hwo (k := k) (by simp)
    rw [hst rfl (Nat.le_refl _)] at htr
    have ct := iWithoutPair_t M (by omega) k hw.2
    have g1 : decide ((((k :: r).length : Nat) : Int) = 0) = false := decide_eq_false (by simp only [List.length_cons]; omega)
    have g2 : ((((k :: r).length : Nat) : Int) = 0) = False := eq_false (by simp only [List.length_cons]; omega)
    refine call0 (cn) ?_ ?_ ?_
    ·decide
    ·simp only [tt, seval, ox]
    rintro r ⟨Fz, rfl⟩
    simp only [tt, seval, ox]
    (try refine fun _ => ?_)
    try simp only [tt, seval, ox]
    refine And.intro (fun h => absurd h (by omega)) (fun _ => ⟨by omega, ?_⟩)
    refine call0 (ct) ?_ ?_ ?_
    ·decide
    ·simp only [tt, seval, ox]
    rintro r ⟨F2, rfl⟩
    simp only [tt, seval, ox]
    refine ⟨_, _, SubO.nil _, PoSub.refl _, ⟨woP M k, F2, _, rfl, ?_, htr, by omega, fun t ht => hMT t (woP_mem ht), rfl, rfl⟩, by simp only [lenS, ox]; omega⟩
    exact fun x => by simp only [List.flatten_append, List.flatten_cons, List.flatten_nil, List.append_nil, List.count_append]; omega
set_option maxHeartbeats 4000000 in
theorem Trimmed_d (L : List Tok) (hL : L.length ≤ 1048576) (hT : ∀ t ∈ L, t.text.size ≤ 1048576) : Cl Tryz.prog 30 [.c (.sl L.length (L.flatMap Tok.row) none)] [] fun r _ => r = .c (.sl (trT L).length ((trT L).flatMap Tok.row) none) := by
 refine cl_of_d follows_mixed false Tryz.func30 rfl (by kernel_rfl) ?_
 simp only [Tryz.f30, tt, seval]
 refine ⟨by kernel_rfl, flatMap_len Tok.row_len L, ⟨by simp only [maxLen]; omega, by omega⟩, ?_⟩
 rw [Nat.zero_add]
 refine dLoop.gh [.ren 7 10018] ⟨by decide, by decide, ?_⟩
 refine dLoop0.intro (fun f Lo p => ∃ M : List Tok, f 3 = .c (.s 10018 M.length) ∧ trF M.length M = trT L ∧ M.length ≤ L.length ∧ (∀ t ∈ M, t.text.size ≤ 1048576) ∧ Lo = [(10018, .arr 61 M.length (M.flatMap Tok.row) none)] ∧ p = none) (fun f _ _ => lenS (f 3)) [(10018, .arr 61 L.length (L.flatMap Tok.row) none)] none ⟨SubO.cons rfl (SubO.nil _), PoSub.none _, ?_⟩ ?_
 ·try simp only [tt, seval]
  exact ⟨L, rfl, rfl, Nat.le_refl _, hT, rfl⟩
 ·rintro g Lo p ⟨M, ox, htr, hMl, hMT, rfl, rfl⟩
  simp only [tt, seval] at ox
  simp only [tt, seval, ox]
  have cn := Needless_d M (by omega) hMT
  have hst := @trF_step M.length M
  have hdn := @trF_done M.length M
  have hwo := @ndS_wo M
  generalize ndS M = ls at *
  refine callF [10018] ?_
  simp only [tt, seval, ox]
  refine Call1.intro (cn) ?_ ?_ ?_
  ·decide
  ·simp only [tt, seval, ox]
  rintro r os rfl hos
  simp only [tt, seval, ox]
  obtain rfl := List.eq_nil_of_length_eq_zero hos
  try simp only [tt, seval, ox]
  (try refine fun _ => ?_)
  cases ls with
  | nil =>
   rw [hdn rfl] at htr
   try simp only [tt, seval, ox]
   (try refine fun _ => ?_)
   try simp only [tt, seval, ox]
   rw [← htr]
   refine ⟨.c (.sl M.length (M.flatMap Tok.row) none), [], rfl, endOk ?_⟩
   try simp only [tt, seval]
  | cons k r =>
   have hw := hwo (k := k) (by simp)
   rw [hst rfl (Nat.le_refl _)] at htr
   have ct := WithoutPair_d M (by omega) k
   try simp only [tt, seval, ox]
   (try refine fun _ => ?_)
   try simp only [tt, seval, ox]
   refine And.intro (fun h => absurd h (by omega)) (fun _ => ⟨by omega, ?_⟩)
   refine cZ (ct) (by decide) ?_ ?_ <;> simp only [tt, seval, ox]
   refine ⟨_, none, SubO.cons rfl (SubO.nil _), PoSub.none _, ⟨woP M k, rfl, htr, by omega, fun t ht => hMT t (woP_mem ht), rfl, rfl⟩, by simp only [lenS]; omega⟩
end Go.Proofs.YtoegnikpokgbfaaGreatDoor
