/-
  The tokens of a catalog.
  Conditions: none.
-/
import Derived.Test.YtijldlppojdehaaGreatDoorDNX
import Derived.Test.YtijldlppojdehaaGreatDoorDNC
set_option linter.unusedVariables false
set_option linter.unusedSimpArgs false
set_option linter.unusedSectionVars false
set_option maxRecDepth 8000
namespace Go.Proofs.YtijldlppojdehaaGreatDoor
open Go Go.Dv
open Go.Vc (D shrI xorI andI and255)
def wANY : ByteArray := ⟨#[65, 78, 89]⟩
def wINT : ByteArray := ⟨#[73, 78, 84]⟩
def wTEXT : ByteArray := ⟨#[84, 69, 88, 84]⟩
def wBOOL : ByteArray := ⟨#[66, 79, 79, 76]⟩
def cgT (ty : Int) : ByteArray := if ty = 0 then wANY else if ty = 1 then wINT else if ty = 2 then wTEXT else if ty = 3 then wBOOL else ⟨#[]⟩
def cgS (w : ByteArray) : Int := if w = wINT then 1 else if w = wTEXT then 2 else if w = wBOOL then 3 else 0
def cgI (w : ByteArray) : Int := if w = ⟨#[]⟩ then 0 else if w = wINT then 1 else if w = wTEXT then 2 else if w = wBOOL then 3 else -1
theorem cg_same {w : ByteArray} (h : 1 ≤ cgS w ∨ 1 ≤ cgI w) : cgS w = cgI w := by
 by_cases h0 : w = ⟨#[]⟩
 ·subst h0
  rcases h with h | h
  ·exact absurd h (by decide)
  ·exact absurd h (by decide)
 unfold cgS cgI at *
 rw [if_neg h0] at *
 split
 ·rfl
 split
 ·rfl
 split
 ·rfl
 rename_i h1 h2 h3
 simp only [if_neg h1, if_neg h2, if_neg h3] at h
 omega
section
variable (L : List Tok)
def colP (s : PS) : (ByteArray × ByteArray) × PS := (((mText L 2 s).1, (mText L 2 (mText L 2 s).2).1), (mText L 2 (mText L 2 s).2).2)
def rdCols : Nat → PS → List (ByteArray × ByteArray) × PS
 | 0, s => ([], s)
 | n + 1, s => if isSg L (colP L s).2 44 = true then ((colP L s).1 :: (rdCols n (adv (colP L s).2)).1, (rdCols n (adv (colP L s).2)).2) else ([(colP L s).1], (colP L s).2)
def tabS (s : PS) : PS := must (isSg L (mText L 2 s).2 40) (mText L 2 s).2
def colsS (s : PS) : List (ByteArray × ByteArray) × PS := rdCols L (L.length + 1) (tabS L s)
def rdTab (s : PS) : (ByteArray × List (ByteArray × ByteArray)) × PS := (((mText L 2 s).1, (colsS L s).1), must (isSg L (colsS L s).2 41) (colsS L s).2)
def comS (i : Nat) (s : PS) : PS := if 0 < i then must (isSg L s 44) s else s
def rdCat : Nat → Nat → PS → List (ByteArray × List (ByteArray × ByteArray)) × PS
 | 0, _, s => ([], s)
 | n + 1, i, s => if s.b = false ∧ s.a < L.length then ((rdTab L (comS L i s)).1 :: (rdCat n (i + 1) (rdTab L (comS L i s)).2).1, (rdCat n (i + 1) (rdTab L (comS L i s)).2).2) else ([], s)
def rdAll : List (ByteArray × List (ByteArray × ByteArray)) × PS := rdCat L (L.length + 1) 0 ⟨0, false⟩
variable {L}
theorem colP_ok (s : PS) : Ok L s (colP L s).2 := (Ok.mText 2 s).trans (Ok.mText 2 _)
theorem rdCols_ok (n : Nat) : ∀ s, Ok L s (rdCols L n s).2 := by
 induction n with
 | zero => exact fun s => Ok.refl L s
 | succ n ih =>
  intro s
  rw [rdCols]
  split
  ·rename_i h
   exact (colP_ok s).trans ((Ok.adv (isSg_lt h)).trans (ih _))
  ·exact colP_ok s
theorem tabS_ok (s : PS) : Ok L s (tabS L s) := (Ok.mText 2 s).trans (Ok.must fun h => isSg_lt h)
theorem colsS_ok (s : PS) : Ok L s (colsS L s).2 := (tabS_ok s).trans (rdCols_ok _ _)
theorem rdTab_ok (s : PS) : Ok L s (rdTab L s).2 := (colsS_ok s).trans (Ok.must fun h => isSg_lt h)
theorem comS_ok (i : Nat) (s : PS) : Ok L s (comS L i s) := by
 unfold comS
 split
 ·exact Ok.must fun h => isSg_lt h
 ·exact Ok.refl L s
theorem Ok.nb' {s s' : PS} (h : Ok L s s') (hb : s'.b = false) : s.b = false := by
 cases e : s.b with
 | false => rfl
 | true => rw [h.2.2 e] at hb; rw [hb] at e; cases e
theorem rdTab_lt {s : PS} (h : (rdTab L s).2.b = false) : s.a < (rdTab L s).2.a := by
 have h1 := (Ok.must (c := isSg L (colsS L s).2 41) fun h => isSg_lt h).nb' h
 have h2 : (colsS L s).2.a < (rdTab L s).2.a := by
  show (colsS L s).2.a < (must (isSg L (colsS L s).2 41) (colsS L s).2).a
  have h : (must (isSg L (colsS L s).2 41) (colsS L s).2).b = false := h
  unfold must at h ⊢
  split
  ·exact Nat.lt_succ_self _
  ·rename_i hc; rw [if_neg hc] at h; cases h
 exact Nat.lt_of_le_of_lt (colsS_ok s).1 h2
theorem rdCols_len (n : Nat) : ∀ s, (rdCols L n s).1.length ≤ n := by
 induction n with
 | zero => exact fun s => Nat.le_refl _
 | succ n ih =>
  intro s
  rw [rdCols]
  split
  ·have := ih (adv (colP L s).2); simp only [List.length_cons]; omega
  ·simp
theorem rdCat_cols (n : Nat) : ∀ i s, ∀ t ∈ (rdCat L n i s).1, t.2.length ≤ L.length + 1 := by
 induction n with
 | zero => exact fun _ s t ht => by cases ht
 | succ n ih =>
  intro i s t ht
  rw [rdCat] at ht
  split at ht
  ·rcases List.mem_cons.1 ht with rfl | ht
   ·exact rdCols_len _ _
   ·exact ih _ _ t ht
  ·cases ht
end
def cgCol (f : ByteArray → Int) (c : ByteArray × ByteArray) : Col := .mk c.1 (f c.2)
def cgTab (f : ByteArray → Int) (x : ByteArray × List (ByteArray × ByteArray)) : Table := .mk x.1 (x.2.map (cgCol f))
def colT (c : Col) : List Tok := [nT c.name, nT (cgT c.ty)]
def colF (l : List Col) (i : Nat) : List Tok := cmL i ++ atL l colT i
def tabT (t : Table) : List Tok := nT t.name :: gT ⟨#[40]⟩ :: (seqN (colF t.cols) t.cols.length ++ [gT ⟨#[41]⟩])
def catF (l : List Table) (i : Nat) : List Tok := cmL i ++ atL l tabT i
def catT (l : List Table) : List Tok := seqN (catF l) l.length
def tokE (b : List Tok) (i : Nat) (x : Tok) : Bool := match b[i]? with | some y => decide (x.kind = y.kind) && decide (x.text = y.text) | none => false
def sameT (a b : List Tok) : Bool := decide (a.length = b.length) && allI (tokE b) a
def catR (L : List Tok) (f : ByteArray → Int) : Option (List Table) :=
 if (rdAll L).2.b = false ∧ catOk ((rdAll L).1.map (cgTab f)) = true ∧ sameT (catT ((rdAll L).1.map (cgTab f))) L = true then some ((rdAll L).1.map (cgTab f)) else none
theorem allI_get {α : Type} {p : Nat → α → Bool} {l : List α} (h : allI p l = true) (i : Nat) (hi : i < l.length) : p i l[i] = true := by
 cases e : p i l[i] with
 | true => rfl
 | false => rw [allI_false hi e] at h; cases h
theorem catOk_tab {l : List Table} (h : catOk l = true) : l.length ≤ 4 ∧ ∀ t ∈ l, t.cols.length ≤ 4 ∧ ∀ c ∈ t.cols, 1 ≤ c.ty ∧ c.ty ≤ 3 := by
 unfold catOk at h
 simp only [Bool.and_eq_true, decide_eq_true_eq] at h
 refine ⟨h.1, fun t ht => ?_⟩
 obtain ⟨i, hi, rfl⟩ := List.mem_iff_getElem.1 ht
 have h2 := allI_get h.2 i hi
 simp only [Bool.and_eq_true, tabOk, decide_eq_true_eq] at h2
 refine ⟨h2.1.1.2.2, fun c hc => ?_⟩
 obtain ⟨j, hj, rfl⟩ := List.mem_iff_getElem.1 hc
 have h3 := allI_get h2.1.2 j hj
 simp only [Bool.and_eq_true, colOk, decide_eq_true_eq] at h3
 exact h3.1.2
theorem cgTabs_eq {f g : ByteArray → Int} (hfg : ∀ w, 1 ≤ f w → f w = g w) {l : List (ByteArray × List (ByteArray × ByteArray))} (h : catOk (l.map (cgTab f)) = true) : l.map (cgTab f) = l.map (cgTab g) := by
 have hk := (catOk_tab h).2
 refine List.map_congr_left fun x hx => ?_
 have h1 := (hk _ (List.mem_map_of_mem hx)).2
 unfold cgTab
 congr 1
 refine List.map_congr_left fun c hc => ?_
 have h2 := h1 (cgCol f c) (List.mem_map_of_mem hc)
 unfold cgCol
 congr 1
 exact hfg _ h2.1
theorem catR_some {L : List Tok} {f g : ByteArray → Int} (hfg : ∀ w, 1 ≤ f w → f w = g w) {t : List Table} (h : catR L f = some t) : catR L g = some t := by
 unfold catR at h ⊢
 split at h
 ·rename_i hc
  have e := cgTabs_eq hfg hc.2.1
  rw [e] at hc h
  rw [if_pos hc]
  exact h
 ·cases h
theorem catR_eq (L : List Tok) : catR L cgS = catR L cgI := by
 cases h : catR L cgS with
 | some t => exact (catR_some (fun w hw => cg_same (Or.inl hw)) h).symm
 | none =>
  cases k : catR L cgI with
  | none => rfl
  | some t => rw [catR_some (fun w hw => (cg_same (Or.inr hw)).symm) k] at h; cases h
theorem seqN_le {f : Nat → List Tok} {n k : Nat} (h : ∀ i, i < n → (f i).length ≤ k) : (seqN f n).length ≤ n * k := by
 induction n with
 | zero => exact Nat.le_of_eq (by rw [seqN_zero]; simp)
 | succ n ih =>
  have h1 := ih fun i hi => h i (by omega)
  have h2 := h n (Nat.lt_succ_self _)
  rw [seqN_succ, List.length_append, Nat.succ_mul]
  omega
theorem cmL_len (i : Nat) : (cmL i).length ≤ 1 := by unfold cmL; split <;> simp
theorem colF_len {l : List Col} (i : Nat) : (colF l i).length ≤ 3 := by
 unfold colF
 rw [List.length_append]
 have := cmL_len i
 unfold atL
 split
 ·simp only [colT, List.length_cons, List.length_nil]; omega
 ·simp only [List.length_nil]; omega
theorem tabT_len {t : Table} (h : t.cols.length ≤ 4) : (tabT t).length ≤ 15 := by
 unfold tabT
 have := seqN_le (f := colF t.cols) (n := t.cols.length) (k := 3) fun i _ => colF_len i
 simp only [List.length_cons, List.length_append, List.length_nil]
 omega
theorem catF_len {l : List Table} (h : ∀ t ∈ l, t.cols.length ≤ 4) (i : Nat) : (catF l i).length ≤ 16 := by
 unfold catF
 rw [List.length_append]
 have := cmL_len i
 unfold atL
 split
 ·rename_i x hx
  have := tabT_len (h x (List.mem_of_getElem? hx))
  omega
 ·simp only [List.length_nil]; omega
theorem catT_len {l : List Table} (hl : l.length ≤ 4) (h : ∀ t ∈ l, t.cols.length ≤ 4) : (catT l).length ≤ 64 := by
 have := seqN_le (f := catF l) (n := l.length) (k := 16) fun i _ => catF_len h i
 unfold catT
 omega
theorem TypeText_d (ty : Int) : Cl Tryz.prog 91 [vi ty] [] fun r _ => r = vs (cgT ty) := by
 obtain ⟨z, hz⟩ : ∃ z, z = cgT ty := ⟨_, rfl⟩
 rw [← hz]
 have hout : ¬ (0 ≤ ty ∧ ty ≤ 3) → z = ⟨#[]⟩ := fun h => by rw [hz, cgT, if_neg (by omega), if_neg (by omega), if_neg (by omega), if_neg (by omega)]
 refine cl_of_d follows_mixed false Tryz.func91 rfl (by kernel_rfl) ?_
 simp only [Tryz.f91, tt, seval]
 refine cZ (l1In_d ty 0 3) (by decide) ?_ ?_ <;> simp only [tt, seval]
 by_cases hb : (0 : Int) ≤ ty ∧ ty ≤ 3
 case neg =>
  try simp only [tt, seval, decide_eq_false hb, hb]
  exact ⟨_, _, by rw [hout hb], end0 rfl⟩
 try simp only [tt, seval, decide_eq_true hb, hb]
 have h4 : ty = 0 ∨ ty = 1 ∨ ty = 2 ∨ ty = 3 := by omega
 rcases h4 with rfl | rfl | rfl | rfl
 all_goals (rw [show cgT _ = _ from rfl] at hz; subst hz; try simp only [tt, seval])
 all_goals exact ⟨_, _, rfl, end0 rfl⟩
theorem iTypeText_d (ty : Int) : Cl Tryz.prog 103 [vi ty] [] fun r _ => r = vs (cgT ty) := by
 obtain ⟨z, hz⟩ : ∃ z, z = cgT ty := ⟨_, rfl⟩
 rw [← hz]
 have hout : ¬ (0 ≤ ty ∧ ty ≤ 3) → z = ⟨#[]⟩ := fun h => by rw [hz, cgT, if_neg (by omega), if_neg (by omega), if_neg (by omega), if_neg (by omega)]
 refine cl_of_d follows_mixed false Tryz.func103 rfl (by kernel_rfl) ?_
 simp only [Tryz.f103, tt, seval]
 by_cases h1 : ty < 0
 ·try simp only [tt, seval, h1, decide_true]
  exact ⟨_, _, by rw [hout (by omega)], end0 rfl⟩
 try simp only [tt, seval, h1, decide_eq_false h1]
 by_cases h2 : ty > 3
 ·try simp only [tt, seval, h2, decide_true, decide_eq_true h2]
  exact ⟨_, _, by rw [hout (by omega)], end0 rfl⟩
 try simp only [tt, seval, h2, decide_eq_false h2]
 have h4 : ty = 0 ∨ ty = 1 ∨ ty = 2 ∨ ty = 3 := by omega
 rcases h4 with rfl | rfl | rfl | rfl
 all_goals (rw [show cgT _ = _ from rfl] at hz; subst hz; try simp only [tt, seval])
 all_goals exact ⟨_, _, rfl, end0 rfl⟩
theorem cgT_ne {k : Nat} {w : ByteArray} (h1 : 1 ≤ k) (h3 : k ≤ 3) (h : cgT k = w) (hn : ∀ j : Nat, 1 ≤ j → j < k → cgT j ≠ w) : cgS w = k := by
 have : k = 1 ∨ k = 2 ∨ k = 3 := by omega
 rcases this with rfl | rfl | rfl
 ·subst h; rfl
 ·subst h; rfl
 ·subst h; rfl
theorem cgS_none {w : ByteArray} (hn : ∀ j : Nat, 1 ≤ j → j < 4 → cgT j ≠ w) : cgS w = 0 := by
 have h1 : ¬ w = wINT := fun h => hn 1 (by omega) (by omega) h.symm
 have h2 : ¬ w = wTEXT := fun h => hn 2 (by omega) (by omega) h.symm
 have h3 : ¬ w = wBOOL := fun h => hn 3 (by omega) (by omega) h.symm
 rw [cgS, if_neg h1, if_neg h2, if_neg h3]
theorem l16Type_d (w : ByteArray) : Cl Tryz.prog 85 [vs w] [] fun r _ => r = vi (cgS w) := by
 obtain ⟨z, hz⟩ : ∃ z, z = cgS w := ⟨_, rfl⟩
 rw [← hz]
 refine cl_of_d follows_mixed false Tryz.func85 rfl (by kernel_rfl) ?_
 simp only [Tryz.f85, tt, seval]
 refine dLoop.intro (fun f L p => ∃ k : Nat, f 3 = vi k ∧ 1 ≤ k ∧ k ≤ 4 ∧ (∀ j : Nat, 1 ≤ j → j < k → cgT j ≠ w) ∧ L = [] ∧ p = none) (fun f _ _ => (4 - ixS (f 3)).toNat) [] none ⟨SubO.nil _, PoSub.none _, ?_⟩ ?_
 ·simp only [tt, seval]
  exact ⟨1, rfl, Nat.le_refl _, by omega, fun j h1 h2 => by omega⟩
 ·rintro g L p ⟨k, kx, h1, h4, hn, rfl, rfl⟩
  simp only [tt, seval] at kx
  simp only [tt, seval, kx]
  refine And.intro (fun hle => ?_) (fun hgt => ?_)
  ·have h3 : k ≤ 3 := by omega
   try simp only [tt, seval, kx]
   refine cZ (TypeText_d k) (by decide) ?_ ?_ <;> simp only [tt, seval, kx]
   by_cases h : cgT k = w
   ·try simp only [tt, seval, h, kx, decide_true]
    try refine And.intro (fun _ => ?_) (fun h => absurd rfl h)
    exact ⟨_, _, viE (by rw [hz, cgT_ne h1 h3 h hn]), end0 rfl⟩
   ·try simp only [tt, seval, h, kx, decide_eq_false h]
    try refine And.intro (fun h' => absurd h' h) (fun _ => ?_)
    rw [wrap_id (n := (k : Int) + 1) (by omega) (by omega)]
    exact ⟨_, none, SubO.nil _, PoSub.none _, ⟨k + 1, rfl, by omega, by omega, fun j h1 h2 => by
     by_cases e : j = k
     ·subst e; exact h
     ·exact hn j h1 (by omega), rfl, rfl⟩, by simp only [ixS]; omega⟩
  ·have h4' : k = 4 := by omega
   subst h4'
   try simp only [tt, seval, kx]
   exact ⟨_, _, viE (by rw [hz, cgS_none hn]), end0 rfl⟩
def wordL : List ByteArray := [⟨#[]⟩, wINT, wTEXT, wBOOL]
theorem plO_words (w : ByteArray) : plO (fun x => decide (x = w)) wordL = cgI w := by
 unfold cgI
 split
 ·rename_i h; subst h; rfl
 split
 ·rename_i h; subst h; rfl
 split
 ·rename_i h; subst h; rfl
 split
 ·rename_i h; subst h; rfl
 rename_i h0 h1 h2 h3
 refine plO_none fun j hj => ?_
 have hj : j < 4 := hj
 have : j = 0 ∨ j = 1 ∨ j = 2 ∨ j = 3 := by omega
 rcases this with rfl | rfl | rfl | rfl
 ·exact decide_eq_false (Ne.symm h0)
 ·exact decide_eq_false (Ne.symm h1)
 ·exact decide_eq_false (Ne.symm h2)
 ·exact decide_eq_false (Ne.symm h3)
theorem IndexT_d (l : List ByteArray) (w : ByteArray) (hl : l.length ≤ 1048576) : Cl Tryz.prog 56 [.c (.sl l.length (l.flatMap srow) none), vs w] [] fun r _ => r = vi (plO (fun x => decide (x = w)) l) := by
 obtain ⟨z, hz⟩ : ∃ z, z = plO (fun x => decide (x = w)) l := ⟨_, rfl⟩
 rw [← hz]
 refine cl_of_d follows_mixed false Tryz.func56 rfl (by kernel_rfl) ?_
 simp only [Tryz.f56, tt, seval]
 refine fun _ => ?_
 refine dLoop.intro (fun f L p => ∃ i : Nat, f 8 = vi i ∧ i ≤ l.length ∧ (∀ j (hj : j < l.length), j < i → l[j] ≠ w) ∧ L = [] ∧ p = none) (fun f _ _ => (l.length - ixS (f 8)).toNat) [] none ⟨SubO.nil _, PoSub.none _, ?_⟩ ?_
 ·simp only [tt, seval]
  exact ⟨0, rfl, Nat.zero_le _, fun j _ h => absurd h (Nat.not_lt_zero _)⟩
 ·rintro g L p ⟨i, ix, hi, hal, rfl, rfl⟩
  simp only [tt, seval] at ix
  simp only [tt, seval, ix, Int.ofNat_lt]
  refine And.intro (fun hlt => ?_) (fun hge => ?_)
  ·have hlt : i < l.length := by omega
   obtain ⟨x, hx⟩ : ∃ x, x = l[i] := ⟨_, rfl⟩
   refine ⟨by omega, by omega, _, drop_row srow_len (List.getElem?_eq_getElem hlt), by simp [srow], ?_⟩
   rw [← hx]
   simp only [tt, seval, ix, srow, lc]
   by_cases h : w = x
   ·try simp only [tt, seval, h, decide_true]
    try refine And.intro (fun _ => ?_) (fun h => absurd rfl h)
    exact ⟨_, _, viE (by rw [hz]; exact (plO_hit hlt (by rw [← hx]; exact decide_eq_true h.symm) fun j hj hji => decide_eq_false (hal j hj hji)).symm), end0 rfl⟩
   ·try simp only [tt, seval, h, decide_eq_false h]
    try refine And.intro (fun h' => absurd h' h) (fun _ => ?_)
    rw [wrS i (by omega)]
    exact ⟨_, none, SubO.nil _, PoSub.none _, ⟨i + 1, rfl, by omega, fun j hj hji => by
     by_cases e : j = i
     ·subst e; rw [← hx]; exact Ne.symm h
     ·exact hal j hj (by omega), rfl, rfl⟩, by simp only [ixS]; omega⟩
  ·try simp only [tt, seval]
   exact ⟨_, _, viE (by rw [hz]; exact (plO_none (l := l) fun j hj => decide_eq_false (hal j hj (by omega))).symm), end0 rfl⟩
set_option maxHeartbeats 2000000 in
theorem SameTokens_d (a b : List Tok) (ha : a.length ≤ 1048576) (hb : b.length ≤ 1048576) : Cl Tryz.prog 51 [.c (.sl (a).length ((a).flatMap Tok.row) none), .c (.sl (b).length ((b).flatMap Tok.row) none)] [] fun r _ => r = vb (sameT a b) := by
 obtain ⟨z, hz⟩ : ∃ z, z = sameT a b := ⟨_, rfl⟩
 rw [← hz]
 rw [sameT] at hz
 refine cl_of_d follows_mixed false Tryz.func51 rfl (by kernel_rfl) ?_
 simp only [Tryz.f51, tt, seval]
 refine fun _ _ => And.intro (fun hab => ?_) (fun hab => ?_)
 ·have hab' : ¬ a.length = b.length := by simpa [Int.ofNat_inj] using hab
  exact ⟨_, _, vbE (by rw [hz, decide_eq_false hab']; rfl), end0 rfl⟩
 have hab : a.length = b.length := by simpa [Int.ofNat_inj] using hab
 refine dLoop.intro (fun f L p => ∃ i : Nat, f 5 = vi i ∧ i ≤ a.length ∧ (∀ j (hj : j < a.length), j < i → tokE b j a[j] = true) ∧ L = [] ∧ p = none) (fun f _ _ => (a.length - ixS (f 5)).toNat) [] none ⟨SubO.nil _, PoSub.none _, ?_⟩ ?_
 ·simp only [tt, seval]
  exact ⟨0, rfl, Nat.zero_le _, fun j _ h => absurd h (Nat.not_lt_zero _)⟩
 rintro g L p ⟨i, ix, hi, hal, rfl, rfl⟩
 simp only [tt, seval] at ix
 simp only [tt, seval, ix, Int.ofNat_lt]
 refine fun _ => And.intro (fun hlt => ?_) (fun hge => ?_)
 ·have hlt : i < a.length := by omega
  have hlb : i < b.length := by omega
  obtain ⟨x, hx⟩ : ∃ x, x = a[i] := ⟨_, rfl⟩
  obtain ⟨y, hy⟩ : ∃ y, y = b[i] := ⟨_, rfl⟩
  have hco : tokE b i x = (decide (x.kind = y.kind) && decide (x.text = y.text)) := by rw [tokE, List.getElem?_eq_getElem hlb, ← hy]
  have hno : tokE b i x = false → z = false := fun h => by rw [hz, decide_eq_true hab, allI_false hlt (by rw [← hx]; exact h)]; rfl
  have hyes : tokE b i x = true → ∀ j (hj : j < a.length), j < i + 1 → tokE b j a[j] = true := fun h j hj hji => by
   by_cases e : j = i
   ·subst e; rw [← hx]; exact h
   ·exact hal j hj (by omega)
  obtain ⟨xk, xt, xa⟩ := x
  obtain ⟨yk, yt, ya⟩ := y
  refine dDrawn.intro [] (pln [0, 2, 4, 6, 8, 10, 12, 14, 16, 18, 20, 22, 24, 26, 28, 30, 32, 34, 36, 38, 40, 42, 44, 46]) (by kernel_rfl) ?_
  simp only [tt, seval]
  all_goals try simp only [tt, seval, ix]
  refine ⟨by omega, by omega, _, drop_row Tok.row_len (List.getElem?_eq_getElem hlt), Tok.ne _ _, ?_⟩
  rw [← hx]
  try simp only [tt, seval, ix, Tok.row, lc]
  refine ⟨by omega, by omega, _, drop_row Tok.row_len (List.getElem?_eq_getElem hlb), Tok.ne _ _, ?_⟩
  rw [← hy]
  try simp only [tt, seval, ix, Tok.row, lc]
  by_cases hk : xk = yk
  case neg =>
   try simp only [tt, seval, hk, decide_eq_false hk, Bool.not_false, ix]
   exact ⟨_, _, vbE (hno (by rw [hco, decide_eq_false hk]; rfl)).symm, end0 rfl⟩
  try simp only [tt, seval, hk, decide_true, Bool.not_true, ix]
  refine ⟨by omega, by omega, _, drop_row Tok.row_len (List.getElem?_eq_getElem hlt), Tok.ne _ _, ?_⟩
  rw [← hx]
  try simp only [tt, seval, ix, Tok.row, lc]
  refine ⟨by omega, by omega, _, drop_row Tok.row_len (List.getElem?_eq_getElem hlb), Tok.ne _ _, ?_⟩
  rw [← hy]
  try simp only [tt, seval, ix, Tok.row, lc]
  by_cases ht : xt = yt
  case neg =>
   try simp only [tt, seval, ht, decide_eq_false ht, Bool.not_false, ix]
   exact ⟨_, _, vbE (hno (by rw [hco, decide_eq_false ht, Bool.and_false])).symm, end0 rfl⟩
  try simp only [tt, seval, ht, decide_true, Bool.not_true, ix]
  rw [wrS i (by omega)]
  exact ⟨_, none, SubO.nil _, PoSub.none _, ⟨i + 1, rfl, by omega, hyes (by rw [hco, decide_eq_true hk, decide_eq_true ht]; rfl), rfl, rfl⟩, by simp only [ixS]; omega⟩
 ·have hall : allI (tokE b) a = true := allI_true fun j hj => hal j hj (by omega)
  try simp only [tt, seval]
  exact ⟨_, _, vbE (by rw [hz, decide_eq_true hab, hall]; rfl), end0 rfl⟩
theorem sameTc_d (x y : Tok) : Cl Tryz.prog 99 [.ag (csOf x.row), .ag (csOf y.row)] [] fun r _ => r = vb (decide (x.kind = y.kind) && decide (x.text = y.text)) := by
 obtain ⟨xk, xt, xa⟩ := x
 obtain ⟨yk, yt, ya⟩ := y
 simp only [Tok.row]
 refine cl_of_d follows_mixed false Tryz.func99 rfl (by kernel_rfl) ?_
 simp only [Tryz.f99, tt, seval]
 by_cases hk : xk = yk
 case neg =>
  try simp only [tt, seval, hk, decide_eq_false hk]
  exact ⟨_, _, rfl, end0 rfl⟩
 try simp only [tt, seval, hk, decide_true]
 exact ⟨_, _, vbE (by simp), end0 rfl⟩
theorem EqualTok_d (a b : List Tok) (ha : a.length ≤ 1048576) (hb : b.length ≤ 1048576) : Cl Tryz.prog 98 [.c (.sl (a).length ((a).flatMap Tok.row) none), .c (.sl (b).length ((b).flatMap Tok.row) none), .c (.fn 99 [] [])] [] fun r _ => r = vb (sameT a b) := by
 obtain ⟨z, hz⟩ : ∃ z, z = sameT a b := ⟨_, rfl⟩
 rw [← hz]
 rw [sameT] at hz
 refine cl_of_d follows_mixed false Tryz.func98 rfl (by kernel_rfl) ?_
 simp only [Tryz.f98, tt, seval]
 refine fun _ _ => And.intro (fun hab => ?_) (fun hab => ?_)
 ·have hab' : ¬ a.length = b.length := by simpa [Int.ofNat_inj] using hab
  exact ⟨_, _, vbE (by rw [hz, decide_eq_false hab']; rfl), end0 rfl⟩
 have hab : a.length = b.length := by simpa [Int.ofNat_inj] using hab
 refine fun _ => ?_
 refine dLoop.intro (fun f L p => ∃ i : Nat, f 17 = vi i ∧ i ≤ a.length ∧ (∀ j (hj : j < a.length), j < i → tokE b j a[j] = true) ∧ L = [] ∧ p = none) (fun f _ _ => (a.length - ixS (f 17)).toNat) [] none ⟨SubO.nil _, PoSub.none _, ?_⟩ ?_
 ·simp only [tt, seval]
  exact ⟨0, rfl, Nat.zero_le _, fun j _ h => absurd h (Nat.not_lt_zero _)⟩
 rintro g L p ⟨i, ix, hi, hal, rfl, rfl⟩
 simp only [tt, seval] at ix
 simp only [tt, seval, ix, Int.ofNat_lt]
 refine And.intro (fun hlt => ?_) (fun hge => ?_)
 ·have hlt : i < a.length := by omega
  have hlb : i < b.length := by omega
  obtain ⟨x, hx⟩ : ∃ x, x = a[i] := ⟨_, rfl⟩
  obtain ⟨y, hy⟩ : ∃ y, y = b[i] := ⟨_, rfl⟩
  have hco : tokE b i x = (decide (x.kind = y.kind) && decide (x.text = y.text)) := by rw [tokE, List.getElem?_eq_getElem hlb, ← hy]
  have hno : tokE b i x = false → z = false := fun h => by rw [hz, decide_eq_true hab, allI_false hlt (by rw [← hx]; exact h)]; rfl
  have hyes : tokE b i x = true → ∀ j (hj : j < a.length), j < i + 1 → tokE b j a[j] = true := fun h j hj hji => by
   by_cases e : j = i
   ·subst e; rw [← hx]; exact h
   ·exact hal j hj (by omega)
  obtain ⟨xk, xt, xa⟩ := x
  obtain ⟨yk, yt, ya⟩ := y
  have hS := sameTc_d ⟨xk, xt, xa⟩ ⟨yk, yt, ya⟩
  rw [← hco] at hS
  simp only [Tok.row] at hS
  refine ⟨by omega, by omega, _, drop_row Tok.row_len (List.getElem?_eq_getElem hlt), Tok.ne _ _, ?_⟩
  rw [← hx]
  try simp only [tt, seval, ix, Tok.row, lc]
  refine ⟨by omega, by omega, _, drop_row Tok.row_len (List.getElem?_eq_getElem hlb), Tok.ne _ _, ?_⟩
  rw [← hy]
  try simp only [tt, seval, ix, Tok.row, lc]
  refine cZ (hS) (by decide) ?_ ?_ <;> simp only [tt, seval, ix]
  cases hc : tokE b i ⟨xk, xt, xa⟩
  ·try simp only [tt, seval, hc, ix]
   exact ⟨_, _, vbE (hno hc).symm, end0 rfl⟩
  ·try simp only [tt, seval, hc, ix]
   rw [wrS i (by omega)]
   exact ⟨_, none, SubO.nil _, PoSub.none _, ⟨i + 1, rfl, by omega, hyes hc, rfl, rfl⟩, by simp only [ixS]; omega⟩
 ·have hall : allI (tokE b) a = true := allI_true fun j hj => hal j hj (by omega)
  try simp only [tt, seval]
  exact ⟨_, _, vbE (by rw [hz, decide_eq_true hab, hall]; rfl), end0 rfl⟩
theorem iSameTokens_d (a b : List Tok) (ha : a.length ≤ 1048576) (hb : b.length ≤ 1048576) : Cl Tryz.prog 59 [.c (.sl (a).length ((a).flatMap Tok.row) none), .c (.sl (b).length ((b).flatMap Tok.row) none)] [] fun r _ => r = vb (sameT a b) := by
 refine cl_of_d follows_mixed false Tryz.func59 rfl (by kernel_rfl) ?_
 simp only [Tryz.f59, tt, seval]
 refine cZ (EqualTok_d a b ha hb) (by decide) ?_ ?_ <;> simp only [tt, seval]
 exact ⟨_, _, rfl, end0 rfl⟩
set_option maxHeartbeats 4000000 in
theorem l16Tokens_d (tables : List Table) (hl : tables.length ≤ 4) (hT : ∀ t ∈ tables, t.cols.length ≤ 4) : Cl Tryz.prog 52 [.ag (csOf (Catalog.mk tables).row)] [] fun r _ => r = .c (.ow 69 (catT tables).length ((catT tables).flatMap Tok.row) none) := by
 rw [Catalog.row_mk]
 refine cl_of_d follows_mixed false Tryz.func52 rfl (by kernel_rfl) ?_
 simp only [Tryz.f52, tt, seval]
 refine dLoop.gh [.ren 6 77] ⟨by decide, by decide, ?_⟩
 refine dLoop0.intro (fun f L p => ∃ (i : Nat) (out : List Tok), f 4 = vi i ∧ f 3 = .c (.s 77 out.length) ∧ i ≤ tables.length ∧ out = seqN (catF tables) i ∧ L = [(1, .str [.sl tables.length (tables.flatMap Table.row) none]), (77, .arr 69 (out).length ((out).flatMap Tok.row) none)] ∧ p = none) (fun f _ _ => (tables.length - ixS (f 4)).toNat) [(1, .str [.sl tables.length (tables.flatMap Table.row) none]), (77, .arr 69 (([] : List Tok)).length ((([] : List Tok)).flatMap Tok.row) none)] none ⟨SubO.cons rfl (SubO.cons rfl (SubO.nil _)), PoSub.none _, ?_⟩ ?_
 ·simp only [tt, seval]
  exact ⟨0, [], rfl, rfl, Nat.zero_le _, rfl, rfl⟩
 rintro g L p ⟨i, out, ix, ox, hi, ho, rfl, rfl⟩
 simp only [tt, seval] at ix ox
 simp only [tt, seval, ix, ox, Int.ofNat_lt]
 refine fun _ => And.intro (fun hlt => ?_) (fun hge => ?_)
 ·have hlt : i < tables.length := by omega
  obtain ⟨t, ht⟩ : ∃ t, t = tables[i] := ⟨_, rfl⟩
  have hcl : t.cols.length ≤ 4 := by rw [ht]; exact hT _ (List.getElem_mem hlt)
  have hsl : (seqN (catF tables) i).length ≤ i * 16 := seqN_le fun j _ => catF_len hT j
  have hol : out.length ≤ i * 16 := by rw [ho]; exact hsl
  have hst : seqN (catF tables) (i + 1) = out ++ cmL i ++ tabT t := by rw [seqN_succ, catF, atL_get hlt, ← ht, ho, List.append_assoc]
  obtain ⟨tn, cols⟩ := t
  have hcl : cols.length ≤ 4 := hcl
  have hcl1 := cmL_len i
  obtain ⟨o2, ho2⟩ : ∃ o2, o2 = out ++ cmL i := ⟨_, rfl⟩
  have ho2l : o2.length = out.length + (cmL i).length := by rw [ho2, List.length_append]
  refine And.intro (fun hc => ?_) (fun hc => ?_)
  case' refine_1 =>
   have e2 : o2 = out ++ [(Tok.mk 5 ⟨#[44]⟩ 0)] := by rw [ho2, cmL, if_pos (by omega)]; rfl
   try simp only [tt, seval, ix, ox]
   refine cZ (l10Sign_d ⟨#[44]⟩) (by decide) ?_ ?_ <;> simp only [tt, seval, gT, Tok.row, ix, ox]
   refine ⟨by kernel_rfl, ⟨by simp only [maxLen]; (try simp only [ll] at *); omega, by (try simp only [ll] at *); omega⟩, ?_⟩
   rw [tok1 (out), len1 (out) (Tok.mk 5 ⟨#[44]⟩ 0)]
   try simp only [tt, seval, ix, ox]
   rw [← e2]
  case' refine_2 =>
   have e2 : o2 = out := by rw [ho2, cmL, if_neg (by omega), List.append_nil]
   rw [← e2] at ox
   try simp only [tt, seval, ix, ox]
   try rw [← e2]
  all_goals
   refine ⟨by omega, by omega, _, drop_row Table.row_len (List.getElem?_eq_getElem hlt), Table.ne _ _, ?_⟩
   rw [← ht]
   try simp only [tt, seval, ix, ox, Table.row_mk, lc]
   refine cZ (l10Name_d tn) (by decide) ?_ ?_ <;> simp only [tt, seval, nT, Tok.row, ix, ox]
   refine cZ (l10Sign_d ⟨#[40]⟩) (by decide) ?_ ?_ <;> simp only [tt, seval, gT, Tok.row, ix, ox]
   refine ⟨by kernel_rfl, ⟨by simp only [maxLen]; (try simp only [ll] at *); omega, by (try simp only [ll] at *); omega⟩, ?_⟩
   rw [tok2 (o2), len2 (o2) (Tok.mk 2 tn 0) (Tok.mk 5 ⟨#[40]⟩ 0)]
   try simp only [tt, seval, ix, ox]
   obtain ⟨B, hB⟩ : ∃ B, B = o2 ++ [(Tok.mk 2 tn 0), (Tok.mk 5 ⟨#[40]⟩ 0)] := ⟨_, rfl⟩
   have hBl : B.length = o2.length + 2 := by rw [hB, List.length_append]; rfl
   have hend : B ++ seqN (colF cols) cols.length ++ [(Tok.mk 5 ⟨#[41]⟩ 0)] = seqN (catF tables) (i + 1) := by rw [hst, hB, ho2, tabT]; simp [nT, gT, Table.name, Table.cols]
   rw [← hB]
   refine dLoop.gh [.ren 30 73] ⟨by decide, by decide, ?_⟩
   refine dLoop0.intro (fun f L p => ∃ (q : Nat) (m : List Tok), f 5 = vi q ∧ f 3 = .c (.s 73 m.length) ∧ q ≤ cols.length ∧ m = B ++ seqN (colF cols) q ∧ L = [(1, .str [.sl tables.length (tables.flatMap Table.row) none]), (73, .arr 69 (m).length ((m).flatMap Tok.row) none)] ∧ p = none) (fun f _ _ => (cols.length - ixS (f 5)).toNat) [(1, .str [.sl tables.length (tables.flatMap Table.row) none]), (73, .arr 69 (B).length ((B).flatMap Tok.row) none)] none ⟨SubO.cons rfl (SubO.cons rfl (SubO.nil _)), PoSub.none _, ?_⟩ ?_
   ·simp only [tt, seval]
    exact ⟨0, B, rfl, rfl, Nat.zero_le _, by rw [seqN_zero, List.append_nil], rfl⟩
   ·rintro g2 L p ⟨q, m, qx, mx, hq, hm, rfl, rfl⟩
    simp only [tt, seval] at qx mx
    simp only [tt, seval, ix, ox, qx, mx, Int.ofNat_lt]
    refine ⟨by omega, by omega, _, drop_row Table.row_len (List.getElem?_eq_getElem hlt), Table.ne _ _, ?_⟩
    rw [← ht]
    try simp only [tt, seval, ix, ox, qx, mx, Table.row_mk, lc]
    refine fun _ => And.intro (fun hlq => ?_) (fun hgq => ?_)
    ·have hlq : q < cols.length := by omega
     obtain ⟨y, hy⟩ : ∃ y, y = cols[q] := ⟨_, rfl⟩
     have hq1 : B ++ seqN (colF cols) (q + 1) = m ++ cmL q ++ colT y := by rw [seqN_succ, colF, atL_get hlq, ← hy, hm]; simp only [List.append_assoc]
     have hql : (seqN (colF cols) q).length ≤ q * 3 := seqN_le fun i _ => colF_len i
     have hml : m.length = B.length + (seqN (colF cols) q).length := by rw [hm, List.length_append]
     have hcl1 := cmL_len q
     obtain ⟨cn, ct⟩ := y
     obtain ⟨m2, hm2⟩ : ∃ m2, m2 = m ++ cmL q := ⟨_, rfl⟩
     have hm2l : m2.length = m.length + (cmL q).length := by rw [hm2, List.length_append]
     refine And.intro (fun hc => ?_) (fun hc => ?_)
     case' refine_1 =>
      have e2 : m2 = m ++ [(Tok.mk 5 ⟨#[44]⟩ 0)] := by rw [hm2, cmL, if_pos (by omega)]; rfl
      try simp only [tt, seval, ix, ox, qx, mx]
      refine cZ (l10Sign_d ⟨#[44]⟩) (by decide) ?_ ?_ <;> simp only [tt, seval, gT, Tok.row, ix, ox, qx, mx]
      refine ⟨by kernel_rfl, ⟨by simp only [maxLen]; (try simp only [ll] at *); omega, by (try simp only [ll] at *); omega⟩, ?_⟩
      rw [tok1 (m), len1 (m) (Tok.mk 5 ⟨#[44]⟩ 0)]
      try simp only [tt, seval, ix, ox, qx, mx]
      rw [← e2]
     case' refine_2 =>
      have e2 : m2 = m := by rw [hm2, cmL, if_neg (by omega), List.append_nil]
      rw [← e2] at mx
      try simp only [tt, seval, ix, ox, qx, mx]
      try rw [← e2]
     all_goals
      refine dDrawn.intro [] (pln [0, 2, 4, 6, 8, 10, 12, 14, 16, 18, 20, 24, 26, 28, 30, 32, 34, 36, 38, 40, 42, 23, 45, 47, 49, 51, 52]) (by kernel_rfl) ?_
      simp only [tt, seval]
      all_goals try simp only [tt, seval, ix, ox, qx, mx]
      all_goals repeat' (first | refine brC ?_ ?_ | refine brC2 ?_ ?_ | refine brA ?_ ?_ | refine brA2 ?_ ?_ | refine brA3 ?_ ?_ | (refine ⟨by omega, by omega, _, drop_row Table.row_len (List.getElem?_eq_getElem hlt), Table.ne _ _, ?_⟩; rw [← ht]; try simp only [tt, seval, ix, ox, qx, mx, Table.row_mk, lc]) | (refine ⟨by omega, by omega, _, drop_row Col.row_len (List.getElem?_eq_getElem hlq), Col.ne _ _, ?_⟩; rw [← hy]; try simp only [tt, seval, ix, ox, qx, mx, Col.row_mk, lc]) | ((refine cZ (l10Name_d cn) (by decide) ?_ ?_); (· simp only [tt, seval, kT, nT, Tok.row, ix, ox, qx, mx]); simp only [tt, seval, kT, nT, Tok.row, ix, ox, qx, mx]) | ((refine cZ (TypeText_d ct) (by decide) ?_ ?_); (· simp only [tt, seval, ix, ox, qx, mx]); simp only [tt, seval, ix, ox, qx, mx]) | ((refine cZ (l10Name_d (cgT ct)) (by decide) ?_ ?_); (· simp only [tt, seval, kT, nT, Tok.row, ix, ox, qx, mx]); simp only [tt, seval, kT, nT, Tok.row, ix, ox, qx, mx]) | fail)
      all_goals
       refine ⟨by kernel_rfl, ⟨by simp only [maxLen]; (try simp only [ll] at *); omega, by (try simp only [ll] at *); omega⟩, ?_⟩
       rw [tok2 (m2), len2 (m2) (Tok.mk 2 cn 0) (Tok.mk 2 (cgT ct) 0)]
       try simp only [tt, seval, ix, ox, qx, mx]
       rw [wrap_id (n := (q : Int) + 1) (by omega) (by omega)]
       exact ⟨[(1, .str [.sl tables.length (tables.flatMap Table.row) none]), (73, .arr 69 ((m2 ++ [(Tok.mk 2 cn 0), (Tok.mk 2 (cgT ct) 0)])).length (((m2 ++ [(Tok.mk 2 cn 0), (Tok.mk 2 (cgT ct) 0)])).flatMap Tok.row) none)], none, SubO.cons rfl (SubO.cons rfl (SubO.nil _)), PoSub.none _, ⟨q + 1, m2 ++ [(Tok.mk 2 cn 0), (Tok.mk 2 (cgT ct) 0)], rfl, rfl, by omega, by rw [hq1, ← hm2]; rfl, rfl, rfl⟩, by simp only [ixS]; omega⟩
    ·have hqe : q = cols.length := by omega
     have hql : (seqN (colF cols) cols.length).length ≤ cols.length * 3 := seqN_le fun i _ => colF_len i
     rw [hqe] at hm
     have hml : m.length = B.length + (seqN (colF cols) cols.length).length := by rw [hm, List.length_append]
     try simp only [tt, seval, ix, ox, qx, mx]
     refine cZ (l10Sign_d ⟨#[41]⟩) (by decide) ?_ ?_ <;> simp only [tt, seval, gT, Tok.row, ix, ox, qx, mx]
     refine ⟨by kernel_rfl, ⟨by simp only [maxLen]; (try simp only [ll] at *); omega, by (try simp only [ll] at *); omega⟩, ?_⟩
     rw [tok1 (m), len1 (m) (Tok.mk 5 ⟨#[41]⟩ 0)]
     try simp only [tt, seval, ix, ox, qx, mx]
     rw [wrS i (by omega)]
     exact ⟨[(1, .str [.sl tables.length (tables.flatMap Table.row) none]), (77, .arr 69 ((m ++ [(Tok.mk 5 ⟨#[41]⟩ 0)])).length (((m ++ [(Tok.mk 5 ⟨#[41]⟩ 0)])).flatMap Tok.row) none)], none, SubO.cons rfl (SubO.cons rfl (SubO.nil _)), PoSub.none _, ⟨i + 1, m ++ [(Tok.mk 5 ⟨#[41]⟩ 0)], rfl, rfl, by omega, by rw [← hend, hm], rfl, rfl⟩, by simp only [ixS]; omega⟩
 ·have hie : i = tables.length := by omega
  rw [hie] at ho
  try simp only [tt, seval, ix, ox]
  refine ⟨_, [], owE (l := out) (by rw [ho]; rfl), endOk ?_⟩
  simp only [tt, seval, ix, ox]
set_option maxHeartbeats 4000000 in
theorem catalogTokens_d (tables : List Table) (hl : tables.length ≤ 4) (hT : ∀ t ∈ tables, t.cols.length ≤ 4) : Cl Tryz.prog 60 [.ag (csOf (Catalog.mk tables).row)] [] fun r _ => r = .c (.ow 69 (catT tables).length ((catT tables).flatMap Tok.row) none) := by
 rw [Catalog.row_mk]
 refine cl_of_d follows_mixed false Tryz.func60 rfl (by kernel_rfl) ?_
 simp only [Tryz.f60, tt, seval]
 refine fun _ => ?_
 refine dLoop.gh [.virtC 9 0 10000049 69] ⟨by decide, ?_⟩
 try simp only [tt, seval]
 refine dLoop0.intro (fun f L p => ∃ (i : Nat) (out : List Tok) (Fp : Fp), f 13 = vi i ∧ i ≤ tables.length ∧ out = seqN (catF tables) i ∧ L = [(1, .str [.sl tables.length (tables.flatMap Table.row) none]), (9, .str [.s 10000049 (out).length, .v (.bool false)]), (10000049, .arr 69 (out).length ((out).flatMap Tok.row) Fp)] ∧ p = none) (fun f _ _ => (tables.length - ixS (f 13)).toNat) [(1, .str [.sl tables.length (tables.flatMap Table.row) none]), (9, .str [.s 10000049 (([] : List Tok)).length, .v (.bool false)]), (10000049, .arr 69 (([] : List Tok)).length ((([] : List Tok)).flatMap Tok.row) (some []))] none ⟨SubO.cons rfl (SubO.cons rfl (SubO.cons rfl (SubO.nil _))), PoSub.none _, ?_⟩ ?_
 ·simp only [tt, seval]
  exact ⟨0, [], some [], rfl, Nat.zero_le _, rfl, rfl⟩
 rintro g L p ⟨i, out, Fq, ix, hi, ho, rfl, rfl⟩
 simp only [tt, seval] at ix
 simp only [tt, seval, ix, Int.ofNat_lt]
 refine And.intro (fun hlt => ?_) (fun hge => ?_)
 ·have hlt : i < tables.length := by omega
  obtain ⟨t, ht⟩ : ∃ t, t = tables[i] := ⟨_, rfl⟩
  have hcl : t.cols.length ≤ 4 := by rw [ht]; exact hT _ (List.getElem_mem hlt)
  have hsl : (seqN (catF tables) i).length ≤ i * 16 := seqN_le fun j _ => catF_len hT j
  have hol : out.length ≤ i * 16 := by rw [ho]; exact hsl
  have hst : seqN (catF tables) (i + 1) = out ++ cmL i ++ tabT t := by rw [seqN_succ, catF, atL_get hlt, ← ht, ho, List.append_assoc]
  obtain ⟨tn, cols⟩ := t
  have hcl : cols.length ≤ 4 := hcl
  have hcl1 := cmL_len i
  refine ⟨by omega, by omega, _, drop_row Table.row_len (List.getElem?_eq_getElem hlt), Table.ne _ _, ?_⟩
  rw [← ht]
  try simp only [tt, seval, ix, Table.row_mk, lc]
  refine cS (comma_d false i out (by omega)) (by decide) ?_ ?_ <;> simp only [tt, seval, ix]
  refine cS (name_d false tn (out ++ cmL i) (by simp only [List.length_append, List.length_cons, List.length_nil]; omega)) (by decide) ?_ ?_ <;> simp only [tt, seval, ix]
  refine cS (sign_d false ⟨#[40]⟩ (out ++ cmL i ++ [nT tn]) (by simp only [List.length_append, List.length_cons, List.length_nil]; omega)) (by decide) ?_ ?_ <;> simp only [tt, seval, ix]
  obtain ⟨B, hB⟩ : ∃ B, B = out ++ cmL i ++ [nT tn] ++ [gT ⟨#[40]⟩] := ⟨_, rfl⟩
  have hBl : B.length = out.length + (cmL i).length + 2 := by rw [hB]; simp only [List.length_append, List.length_cons, List.length_nil]
  have hend : B ++ seqN (colF cols) cols.length ++ [gT ⟨#[41]⟩] = seqN (catF tables) (i + 1) := by rw [hst, hB, tabT]; simp [Table.name, Table.cols]
  rw [← hB]
  try simp only [tt, seval, ix]
  refine fun _ => ?_
  refine dLoop.gh [.ren 10000026 10000046] ⟨by decide, by decide, ?_⟩
  refine dLoop0.intro (fun f L p => ∃ (q : Nat) (m : List Tok), f 30 = vi q ∧ q ≤ cols.length ∧ m = B ++ seqN (colF cols) q ∧ L = [(1, .str [.sl tables.length (tables.flatMap Table.row) none]), (9, .str [.s 10000046 (m).length, .v (.bool false)]), (10000046, .arr 69 (m).length ((m).flatMap Tok.row) none)] ∧ p = none) (fun f _ _ => (cols.length - ixS (f 30)).toNat) [(1, .str [.sl tables.length (tables.flatMap Table.row) none]), (9, .str [.s 10000046 (B).length, .v (.bool false)]), (10000046, .arr 69 (B).length ((B).flatMap Tok.row) none)] none ⟨SubO.cons rfl (SubO.cons rfl (SubO.cons rfl (SubO.nil _))), PoSub.none _, ?_⟩ ?_
  ·simp only [tt, seval]
   exact ⟨0, B, rfl, Nat.zero_le _, by rw [seqN_zero, List.append_nil], rfl⟩
  ·rintro g2 L p ⟨q, m, qx, hq, hm, rfl, rfl⟩
   simp only [tt, seval] at qx
   simp only [tt, seval, ix, qx, Int.ofNat_lt]
   refine And.intro (fun hlq => ?_) (fun hgq => ?_)
   ·have hlq : q < cols.length := by omega
    obtain ⟨y, hy⟩ : ∃ y, y = cols[q] := ⟨_, rfl⟩
    have hq1 : B ++ seqN (colF cols) (q + 1) = m ++ cmL q ++ colT y := by rw [seqN_succ, colF, atL_get hlq, ← hy, hm]; simp only [List.append_assoc]
    have hql : (seqN (colF cols) q).length ≤ q * 3 := seqN_le fun i _ => colF_len i
    have hml : m.length = B.length + (seqN (colF cols) q).length := by rw [hm, List.length_append]
    have hcl1 := cmL_len q
    obtain ⟨cn, ct⟩ := y
    refine ⟨by omega, by omega, _, drop_row Col.row_len (List.getElem?_eq_getElem hlq), Col.ne _ _, ?_⟩
    rw [← hy]
    try simp only [tt, seval, ix, qx, Col.row_mk, lc]
    refine cS (comma_d false q m (by omega)) (by decide) ?_ ?_ <;> simp only [tt, seval, ix, qx]
    refine cS (name_d false cn (m ++ cmL q) (by simp only [List.length_append, List.length_cons, List.length_nil]; omega)) (by decide) ?_ ?_ <;> simp only [tt, seval, ix, qx]
    refine cZ (iTypeText_d ct) (by decide) ?_ ?_ <;> simp only [tt, seval, ix, qx]
    refine cS (name_d false (cgT ct) (m ++ cmL q ++ [nT cn]) (by simp only [List.length_append, List.length_cons, List.length_nil]; omega)) (by decide) ?_ ?_ <;> simp only [tt, seval, ix, qx]
    rw [wrap_id (n := (q : Int) + 1) (by omega) (by omega)]
    exact ⟨[(1, .str [.sl tables.length (tables.flatMap Table.row) none]), (9, .str [.s 10000046 ((m ++ cmL q ++ [nT cn] ++ [nT (cgT ct)])).length, .v (.bool false)]), (10000046, .arr 69 ((m ++ cmL q ++ [nT cn] ++ [nT (cgT ct)])).length (((m ++ cmL q ++ [nT cn] ++ [nT (cgT ct)])).flatMap Tok.row) none)], none, SubO.cons rfl (SubO.cons rfl (SubO.cons rfl (SubO.nil _))), PoSub.none _, ⟨q + 1, m ++ cmL q ++ [nT cn] ++ [nT (cgT ct)], rfl, by omega, by rw [hq1]; simp [colT, Col.name, Col.ty], rfl, rfl⟩, by simp only [ixS]; omega⟩
   ·have hqe : q = cols.length := by omega
    have hql : (seqN (colF cols) cols.length).length ≤ cols.length * 3 := seqN_le fun i _ => colF_len i
    rw [hqe] at hm
    have hml : m.length = B.length + (seqN (colF cols) cols.length).length := by rw [hm, List.length_append]
    try simp only [tt, seval, ix, qx]
    refine cS (sign_d false ⟨#[41]⟩ m (by simp only [List.length_append, List.length_cons, List.length_nil]; omega)) (by decide) ?_ ?_ <;> simp only [tt, seval, ix, qx]
    rw [wrS i (by omega)]
    exact ⟨[(1, .str [.sl tables.length (tables.flatMap Table.row) none]), (9, .str [.s 10000049 ((m ++ [gT ⟨#[41]⟩])).length, .v (.bool false)]), (10000049, .arr 69 ((m ++ [gT ⟨#[41]⟩])).length (((m ++ [gT ⟨#[41]⟩])).flatMap Tok.row) none)], none, SubO.cons rfl (SubO.cons rfl (SubO.cons rfl (SubO.nil _))), PoSub.none _, ⟨i + 1, m ++ [gT ⟨#[41]⟩], none, rfl, by omega, by rw [← hend, hm], rfl, rfl⟩, by simp only [ixS]; omega⟩
 ·have hie : i = tables.length := by omega
  rw [hie] at ho
  try simp only [tt, seval, ix]
  refine ⟨_, [], owE (l := out) (by rw [ho]; rfl), endOk ?_⟩
  simp only [tt, seval, ix]
end Go.Proofs.YtijldlppojdehaaGreatDoor
