/-
  The parser's model.
  Conditions: none.
-/
import Derived.Test.YtijldlppojdehaaGreatDoorDNA
set_option linter.unusedVariables false
set_option linter.unusedSimpArgs false
set_option linter.unusedSectionVars false
set_option maxRecDepth 8000
namespace Go.Proofs.YtijldlppojdehaaGreatDoor
open Go Go.Dv
open Go.Vc (D shrI xorI andI and255)
structure PS where
 a : Nat
 b : Bool
abbrev PM (α : Type) := PS → Option (α × PS)
section
variable (L : List Tok)
def tkAt (s : PS) (k : Nat) : Option Tok := if s.b = true then none else L[s.a + k]?
def isT (s : PS) (k : Nat) (kind : Int) (text : ByteArray) : Bool := match tkAt L s k with
 | some t => decide (t.kind = kind) && decide (t.text = text)
 | none => false
def isK (s : PS) (kind : Int) : Bool := match tkAt L s 0 with
 | some t => decide (t.kind = kind) && okTok t
 | none => false
def textAt (s : PS) : ByteArray := match tkAt L s 0 with
 | some t => t.text
 | none => ⟨#[]⟩
def adv (s : PS) : PS := ⟨s.a + 1, s.b⟩
def fl (s : PS) : PS := ⟨s.a, true⟩
def tkIf (c : Bool) (s : PS) : PS := if c = true then adv s else s
def must (c : Bool) (s : PS) : PS := if c = true then adv s else fl s
def isSg (s : PS) (c : UInt8) : Bool := isT L s 0 5 ⟨#[c]⟩
def mText (kind : Int) (s : PS) : ByteArray × PS := if isK L s kind = true then (textAt L s, adv s) else (⟨#[]⟩, fl s)
end
def z0 : ByteArray := ⟨#[]⟩
section
variable (L : List Tok)
def Ok (s s' : PS) : Prop := s.a ≤ s'.a ∧ (s.a ≤ L.length → s'.a ≤ L.length) ∧ (s.b = true → s' = s)
theorem Ok.refl (s : PS) : Ok L s s := ⟨Nat.le_refl _, id, fun _ => rfl⟩
variable {L}
theorem Ok.trans {a b c : PS} (h : Ok L a b) (k : Ok L b c) : Ok L a c := ⟨Nat.le_trans h.1 k.1, fun e => k.2.1 (h.2.1 e), fun e => by have := h.2.2 e; subst this; exact k.2.2 e⟩
theorem tkAt_lt {s : PS} {k : Nat} {t : Tok} (h : tkAt L s k = some t) : s.b = false ∧ s.a + k < L.length := by
 unfold tkAt at h
 split at h
 ·cases h
 ·rename_i hb
  exact ⟨by simpa using hb, (List.getElem?_eq_some_iff.1 h).1⟩
theorem isT_lt {s : PS} {k : Nat} {kind : Int} {x : ByteArray} (h : isT L s k kind x = true) : s.b = false ∧ s.a + k < L.length := by
 unfold isT at h
 split at h
 ·rename_i t ht; exact tkAt_lt ht
 ·cases h
theorem isK_lt {s : PS} {kind : Int} (h : isK L s kind = true) : s.b = false ∧ s.a < L.length := by
 unfold isK at h
 split at h
 ·rename_i t ht; exact tkAt_lt ht
 ·cases h
theorem isSg_lt {s : PS} {c : UInt8} (h : isSg L s c = true) : s.b = false ∧ s.a < L.length := isT_lt h
theorem Ok.adv {s : PS} (h : s.b = false ∧ s.a < L.length) : Ok L s (adv s) := ⟨by simp [Go.Proofs.YtijldlppojdehaaGreatDoor.adv], fun _ => by simp [Go.Proofs.YtijldlppojdehaaGreatDoor.adv]; omega, fun e => by rw [h.1] at e; cases e⟩
theorem Ok.fl (s : PS) : Ok L s (fl s) := ⟨Nat.le_refl _, id, fun e => by cases s; simp only at e; subst e; rfl⟩
theorem Ok.must {s : PS} {c : Bool} (h : c = true → s.b = false ∧ s.a < L.length) : Ok L s (must c s) := by
 unfold Go.Proofs.YtijldlppojdehaaGreatDoor.must
 split
 ·rename_i hc; exact Ok.adv (h hc)
 ·exact Ok.fl s
theorem Ok.mText (kind : Int) (s : PS) : Ok L s (mText L kind s).2 := by
 unfold Go.Proofs.YtijldlppojdehaaGreatDoor.mText
 split
 ·rename_i hc; exact Ok.adv (isK_lt hc)
 ·exact Ok.fl s
def OkM {α : Type} (m : PM α) : Prop := ∀ s x s', m s = some (x, s') → Ok L s s'
variable {f : Nat → PM Expr} {q : PM Query}
end
section
variable {L : List Tok}
abbrev rm (L : List Tok) (s : PS) : Nat := L.length - s.a
def Df {α : Type} (m : PM α) (s : PS) : Prop := ∃ x s', m s = some (x, s')
variable {f : Nat → PM Expr} {q : PM Query}
section
variable (hk : ∀ lv, OkM (L := L) (f lv)) (hkq : OkM (L := L) q) {R : Nat} (hf : ∀ lv, 1 ≤ lv → lv ≤ 9 → ∀ s, rm L s < R → Df (f lv) s) (hq : ∀ s, rm L s < R → Df q s)
include hk hf
end
section
variable (hk : ∀ lv, OkM (L := L) (f lv)) {R : Nat} (hf : ∀ s, rm L s ≤ R → Df (f 1) s)
include hk hf
end
end
def lxWs (b : UInt8) : Bool := b == 32 || b == 9 || b == 10 || b == 13
def lxLet (b : UInt8) : Bool := letB (b.toNat : Int)
def lxFig (b : UInt8) : Bool := decide (48 ≤ (b.toNat : Int) ∧ (b.toNat : Int) ≤ 57)
section
variable (B : List UInt8)
def lxEol (at_ : Nat) : Nat := at_ + ((B.drop at_).takeWhile fun b => !(b == 10)).length
def lxEnd : Nat → Nat → Option Nat
 | 0, _ => none
 | n + 1, i => if B[i]? = some 42 ∧ B[i + 1]? = some 47 then some i else if i < B.length then lxEnd n (i + 1) else none
def lxPass : Nat → Nat → Option (Nat × Bool)
 | 0, _ => none
 | n + 1, i => match B[i]? with
  | none => some (i, true)
  | some b => if lxWs b = true then lxPass n (i + 1)
   else if b = 45 ∧ B[i + 1]? = some 45 then lxPass n (lxEol B i)
   else if b = 47 ∧ B[i + 1]? = some 42 then (match lxEnd B (B.length + 1) (i + 2) with
    | some e => lxPass n (e + 2)
    | none => some (i, false))
   else some (i, true)
def lxRun (i : Nat) : Nat := i + ((B.drop i).takeWhile fun b => lxLet b || lxFig b).length
def lxQuot (q : UInt8) : Nat → Nat → List UInt8 → Option (List UInt8 × Nat)
 | 0, _, _ => none
 | n + 1, i, l => match B[i]? with
  | none => none
  | some b => if b = q then (if B[i + 1]? = some q then lxQuot q n (i + 2) (l ++ [q]) else some (l, i + 1)) else lxQuot q n (i + 1) (l ++ [b])
def lxCut (i j : Nat) : ByteArray := ⟨((B.drop i).take (j - i)).toArray⟩
def lxSign (i : Nat) : Nat := if i + 2 ≤ B.length ∧ signB (lxCut B i (i + 2)) = true then i + 2 else i + 1
def lxRaw (i : Nat) (b : UInt8) : Option (Tok × Nat) :=
 if lxLet b = true then
  let x := lxCut B i (lxRun B i)
  some (if key x = 0 then ⟨2, x, i⟩ else ⟨1, foldB x, i⟩, lxRun B i)
 else if lxFig b = true then some (⟨3, lxCut B i (lxRun B i), i⟩, lxRun B i)
 else if b = 34 then (lxQuot B 34 (B.length + 1) (i + 1) []).map fun x => (⟨2, ⟨x.1.toArray⟩, i⟩, x.2)
 else if b = 39 then (lxQuot B 39 (B.length + 1) (i + 1) []).map fun x => (⟨4, ⟨x.1.toArray⟩, i⟩, x.2)
 else some (⟨5, lxCut B i (lxSign B i), i⟩, lxSign B i)
def lxOne (i : Nat) (b : UInt8) : Option (Tok × Nat) := match lxRaw B i b with
 | some (t, e) => if okTok t = true then some (t, e) else none
 | none => none
def lxGo : Nat → Nat → List Tok → Option (List Tok ⊕ Nat)
 | 0, _, _ => none
 | n + 1, i, l => match lxPass B (B.length + 1) i with
  | none => none
  | some (p, ok) => if ok = false then some (.inr p) else match B[p]? with
   | none => some (.inl l)
   | some b => match lxOne B p b with
    | none => some (.inr p)
    | some (t, e) => lxGo n e (l ++ [t])
end
theorem tw_le {α : Type} (p : α → Bool) (l : List α) : (l.takeWhile p).length ≤ l.length := (List.takeWhile_sublist p).length_le
section
variable {B : List UInt8}
theorem lxEol_ge (i : Nat) : i ≤ lxEol B i := Nat.le_add_right _ _
theorem lxEol_le {i : Nat} (h : i ≤ B.length) : lxEol B i ≤ B.length := by
 have := tw_le (fun b => !(b == 10)) (B.drop i)
 rw [List.length_drop] at this
 unfold lxEol; omega
theorem lxRun_ge (i : Nat) : i ≤ lxRun B i := Nat.le_add_right _ _
theorem lxRun_le {i : Nat} (h : i ≤ B.length) : lxRun B i ≤ B.length := by
 have := tw_le (fun b => lxLet b || lxFig b) (B.drop i)
 rw [List.length_drop] at this
 unfold lxRun; omega
theorem tw_step {α : Type} (p : α → Bool) (B : List α) (i : Nat) : ((B.drop i).takeWhile p).length = (match B[i]? with | some b => if p b = true then ((B.drop (i + 1)).takeWhile p).length + 1 else 0 | none => 0) := by
 cases h : B[i]? with
 | none =>
  rw [List.drop_eq_nil_of_le (List.getElem?_eq_none_iff.1 h)]; rfl
 | some b =>
  obtain ⟨hl, rfl⟩ := List.getElem?_eq_some_iff.1 h
  rw [List.drop_eq_getElem_cons hl, List.takeWhile_cons]
  split <;> simp_all
theorem lxEol_step (i : Nat) : lxEol B i = (match B[i]? with | some b => if b = 10 then i else lxEol B (i + 1) | none => i) := by
 unfold lxEol
 rw [tw_step]
 cases B[i]? with
 | none => rfl
 | some b =>
  by_cases h : b = 10
  ·simp [h]
  ·simp [h]; omega
theorem lxRun_step (i : Nat) : lxRun B i = (match B[i]? with | some b => if (lxLet b || lxFig b) = true then lxRun B (i + 1) else i | none => i) := by
 unfold lxRun
 rw [tw_step]
 cases B[i]? with
 | none => rfl
 | some b =>
  by_cases h : (lxLet b || lxFig b) = true
  ·simp only [h, if_true]; omega
  ·simp only [h, if_false]; rfl
theorem lxEnd_spec : ∀ {n i e : Nat}, lxEnd B n i = some e → i ≤ e ∧ e + 1 < B.length
 | 0, _, _, h => by cases h
 | n + 1, i, e, h => by
  rw [lxEnd] at h
  split at h
  ·rename_i hc
   injection h with h; subst h
   exact ⟨Nat.le_refl _, (List.getElem?_eq_some_iff.1 hc.2).1⟩
  ·split at h
   ·have := lxEnd_spec h; omega
   ·cases h
theorem lxPass_df : ∀ (n i : Nat), i ≤ B.length → B.length - i < n → ∃ p ok, lxPass B n i = some (p, ok) ∧ i ≤ p ∧ p ≤ B.length
 | 0, _, _, h => absurd h (Nat.not_lt_zero _)
 | n + 1, i, hi, h => by
  rw [lxPass]
  cases hb : B[i]? with
  | none => exact ⟨i, true, rfl, Nat.le_refl _, hi⟩
  | some b =>
   have hlt : i < B.length := (List.getElem?_eq_some_iff.1 hb).1
   simp only
   split
   ·obtain ⟨p, ok, h1, h2, h3⟩ := lxPass_df n (i + 1) (by omega) (by omega)
    exact ⟨p, ok, h1, by omega, h3⟩
   split
   ·rename_i hc
    have h10 : ¬ b = 10 := by rw [hc.1]; decide
    have e1 := lxEol_step (B := B) i
    rw [hb] at e1
    simp only [h10, if_false] at e1
    have g1 := lxEol_ge (B := B) (i + 1)
    have g2 := lxEol_le (B := B) (i := i + 1) (by omega)
    obtain ⟨p, ok, h1, h2, h3⟩ := lxPass_df n (lxEol B i) (by omega) (by omega)
    exact ⟨p, ok, h1, by omega, h3⟩
   split
   ·rename_i hc
    cases he : lxEnd B (B.length + 1) (i + 2) with
    | none => exact ⟨i, false, rfl, Nat.le_refl _, hi⟩
    | some e =>
     have := lxEnd_spec he
     obtain ⟨p, ok, h1, h2, h3⟩ := lxPass_df n (e + 2) (by omega) (by omega)
     exact ⟨p, ok, h1, by omega, h3⟩
   ·exact ⟨i, true, rfl, Nat.le_refl _, hi⟩
theorem lxQuot_spec {q : UInt8} : ∀ {n i : Nat} {l : List UInt8} {x : List UInt8} {e : Nat}, lxQuot B q n i l = some (x, e) → i < e ∧ e ≤ B.length ∧ x.length + i < l.length + e
 | 0, _, _, _, _, h => by cases h
 | n + 1, i, l, x, e, h => by
  rw [lxQuot] at h
  cases hb : B[i]? with
  | none => rw [hb] at h; cases h
  | some b =>
   have hlt : i < B.length := (List.getElem?_eq_some_iff.1 hb).1
   rw [hb] at h
   simp only at h
   split at h
   ·split at h
    ·have := lxQuot_spec h
     simp only [List.length_append, List.length_cons, List.length_nil] at this; omega
    ·injection h with h; injection h with h1 h2; subst h1; omega
   ·have := lxQuot_spec h
    simp only [List.length_append, List.length_cons, List.length_nil] at this; omega
theorem lxSign_le {i : Nat} (h : i < B.length) : i < lxSign B i ∧ lxSign B i ≤ B.length := by
 unfold lxSign
 split <;> omega
theorem lxRaw_spec {i e : Nat} {b : UInt8} {t : Tok} (hb : B[i]? = some b) (h : lxRaw B i b = some (t, e)) : i < e ∧ e ≤ B.length := by
 have hlt : i < B.length := (List.getElem?_eq_some_iff.1 hb).1
 unfold lxRaw at h
 simp only at h
 have run : lxLet b = true ∨ lxFig b = true → i < lxRun B i ∧ lxRun B i ≤ B.length := fun hc => by
  have e1 := lxRun_step (B := B) i
  have h1 : (lxLet b || lxFig b) = true := by rcases hc with h | h <;> simp [h]
  rw [hb] at e1
  simp only [h1, if_true] at e1
  have := lxRun_ge (B := B) (i + 1)
  exact ⟨by omega, lxRun_le (by omega)⟩
 split at h
 ·rename_i hc
  injection h with h; injection h with _ h; subst h
  exact run (.inl hc)
 split at h
 ·rename_i hc
  injection h with h; injection h with _ h; subst h
  exact run (.inr hc)
 split at h
 ·rw [Option.map_eq_some_iff] at h
  obtain ⟨⟨x, y⟩, h1, h2⟩ := h
  injection h2 with _ h2; subst h2
  have := lxQuot_spec h1; omega
 split at h
 ·rw [Option.map_eq_some_iff] at h
  obtain ⟨⟨x, y⟩, h1, h2⟩ := h
  injection h2 with _ h2; subst h2
  have := lxQuot_spec h1; omega
 ·injection h with h; injection h with _ h; subst h
  exact lxSign_le hlt
theorem lxOne_spec {i e : Nat} {b : UInt8} {t : Tok} (hb : B[i]? = some b) (h : lxOne B i b = some (t, e)) : i < e ∧ e ≤ B.length ∧ okTok t = true := by
 unfold lxOne at h
 split at h
 ·rename_i t' e' hr
  split at h
  ·rename_i ho
   injection h with h; injection h with h1 h2; subst h1 h2
   have := lxRaw_spec hb hr
   exact ⟨this.1, this.2, ho⟩
  ·cases h
 ·cases h
theorem lxGo_df : ∀ (n i : Nat) (l : List Tok), i ≤ B.length → B.length - i < n → ∃ r, lxGo B n i l = some r
 | 0, _, _, _, h => absurd h (Nat.not_lt_zero _)
 | n + 1, i, l, hi, h => by
  rw [lxGo]
  obtain ⟨p, ok, h1, h2, h3⟩ := lxPass_df (B := B) (B.length + 1) i hi (by omega)
  rw [h1]
  simp only
  split
  ·exact ⟨_, rfl⟩
  cases hb : B[p]? with
  | none => exact ⟨_, rfl⟩
  | some b =>
   simp only
   cases ho : lxOne B p b with
   | none => exact ⟨_, rfl⟩
   | some x =>
    obtain ⟨t, e⟩ := x
    have := lxOne_spec hb ho
    exact lxGo_df n e _ (by omega) (by omega)
theorem lxGo_toks : ∀ {n i : Nat} {l m : List Tok}, i ≤ B.length → lxGo B n i l = some (.inl m) → (∀ t ∈ l, okTok t = true) → (∀ t ∈ m, okTok t = true) ∧ m.length ≤ l.length + (B.length - i)
 | 0, _, _, _, _, h, _ => by cases h
 | n + 1, i, l, m, hi, h, hl => by
  rw [lxGo] at h
  obtain ⟨p, ok, h1, h2, h3⟩ := lxPass_df (B := B) (B.length + 1) i hi (by omega)
  rw [h1] at h
  simp only at h
  split at h
  ·cases h
  cases hb : B[p]? with
  | none => rw [hb] at h; injection h with h; injection h with h; subst h; exact ⟨hl, by omega⟩
  | some b =>
   rw [hb] at h
   simp only at h
   cases ho : lxOne B p b with
   | none => rw [ho] at h; cases h
   | some x =>
    obtain ⟨t, e⟩ := x
    rw [ho] at h
    have := lxOne_spec hb ho
    obtain ⟨k1, k2⟩ := lxGo_toks (by omega) h (fun t' ht' => by
     rcases List.mem_append.1 ht' with h | h
     ·exact hl t' h
     ·rw [List.mem_singleton.1 h]; exact this.2.2)
    refine ⟨k1, ?_⟩
    simp only [List.length_append, List.length_cons, List.length_nil] at k2
    omega
end
def lexR (s : ByteArray) : List Tok ⊕ Nat := if 2000 < s.size then .inr 2000 else (lxGo s.data.toList (s.data.toList.length + 1) 0 []).getD (.inr 0)
section
variable (L : List Tok)
def s0 : PS := ⟨0, false⟩
end
section
variable {L : List Tok} {f : Nat → PM Expr} {q : PM Query}
section
variable (hk : ∀ lv, OkM (L := L) (f lv)) (hf : ∀ s, Df (f 1) s)
include hk hf
end
end
section
variable {L : List Tok}
def LeM {α : Type} (m m' : PM α) : Prop := ∀ s r, m s = some r → m' s = some r
variable {f f' : Nat → PM Expr} {q q' : PM Query} (hf : ∀ lv, LeM (f lv) (f' lv)) (hq : LeM q q')
include hf
end
end Go.Proofs.YtijldlppojdehaaGreatDoor
