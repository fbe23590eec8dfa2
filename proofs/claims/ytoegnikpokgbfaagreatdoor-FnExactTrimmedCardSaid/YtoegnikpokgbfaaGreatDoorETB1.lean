/-
  The parser's model.
  Conditions: none.
-/
import Derived.Test.YtoegnikpokgbfaaGreatDoorETA
set_option linter.unusedVariables false
set_option linter.unusedSimpArgs false
set_option linter.unusedSectionVars false
set_option maxRecDepth 8000
namespace Go.Proofs.YtoegnikpokgbfaaGreatDoor
open Go Go.Dv
open Go.Vc (D shrI xorI andI)
def Item.e : Item → Expr | .mk _ _ e _ => e
def Source.on : Source → List Expr | .mk _ _ o => o
def SortKey.e : SortKey → Expr | .mk e _ => e
structure PS where
 a : Nat
 b : Bool
abbrev PM (α : Type) := PS → Option (α × PS)
section
variable (L : List Tok)
def tkAt (s : PS) (k : Nat) : Option Tok := if s.b = true then none else L[s.a + k]?
def isT (s : PS) (k : Nat) (kind : Int) (text : ByteArray) : Bool := match tkAt L s k with
 | some t => decide (t.kind = kind) && decide (t.text = text)
 | none => false
def isK (s : PS) (kind : Int) : Bool := match tkAt L s 0 with
 | some t => decide (t.kind = kind) && okTok t
 | none => false
def textAt (s : PS) : ByteArray := match tkAt L s 0 with
 | some t => t.text
 | none => ⟨#[]⟩
def adv (s : PS) : PS := ⟨s.a + 1, s.b⟩
def fl (s : PS) : PS := ⟨s.a, true⟩
def tkIf (c : Bool) (s : PS) : PS := if c = true then adv s else s
def must (c : Bool) (s : PS) : PS := if c = true then adv s else fl s
def isKey (s : PS) (k : Nat) : Bool := isT L s 0 1 (kw k)
def isSg (s : PS) (c : UInt8) : Bool := isT L s 0 5 ⟨#[c]⟩
def mText (kind : Int) (s : PS) : ByteArray × PS := if isK L s kind = true then (textAt L s, adv s) else (⟨#[]⟩, fl s)
def mNum (s : PS) : Int × PS := (numV (mText L 3 s).1, (mText L 3 s).2)
def opsL (lv : Nat) : List Nat := if lv = 1 then [1] else if lv = 2 then [2] else if lv = 4 then [3, 4, 5, 6, 7, 8] else if lv = 5 then [9] else if lv = 6 then [10, 11] else if lv = 7 then [12, 13, 14] else []
def opHit (s : PS) (op : Nat) : Bool := isT L s 0 (if op = 1 ∨ op = 2 then 1 else 5) (opT op)
def opIn (s : PS) : List Nat → Nat
 | [] => 0
 | op :: r => if opHit L s op = true then op else opIn s r
def opAt (s : PS) (lv : Nat) : Nat := opIn L s (opsL lv)
end
def z0 : ByteArray := ⟨#[]⟩
def zVal : Val := ⟨0, 0, ⟨#[]⟩⟩
def zExpr : Expr := .mk 0 0 false zVal z0 z0 [] []
def mBin (op : Nat) (a b : Expr) : Expr := .mk 4 op false zVal z0 z0 [a, b] []
def mUn (op : Int) (e : Expr) : Expr := .mk 3 op false zVal z0 z0 [e] []
def mKids (kind : Int) (not : Bool) (kids : List Expr) (sub : List Query) : Expr := .mk kind 0 not zVal z0 z0 kids sub
def mLit (v : Val) : Expr := .mk 1 0 false v z0 z0 [] []
def mCol (qual name : ByteArray) : Expr := .mk 2 0 false zVal qual name [] []
section
variable (L : List Tok)
def chainM (f : PM Expr) (lv : Nat) : Nat → Expr → PM Expr
 | 0, _, _ => none
 | n + 1, e, s => if opAt L s lv = 0 then some (e, s) else match f (adv s) with
  | none => none
  | some (x, s1) => chainM f lv n (mBin (opAt L s lv) e x) s1
def sepM {α : Type} (f : PM α) : Nat → List α → PM (List α)
 | 0, _, _ => none
 | n + 1, l, s => if isSg L s 44 = true then (match f (adv s) with
  | none => none
  | some (x, s1) => sepM f n (l ++ [x]) s1) else some (l, s)
def orsM (f : Nat → PM Expr) : PM (List Expr) := fun s => match f 1 s with
 | none => none
 | some (e, s1) => sepM L (f 1) (L.length + 1) [e] s1
def inM (f : Nat → PM Expr) (q : PM Query) (e : Expr) (not : Bool) : PM Expr := fun s =>
 let s1 := must (isSg L s 40) s
 if isKey L s1 1 = true then (match q s1 with
  | none => none
  | some (x, s2) => some (mKids 8 not [e] [x], must (isSg L s2 41) s2))
 else match orsM L f s1 with
  | none => none
  | some (l, s2) => some (mKids 7 not (e :: l) [], must (isSg L s2 41) s2)
def cmpT (f : Nat → PM Expr) (q : PM Query) (e : Expr) : PM Expr := fun s =>
 if isKey L s 16 = true then
  let s1 := adv s
  let n := isKey L s1 15
  let s2 := tkIf n s1
  some (mKids 5 n [e] [], must (isKey L s2 20) s2)
 else
  let n := isKey L s 15
  let s1 := tkIf n s
  if isKey L s1 18 = true then (match f 5 (adv s1) with
   | none => none
   | some (lo, s2) => match f 5 (must (isKey L s2 13) s2) with
    | none => none
    | some (hi, s3) => some (mKids 6 n [e, lo, hi] [], s3))
  else if isKey L s1 17 = true then inM L f q e n (adv s1)
  else some (e, ⟨s1.a, s1.b || n⟩)
def cmpM (f : Nat → PM Expr) (q : PM Query) : PM Expr := fun s => match f 5 s with
 | none => none
 | some (e, s1) => if opAt L s1 4 = 0 then cmpT L f q e s1 else match f 5 (adv s1) with
  | none => none
  | some (x, s2) => some (mBin (opAt L s1 4) e x, s2)
def primM (f : Nat → PM Expr) (q : PM Query) : PM Expr := fun s =>
 if isK L s 3 = true then some (mLit ⟨1, numV (textAt L s), z0⟩, adv s)
 else if isK L s 4 = true then some (mLit ⟨2, 0, textAt L s⟩, adv s)
 else if isKey L s 20 = true then some (mLit zVal, adv s)
 else if isKey L s 21 = true then some (mLit ⟨3, 1, z0⟩, adv s)
 else if isKey L s 22 = true then some (mLit ⟨3, 0, z0⟩, adv s)
 else if isK L s 2 = true then
  let s1 := adv s
  if isSg L s1 46 = true then some (mCol (textAt L s) (mText L 2 (adv s1)).1, (mText L 2 (adv s1)).2)
  else some (mCol z0 (textAt L s), s1)
 else if isSg L s 40 = true then (match f 1 (adv s) with
  | none => none
  | some (e, s1) => some (e, must (isSg L s1 41) s1))
 else if isKey L s 19 = true then
  let s1 := must (isSg L (adv s) 40) (adv s)
  (match q s1 with
  | none => none
  | some (x, s2) => some (mKids 9 false [] [x], must (isSg L s2 41) s2))
 else some (zExpr, fl s)
def stepE (f : Nat → PM Expr) (q : PM Query) (lv : Nat) : PM Expr := fun s =>
 if lv = 3 then (if isKey L s 15 = true then (match f 3 (adv s) with
  | none => none
  | some (e, s1) => some (mUn 15 e, s1)) else f 4 s)
 else if lv = 4 then cmpM L f q s
 else if lv = 8 then (if isSg L s 45 = true then (match f 8 (adv s) with
  | none => none
  | some (e, s1) => some (mUn 16 e, s1)) else f 9 s)
 else if lv = 9 then primM L f q s
 else match f (lv + 1) s with
  | none => none
  | some (e, s1) => chainM L (f (lv + 1)) lv (L.length + 1) e s1
def asM : PS → ByteArray × PS := fun s => if isKey L s 12 = true then mText L 2 (adv s) else (z0, s)
def starN (s : PS) : Bool := isK L s 2 && (isT L s 1 5 ⟨#[46]⟩ && isT L s 2 5 ⟨#[42]⟩)
def itemM (f : Nat → PM Expr) : PM Item := fun s =>
 if isSg L s 42 = true then some (.mk true z0 zExpr z0, adv s)
 else if starN L s = true then some (.mk true (textAt L s) zExpr z0, adv (adv (adv s)))
 else match f 1 s with
  | none => none
  | some (e, s1) => some (.mk false z0 e (asM L s1).1, (asM L s1).2)
def sourceM (s : PS) : Source × PS := (.mk (mText L 2 s).1 (asM L (mText L 2 s).2).1 [], (asM L (mText L 2 s).2).2)
def Source.withOn : Source → List Expr → Source | .mk t a _, on => .mk t a on
def sourcesM (f : Nat → PM Expr) : Nat → List Source → PM (List Source)
 | 0, _, _ => none
 | n + 1, l, s =>
  if isSg L s 44 = true then sourcesM f n (l ++ [(sourceM L (adv s)).1]) (sourceM L (adv s)).2
  else if isKey L s 4 = true then
   let s2 := (sourceM L (adv s)).2
   (match f 1 (must (isKey L s2 5) s2) with
   | none => none
   | some (e, s3) => sourcesM f n (l ++ [(sourceM L (adv s)).1.withOn [e]]) s3)
  else some (l, s)
def whereM (f : Nat → PM Expr) : PM (List Expr) := fun s => if isKey L s 6 = true then (match f 1 (adv s) with
 | none => none
 | some (e, s1) => some ([e], s1)) else some ([], s)
def sortM (f : Nat → PM Expr) : PM SortKey := fun s => match f 1 s with
 | none => none
 | some (e, s1) => if isKey L s1 9 = true then some (.mk e false, adv s1) else some (.mk e (isKey L s1 10), tkIf (isKey L s1 10) s1)
def orderM (f : Nat → PM Expr) : PM (List SortKey) := fun s => if isKey L s 7 = true then
 let s1 := must (isKey L (adv s) 8) (adv s)
 (match sortM L f s1 with
 | none => none
 | some (x, s2) => sepM L (sortM L f) (L.length + 1) [x] s2) else some ([], s)
def limitM (s : PS) : Int × PS := if isKey L s 11 = true then mNum L (adv s) else (-1, s)
def itemsM (f : Nat → PM Expr) : PM (List Item) := fun s => match itemM L f s with
 | none => none
 | some (x, s1) => sepM L (itemM L f) (L.length + 1) [x] s1
def stepQ (f : Nat → PM Expr) : PM Query := fun s =>
 let s1 := must (isKey L s 1) s
 let d := isKey L s1 2
 match itemsM L f (tkIf d s1) with
 | none => none
 | some (its, s2) =>
  let s3 := must (isKey L s2 3) s2
  match sourcesM L f (L.length + 1) [(sourceM L s3).1] (sourceM L s3).2 with
  | none => none
  | some (frs, s4) => match whereM L f s4 with
   | none => none
   | some (wh, s5) => match orderM L f s5 with
    | none => none
    | some (ord, s6) => some (.mk d its frs wh ord (limitM L s6).1, (limitM L s6).2)
def pP : Nat → (Nat → PM Expr) × PM Query
 | 0 => (fun _ _ => none, fun _ => none)
 | k + 1 => (stepE L (pP k).1 (pP k).2, stepQ L (pP k).1)
end
section
variable (L : List Tok)
def Ok (s s' : PS) : Prop := s.a ≤ s'.a ∧ (s.a ≤ L.length → s'.a ≤ L.length) ∧ (s.b = true → s' = s)
theorem Ok.refl (s : PS) : Ok L s s := ⟨Nat.le_refl _, id, fun _ => rfl⟩
variable {L}
theorem Ok.trans {a b c : PS} (h : Ok L a b) (k : Ok L b c) : Ok L a c := ⟨Nat.le_trans h.1 k.1, fun e => k.2.1 (h.2.1 e), fun e => by have := h.2.2 e; subst this; exact k.2.2 e⟩
theorem tkAt_lt {s : PS} {k : Nat} {t : Tok} (h : tkAt L s k = some t) : s.b = false ∧ s.a + k < L.length := by
 unfold tkAt at h
 split at h
 ·cases h
 ·rename_i hb
  exact ⟨by simpa using hb, (List.getElem?_eq_some_iff.1 h).1⟩
theorem isT_lt {s : PS} {k : Nat} {kind : Int} {x : ByteArray} (h : isT L s k kind x = true) : s.b = false ∧ s.a + k < L.length := by
 unfold isT at h
 split at h
 ·rename_i t ht; exact tkAt_lt ht
 ·cases h
theorem isK_lt {s : PS} {kind : Int} (h : isK L s kind = true) : s.b = false ∧ s.a < L.length := by
 unfold isK at h
 split at h
 ·rename_i t ht; exact tkAt_lt ht
 ·cases h
theorem isKey_lt {s : PS} {k : Nat} (h : isKey L s k = true) : s.b = false ∧ s.a < L.length := isT_lt h
theorem isSg_lt {s : PS} {c : UInt8} (h : isSg L s c = true) : s.b = false ∧ s.a < L.length := isT_lt h
theorem opIn_lt {s : PS} : ∀ {l : List Nat}, opIn L s l ≠ 0 → s.b = false ∧ s.a < L.length
 | [], h => absurd rfl h
 | op :: r, h => by
  unfold opIn at h
  split at h
  ·rename_i hh; exact isT_lt hh
  ·exact opIn_lt h
theorem opAt_lt {s : PS} {lv : Nat} (h : ¬ opAt L s lv = 0) : s.b = false ∧ s.a < L.length := opIn_lt h
theorem Ok.adv {s : PS} (h : s.b = false ∧ s.a < L.length) : Ok L s (adv s) := ⟨by simp [Go.Proofs.YtoegnikpokgbfaaGreatDoor.adv], fun _ => by simp [Go.Proofs.YtoegnikpokgbfaaGreatDoor.adv]; omega, fun e => by rw [h.1] at e; cases e⟩
theorem Ok.fl (s : PS) : Ok L s (fl s) := ⟨Nat.le_refl _, id, fun e => by cases s; simp only at e; subst e; rfl⟩
theorem Ok.must {s : PS} {c : Bool} (h : c = true → s.b = false ∧ s.a < L.length) : Ok L s (must c s) := by
 unfold Go.Proofs.YtoegnikpokgbfaaGreatDoor.must
 split
 ·rename_i hc; exact Ok.adv (h hc)
 ·exact Ok.fl s
theorem Ok.tkIf {s : PS} {c : Bool} (h : c = true → s.b = false ∧ s.a < L.length) : Ok L s (tkIf c s) := by
 unfold Go.Proofs.YtoegnikpokgbfaaGreatDoor.tkIf
 split
 ·rename_i hc; exact Ok.adv (h hc)
 ·exact Ok.refl L s
theorem Ok.mText (kind : Int) (s : PS) : Ok L s (mText L kind s).2 := by
 unfold Go.Proofs.YtoegnikpokgbfaaGreatDoor.mText
 split
 ·rename_i hc; exact Ok.adv (isK_lt hc)
 ·exact Ok.fl s
theorem Ok.mNum (s : PS) : Ok L s (mNum L s).2 := Ok.mText 3 s
theorem Ok.asM (s : PS) : Ok L s (asM L s).2 := by
 unfold Go.Proofs.YtoegnikpokgbfaaGreatDoor.asM
 split
 ·rename_i hc; exact (Ok.adv (isKey_lt hc)).trans (Ok.mText 2 _)
 ·exact Ok.refl L s
theorem Ok.sourceM (s : PS) : Ok L s (sourceM L s).2 := (Ok.mText 2 s).trans (Ok.asM _)
theorem Ok.limitM (s : PS) : Ok L s (limitM L s).2 := by
 unfold Go.Proofs.YtoegnikpokgbfaaGreatDoor.limitM
 split
 ·rename_i hc; exact (Ok.adv (isKey_lt hc)).trans (Ok.mNum _)
 ·exact Ok.refl L s
def OkM {α : Type} (m : PM α) : Prop := ∀ s x s', m s = some (x, s') → Ok L s s'
variable {f : Nat → PM Expr} {q : PM Query}
theorem OkM.chain {g : PM Expr} (hg : OkM (L := L) g) (lv : Nat) : ∀ (n : Nat) (e : Expr), OkM (L := L) (chainM L g lv n e)
 | 0, _, _, _, _, h => by cases h
 | n + 1, e, s, x, s', h => by
  rw [chainM] at h
  split at h
  ·injection h with h; injection h with _ h; subst h; exact Ok.refl L s
  ·rename_i ho
   split at h
   ·cases h
   ·rename_i y s1 h1
    exact (Ok.adv (opAt_lt ho)).trans ((hg _ _ _ h1).trans (OkM.chain hg lv n _ _ _ _ h))
theorem OkM.sep {α : Type} {g : PM α} (hg : OkM (L := L) g) : ∀ (n : Nat) (l : List α), OkM (L := L) (sepM L g n l)
 | 0, _, _, _, _, h => by cases h
 | n + 1, l, s, x, s', h => by
  rw [sepM] at h
  split at h
  ·rename_i hc
   split at h
   ·cases h
   ·rename_i y s1 h1
    exact (Ok.adv (isSg_lt hc)).trans ((hg _ _ _ h1).trans (OkM.sep hg n _ _ _ _ h))
  ·injection h with h; injection h with _ h; subst h; exact Ok.refl L s
theorem OkM.ors (hf : ∀ lv, OkM (L := L) (f lv)) : OkM (L := L) (orsM L f) := fun s x s' h => by
 unfold orsM at h
 split at h
 ·cases h
 ·rename_i y s1 h1
  exact (hf 1 _ _ _ h1).trans (OkM.sep (hf 1) _ _ _ _ _ h)
theorem OkM.inn (hf : ∀ lv, OkM (L := L) (f lv)) (hq : OkM (L := L) q) (e : Expr) (n : Bool) : OkM (L := L) (inM L f q e n) := fun s x s' h => by
 unfold inM at h
 have h0 : Ok L s (must (isSg L s 40) s) := Ok.must fun h => isSg_lt h
 simp only at h
 split at h
 ·split at h
  ·cases h
  ·rename_i y s1 h1
   injection h with h; injection h with _ h; subst h
   exact h0.trans ((hq _ _ _ h1).trans (Ok.must fun h => isSg_lt h))
 ·split at h
  ·cases h
  ·rename_i y s1 h1
   injection h with h; injection h with _ h; subst h
   exact h0.trans ((OkM.ors hf _ _ _ h1).trans (Ok.must fun h => isSg_lt h))
theorem OkM.cmpT (hf : ∀ lv, OkM (L := L) (f lv)) (hq : OkM (L := L) q) (e : Expr) : OkM (L := L) (cmpT L f q e) := fun s x s' h => by
 unfold Go.Proofs.YtoegnikpokgbfaaGreatDoor.cmpT at h
 simp only at h
 split at h
 ·rename_i hc
  injection h with h; injection h with _ h; subst h
  exact (Ok.adv (isKey_lt hc)).trans ((Ok.tkIf fun h => isKey_lt h).trans (Ok.must fun h => isKey_lt h))
 ·have h0 : Ok L s (tkIf (isKey L s 15) s) := Ok.tkIf fun h => isKey_lt h
  split at h
  ·rename_i hc
   split at h
   ·cases h
   ·rename_i y s1 h1
    split at h
    ·cases h
    ·rename_i z s2 h2
     injection h with h; injection h with _ h; subst h
     exact h0.trans ((Ok.adv (isKey_lt hc)).trans ((hf 5 _ _ _ h1).trans ((Ok.must fun h => isKey_lt h).trans (hf 5 _ _ _ h2))))
  ·split at h
   ·rename_i hc
    exact h0.trans ((Ok.adv (isKey_lt hc)).trans (OkM.inn hf hq e _ _ _ _ h))
   ·injection h with h; injection h with _ h; subst h
    refine h0.trans ⟨Nat.le_refl _, id, fun e => ?_⟩
    generalize tkIf (isKey L s 15) s = u at *
    cases u; simp only at e; subst e; rfl
theorem OkM.cmp (hf : ∀ lv, OkM (L := L) (f lv)) (hq : OkM (L := L) q) : OkM (L := L) (cmpM L f q) := fun s x s' h => by
 unfold cmpM at h
 split at h
 ·cases h
 ·rename_i y s1 h1
  split at h
  ·exact (hf 5 _ _ _ h1).trans (OkM.cmpT hf hq _ _ _ _ h)
  ·rename_i ho
   split at h
   ·cases h
   ·rename_i z s2 h2
    injection h with h; injection h with _ h; subst h
    exact (hf 5 _ _ _ h1).trans ((Ok.adv (opAt_lt ho)).trans (hf 5 _ _ _ h2))
theorem OkM.prim (hf : ∀ lv, OkM (L := L) (f lv)) (hq : OkM (L := L) q) : OkM (L := L) (primM L f q) := fun s x s' h => by
 unfold primM at h
 simp only at h
 split at h
 ·rename_i hc; injection h with h; injection h with _ h; subst h; exact Ok.adv (isK_lt hc)
 split at h
 ·rename_i hc; injection h with h; injection h with _ h; subst h; exact Ok.adv (isK_lt hc)
 split at h
 ·rename_i hc; injection h with h; injection h with _ h; subst h; exact Ok.adv (isKey_lt hc)
 split at h
 ·rename_i hc; injection h with h; injection h with _ h; subst h; exact Ok.adv (isKey_lt hc)
 split at h
 ·rename_i hc; injection h with h; injection h with _ h; subst h; exact Ok.adv (isKey_lt hc)
 split at h
 ·rename_i hc
  split at h
  ·rename_i hd; injection h with h; injection h with _ h; subst h; exact (Ok.adv (isK_lt hc)).trans ((Ok.adv (isSg_lt hd)).trans (Ok.mText 2 _))
  ·injection h with h; injection h with _ h; subst h; exact Ok.adv (isK_lt hc)
 split at h
 ·rename_i hc
  split at h
  ·cases h
  ·rename_i y s1 h1
   injection h with h; injection h with _ h; subst h
   exact (Ok.adv (isSg_lt hc)).trans ((hf 1 _ _ _ h1).trans (Ok.must fun h => isSg_lt h))
 split at h
 ·rename_i hc
  split at h
  ·cases h
  ·rename_i y s1 h1
   injection h with h; injection h with _ h; subst h
   exact (Ok.adv (isKey_lt hc)).trans ((Ok.must fun h => isSg_lt h).trans ((hq _ _ _ h1).trans (Ok.must fun h => isSg_lt h)))
 ·injection h with h; injection h with _ h; subst h; exact Ok.fl s
theorem OkM.stepE (hf : ∀ lv, OkM (L := L) (f lv)) (hq : OkM (L := L) q) (lv : Nat) : OkM (L := L) (stepE L f q lv) := fun s x s' h => by
 unfold Go.Proofs.YtoegnikpokgbfaaGreatDoor.stepE at h
 split at h
 ·split at h
  ·rename_i hc
   split at h
   ·cases h
   ·rename_i y s1 h1
    injection h with h; injection h with _ h; subst h
    exact (Ok.adv (isKey_lt hc)).trans (hf 3 _ _ _ h1)
  ·exact hf 4 _ _ _ h
 split at h
 ·exact OkM.cmp hf hq _ _ _ h
 split at h
 ·split at h
  ·rename_i hc
   split at h
   ·cases h
   ·rename_i y s1 h1
    injection h with h; injection h with _ h; subst h
    exact (Ok.adv (isSg_lt hc)).trans (hf 8 _ _ _ h1)
  ·exact hf 9 _ _ _ h
 split at h
 ·exact OkM.prim hf hq _ _ _ h
 ·split at h
  ·cases h
  ·rename_i y s1 h1
   exact (hf _ _ _ _ h1).trans (OkM.chain (hf _) lv _ _ _ _ _ h)
theorem starN_lt {s : PS} (h : starN L s = true) : s.b = false ∧ s.a + 2 < L.length := by
 unfold starN at h
 simp only [Bool.and_eq_true] at h
 exact isT_lt h.2.2
theorem OkM.item (hf : ∀ lv, OkM (L := L) (f lv)) : OkM (L := L) (itemM L f) := fun s x s' h => by
 unfold itemM at h
 split at h
 ·rename_i hc; injection h with h; injection h with _ h; subst h; exact Ok.adv (isSg_lt hc)
 split at h
 ·rename_i hc; injection h with h; injection h with _ h; subst h
  have := starN_lt hc
  have a1 : Ok L s (adv s) := Ok.adv ⟨this.1, by omega⟩
  have a2 : Ok L (adv s) (adv (adv s)) := Ok.adv ⟨this.1, show s.a + 1 < _ by omega⟩
  have a3 : Ok L (adv (adv s)) (adv (adv (adv s))) := Ok.adv ⟨this.1, show s.a + 1 + 1 < _ by omega⟩
  exact a1.trans (a2.trans a3)
 split at h
 ·cases h
 ·rename_i y s1 h1
  injection h with h; injection h with _ h; subst h
  exact (hf 1 _ _ _ h1).trans (Ok.asM _)
theorem OkM.sources (hf : ∀ lv, OkM (L := L) (f lv)) : ∀ (n : Nat) (l : List Source), OkM (L := L) (sourcesM L f n l)
 | 0, _, _, _, _, h => by cases h
 | n + 1, l, s, x, s', h => by
  rw [sourcesM] at h
  split at h
  ·rename_i hc
   exact (Ok.adv (isSg_lt hc)).trans ((Ok.sourceM _).trans (OkM.sources hf n _ _ _ _ h))
  simp only at h
  split at h
  ·rename_i hc
   split at h
   ·cases h
   ·rename_i y s1 h1
    exact (Ok.adv (isKey_lt hc)).trans ((Ok.sourceM _).trans ((Ok.must fun h => isKey_lt h).trans ((hf 1 _ _ _ h1).trans (OkM.sources hf n _ _ _ _ h))))
  ·injection h with h; injection h with _ h; subst h; exact Ok.refl L s
theorem OkM.wher (hf : ∀ lv, OkM (L := L) (f lv)) : OkM (L := L) (whereM L f) := fun s x s' h => by
 unfold whereM at h
 split at h
 ·rename_i hc
  split at h
  ·cases h
  ·rename_i y s1 h1
   injection h with h; injection h with _ h; subst h
   exact (Ok.adv (isKey_lt hc)).trans (hf 1 _ _ _ h1)
 ·injection h with h; injection h with _ h; subst h; exact Ok.refl L s
theorem OkM.sort (hf : ∀ lv, OkM (L := L) (f lv)) : OkM (L := L) (sortM L f) := fun s x s' h => by
 unfold sortM at h
 split at h
 ·cases h
 ·rename_i y s1 h1
  split at h
  ·rename_i hc; injection h with h; injection h with _ h; subst h
   exact (hf 1 _ _ _ h1).trans (Ok.adv (isKey_lt hc))
  ·injection h with h; injection h with _ h; subst h
   exact (hf 1 _ _ _ h1).trans (Ok.tkIf fun h => isKey_lt h)
theorem OkM.order (hf : ∀ lv, OkM (L := L) (f lv)) : OkM (L := L) (orderM L f) := fun s x s' h => by
 unfold orderM at h
 simp only at h
 split at h
 ·rename_i hc
  split at h
  ·cases h
  ·rename_i y s1 h1
   exact (Ok.adv (isKey_lt hc)).trans ((Ok.must fun h => isKey_lt h).trans ((OkM.sort hf _ _ _ h1).trans (OkM.sep (OkM.sort hf) _ _ _ _ _ h)))
 ·injection h with h; injection h with _ h; subst h; exact Ok.refl L s
theorem OkM.items (hf : ∀ lv, OkM (L := L) (f lv)) : OkM (L := L) (itemsM L f) := fun s x s' h => by
 unfold itemsM at h
 split at h
 ·cases h
 ·rename_i y s1 h1
  exact (OkM.item hf _ _ _ h1).trans (OkM.sep (OkM.item hf) _ _ _ _ _ h)
theorem OkM.stepQ (hf : ∀ lv, OkM (L := L) (f lv)) : OkM (L := L) (stepQ L f) := fun s x s' h => by
 unfold Go.Proofs.YtoegnikpokgbfaaGreatDoor.stepQ at h
 simp only at h
 split at h
 ·cases h
 rename_i its s2 h1
 split at h
 ·cases h
 rename_i frs s4 h2
 split at h
 ·cases h
 rename_i wh s5 h3
 split at h
 ·cases h
 rename_i od s6 h4
 injection h with h; injection h with _ h; subst h
 exact (Ok.must fun h => isKey_lt h).trans ((Ok.tkIf fun h => isKey_lt h).trans ((OkM.items hf _ _ _ h1).trans ((Ok.must fun h => isKey_lt h).trans ((Ok.sourceM _).trans ((OkM.sources hf _ _ _ _ _ h2).trans ((OkM.wher hf _ _ _ h3).trans ((OkM.order hf _ _ _ h4).trans (Ok.limitM _))))))))
theorem pP_ok : ∀ k, (∀ lv, OkM (L := L) ((pP L k).1 lv)) ∧ OkM (L := L) (pP L k).2
 | 0 => ⟨fun _ _ _ _ h => (by cases h), fun _ _ _ h => (by cases h)⟩
 | k + 1 => ⟨fun lv => OkM.stepE (pP_ok k).1 (pP_ok k).2 lv, OkM.stepQ (pP_ok k).1⟩
end
section
variable {L : List Tok}
abbrev rm (L : List Tok) (s : PS) : Nat := L.length - s.a
def Df {α : Type} (m : PM α) (s : PS) : Prop := ∃ x s', m s = some (x, s')
theorem rm_adv {s : PS} (h : s.b = false ∧ s.a < L.length) : rm L (adv s) < rm L s := by show L.length - (s.a + 1) < L.length - s.a; omega
theorem Ok.rm {s s' : PS} (h : Ok L s s') : rm L s' ≤ rm L s := by have := h.1; show L.length - s'.a ≤ L.length - s.a; omega
variable {f : Nat → PM Expr} {q : PM Query}
theorem chain_df {g : PM Expr} {R lv : Nat} (hk : OkM (L := L) g) (hg : ∀ s, rm L s < R → Df g s) : ∀ (n : Nat) (e : Expr) (s : PS), rm L s ≤ R → rm L s < n → Df (chainM L g lv n e) s
 | 0, _, _, _, h => absurd h (Nat.not_lt_zero _)
 | n + 1, e, s, h, h' => by
  unfold Df
  rw [chainM]
  split
  ·exact ⟨_, _, rfl⟩
  ·rename_i ho
   have ha := rm_adv (opAt_lt ho)
   obtain ⟨x, s1, h1⟩ := hg (adv s) (by omega)
   have := (hk _ _ _ h1).rm
   rw [h1]
   exact chain_df hk hg n _ s1 (by omega) (by omega)
theorem sep_df {α : Type} {g : PM α} {R : Nat} (hk : OkM (L := L) g) (hg : ∀ s, rm L s < R → Df g s) : ∀ (n : Nat) (l : List α) (s : PS), rm L s ≤ R → rm L s < n → Df (sepM L g n l) s
 | 0, _, _, _, h => absurd h (Nat.not_lt_zero _)
 | n + 1, l, s, h, h' => by
  unfold Df
  rw [sepM]
  split
  ·rename_i ho
   have ha := rm_adv (isSg_lt ho)
   obtain ⟨x, s1, h1⟩ := hg (adv s) (by omega)
   have := (hk _ _ _ h1).rm
   rw [h1]
   exact sep_df hk hg n _ s1 (by omega) (by omega)
  ·exact ⟨_, _, rfl⟩
theorem rm_le (s : PS) : rm L s < L.length + 1 := by show L.length - s.a < _; omega
section
variable (hk : ∀ lv, OkM (L := L) (f lv)) (hkq : OkM (L := L) q) {R : Nat} (hf : ∀ lv, 1 ≤ lv → lv ≤ 9 → ∀ s, rm L s < R → Df (f lv) s) (hq : ∀ s, rm L s < R → Df q s)
include hk hf
theorem ors_df {s : PS} (h : rm L s < R) : Df (orsM L f) s := by
 obtain ⟨x, s1, h1⟩ := hf 1 (by omega) (by omega) s h
 have := (hk 1 _ _ _ h1).rm
 unfold Df orsM
 rw [h1]
 exact sep_df (hk 1) (hf 1 (by omega) (by omega)) _ _ s1 (by omega) (rm_le s1)
include hkq hq
theorem in_df {s : PS} (e : Expr) (n : Bool) (h : rm L s < R) : Df (inM L f q e n) s := by
 unfold Df inM
 simp only
 have h0 : Ok L s (must (isSg L s 40) s) := Ok.must fun h => isSg_lt h
 have := h0.rm
 split
 ·obtain ⟨x, s1, h1⟩ := hq (must (isSg L s 40) s) (by omega)
  rw [h1]; exact ⟨_, _, rfl⟩
 ·obtain ⟨x, s1, h1⟩ := ors_df hk hf (s := must (isSg L s 40) s) (by omega)
  rw [h1]; exact ⟨_, _, rfl⟩
theorem cmpT_df {s : PS} (e : Expr) (h : rm L s ≤ R) : Df (cmpT L f q e) s := by
 unfold Df cmpT
 simp only
 split
 ·exact ⟨_, _, rfl⟩
 have h0 : Ok L s (tkIf (isKey L s 15) s) := Ok.tkIf fun h => isKey_lt h
 have h0' := h0.rm
 split
 ·rename_i hc
  have ha := rm_adv (isKey_lt hc)
  obtain ⟨x, s1, h1⟩ := hf 5 (by omega) (by omega) _ (by omega : rm L (adv (tkIf (isKey L s 15) s)) < R)
  have h2 := (hk 5 _ _ _ h1).rm
  rw [h1]
  have h3 : Ok L s1 (must (isKey L s1 13) s1) := Ok.must fun h => isKey_lt h
  have h4 := h3.rm
  obtain ⟨y, s2, h5⟩ := hf 5 (by omega) (by omega) _ (by omega : rm L (must (isKey L s1 13) s1) < R)
  simp only [h5]
  exact ⟨_, _, rfl⟩
 split
 ·rename_i hc
  have ha := rm_adv (isKey_lt hc)
  exact in_df hk hkq hf hq e _ (by omega)
 ·exact ⟨_, _, rfl⟩
theorem prim_df {s : PS} (h : rm L s ≤ R) : Df (primM L f q) s := by
 unfold Df primM
 simp only
 split
 ·exact ⟨_, _, rfl⟩
 split
 ·exact ⟨_, _, rfl⟩
 split
 ·exact ⟨_, _, rfl⟩
 split
 ·exact ⟨_, _, rfl⟩
 split
 ·exact ⟨_, _, rfl⟩
 split
 ·split <;> exact ⟨_, _, rfl⟩
 split
 ·rename_i hc
  have ha := rm_adv (isSg_lt hc)
  obtain ⟨x, s1, h1⟩ := hf 1 (by omega) (by omega) _ (by omega : rm L (adv s) < R)
  rw [h1]; exact ⟨_, _, rfl⟩
 split
 ·rename_i hc
  have ha := rm_adv (isKey_lt hc)
  have h3 : Ok L (adv s) (must (isSg L (adv s) 40) (adv s)) := Ok.must fun h => isSg_lt h
  have h4 := h3.rm
  obtain ⟨x, s1, h1⟩ := hq (must (isSg L (adv s) 40) (adv s)) (by omega)
  rw [h1]; exact ⟨_, _, rfl⟩
 ·exact ⟨_, _, rfl⟩
theorem stepE_df {s : PS} {lv : Nat} (h : rm L s ≤ R) (hlv : lv ≤ 9) (hn : lv ≠ 9 → Df (f (lv + 1)) s) : Df (stepE L f q lv) s := by
 unfold Df stepE
 split
 ·rename_i e; subst e
  split
  ·rename_i hc
   have ha := rm_adv (isKey_lt hc)
   obtain ⟨x, s1, h1⟩ := hf 3 (by omega) (by omega) _ (by omega : rm L (adv s) < R)
   rw [h1]; exact ⟨_, _, rfl⟩
  ·exact hn (by omega)
 split
 ·rename_i e; subst e
  unfold cmpM
  obtain ⟨x, s1, h1⟩ := hn (by omega)
  have h2 := (hk 5 _ _ _ h1).rm
  simp only [h1]
  split
  ·exact cmpT_df hk hkq hf hq _ (by omega)
  ·rename_i ho
   have ha := rm_adv (opAt_lt ho)
   obtain ⟨y, s2, h3⟩ := hf 5 (by omega) (by omega) _ (by omega : rm L (adv s1) < R)
   rw [h3]; exact ⟨_, _, rfl⟩
 split
 ·rename_i e; subst e
  split
  ·rename_i hc
   have ha := rm_adv (isSg_lt hc)
   obtain ⟨x, s1, h1⟩ := hf 8 (by omega) (by omega) _ (by omega : rm L (adv s) < R)
   rw [h1]; exact ⟨_, _, rfl⟩
  ·exact hn (by omega)
 split
 ·exact prim_df hk hkq hf hq h
 ·rename_i e9
  obtain ⟨x, s1, h1⟩ := hn e9
  have h2 := (hk _ _ _ _ h1).rm
  rw [h1]
  exact chain_df (hk _) (fun s' hs' => hf _ (by omega) (by omega) s' hs') _ _ s1 (by omega) (rm_le s1)
end
section
variable (hk : ∀ lv, OkM (L := L) (f lv)) {R : Nat} (hf : ∀ s, rm L s ≤ R → Df (f 1) s)
include hk hf
theorem item_df {s : PS} (h : rm L s ≤ R) : Df (itemM L f) s := by
 unfold Df itemM
 split
 ·exact ⟨_, _, rfl⟩
 split
 ·exact ⟨_, _, rfl⟩
 obtain ⟨x, s1, h1⟩ := hf s h
 rw [h1]; exact ⟨_, _, rfl⟩
theorem sources_df : ∀ (n : Nat) (l : List Source) (s : PS), rm L s ≤ R → rm L s < n → Df (sourcesM L f n l) s
 | 0, _, _, _, h => absurd h (Nat.not_lt_zero _)
 | n + 1, l, s, h, h' => by
  unfold Df
  rw [sourcesM]
  split
  ·rename_i ho
   have ha := rm_adv (isSg_lt ho)
   have hb := (Ok.sourceM (L := L) (adv s)).rm
   exact sources_df n _ _ (by omega) (by omega)
  simp only
  split
  ·rename_i ho
   have ha := rm_adv (isKey_lt ho)
   have hb := (Ok.sourceM (L := L) (adv s)).rm
   have h3 : Ok L (sourceM L (adv s)).2 (must (isKey L (sourceM L (adv s)).2 5) (sourceM L (adv s)).2) := Ok.must fun h => isKey_lt h
   have h4 := h3.rm
   obtain ⟨x, s1, h1⟩ := hf _ (by omega : rm L (must (isKey L (sourceM L (adv s)).2 5) (sourceM L (adv s)).2) ≤ R)
   have h5 := (hk 1 _ _ _ h1).rm
   rw [h1]
   exact sources_df n _ s1 (by omega) (by omega)
  ·exact ⟨_, _, rfl⟩
theorem where_df {s : PS} (h : rm L s ≤ R) : Df (whereM L f) s := by
 unfold Df whereM
 split
 ·rename_i hc
  have ha := rm_adv (isKey_lt hc)
  obtain ⟨x, s1, h1⟩ := hf (adv s) (by omega)
  rw [h1]; exact ⟨_, _, rfl⟩
 ·exact ⟨_, _, rfl⟩
theorem sort_df {s : PS} (h : rm L s ≤ R) : Df (sortM L f) s := by
 unfold Df sortM
 obtain ⟨x, s1, h1⟩ := hf s h
 simp only [h1]
 split <;> exact ⟨_, _, rfl⟩
theorem order_df {s : PS} (h : rm L s ≤ R) : Df (orderM L f) s := by
 unfold Df orderM
 simp only
 split
 ·rename_i hc
  have ha := rm_adv (isKey_lt hc)
  have h3 : Ok L (adv s) (must (isKey L (adv s) 8) (adv s)) := Ok.must fun h => isKey_lt h
  have h4 := h3.rm
  obtain ⟨x, s1, h1⟩ := sort_df hk hf (s := must (isKey L (adv s) 8) (adv s)) (by omega)
  have h5 := (OkM.sort hk _ _ _ h1).rm
  rw [h1]
  exact sep_df (R := R) (OkM.sort hk) (fun s' hs' => sort_df hk hf (by omega)) _ _ s1 (by omega) (rm_le s1)
 ·exact ⟨_, _, rfl⟩
theorem items_df {s : PS} (h : rm L s ≤ R) : Df (itemsM L f) s := by
 unfold Df itemsM
 obtain ⟨x, s1, h1⟩ := item_df hk hf h
 have h5 := (OkM.item hk _ _ _ h1).rm
 rw [h1]
 exact sep_df (R := R) (OkM.item hk) (fun s' hs' => item_df hk hf (by omega)) _ _ s1 (by omega) (rm_le s1)
theorem stepQ_df {s : PS} (h : rm L s ≤ R) : Df (stepQ L f) s := by
 unfold Df stepQ
 simp only
 have k1 : Ok L s (must (isKey L s 1) s) := Ok.must fun h => isKey_lt h
 have k2 : Ok L (must (isKey L s 1) s) (tkIf (isKey L (must (isKey L s 1) s) 2) (must (isKey L s 1) s)) := Ok.tkIf fun h => isKey_lt h
 have k3 := (k1.trans k2).rm
 obtain ⟨its, s2, h1⟩ := items_df hk hf (s := tkIf (isKey L (must (isKey L s 1) s) 2) (must (isKey L s 1) s)) (by omega)
 have h2 := (OkM.items hk _ _ _ h1).rm
 simp only [h1]
 have k4 : Ok L s2 (must (isKey L s2 3) s2) := Ok.must fun h => isKey_lt h
 have k5 := (k4.trans (Ok.sourceM _)).rm
 obtain ⟨frs, s4, h3⟩ := sources_df hk hf (L.length + 1) [(sourceM L (must (isKey L s2 3) s2)).1] (sourceM L (must (isKey L s2 3) s2)).2 (by omega) (rm_le _)
 have h4 := (OkM.sources hk _ _ _ _ _ h3).rm
 simp only [h3]
 obtain ⟨wh, s5, h5⟩ := where_df hk hf (s := s4) (by omega)
 have h6 := (OkM.wher hk _ _ _ h5).rm
 simp only [h5]
 obtain ⟨od, s6, h7⟩ := order_df hk hf (s := s5) (by omega)
 simp only [h7]
 exact ⟨_, _, rfl⟩
end
theorem pP_df : ∀ k, (∀ lv, 1 ≤ lv → lv ≤ 9 → ∀ s, 16 * rm L s + 10 ≤ k + lv → Df ((pP L k).1 lv) s) ∧ (∀ s, 16 * rm L s + 11 ≤ k → Df (pP L k).2 s)
 | 0 => ⟨fun lv _ h2 s h => by omega, fun s h => by omega⟩
 | k + 1 => by
  obtain ⟨i1, i2⟩ := pP_df k
  obtain ⟨o1, o2⟩ := pP_ok (L := L) k
  refine ⟨fun lv h1 h2 s h => ?_, fun s h => ?_⟩
  ·exact stepE_df o1 o2 (R := rm L s) (fun lv' a b s' hs => i1 lv' a b s' (by omega)) (fun s' hs => i2 s' (by omega)) (Nat.le_refl _) h2 (fun hn => i1 _ (by omega) (by omega) s (by omega))
  ·exact stepQ_df o1 (R := rm L s) (fun s' hs => i1 1 (by omega) (by omega) s' (by omega)) (Nat.le_refl _)
def pD (L : List Tok) : Nat := 16 * L.length + 16
def pExpr (L : List Tok) : Nat → PM Expr := (pP L (pD L)).1
def pQuery (L : List Tok) : PM Query := (pP L (pD L)).2
theorem pExpr_df (lv : Nat) (h1 : 1 ≤ lv) (h2 : lv ≤ 9) (s : PS) : Df (pExpr L lv) s := (pP_df (pD L)).1 lv h1 h2 s (by unfold pD rm; omega)
end
section
variable (L : List Tok)
def endM (s : PS) : Int := if s.b = false ∧ L.length ≤ s.a then -1 else s.a
def s0 : PS := ⟨0, false⟩
def takeM {α : Type} (z : α) : Option (α × PS) → α × Int
 | none => (z, 0)
 | some (x, s) => if 0 ≤ endM L s then (z, endM L s) else (x, -1)
def takeE : Expr × Int := takeM L zExpr (pExpr L 1 s0)
end
section
variable {L : List Tok} {f : Nat → PM Expr} {q : PM Query}
theorem pExpr_ok (lv : Nat) : OkM (L := L) (pExpr L lv) := (pP_ok (pD L)).1 lv
section
variable (hk : ∀ lv, OkM (L := L) (f lv)) (hf : ∀ s, Df (f 1) s)
include hk hf
end
end
section
variable {L : List Tok}
def LeM {α : Type} (m m' : PM α) : Prop := ∀ s r, m s = some r → m' s = some r
theorem LeM.chain {g g' : PM Expr} (hg : LeM g g') (lv : Nat) : ∀ (n : Nat) (e : Expr), LeM (chainM L g lv n e) (chainM L g' lv n e)
 | 0, _, _, _, h => by cases h
 | n + 1, e, s, r, h => by
  rw [chainM] at h ⊢
  split at h
  ·rename_i hc; rw [if_pos hc]; exact h
  ·rename_i hc
   rw [if_neg hc]
   split at h
   ·cases h
   ·rename_i y s1 h1
    rw [hg _ _ h1]
    exact LeM.chain hg lv n _ _ _ h
theorem LeM.sep {α : Type} {g g' : PM α} (hg : LeM g g') : ∀ (n : Nat) (l : List α), LeM (sepM L g n l) (sepM L g' n l)
 | 0, _, _, _, h => by cases h
 | n + 1, l, s, r, h => by
  rw [sepM] at h ⊢
  split at h
  ·rename_i hc
   rw [if_pos hc]
   split at h
   ·cases h
   ·rename_i y s1 h1
    rw [hg _ _ h1]
    exact LeM.sep hg n _ _ _ h
  ·rename_i hc; rw [if_neg hc]; exact h
variable {f f' : Nat → PM Expr} {q q' : PM Query} (hf : ∀ lv, LeM (f lv) (f' lv)) (hq : LeM q q')
include hf
theorem LeM.ors : LeM (orsM L f) (orsM L f') := fun s r h => by
 unfold orsM at h ⊢
 split at h
 ·cases h
 ·rename_i y s1 h1
  rw [hf 1 _ _ h1]
  exact LeM.sep (hf 1) _ _ _ _ h
include hq in
theorem LeM.inn (e : Expr) (n : Bool) : LeM (inM L f q e n) (inM L f' q' e n) := fun s r h => by
 unfold inM at h ⊢
 simp only at h ⊢
 split at h
 ·rename_i hc
  rw [if_pos hc]
  split at h
  ·cases h
  ·rename_i y s1 h1
   rw [hq _ _ h1]; exact h
 ·rename_i hc
  rw [if_neg hc]
  split at h
  ·cases h
  ·rename_i y s1 h1
   rw [LeM.ors hf _ _ h1]; exact h
include hq in
theorem LeM.cmpT (e : Expr) : LeM (cmpT L f q e) (cmpT L f' q' e) := fun s r h => by
 unfold Go.Proofs.YtoegnikpokgbfaaGreatDoor.cmpT at h ⊢
 simp only at h ⊢
 split at h
 ·rename_i hc; rw [if_pos hc]; exact h
 ·rename_i hc
  rw [if_neg hc]
  split at h
  ·rename_i hd
   rw [if_pos hd]
   split at h
   ·cases h
   ·rename_i y s1 h1
    rw [hf 5 _ _ h1]
    simp only
    split at h
    ·cases h
    ·rename_i z s2 h2
     rw [hf 5 _ _ h2]; exact h
  ·rename_i hd
   rw [if_neg hd]
   split at h
   ·rename_i he; rw [if_pos he]; exact LeM.inn hf hq _ _ _ _ h
   ·rename_i he; rw [if_neg he]; exact h
include hq in
theorem LeM.cmp : LeM (cmpM L f q) (cmpM L f' q') := fun s r h => by
 unfold cmpM at h ⊢
 split at h
 ·cases h
 ·rename_i y s1 h1
  rw [hf 5 _ _ h1]
  simp only
  split at h
  ·rename_i hc; rw [if_pos hc]; exact LeM.cmpT hf hq _ _ _ h
  ·rename_i hc
   rw [if_neg hc]
   split at h
   ·cases h
   ·rename_i z s2 h2
    rw [hf 5 _ _ h2]; exact h
include hq in
theorem LeM.prim : LeM (primM L f q) (primM L f' q') := fun s r h => by
 unfold primM at h ⊢
 simp only at h ⊢
 split at h
 ·rename_i hc; rw [if_pos hc]; exact h
 rename_i c1
 rw [if_neg c1]
 split at h
 ·rename_i hc; rw [if_pos hc]; exact h
 rename_i c2
 rw [if_neg c2]
 split at h
 ·rename_i hc; rw [if_pos hc]; exact h
 rename_i c3
 rw [if_neg c3]
 split at h
 ·rename_i hc; rw [if_pos hc]; exact h
 rename_i c4
 rw [if_neg c4]
 split at h
 ·rename_i hc; rw [if_pos hc]; exact h
 rename_i c5
 rw [if_neg c5]
 split at h
 ·rename_i hc; rw [if_pos hc]; exact h
 rename_i c6
 rw [if_neg c6]
 split at h
 ·rename_i hc
  rw [if_pos hc]
  split at h
  ·cases h
  ·rename_i y s1 h1
   rw [hf 1 _ _ h1]; exact h
 rename_i c7
 rw [if_neg c7]
 split at h
 ·rename_i hc
  rw [if_pos hc]
  split at h
  ·cases h
  ·rename_i y s1 h1
   rw [hq _ _ h1]; exact h
 ·rename_i hc; rw [if_neg hc]; exact h
include hq in
theorem LeM.stepE (lv : Nat) : LeM (stepE L f q lv) (stepE L f' q' lv) := fun s r h => by
 unfold Go.Proofs.YtoegnikpokgbfaaGreatDoor.stepE at h ⊢
 split at h
 ·rename_i hc
  rw [if_pos hc]
  split at h
  ·rename_i hd
   rw [if_pos hd]
   split at h
   ·cases h
   ·rename_i y s1 h1
    rw [hf 3 _ _ h1]; exact h
  ·rename_i hd; rw [if_neg hd]; exact hf 4 _ _ h
 rename_i c1
 rw [if_neg c1]
 split at h
 ·rename_i hc; rw [if_pos hc]; exact LeM.cmp hf hq _ _ h
 rename_i c2
 rw [if_neg c2]
 split at h
 ·rename_i hc
  rw [if_pos hc]
  split at h
  ·rename_i hd
   rw [if_pos hd]
   split at h
   ·cases h
   ·rename_i y s1 h1
    rw [hf 8 _ _ h1]; exact h
  ·rename_i hd; rw [if_neg hd]; exact hf 9 _ _ h
 rename_i c3
 rw [if_neg c3]
 split at h
 ·rename_i hc; rw [if_pos hc]; exact LeM.prim hf hq _ _ h
 ·rename_i hc
  rw [if_neg hc]
  split at h
  ·cases h
  ·rename_i y s1 h1
   rw [hf _ _ _ h1]
   exact LeM.chain (hf _) _ _ _ _ _ h
theorem LeM.item : LeM (itemM L f) (itemM L f') := fun s r h => by
 unfold itemM at h ⊢
 split at h
 ·rename_i hc; rw [if_pos hc]; exact h
 rename_i c1
 rw [if_neg c1]
 split at h
 ·rename_i hc; rw [if_pos hc]; exact h
 rename_i c2
 rw [if_neg c2]
 split at h
 ·cases h
 ·rename_i y s1 h1
  rw [hf 1 _ _ h1]; exact h
theorem LeM.sources : ∀ (n : Nat) (l : List Source), LeM (sourcesM L f n l) (sourcesM L f' n l)
 | 0, _, _, _, h => by cases h
 | n + 1, l, s, r, h => by
  rw [sourcesM] at h ⊢
  split at h
  ·rename_i hc; rw [if_pos hc]; exact LeM.sources n _ _ _ h
  rename_i c1
  rw [if_neg c1]
  simp only at h ⊢
  split at h
  ·rename_i hc
   rw [if_pos hc]
   split at h
   ·cases h
   ·rename_i y s1 h1
    rw [hf 1 _ _ h1]
    exact LeM.sources n _ _ _ h
  ·rename_i hc; rw [if_neg hc]; exact h
theorem LeM.wher : LeM (whereM L f) (whereM L f') := fun s r h => by
 unfold whereM at h ⊢
 split at h
 ·rename_i hc
  rw [if_pos hc]
  split at h
  ·cases h
  ·rename_i y s1 h1
   rw [hf 1 _ _ h1]; exact h
 ·rename_i hc; rw [if_neg hc]; exact h
theorem LeM.sort : LeM (sortM L f) (sortM L f') := fun s r h => by
 unfold sortM at h ⊢
 split at h
 ·cases h
 ·rename_i y s1 h1
  rw [hf 1 _ _ h1]; exact h
theorem LeM.order : LeM (orderM L f) (orderM L f') := fun s r h => by
 unfold orderM at h ⊢
 simp only at h ⊢
 split at h
 ·rename_i hc
  rw [if_pos hc]
  split at h
  ·cases h
  ·rename_i y s1 h1
   rw [LeM.sort hf _ _ h1]
   exact LeM.sep (LeM.sort hf) _ _ _ _ h
 ·rename_i hc; rw [if_neg hc]; exact h
theorem LeM.items : LeM (itemsM L f) (itemsM L f') := fun s r h => by
 unfold itemsM at h ⊢
 split at h
 ·cases h
 ·rename_i y s1 h1
  rw [LeM.item hf _ _ h1]
  exact LeM.sep (LeM.item hf) _ _ _ _ h
theorem LeM.stepQ : LeM (stepQ L f) (stepQ L f') := fun s r h => by
 unfold Go.Proofs.YtoegnikpokgbfaaGreatDoor.stepQ at h ⊢
 simp only at h ⊢
 split at h
 ·cases h
 rename_i its s2 h1
 rw [LeM.items hf _ _ h1]
 simp only
 split at h
 ·cases h
 rename_i frs s4 h2
 rw [LeM.sources hf _ _ _ _ h2]
 simp only
 split at h
 ·cases h
 rename_i wh s5 h3
 rw [LeM.wher hf _ _ h3]
 simp only
 split at h
 ·cases h
 rename_i od s6 h4
 rw [LeM.order hf _ _ h4]
 exact h
omit hf
theorem pP_more : ∀ k, (∀ lv, LeM ((pP L k).1 lv) ((pP L (k + 1)).1 lv)) ∧ LeM (pP L k).2 (pP L (k + 1)).2
 | 0 => ⟨fun _ _ _ h => (by cases h), fun _ _ h => (by cases h)⟩
 | k + 1 => ⟨fun lv => LeM.stepE (pP_more k).1 (pP_more k).2 lv, LeM.stepQ (pP_more k).1⟩
theorem df_eq {α : Type} {m m' : PM α} (h : LeM m m') (s : PS) (hd : Df m s) : m' s = m s := by
 obtain ⟨x, s1, h1⟩ := hd
 rw [h1, h _ _ h1]
theorem pExpr_eq (lv : Nat) (h1 : 1 ≤ lv) (h2 : lv ≤ 9) (s : PS) : pExpr L lv s = stepE L (pExpr L) (pQuery L) lv s := by
 have := df_eq ((pP_more (L := L) (pD L)).1 lv) s (pExpr_df lv h1 h2 s)
 exact this.symm
end
end Go.Proofs.YtoegnikpokgbfaaGreatDoor
