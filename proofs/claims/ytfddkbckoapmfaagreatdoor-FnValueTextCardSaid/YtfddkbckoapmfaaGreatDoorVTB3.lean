/-
  What is printed is read again.
  Conditions: none.
-/
import Derived.Test.YtfddkbckoapmfaaGreatDoorVTB2
import Derived.Test.YtfddkbckoapmfaaGreatDoorVTH1
set_option linter.unnecessarySimpa false
set_option linter.unusedVariables false
set_option linter.unusedSimpArgs false
set_option linter.unusedSectionVars false
set_option maxRecDepth 8000
namespace Go.Proofs.YtfddkbckoapmfaaGreatDoor
open Go Go.Dv
open Go.Vc (D shrI xorI andI and255)
section
variable {L : List Tok}
def hd (L : List Tok) (a : Nat) : Option (Int × ByteArray) := L[a]?.map fun t => (t.kind, t.text)
def Has (L : List Tok) : Nat → List Tok → Prop
 | _, [] => True
 | a, t :: r => hd L a = some (t.kind, t.text) ∧ Has L (a + 1) r
theorem has_app : ∀ {l m : List Tok} {a : Nat}, Has L a (l ++ m) ↔ Has L a l ∧ Has L (a + l.length) m
 | [], m, a => by simp [Has]
 | t :: r, m, a => by
  rw [List.cons_append, Has, Has, has_app, and_assoc, List.length_cons, show a + 1 + r.length = a + (r.length + 1) by omega]
abbrev P0 (a : Nat) : PS := ⟨a, false⟩
theorem isT_hd (a k : Nat) (kind : Int) (x : ByteArray) : isT L (P0 a) k kind x = decide (hd L (a + k) = some (kind, x)) := by
 unfold isT tkAt hd
 simp only [Bool.false_eq_true, if_false]
 cases L[a + k]? with
 | none => simp
 | some t => simp only [Option.map_some, Option.some.injEq, Prod.mk.injEq, Bool.decide_and]
theorem okTok_k (t : Tok) : okTok t = okTok ⟨t.kind, t.text, 0⟩ := by cases t; rfl
theorem isK_at {a : Nat} {kind k : Int} {x : ByteArray} (h : hd L a = some (k, x)) : isK L (P0 a) kind = (decide (k = kind) && okTok ⟨k, x, 0⟩) := by
 unfold isK tkAt
 unfold hd at h
 simp only [Bool.false_eq_true, if_false, Nat.add_zero]
 cases hl : L[a]? with
 | none => rw [hl] at h; cases h
 | some t =>
  rw [hl] at h
  injection h with h; injection h with h1 h2
  subst h1 h2
  simp only
  rw [okTok_k t]
theorem textAt_at {a : Nat} {k : Int} {x : ByteArray} (h : hd L a = some (k, x)) : textAt L (P0 a) = x := by
 unfold textAt tkAt
 unfold hd at h
 simp only [Bool.false_eq_true, if_false, Nat.add_zero]
 cases hl : L[a]? with
 | none => rw [hl] at h; cases h
 | some t =>
  rw [hl] at h
  injection h with h; injection h with h1 h2
theorem key_at (a k : Nat) : isKey L (P0 a) k = decide (hd L a = some (1, kw k)) := isT_hd a 0 1 _
theorem sg_at (a : Nat) (c : UInt8) : isSg L (P0 a) c = decide (hd L a = some (5, ⟨#[c]⟩)) := isT_hd a 0 5 _
theorem adv_P (a : Nat) : adv (P0 a) = P0 (a + 1) := rfl
def okind (op : Nat) : Int := if op = 1 ∨ op = 2 then 1 else 5
theorem op_at (a op : Nat) : opHit L (P0 a) op = decide (hd L a = some (okind op, opT op)) := isT_hd a 0 _ _
def St (lv : Nat) (h : Option (Int × ByteArray)) : Prop :=
 h ≠ some (5, ⟨#[46]⟩) ∧ (lv ≤ 4 → h ≠ some (1, kw 15) ∧ h ≠ some (1, kw 16) ∧ h ≠ some (1, kw 17) ∧ h ≠ some (1, kw 18)) ∧ ∀ op : Fin 15, 1 ≤ op.1 → (lv : Int) ≤ bl op.1 → h ≠ some (okind op.1, opT op.1)
theorem St.mono {lv lv' : Nat} {h : Option (Int × ByteArray)} (k : lv ≤ lv') (s : St lv h) : St lv' h := ⟨s.1, fun e => s.2.1 (by omega), fun op h1 h2 => s.2.2 op h1 (by omega)⟩
theorem opIn_none {s : PS} : ∀ {l : List Nat}, (∀ op ∈ l, opHit L s op = false) → opIn L s l = 0
 | [], _ => rfl
 | op :: r, h => by
  rw [opIn, h op (by simp), if_neg (by simp)]
  exact opIn_none fun x hx => h x (by simp [hx])
theorem opsL_bl : ∀ lv : Fin 10, ∀ op ∈ opsL lv.1, 1 ≤ op ∧ op ≤ 14 ∧ bl op = lv.1 := by decide
theorem St.noop {lv l a : Nat} (s : St lv (hd L a)) (h : lv ≤ l) (h9 : l ≤ 9) : opAt L (P0 a) l = 0 := opIn_none fun op hop => by
 obtain ⟨h1, h2, h3⟩ := opsL_bl ⟨l, by omega⟩ op hop
 rw [op_at, decide_eq_false_iff_not]
 exact s.2.2 ⟨op, by omega⟩ h1 (by show (lv : Int) ≤ bl op; rw [h3]; show (lv : Int) ≤ l; omega)
theorem opT_inj : ∀ i j : Fin 15, 1 ≤ i.1 → 1 ≤ j.1 → okind i.1 = okind j.1 → opT i.1 = opT j.1 → i = j := by decide +kernel
theorem opIn_hit {a op : Nat} (h1 : 1 ≤ op) (h2 : op ≤ 14) (hh : hd L a = some (okind op, opT op)) : ∀ {l : List Nat}, op ∈ l → (∀ x ∈ l, 1 ≤ x ∧ x ≤ 14) → opIn L (P0 a) l = op
 | [], h, _ => by cases h
 | x :: r, h, hb => by
  rw [opIn, op_at]
  obtain ⟨b1, b2⟩ := hb x (by simp)
  by_cases e : x = op
  ·subst e; rw [if_pos (by simp [hh])]
  ·rw [if_neg]
   ·exact opIn_hit h1 h2 hh (by simpa [Ne.symm e] using h) fun y hy => hb y (by simp [hy])
   ·rw [hh, decide_eq_true_eq]
    intro h3
    injection h3 with h3; injection h3 with h3 h4
    exact e (congrArg Fin.val (opT_inj ⟨op, by omega⟩ ⟨x, by omega⟩ h1 b1 h3 h4)).symm
theorem opsL_mem : ∀ op : Fin 15, 1 ≤ op.1 → op.1 ∈ opsL (bl op.1).toNat := by decide
theorem opAt_hit {a op : Nat} (h1 : 1 ≤ op) (h2 : op ≤ 14) (hh : hd L a = some (okind op, opT op)) : opAt L (P0 a) (bl op).toNat = op := by
 have hl := opsL_mem ⟨op, by omega⟩ h1
 have h9 : (bl op).toNat < 10 := by have := lv_bounds 4 op; unfold lv at this; simp only [if_true] at this; omega
 exact opIn_hit h1 h2 hh hl fun x hx => by
  obtain ⟨b1, b2, _⟩ := opsL_bl ⟨_, h9⟩ x hx
  exact ⟨b1, b2⟩
theorem st_none (lv : Nat) : St lv none := ⟨by simp, fun _ => by simp, fun _ _ _ => by simp⟩
theorem st_sg (c : UInt8) (h : (c = 41 ∨ c = 44)) (lv : Nat) : St lv (some (5, ⟨#[c]⟩)) := by
 rcases h with rfl | rfl
 ·exact ⟨by decide, fun _ => by decide, fun op _ _ => (by decide : ∀ op : Fin 15, (some (5, ⟨#[41]⟩) : Option (Int × ByteArray)) ≠ some (okind op.1, opT op.1)) op⟩
 ·exact ⟨by decide, fun _ => by decide, fun op _ _ => (by decide : ∀ op : Fin 15, (some (5, ⟨#[44]⟩) : Option (Int × ByteArray)) ≠ some (okind op.1, opT op.1)) op⟩
theorem st_key (k lv : Nat) (h : k = 3 ∨ k = 4 ∨ k = 6 ∨ k = 7 ∨ k = 9 ∨ k = 10 ∨ k = 11 ∨ k = 12) : St lv (some (1, kw k)) := by
 have h1 : ∀ k ∈ [3, 4, 6, 7, 9, 10, 11, 12], ((some (1, kw k) : Option (Int × ByteArray)) ≠ some (5, ⟨#[46]⟩)) ∧ ((some (1, kw k) : Option (Int × ByteArray)) ≠ some (1, kw 15) ∧ (some (1, kw k) : Option (Int × ByteArray)) ≠ some (1, kw 16) ∧ (some (1, kw k) : Option (Int × ByteArray)) ≠ some (1, kw 17) ∧ (some (1, kw k) : Option (Int × ByteArray)) ≠ some (1, kw 18)) ∧ ∀ op : Fin 15, (some (1, kw k) : Option (Int × ByteArray)) ≠ some (okind op.1, opT op.1) := by decide +kernel
 obtain ⟨a, b, c⟩ := h1 k (by simpa using h)
 exact ⟨a, fun _ => b, fun op _ _ => c op⟩
theorem st_key5 (k : Nat) (h : k = 13 ∨ k = 15 ∨ k = 16 ∨ k = 17 ∨ k = 18) : St 5 (some (1, kw k)) := by
 have h1 : ∀ k ∈ [13, 15, 16, 17, 18], ((some (1, kw k) : Option (Int × ByteArray)) ≠ some (5, ⟨#[46]⟩)) ∧ ∀ op : Fin 15, 5 ≤ bl op.1 → (some (1, kw k) : Option (Int × ByteArray)) ≠ some (okind op.1, opT op.1) := by decide +kernel
 obtain ⟨a, c⟩ := h1 k (by simpa using h)
 exact ⟨a, fun e => by omega, fun op _ h => c op h⟩
theorem st_op (op : Nat) (h1 : 1 ≤ op) (h2 : op ≤ 14) (lv : Nat) (hl : bl op < lv) (h4 : bl op = 4 → 5 ≤ lv) (h3 : bl op ≤ 2 → 5 ≤ lv ∨ lv ≤ 4) : St lv (some (okind op, opT op)) := by
 have k1 : ∀ op : Fin 15, 1 ≤ op.1 → ((some (okind op.1, opT op.1) : Option (Int × ByteArray)) ≠ some (5, ⟨#[46]⟩)) ∧ ((some (okind op.1, opT op.1) : Option (Int × ByteArray)) ≠ some (1, kw 15) ∧ (some (okind op.1, opT op.1) : Option (Int × ByteArray)) ≠ some (1, kw 16) ∧ (some (okind op.1, opT op.1) : Option (Int × ByteArray)) ≠ some (1, kw 17) ∧ (some (okind op.1, opT op.1) : Option (Int × ByteArray)) ≠ some (1, kw 18)) := by decide +kernel
 obtain ⟨a, b⟩ := k1 ⟨op, by omega⟩ h1
 refine ⟨a, fun _ => b, fun op' h1' hb e => ?_⟩
 injection e with e; injection e with e1 e2
 have := congrArg Fin.val (opT_inj ⟨op, by omega⟩ op' h1 h1' e1 e2)
 simp only at this
 rw [← this] at hb
 omega
end
def chn (lv : Nat) : Prop := lv = 1 ∨ lv = 2 ∨ lv = 5 ∨ lv = 6 ∨ lv = 7
def ItA (L : List Tok) (e : Expr) (l : List Tok) (lv a : Nat) : Prop := St lv (hd L (a + l.length)) → pExpr L lv (P0 a) = some (e, P0 (a + l.length))
def ItB (L : List Tok) (e : Expr) (l : List Tok) (lv a : Nat) : Prop := St (lv + 1) (hd L (a + l.length)) → pExpr L lv (P0 a) = chainM L (pExpr L (lv + 1)) lv (L.length + 1) e (P0 (a + l.length))
def Itm (e : Expr) (l : List Tok) (n : Nat) : Prop := ∀ L a, Has L a l → ∀ lv, 1 ≤ lv → lv ≤ n → ItA L e l lv a ∧ (chn lv → ItB L e l lv a)
theorem Itm.mono {e : Expr} {l : List Tok} {n m : Nat} (h : Itm e l n) (k : m ≤ n) : Itm e l m := fun L a hl lv h1 h2 => h L a hl lv h1 (by omega)
section
variable {L : List Tok}
theorem pE_chain {lv : Nat} (h : chn lv) (s : PS) : pExpr L lv s = match pExpr L (lv + 1) s with
 | none => none
 | some (e, s1) => chainM L (pExpr L (lv + 1)) lv (L.length + 1) e s1 := by
 unfold chn at h
 rw [pExpr_eq lv (by omega) (by omega)]
 unfold stepE
 rw [if_neg (by omega), if_neg (by omega), if_neg (by omega), if_neg (by omega)]
 rcases pExpr L (lv + 1) s with _ | ⟨e, s1⟩ <;> rfl
theorem chain_stop {g : PM Expr} {lv n : Nat} {e : Expr} {s : PS} (h : opAt L s lv = 0) : chainM L g lv (n + 1) e s = some (e, s) := by rw [chainM, if_pos h]
theorem pE_4 (s : PS) : pExpr L 4 s = cmpM L (pExpr L) (pQuery L) s := by rw [pExpr_eq 4 (by omega) (by omega)]; rfl
theorem pE_9 (s : PS) : pExpr L 9 s = primM L (pExpr L) (pQuery L) s := by rw [pExpr_eq 9 (by omega) (by omega)]; rfl
theorem pE_3 (s : PS) : pExpr L 3 s = (if isKey L s 15 = true then (match pExpr L 3 (adv s) with
 | none => none
 | some (e, s1) => some (mUn 15 e, s1)) else pExpr L 4 s) := by rw [pExpr_eq 3 (by omega) (by omega)]; rfl
theorem pE_8 (s : PS) : pExpr L 8 s = (if isSg L s 45 = true then (match pExpr L 8 (adv s) with
 | none => none
 | some (e, s1) => some (mUn 16 e, s1)) else pExpr L 9 s) := by rw [pExpr_eq 8 (by omega) (by omega)]; rfl
theorem key_no {a k : Nat} (h : hd L a ≠ some (1, kw k)) : isKey L (P0 a) k = false := by rw [key_at, decide_eq_false_iff_not]; exact h
theorem key_yes {a k : Nat} (h : hd L a = some (1, kw k)) : isKey L (P0 a) k = true := by rw [key_at, decide_eq_true_eq]; exact h
theorem sg_no {a : Nat} {c : UInt8} (h : hd L a ≠ some (5, ⟨#[c]⟩)) : isSg L (P0 a) c = false := by rw [sg_at, decide_eq_false_iff_not]; exact h
theorem sg_yes {a : Nat} {c : UInt8} (h : hd L a = some (5, ⟨#[c]⟩)) : isSg L (P0 a) c = true := by rw [sg_at, decide_eq_true_eq]; exact h
theorem cmp_stop {a : Nat} {e : Expr} (h : St 4 (hd L a)) : cmpT L (pExpr L) (pQuery L) e (P0 a) = some (e, P0 a) := by
 obtain ⟨_, h2, _⟩ := h
 obtain ⟨k15, k16, k17, k18⟩ := h2 (by omega)
 unfold cmpT
 simp only [key_no k16, key_no k15, Bool.false_eq_true, if_false, tkIf, key_no k18, key_no k17, Bool.or_self]
theorem pE_4_stop {a b : Nat} {e : Expr} (h : pExpr L 5 (P0 a) = some (e, P0 b)) (hs : St 4 (hd L b)) : pExpr L 4 (P0 a) = some (e, P0 b) := by
 rw [pE_4]
 unfold cmpM
 rw [h]
 simp only [hs.noop (Nat.le_refl 4) (by omega), if_true]
 exact cmp_stop hs
end
theorem mk_itm {e : Expr} {l : List Tok} {n : Nat} (hn9 : n ≤ 9) (hA : ∀ L a, Has L a l → ItA L e l n a) (hB : ∀ L a, Has L a l → chn n → ItB L e l n a)
 (hC : ∀ L a, Has L a l → (4 ≤ n → hd L a ≠ some (1, kw 15)) ∧ (n = 9 → hd L a ≠ some (5, ⟨#[45]⟩))) : Itm e l n := by
 intro L a hl
 have key : ∀ d lv, lv + d = n → 1 ≤ lv → ItA L e l lv a ∧ (chn lv → ItB L e l lv a) := by
  intro d
  induction d with
  | zero => intro lv h _; obtain rfl : lv = n := (by omega); exact ⟨hA L a hl, hB L a hl⟩
  | succ d ih =>
   intro lv h h1
   obtain ⟨i1, i2⟩ := ih (lv + 1) (by omega) (by omega)
   have B : chn lv → ItB L e l lv a := fun hc hs => by
    rw [pE_chain hc, i1 hs]
   refine ⟨fun hs => ?_, B⟩
   by_cases hc : chn lv
   ·rw [B hc (hs.mono (by omega)), chain_stop (hs.noop (Nat.le_refl lv) (by omega))]
   ·unfold chn at hc
    rcases (show lv = 3 ∨ lv = 4 ∨ lv = 8 by omega) with rfl | rfl | rfl
    ·rw [pE_3, key_no ((hC L a hl).1 (by omega)), if_neg (by simp)]
     exact i1 (hs.mono (by omega))
    ·exact pE_4_stop (i1 (hs.mono (by omega))) hs
    ·rw [pE_8, sg_no ((hC L a hl).2 (by omega)), if_neg (by simp)]
     exact i1 (hs.mono (by omega))
 exact fun lv h1 h2 => key (n - lv) lv (by omega) h1
theorem hd_ne {L : List Tok} {a : Nat} {k k' : Int} {x x' : ByteArray} (h : hd L a = some (k, x)) (hk : k ≠ k') : hd L a ≠ some (k', x') := by rw [h]; intro e; injection e with e; injection e with e _; exact hk e
theorem hd_nt {L : List Tok} {a : Nat} {k k' : Int} {x x' : ByteArray} (h : hd L a = some (k, x)) (hk : x ≠ x') : hd L a ≠ some (k', x') := by rw [h]; intro e; injection e with e; injection e with _ e; exact hk e
theorem isK_ne {L : List Tok} {a : Nat} {k kind : Int} {x : ByteArray} (h : hd L a = some (k, x)) (hk : k ≠ kind) : isK L (P0 a) kind = false := by rw [isK_at h, decide_eq_false hk]; rfl
theorem itm_par {e : Expr} {l : List Tok} {n : Nat} (h : Itm e l n) (h1 : 1 ≤ n) : Itm e (lpT :: (l ++ [rpT])) 9 := by
 have tk : ∀ L a, Has L a (lpT :: (l ++ [rpT])) → hd L a = some (5, ⟨#[40]⟩) ∧ Has L (a + 1) l ∧ hd L (a + 1 + l.length) = some (5, ⟨#[41]⟩) := fun L a hl => by
  rw [Has, has_app, Has] at hl
  exact ⟨hl.1, hl.2.1, hl.2.2.1⟩
 refine mk_itm (Nat.le_refl 9) (fun L a hl hs => ?_) (fun L a _ hc => by unfold chn at hc; omega) fun L a hl => ?_
 ·obtain ⟨t1, t2, t3⟩ := tk L a hl
  rw [pE_9]
  unfold primM
  have hst : St 1 (hd L (a + 1 + l.length)) := by rw [t3]; exact st_sg 41 (.inl rfl) 1
  have := (h L (a + 1) t2 1 (Nat.le_refl 1) h1).1 hst
  simp only [isK_ne t1 (by decide : (5 : Int) ≠ 3), isK_ne t1 (by decide : (5 : Int) ≠ 4), isK_ne t1 (by decide : (5 : Int) ≠ 2), key_no (hd_ne t1 (by decide : (5 : Int) ≠ 1)), sg_yes t1, Bool.false_eq_true, if_false, if_true, adv_P, this, must, sg_yes t3, List.length_cons, List.length_append, List.length_nil]
  congr 3
  omega
 ·obtain ⟨t1, _, _⟩ := tk L a hl
  exact ⟨fun _ => hd_ne t1 (by decide), fun _ => hd_nt t1 (by decide)⟩
theorem itm_kid {full : Bool} {g : Expr → List Tok} {kind op : Int} {kids : List Expr} {k : Nat} (hx : Itm (kids.getD k zeroX) (g (kids.getD k zeroX)) (lvE (kids.getD k zeroX)).toNat) (h1 : 1 ≤ lvE (kids.getD k zeroX)) (hn : nd kind op k ≤ 9) :
 Itm (kids.getD k zeroX) (kidL full g kind op kids k) (nd kind op k).toNat := by
 unfold kidL parL
 split
 ·exact (itm_par hx (by omega)).mono (by omega)
 ·rename_i hw
  refine hx.mono ?_
  unfold wrF at hw
  simp only [Bool.or_eq_true, not_or] at hw
  have := hw.1
  unfold wrapB at this
  simp only [decide_eq_true_eq] at this
  have e : (Expr.mk 0 0 false ⟨0, 0, ⟨#[]⟩⟩ ⟨#[]⟩ ⟨#[]⟩ [] []) = zeroX := rfl
  rw [e] at this
  omega
theorem has_hd {L : List Tok} {a : Nat} {t : Tok} {r : List Tok} (h : Has L a (t :: r)) : hd L a = some (t.kind, t.text) := h.1
theorem zV_eq {v : Val} (h : zV v = true) : v = zVal := by
 obtain ⟨a, b, c⟩ := v
 simp only [zV, Bool.and_eq_true, decide_eq_true_eq] at h
 simp only [zVal, Val.mk.injEq]
 exact ⟨h.1, h.2⟩
theorem shape_zero {kind op : Int} {not : Bool} {val : Val} {qual name : ByteArray} {nk ns : Int} (h : shapeB kind op not val qual name nk ns = true) :
 ((fmT kind).1 = false → op = 0) ∧ ((fmT kind).2.1 = false → not = false) ∧ ((fmT kind).2.2.1 = false → val = zVal) ∧ ((fmT kind).2.2.2.1 = false → qual = z0 ∧ name = z0) := by
 simp only [shapeB, Bool.and_eq_true] at h
 obtain ⟨_, h1, h2, h3, h4, _⟩ := h
 refine ⟨fun e => ?_, fun e => ?_, fun e => ?_, fun e => ?_⟩
 ·rw [e] at h1; simpa using h1
 ·rw [e] at h2; simpa using h2
 ·rw [e] at h3; exact zV_eq (by simpa using h3)
 ·rw [e] at h4; simpa [z0] using h4
theorem itoaB_num {n : Int} (h0 : 0 ≤ n) (h1 : n ≤ 9223372036854775807) : numOk (itoaB n) = true ∧ numV (itoaB n) = n := by
 obtain ⟨m, rfl⟩ := Int.eq_ofNat_of_zero_le h0
 have e : numN (itoaB m).data.toList = some m := numN_some.2 ⟨by omega, by show _ = (Lib.itoa m); rw [itoa_nat]⟩
 exact ⟨by rw [numOk, e]; rfl, by rw [numV, e]; rfl⟩
theorem itm_lit {v : Val} (h : litB v = true) (hr : v.num ≤ 9223372036854775807) : Itm (mLit v) [litT v] 9 := by
 simp only [litB, Bool.and_eq_true] at h
 obtain ⟨hv, hn, ht⟩ := h
 obtain ⟨kind, num, text⟩ := v
 simp only [decide_eq_true_eq, Bool.or_eq_true] at hn ht hr
 unfold valOk at hv
 simp only at hv
 have done : ∀ k x, litT ⟨kind, num, text⟩ = ⟨k, x, 0⟩ → (k = 1 → x ≠ kw 15) → k ≠ 5 → (∀ L a, hd L a = some (k, x) → primM L (pExpr L) (pQuery L) (P0 a) = some (mLit ⟨kind, num, text⟩, P0 (a + 1))) → Itm (mLit ⟨kind, num, text⟩) [litT ⟨kind, num, text⟩] 9 := fun k x e h15 h5 hp => by
  rw [e]
  refine mk_itm (Nat.le_refl 9) (fun L a hl _ => ?_) (fun L a _ hc => by unfold chn at hc; omega) fun L a hl => ⟨fun _ => ?_, fun _ => hd_ne hl.1 h5⟩
  ·rw [pE_9]; exact hp L a hl.1
  ·by_cases k1 : k = 1
   ·exact hd_nt hl.1 (h15 k1)
   ·exact hd_ne hl.1 k1
 by_cases k0 : kind = 0
 ·subst k0
  rw [if_pos rfl] at hv
  simp only [Bool.and_eq_true, decide_eq_true_eq] at hv
  obtain ⟨rfl, rfl⟩ := hv
  refine done 1 (kw 20) rfl (fun _ => by decide) (by decide) fun L a hh => ?_
  unfold primM
  simp only [isK_ne hh (by decide : (1 : Int) ≠ 3), isK_ne hh (by decide : (1 : Int) ≠ 4), key_yes hh, Bool.false_eq_true, if_false, if_true, adv_P]
  rfl
 rw [if_neg k0] at hv
 by_cases k1 : kind = 1
 ·subst k1
  rw [if_pos rfl] at hv
  simp only [decide_eq_true_eq] at hv
  subst hv
  have h0 : 0 ≤ num := hn.resolve_left (fun h => h rfl)
  obtain ⟨o1, o2⟩ := itoaB_num h0 hr
  refine done 3 (itoaB num) rfl (fun h => absurd h (by decide)) (by decide) fun L a hh => ?_
  have hk : isK L (P0 a) 3 = true := by rw [isK_at hh]; simp only [decide_true, Bool.true_and]; exact o1
  unfold primM
  simp only [hk, if_true, textAt_at hh, o2, adv_P]
  rfl
 rw [if_neg k1] at hv
 by_cases k2 : kind = 2
 ·subst k2
  rw [if_pos rfl] at hv
  simp only [Bool.and_eq_true, decide_eq_true_eq] at hv
  obtain ⟨rfl, _⟩ := hv
  refine done 4 text rfl (fun h => absurd h (by decide)) (by decide) fun L a hh => ?_
  have hk : isK L (P0 a) 4 = true := by rw [isK_at hh]; simp only [decide_true, Bool.true_and]; exact decide_eq_true ht
  unfold primM
  simp only [isK_ne hh (by decide : (4 : Int) ≠ 3), hk, if_true, if_false, Bool.false_eq_true, textAt_at hh, adv_P]
 rw [if_neg k2] at hv
 by_cases k3 : kind = 3
 ·subst k3
  rw [if_pos rfl] at hv
  simp only [Bool.and_eq_true, decide_eq_true_eq] at hv
  obtain ⟨h01, rfl⟩ := hv
  rcases (show num = 1 ∨ num = 0 by omega) with rfl | rfl
  ·refine done 1 (kw 21) rfl (fun _ => by decide) (by decide) fun L a hh => ?_
   unfold primM
   simp only [isK_ne hh (by decide : (1 : Int) ≠ 3), isK_ne hh (by decide : (1 : Int) ≠ 4), key_no (hd_nt hh (by decide : kw 21 ≠ kw 20)), key_yes hh, Bool.false_eq_true, if_false, if_true, adv_P]
   rfl
  ·refine done 1 (kw 22) rfl (fun _ => by decide) (by decide) fun L a hh => ?_
   unfold primM
   simp only [isK_ne hh (by decide : (1 : Int) ≠ 3), isK_ne hh (by decide : (1 : Int) ≠ 4), key_no (hd_nt hh (by decide : kw 22 ≠ kw 20)), key_no (hd_nt hh (by decide : kw 22 ≠ kw 21)), key_yes hh, Bool.false_eq_true, if_false, if_true, adv_P]
   rfl
 ·rw [if_neg k3] at hv; cases hv
theorem name_ok {x : ByteArray} (h : nameB x = true) : okTok ⟨2, x, 0⟩ = true := by
 unfold nameB at h
 exact h
theorem mText_at {L : List Tok} {a : Nat} {x : ByteArray} (h : hd L a = some (2, x)) (hx : nameB x = true) : mText L 2 (P0 a) = (x, P0 (a + 1)) := by
 have hk : isK L (P0 a) 2 = true := by rw [isK_at h, name_ok hx]; rfl
 unfold mText
 rw [if_pos hk, textAt_at h]
 rfl
theorem itm_col {q n : ByteArray} (hn : nameB n = true) (hq : mayB q = true) : Itm (mCol q n) (qualL q ++ [nT n]) 9 := by
 have hb : ∀ L a, Has L a (qualL q ++ [nT n]) → ∃ x, nameB x = true ∧ hd L a = some (2, x) ∧ ((q = z0 ∧ x = n ∧ (qualL q ++ [nT n]).length = 1) ∨ (x = q ∧ hd L (a + 1) = some (5, ⟨#[46]⟩) ∧ hd L (a + 1 + 1) = some (2, n) ∧ (qualL q ++ [nT n]).length = 3)) := fun L a hl => by
  unfold qualL at hl ⊢
  split at hl
  ·rename_i e
   rw [if_pos e]
   exact ⟨n, hn, hl.1, .inl ⟨e, rfl, rfl⟩⟩
  ·rename_i e
   rw [if_neg e]
   unfold mayB at hq
   simp only [Bool.or_eq_true, decide_eq_true_eq, e, false_or] at hq
   exact ⟨q, hq, hl.1, .inr ⟨rfl, hl.2.1, hl.2.2.1, rfl⟩⟩
 refine mk_itm (Nat.le_refl 9) (fun L a hl hs => ?_) (fun L a _ hc => by unfold chn at hc; omega) fun L a hl => ?_
 ·obtain ⟨x, hx, hh, hc⟩ := hb L a hl
  have hk : isK L (P0 a) 2 = true := by rw [isK_at hh, name_ok hx]; rfl
  rw [pE_9]
  unfold primM
  have n1 : (2 : Int) ≠ 1 := by decide
  rcases hc with ⟨rfl, rfl, hlen⟩ | ⟨rfl, h1, h2, hlen⟩
  ·rw [hlen] at hs ⊢
   simp only [isK_ne hh (by decide : (2 : Int) ≠ 3), isK_ne hh (by decide : (2 : Int) ≠ 4), key_no (hd_ne hh n1), hk, Bool.false_eq_true, if_false, if_true, adv_P, sg_no hs.1, textAt_at hh]
  ·rw [hlen]
   simp only [isK_ne hh (by decide : (2 : Int) ≠ 3), isK_ne hh (by decide : (2 : Int) ≠ 4), key_no (hd_ne hh n1), hk, Bool.false_eq_true, if_false, if_true, adv_P, sg_yes h1, textAt_at hh, mText_at h2 hn]
 ·obtain ⟨x, hx, hh, _⟩ := hb L a hl
  exact ⟨fun _ => hd_ne hh (by decide), fun _ => hd_ne hh (by decide)⟩
def Fs (l : List Tok) (n : Int) : Prop := ∀ L a, Has L a l → hd L a ≠ some (1, kw 1) ∧ hd L a ≠ some (5, ⟨#[42]⟩) ∧ (hd L (a + l.length) ≠ some (5, ⟨#[46]⟩) → starN L (P0 a) = false) ∧ (4 ≤ n → hd L a ≠ some (1, kw 15)) ∧ hd L a ≠ some (1, kw 2)
theorem Fs.mono {l : List Tok} {n m : Int} (h : Fs l n) (k : 4 ≤ m → 4 ≤ n) : Fs l m := fun L a hl => ⟨(h L a hl).1, (h L a hl).2.1, (h L a hl).2.2.1, fun e => (h L a hl).2.2.2.1 (k e), (h L a hl).2.2.2.2⟩
theorem starN_no {L : List Tok} {a : Nat} {k : Int} {x : ByteArray} (h : hd L a = some (k, x)) (hk : k ≠ 2) : starN L (P0 a) = false := by
 unfold starN; rw [isK_ne h hk]; rfl
theorem fs_cons {t : Tok} {r : List Tok} {n : Int} (h2 : t.kind ≠ 2) (h1 : t.kind = 1 → t.text ≠ kw 1 ∧ (4 ≤ n → t.text ≠ kw 15) ∧ t.text ≠ kw 2) (h5 : t.kind = 5 → t.text ≠ ⟨#[42]⟩) : Fs (t :: r) n := fun L a hl => by
 have hh := has_hd hl
 refine ⟨?_, ?_, fun _ => starN_no hh h2, fun h4 => ?_, ?_⟩
 ·by_cases e : t.kind = 1
  ·exact hd_nt hh (h1 e).1
  ·exact hd_ne hh e
 ·by_cases e : t.kind = 5
  ·exact hd_nt hh (h5 e)
  ·exact hd_ne hh e
 ·by_cases e : t.kind = 1
  ·exact hd_nt hh ((h1 e).2.1 h4)
  ·exact hd_ne hh e
 ·by_cases e : t.kind = 1
  ·exact hd_nt hh (h1 e).2.2
  ·exact hd_ne hh e
theorem fs_app {l r : List Tok} {t : Tok} {n : Int} (h : Fs l n) (ht : t.kind = 5 → t.text ≠ ⟨#[46]⟩) : Fs (l ++ t :: r) n := fun L a hl => by
 obtain ⟨h1, h2⟩ := has_app.1 hl
 obtain ⟨k1, k2, k3, k4⟩ := h L a h1
 refine ⟨k1, k2, fun _ => k3 ?_, k4⟩
 by_cases e : t.kind = 5
 ·exact hd_nt h2.1 (ht e)
 ·exact hd_ne h2.1 e
theorem fs_par (l : List Tok) (n : Int) : Fs (lpT :: l) n := fs_cons (by decide) (fun e => absurd e (by decide)) (fun _ => by decide)
theorem fs_kid {full : Bool} {g : Expr → List Tok} {kind op : Int} {kids : List Expr} {k : Nat} (h : Fs (g (kids.getD k zeroX)) (lvE (kids.getD k zeroX))) : Fs (kidL full g kind op kids k) (nd kind op k) := by
 unfold kidL parL
 split
 ·exact fs_par _ _
 ·rename_i hw
  refine h.mono fun h4 => ?_
  unfold wrF at hw
  simp only [Bool.or_eq_true, not_or] at hw
  have := hw.1
  unfold wrapB at this
  simp only [decide_eq_true_eq] at this
  have e : (Expr.mk 0 0 false ⟨0, 0, ⟨#[]⟩⟩ ⟨#[]⟩ ⟨#[]⟩ [] []) = zeroX := rfl
  rw [e] at this
  omega
theorem fs_lit {v : Val} (n : Int) : Fs [litT v] n := by
 unfold litT
 split
 ·exact fs_cons (by decide : (3 : Int) ≠ 2) (fun e => absurd e (by decide : (3 : Int) ≠ 1)) (fun e => absurd e (by decide : (3 : Int) ≠ 5))
 split
 ·exact fs_cons (by decide : (4 : Int) ≠ 2) (fun e => absurd e (by decide : (4 : Int) ≠ 1)) (fun e => absurd e (by decide : (4 : Int) ≠ 5))
 split
 ·split
  ·exact fs_cons (by decide) (fun _ => ⟨by decide, fun _ => by decide, by decide⟩) (fun e => absurd e (by decide : (1 : Int) ≠ 5))
  ·exact fs_cons (by decide) (fun _ => ⟨by decide, fun _ => by decide, by decide⟩) (fun e => absurd e (by decide : (1 : Int) ≠ 5))
 ·exact fs_cons (by decide) (fun _ => ⟨by decide, fun _ => by decide, by decide⟩) (fun e => absurd e (by decide : (1 : Int) ≠ 5))
theorem fs_col {q n : ByteArray} (m : Int) : Fs (qualL q ++ [nT n]) m := fun L a hl => by
 unfold qualL at hl ⊢
 split at hl
 ·rename_i e
  rw [if_pos e]
  have hh := has_hd hl
  refine ⟨hd_ne hh (by decide : (2 : Int) ≠ 1), hd_ne hh (by decide : (2 : Int) ≠ 5), fun hd' => ?_, fun _ => hd_ne hh (by decide : (2 : Int) ≠ 1), hd_ne hh (by decide : (2 : Int) ≠ 1)⟩
  unfold starN
  have : isT L (P0 a) 1 5 ⟨#[46]⟩ = false := by rw [isT_hd, decide_eq_false_iff_not]; exact hd'
  rw [this]; simp
 ·rename_i e
  rw [if_neg e]
  have hh := has_hd hl
  refine ⟨hd_ne hh (by decide : (2 : Int) ≠ 1), hd_ne hh (by decide : (2 : Int) ≠ 5), fun _ => ?_, fun _ => hd_ne hh (by decide : (2 : Int) ≠ 1), hd_ne hh (by decide : (2 : Int) ≠ 1)⟩
  unfold starN
  have h3 : hd L (a + 2) = some (2, n) := hl.2.2.1
  have : isT L (P0 a) 2 5 ⟨#[42]⟩ = false := by rw [isT_hd, decide_eq_false_iff_not]; exact hd_ne h3 (by decide)
  rw [this]; simp
theorem op_noop4 {L : List Tok} {a : Nat} {x : ByteArray} (h : hd L a = some (1, x)) : opAt L (P0 a) 4 = 0 := opIn_none fun op hop => by
 rw [op_at, decide_eq_false_iff_not]
 refine hd_ne h ?_
 have : op = 3 ∨ op = 4 ∨ op = 5 ∨ op = 6 ∨ op = 7 ∨ op = 8 := by simpa [opsL] using hop
 unfold okind
 rw [if_neg (by omega)]; decide
theorem opTk_at {L : List Tok} {a : Nat} {op : Int} {r : List Tok} (h0 : 1 ≤ op) (h1 : op ≤ 14) (h : Has L a (opTk op :: r)) : hd L a = some (okind op.toNat, opT op.toNat) := by
 have hh := has_hd h
 have e : ((op.toNat : Nat) : Int) = op := by omega
 rw [hh, opTk, okind, e]
 congr 2
 by_cases c : op = 1 ∨ op = 2
 ·rw [if_pos (by omega), if_pos (by omega)]
 ·rw [if_neg (by omega), if_neg (by omega)]
section
variable {full : Bool} {g : Expr → List Tok}
def KidsOk (g : Expr → List Tok) (kids : List Expr) : Prop := ∀ k, k < kids.length → Itm (kids.getD k zeroX) (g (kids.getD k zeroX)) (lvE (kids.getD k zeroX)).toNat ∧ 1 ≤ lvE (kids.getD k zeroX) ∧ Fs (g (kids.getD k zeroX)) (lvE (kids.getD k zeroX))
theorem KidsOk.itm {kids : List Expr} (h : KidsOk g kids) {k : Nat} (hk : k < kids.length) (full : Bool) (kind op : Int) {n : Nat} (hn : (nd kind op k).toNat = n) (h9 : n ≤ 9) : Itm (kids.getD k zeroX) (kidL full g kind op kids k) n := by
 obtain ⟨h1, h2, _⟩ := h k hk
 rw [← hn]; exact itm_kid h1 h2 (by omega)
theorem KidsOk.fs {kids : List Expr} (h : KidsOk g kids) {k : Nat} (hk : k < kids.length) (full : Bool) (kind op : Int) : Fs (kidL full g kind op kids k) (nd kind op k) := fs_kid (h k hk).2.2
theorem itm_un {k : Expr} {op : Int} (ho : op = 15 ∨ op = 16) (h : KidsOk g [k]) : Itm (mUn op k) (opTk op :: kidL full g 3 op [k] 0) (lv 3 op).toNat := by
 rcases ho with rfl | rfl
 ·have hk := h.itm (k := 0) (by simp) full 3 15 (n := 3) (by decide) (by omega)
  refine mk_itm (n := 3) (by omega) (fun L a hl hs => ?_) (fun L a _ hc => by unfold chn at hc; omega) fun L a _ => ⟨fun h => by omega, fun h => by omega⟩
  have hh : hd L a = some (1, kw 15) := hl.1
  rw [pE_3, key_yes hh, if_pos rfl, adv_P]
  have e : a + (opTk 15 :: kidL full g 3 15 [k] 0).length = a + 1 + (kidL full g 3 15 [k] 0).length := by rw [List.length_cons]; omega
  rw [e] at hs ⊢
  rw [(hk L (a + 1) hl.2 3 (by omega) (by omega)).1 hs]
  rfl
 ·have hk := h.itm (k := 0) (by simp) full 3 16 (n := 8) (by decide) (by omega)
  refine mk_itm (n := 8) (by omega) (fun L a hl hs => ?_) (fun L a _ hc => by unfold chn at hc; omega) fun L a hl => ⟨fun _ => hd_ne (has_hd hl) (by decide), fun h => by omega⟩
  have hh : hd L a = some (5, ⟨#[45]⟩) := hl.1
  rw [pE_8, sg_yes hh, if_pos rfl, adv_P]
  have e : a + (opTk 16 :: kidL full g 3 16 [k] 0).length = a + 1 + (kidL full g 3 16 [k] 0).length := by rw [List.length_cons]; omega
  rw [e] at hs ⊢
  rw [(hk L (a + 1) hl.2 8 (by omega) (by omega)).1 hs]
  rfl
theorem bl_cases {op : Int} (h0 : 1 ≤ op) (h1 : op ≤ 14) : (bl op = 1 ∨ bl op = 2 ∨ bl op = 4 ∨ bl op = 5 ∨ bl op = 6 ∨ bl op = 7) := by unfold bl; (repeat' split) <;> omega
theorem itm_bin {x y : Expr} {op : Int} (h0 : 1 ≤ op) (h1 : op ≤ 14) (h : KidsOk g [x, y]) : Itm (mBin op.toNat x y) (kidL full g 4 op [x, y] 0 ++ opTk op :: kidL full g 4 op [x, y] 1) (lv 4 op).toNat := by
 have hbl := bl_cases h0 h1
 have e4 : lv 4 op = bl op := by unfold lv; rw [if_pos rfl]
 have eop : ((op.toNat : Nat) : Int) = op := by omega
 have hf := h.fs (k := 0) (by simp) full 4 op
 have tk : ∀ L a, Has L a (kidL full g 4 op [x, y] 0 ++ opTk op :: kidL full g 4 op [x, y] 1) → Has L a (kidL full g 4 op [x, y] 0) ∧ hd L (a + (kidL full g 4 op [x, y] 0).length) = some (okind op.toNat, opT op.toNat) ∧ Has L (a + (kidL full g 4 op [x, y] 0).length + 1) (kidL full g 4 op [x, y] 1) := fun L a hl => by
  obtain ⟨a1, a2⟩ := has_app.1 hl
  exact ⟨a1, opTk_at h0 h1 a2, a2.2⟩
 have len : ∀ a, a + (kidL full g 4 op [x, y] 0 ++ opTk op :: kidL full g 4 op [x, y] 1).length = a + (kidL full g 4 op [x, y] 0).length + 1 + (kidL full g 4 op [x, y] 1).length := fun a => by rw [List.length_append, List.length_cons]; omega
 have n0 : nd 4 op 0 = if bl op = 4 then 5 else bl op := by
  unfold nd; rw [e4, if_neg (by omega), if_pos rfl]; simp
 have n1 : nd 4 op 1 = if bl op = 4 then 5 else bl op + 1 := by
  unfold nd; rw [e4, if_neg (by omega), if_pos rfl]; simp
 rw [e4]
 by_cases b4 : bl op = 4
 ·rw [if_pos b4] at n0 n1
  have k0 := h.itm (k := 0) (by simp) full 4 op (n := 5) (by omega) (by omega)
  have k1 := h.itm (k := 1) (by simp) full 4 op (n := 5) (by omega) (by omega)
  rw [b4]
  refine mk_itm (n := 4) (by omega) (fun L a hl hs => ?_) (fun L a _ hc => by unfold chn at hc; omega) fun L a hl => ⟨fun _ => (hf L a (tk L a hl).1).2.2.2.1 (by omega), fun h => by omega⟩
  obtain ⟨t1, t2, t3⟩ := tk L a hl
  rw [len] at hs ⊢
  have s0 : St 5 (hd L (a + (kidL full g 4 op [x, y] 0).length)) := by rw [t2]; exact st_op op.toNat (by omega) (by omega) 5 (by rw [eop]; omega) (fun _ => by omega) (fun _ => by omega)
  rw [pE_4]
  unfold cmpM
  rw [(k0 L a t1 5 (by omega) (by omega)).1 s0]
  have ho := opAt_hit (L := L) (op := op.toNat) (by omega) (by omega) t2
  rw [eop, b4] at ho
  have ho : opAt L (P0 (a + (kidL full g 4 op [x, y] 0).length)) 4 = op.toNat := ho
  simp only [ho]
  rw [if_neg (by omega), adv_P, (k1 L _ t3 5 (by omega) (by omega)).1 (hs.mono (by omega))]
  rfl
 ·rw [if_neg b4] at n0 n1
  obtain ⟨l, hl⟩ : ∃ l : Nat, bl op = l := ⟨(bl op).toNat, by omega⟩
  have hc : chn l := by unfold chn; omega
  have k0 := h.itm (k := 0) (by simp) full 4 op (n := l) (by omega) (by omega)
  have k1 := h.itm (k := 1) (by simp) full 4 op (n := l + 1) (by omega) (by omega)
  have el : (bl op).toNat = l := by omega
  rw [el]
  have B : ∀ L a, Has L a (kidL full g 4 op [x, y] 0 ++ opTk op :: kidL full g 4 op [x, y] 1) → ItB L (mBin op.toNat x y) (kidL full g 4 op [x, y] 0 ++ opTk op :: kidL full g 4 op [x, y] 1) l a := fun L a hl' hs => by
   obtain ⟨t1, t2, t3⟩ := tk L a hl'
   rw [len] at hs ⊢
   have s0 : St (l + 1) (hd L (a + (kidL full g 4 op [x, y] 0).length)) := by rw [t2]; exact st_op op.toNat (by omega) (by omega) (l + 1) (by rw [eop]; omega) (fun _ => by rw [eop] at *; omega) (fun _ => by omega)
   rw [(k0 L a t1 l (by omega) (Nat.le_refl l)).2 hc s0, chainM]
   have ho := opAt_hit (L := L) (op := op.toNat) (by omega) (by omega) t2
   rw [eop, el] at ho
   rw [ho, if_neg (by omega), adv_P, (k1 L _ t3 (l + 1) (by omega) (Nat.le_refl _)).1 hs]
   have hlt : a + (kidL full g 4 op [x, y] 0).length < L.length := by
    unfold hd at t2
    by_cases e : a + (kidL full g 4 op [x, y] 0).length < L.length
    ·exact e
    ·rw [List.getElem?_eq_none_iff.2 (by omega)] at t2; cases t2
   exact chain_any (by omega) (by omega) (by show L.length - (a + (kidL full g 4 op [x, y] 0).length + 1 + (kidL full g 4 op [x, y] 1).length) < L.length; omega) (by omega)
  refine mk_itm (n := l) (by omega) (fun L a hl' hs => ?_) (fun L a hl' _ => B L a hl') fun L a hl' => ⟨fun _ => (hf L a (tk L a hl').1).2.2.2.1 (by omega), fun h => by omega⟩
  rw [B L a hl' (hs.mono (by omega)), chain_stop (hs.noop (Nat.le_refl l) (by omega))]
theorem fs_bin {x y : Expr} {op : Int} (h0 : 1 ≤ op) (h1 : op ≤ 14) (h : KidsOk g [x, y]) : Fs (kidL full g 4 op [x, y] 0 ++ opTk op :: kidL full g 4 op [x, y] 1) (lv 4 op) := by
 have hbl := bl_cases h0 h1
 have e4 : lv 4 op = bl op := by unfold lv; rw [if_pos rfl]
 refine fs_app ((h.fs (k := 0) (by simp) full 4 op).mono fun h4 => ?_) fun _ => ?_
 ·unfold nd; rw [e4] at h4 ⊢; rw [if_neg (by omega), if_pos rfl]; split <;> simp <;> omega
 ·show opT op ≠ _
  have : ∀ i : Fin 15, opT i.1 ≠ ⟨#[46]⟩ := by decide
  have := this ⟨op.toNat, by omega⟩
  rwa [show ((op.toNat : Nat) : Int) = op by omega] at this
theorem itm_tail {k0 e : Expr} {l m : List Tok} {t : Tok} {r : List Tok} (hm : m = t :: r) (hk : Itm k0 l 5) (hf : Fs l 5) (ht : t.kind = 1) (h5 : ∀ h, h = some (t.kind, t.text) → St 5 h)
 (hp : ∀ L a, Has L a m → St 4 (hd L (a + m.length)) → cmpT L (pExpr L) (pQuery L) k0 (P0 a) = some (e, P0 (a + m.length))) : Itm e (l ++ m) 4 := by
 refine mk_itm (n := 4) (by omega) (fun L a hl hs => ?_) (fun L a _ hc => by unfold chn at hc; omega) fun L a hl => ⟨fun _ => (hf L a (has_app.1 hl).1).2.2.2.1 (by omega), fun h => by omega⟩
 obtain ⟨t1, t2⟩ := has_app.1 hl
 have hh : hd L (a + l.length) = some (t.kind, t.text) := by rw [hm] at t2; exact t2.1
 rw [List.length_append, ← Nat.add_assoc] at hs ⊢
 rw [pE_4]
 unfold cmpM
 rw [(hk L a t1 5 (by omega) (by omega)).1 (h5 _ hh)]
 have hn : opAt L (P0 (a + l.length)) 4 = 0 := by rw [ht] at hh; exact op_noop4 hh
 simp only [hn, if_true]
 exact hp L _ t2 hs
end
theorem has_len {L : List Tok} : ∀ {l : List Tok} {a : Nat}, Has L a l → l = [] ∨ a + l.length ≤ L.length
 | [], _, _ => .inl rfl
 | t :: r, a, h => by
  have hlt : a < L.length := by
   have := h.1
   unfold hd at this
   by_cases e : a < L.length
   ·exact e
   ·rw [List.getElem?_eq_none_iff.2 (by omega)] at this; cases this
  rw [List.length_cons]
  rcases has_len h.2 with h1 | h1
  ·subst h1; simp; omega
  ·exact .inr (by omega)
def El {α : Type} (f : List Tok → PM α) (Sx : Option (Int × ByteArray) → Prop) (x : α) (l : List Tok) : Prop := ∀ L a, Has L a l → (hd L (a + l.length) = some (5, ⟨#[44]⟩) ∨ Sx (hd L (a + l.length))) → f L (P0 a) = some (x, P0 (a + l.length))
theorem sep_read {α : Type} {f : List Tok → PM α} {Sx : Option (Int × ByteArray) → Prop} (hS : ∀ h, Sx h → h ≠ some (5, ⟨#[44]⟩)) : ∀ (rest : List (α × List Tok)) (n : Nat) (acc : List α) (L : List Tok) (a : Nat),
 (∀ p ∈ rest, El f Sx p.1 p.2) → rest.length < n → Has L a (rest.flatMap fun p => cmT :: p.2) → Sx (hd L (a + (rest.flatMap fun p => cmT :: p.2).length)) →
 sepM L (f L) n acc (P0 a) = some (acc ++ rest.map (·.1), P0 (a + (rest.flatMap fun p => cmT :: p.2).length))
 | [], n + 1, acc, L, a, _, _, _, hs => by
  rw [List.flatMap_nil, List.length_nil, Nat.add_zero] at hs ⊢
  rw [sepM, sg_no (hS _ hs), if_neg (by simp)]
  simp
 | p :: r, n + 1, acc, L, a, hr, hn, hl, hs => by
  rw [List.flatMap_cons, List.cons_append, Has] at hl
  obtain ⟨h1, h2⟩ := hl
  obtain ⟨h3, h4⟩ := has_app.1 h2
  rw [sepM, sg_yes h1, if_pos rfl, adv_P]
  have len : a + ((p :: r).flatMap fun p => cmT :: p.2).length = a + 1 + p.2.length + (r.flatMap fun p => cmT :: p.2).length := by rw [List.flatMap_cons, List.length_append, List.length_cons]; omega
  rw [len] at hs ⊢
  have hst : hd L (a + 1 + p.2.length) = some (5, ⟨#[44]⟩) ∨ Sx (hd L (a + 1 + p.2.length)) := by
   cases r with
   | nil => exact .inr hs
   | cons q r' =>
    rw [List.flatMap_cons, List.cons_append, Has] at h4
    exact .inl h4.1
  rw [hr p (by simp) L (a + 1) h3 hst]
  simp only
  rw [sep_read hS r n (acc ++ [p.1]) L _ (fun q hq => hr q (by simp [hq])) (by simpa using hn) h4 hs]
  simp
theorem seq_cm {b : Nat → List Tok} (m : Nat) : seqN (fun i => cmL i ++ b i) (m + 1) = b 0 ++ (List.range m).flatMap fun j => cmT :: b (j + 1) := by
 unfold seqN
 rw [List.range_succ_eq_map, List.flatMap_cons, List.flatMap_map]
 rfl
section
variable {full : Bool} {g : Expr → List Tok}
theorem st1_cm : St 1 (some (5, ⟨#[44]⟩)) := st_sg 44 (.inr rfl) 1
theorem el_itm {e : Expr} {l : List Tok} {n : Nat} {Sx : Option (Int × ByteArray) → Prop} (h : Itm e l n) (h1 : 1 ≤ n) (hS : ∀ h, Sx h → St 1 h) : El (fun L => pExpr L 1) Sx e l := fun L a hl hs => (h L a hl 1 (Nat.le_refl 1) h1).1 (by
 rcases hs with hs | hs
 ·rw [hs]; exact st1_cm
 ·exact hS _ hs)
theorem getD_range {α : Type} (l : List α) (d : α) (m : Nat) (h : l.length = m + 1) : (List.range m).map (fun j => l.getD (j + 1) d) = l.tail := by
 cases l with
 | nil => simp at h
 | cons x r =>
  simp only [List.length_cons, Nat.add_right_cancel_iff] at h
  subst h
  refine List.ext_getElem (by simp) fun i h1 h2 => ?_
  simp at h1 h2 ⊢
  rw [List.getElem?_eq_getElem h1]; rfl
theorem tkIf_not {L : List Tok} {a : Nat} (n : Bool) {m : List Tok} {t : Tok} (h : Has L a (notL n ++ t :: m)) (ht : t.text ≠ kw 15) : isKey L (P0 a) 15 = n ∧ tkIf (isKey L (P0 a) 15) (P0 a) = P0 (a + (notL n).length) ∧ hd L (a + (notL n).length) = some (t.kind, t.text) ∧ Has L (a + (notL n).length + 1) m := by
 obtain ⟨h1, h2⟩ := has_app.1 h
 cases n with
 | true =>
  have hh : hd L a = some (1, kw 15) := h1.1
  refine ⟨key_yes hh, ?_, h2.1, h2.2⟩
  rw [key_yes hh]; rfl
 | false =>
  have hk : isKey L (P0 a) 15 = false := key_no (hd_nt (k := t.kind) (x := t.text) h2.1 ht)
  refine ⟨hk, ?_, h2.1, h2.2⟩
  rw [hk]; rfl
theorem itm_is {k : Expr} {not : Bool} (h : KidsOk g [k]) : Itm (mKids 5 not [k] []) (kidL full g 5 0 [k] 0 ++ kT 16 :: (notL not ++ [kT 20])) 4 := by
 have hk := h.itm (k := 0) (by simp) full 5 0 (n := 5) (by decide) (by omega)
 have hf := h.fs (k := 0) (by simp) full 5 0
 refine itm_tail rfl hk (hf.mono fun _ => by decide) rfl (fun h e => by rw [e]; exact st_key5 16 (by omega)) fun L a hl _ => ?_
 obtain ⟨h1, h2⟩ := hl
 have h1 : hd L a = some (1, kw 16) := h1
 obtain ⟨n1, n2, n3, _⟩ := tkIf_not not h2 (by decide)
 have n3 : hd L (a + 1 + (notL not).length) = some (1, kw 20) := n3
 unfold cmpT
 simp only [key_yes h1, if_true, adv_P]
 rw [n2, n1]
 unfold must
 rw [if_pos (key_yes n3)]
 simp only [List.length_cons, List.length_append, List.length_nil, adv_P]
 congr 3; omega
theorem itm_btw {x y z : Expr} {not : Bool} (h : KidsOk g [x, y, z]) : Itm (mKids 6 not [x, y, z] []) (kidL full g 6 0 [x, y, z] 0 ++ (notL not ++ (kT 18 :: (kidL full g 6 0 [x, y, z] 1 ++ (kT 13 :: kidL full g 6 0 [x, y, z] 2))))) 4 := by
 have k0 := h.itm (k := 0) (by simp) full 6 0 (n := 5) (by decide) (by omega)
 have k1 := h.itm (k := 1) (by simp) full 6 0 (n := 5) (by decide) (by omega)
 have k2 := h.itm (k := 2) (by simp) full 6 0 (n := 5) (by decide) (by omega)
 have hf := h.fs (k := 0) (by simp) full 6 0
 have body : ∀ L a, Has L a (notL not ++ (kT 18 :: (kidL full g 6 0 [x, y, z] 1 ++ (kT 13 :: kidL full g 6 0 [x, y, z] 2)))) → St 4 (hd L (a + (notL not ++ (kT 18 :: (kidL full g 6 0 [x, y, z] 1 ++ (kT 13 :: kidL full g 6 0 [x, y, z] 2)))).length)) →
  cmpT L (pExpr L) (pQuery L) x (P0 a) = some (mKids 6 not [x, y, z] [], P0 (a + (notL not ++ (kT 18 :: (kidL full g 6 0 [x, y, z] 1 ++ (kT 13 :: kidL full g 6 0 [x, y, z] 2)))).length)) := fun L a hl hs => by
  obtain ⟨n1, n2, n3, n4⟩ := tkIf_not not hl (by decide)
  obtain ⟨t1, t2⟩ := has_app.1 n4
  have no16 : isKey L (P0 a) 16 = false := by
   cases not with
   | true => exact key_no (hd_nt (k := 1) (x := kw 15) hl.1 (by decide))
   | false => exact key_no (hd_nt (k := 1) (x := kw 18) hl.1 (by decide))
  have len : a + (notL not ++ (kT 18 :: (kidL full g 6 0 [x, y, z] 1 ++ (kT 13 :: kidL full g 6 0 [x, y, z] 2)))).length = a + (notL not).length + 1 + (kidL full g 6 0 [x, y, z] 1).length + 1 + (kidL full g 6 0 [x, y, z] 2).length := by
   simp only [List.length_cons, List.length_append]; omega
  rw [len] at hs ⊢
  have h13 : hd L (a + (notL not).length + 1 + (kidL full g 6 0 [x, y, z] 1).length) = some (1, kw 13) := t2.1
  unfold cmpT
  simp only [no16, Bool.false_eq_true, if_false]
  rw [n2, n1, if_pos (key_yes n3), adv_P, (k1 L _ t1 5 (by omega) (by omega)).1 (by rw [h13]; exact st_key5 13 (by omega))]
  simp only
  unfold must
  rw [if_pos (key_yes h13), adv_P, (k2 L _ t2.2 5 (by omega) (by omega)).1 (hs.mono (by omega))]
  rfl
 cases not with
 | true => exact itm_tail rfl k0 (hf.mono fun _ => by decide) rfl (fun h e => by rw [e]; exact st_key5 15 (by omega)) body
 | false => exact itm_tail rfl k0 (hf.mono fun _ => by decide) rfl (fun h e => by rw [e]; exact st_key5 18 (by omega)) body
theorem itm_in_of {k0 e : Expr} {l m : List Tok} {not : Bool} (hk : Itm k0 l 5) (hf : Fs l 5)
 (hp : ∀ L a, Has L a (lpT :: (m ++ [rpT])) → inM L (pExpr L) (pQuery L) k0 not (P0 a) = some (e, P0 (a + 1 + m.length + 1))) : Itm e (l ++ (notL not ++ (kT 17 :: lpT :: (m ++ [rpT])))) 4 := by
 have body : ∀ L a, Has L a (notL not ++ (kT 17 :: lpT :: (m ++ [rpT]))) → St 4 (hd L (a + (notL not ++ (kT 17 :: lpT :: (m ++ [rpT]))).length)) → cmpT L (pExpr L) (pQuery L) k0 (P0 a) = some (e, P0 (a + (notL not ++ (kT 17 :: lpT :: (m ++ [rpT]))).length)) := fun L a hl hs => by
  obtain ⟨n1, n2, n3, n4⟩ := tkIf_not not hl (by decide)
  have no16 : isKey L (P0 a) 16 = false := by
   cases not with
   | true => exact key_no (hd_nt (k := 1) (x := kw 15) hl.1 (by decide))
   | false => exact key_no (hd_nt (k := 1) (x := kw 17) hl.1 (by decide))
  have len : a + (notL not ++ (kT 17 :: lpT :: (m ++ [rpT]))).length = a + (notL not).length + 1 + 1 + m.length + 1 := by
   simp only [List.length_cons, List.length_append, List.length_nil]; omega
  rw [len]
  unfold cmpT
  simp only [no16, Bool.false_eq_true, if_false]
  rw [n2, n1, if_neg (by rw [key_no (hd_nt n3 (by decide))]; simp), if_pos (key_yes n3), adv_P]
  exact hp L _ n4
 cases not with
 | true => exact itm_tail rfl hk hf rfl (fun h e => by rw [e]; exact st_key5 15 (by omega)) body
 | false => exact itm_tail rfl hk hf rfl (fun h e => by rw [e]; exact st_key5 17 (by omega)) body
theorem itm_in {kids : List Expr} {not : Bool} (h2 : 2 ≤ kids.length) (h9 : kids.length ≤ 9) (h : KidsOk g kids) : Itm (mKids 7 not kids []) (kidL full g 7 0 kids 0 ++ (notL not ++ (kT 17 :: lpT :: (seqN (inF full g 7 0 kids) (kids.length - 1) ++ [rpT])))) 4 := by
 have hk := h.itm (k := 0) (by omega) full 7 0 (n := 5) (by decide) (by omega)
 have hf := h.fs (k := 0) (by omega) full 7 0
 obtain ⟨m, hm⟩ : ∃ m, kids.length = m + 2 := ⟨kids.length - 2, by omega⟩
 have nd1 : ∀ j, nd 7 0 (j + 1) = 1 := fun j => by unfold nd; rw [if_neg (by decide), if_neg (by decide), if_neg (by decide), if_pos ⟨rfl, by omega⟩]
 have kj : ∀ j, j + 1 < kids.length → Itm (kids.getD (j + 1) zeroX) (kidL full g 7 0 kids (j + 1)) 1 := fun j hj => h.itm hj full 7 0 (by rw [nd1]; rfl) (by omega)
 refine itm_in_of hk (hf.mono fun _ => by decide) fun L a hl => ?_
 obtain ⟨t1, t2⟩ := hl
 obtain ⟨t3, t4⟩ := has_app.1 t2
 have e1 : kids.length - 1 = m + 1 := by omega
 have e2 : inF full g 7 0 kids = fun i => cmL i ++ kidL full g 7 0 kids (i + 1) := rfl
 rw [e1, e2, seq_cm] at t3 t4 ⊢
 obtain ⟨t5, t6⟩ := has_app.1 t3
 have hrp : hd L (a + 1 + (kidL full g 7 0 kids (0 + 1) ++ (List.range m).flatMap fun j => cmT :: kidL full g 7 0 kids (j + 1 + 1)).length) = some (5, ⟨#[41]⟩) := t4.1
 generalize hrest : (List.range m).map (fun j => (kids.getD (j + 1 + 1) zeroX, kidL full g 7 0 kids (j + 1 + 1))) = rest
 have hfl : ((List.range m).flatMap fun j => cmT :: kidL full g 7 0 kids (j + 1 + 1)) = rest.flatMap fun p => cmT :: p.2 := by rw [← hrest, List.flatMap_map]
 rw [hfl] at t6 hrp ⊢
 unfold inM
 have hsel : isKey L (P0 (a + 1)) 1 = false := key_no ((h.fs (k := 1) (by omega) full 7 0) L (a + 1) t5).1
 simp only [must, sg_yes t1, if_true, adv_P, hsel, Bool.false_eq_true, if_false]
 have st0 : St 1 (hd L (a + 1 + (kidL full g 7 0 kids (0 + 1)).length)) := by
  cases rest with
  | nil => rw [List.flatMap_nil, List.append_nil] at hrp; rw [hrp]; exact st_sg 41 (.inl rfl) 1
  | cons p r => rw [List.flatMap_cons, List.cons_append, Has] at t6; rw [t6.1]; exact st1_cm
 have hor : orsM L (pExpr L) (P0 (a + 1)) = some (kids.tail, P0 (a + 1 + (kidL full g 7 0 kids (0 + 1) ++ rest.flatMap fun p => cmT :: p.2).length)) := by
  unfold orsM
  rw [((kj 0 (by omega)) L (a + 1) t5 1 (by omega) (by omega)).1 st0]
  simp only
  have hlen : rest.length < L.length + 1 := by
   rw [← hrest, List.length_map, List.length_range]
   have h4 : ∀ r : List (Expr × List Tok), r.length ≤ (r.flatMap fun p => cmT :: p.2).length := fun r => by
    induction r with
    | nil => simp
    | cons p r ih => rw [List.flatMap_cons, List.length_append, List.length_cons, List.length_cons]; omega
   have h5 := h4 rest
   rw [← hrest, List.length_map, List.length_range, hrest] at h5
   rcases has_len t6 with h6 | h6
   ·rw [h6] at h5; simp at h5; omega
   ·omega
  have := sep_read (f := fun L => pExpr L 1) (Sx := fun h => h = some (5, ⟨#[41]⟩)) (fun h e => by rw [e]; decide) rest (L.length + 1) [kids.getD (0 + 1) zeroX] L _ (fun p hp => by
   rw [← hrest, List.mem_map] at hp
   obtain ⟨j, hj, rfl⟩ := hp
   rw [List.mem_range] at hj
   exact el_itm (kj (j + 1) (by omega)) (by omega) (fun h e => by rw [e]; exact st_sg 41 (.inl rfl) 1)) hlen t6 (by rw [List.length_append, ← Nat.add_assoc] at hrp; exact hrp)
  rw [this]
  rw [List.length_append, ← Nat.add_assoc]
  congr 2
  rw [← hrest, List.map_map]
  have e3 : (List.range m).map ((fun p : Expr × List Tok => p.1) ∘ fun j => (kids.getD (j + 1 + 1) zeroX, kidL full g 7 0 kids (j + 1 + 1))) = kids.tail.tail := by
   have := getD_range kids.tail zeroX m (by rw [List.length_tail]; omega)
   rw [← this]
   refine List.map_congr_left fun j _ => ?_
   simp only [Function.comp]
   cases kids with
   | nil => simp at hm
   | cons x r => rfl
  rw [e3]
  cases kids with
  | nil => simp at hm
  | cons x r => cases r with
   | nil => simp at hm
   | cons y r' => rfl
 rw [hor]
 simp only [sg_yes hrp, if_true, adv_P]
 congr 2
 cases kids with
 | nil => simp at hm
 | cons x r => rfl
def Qtm (q : Query) (l : List Tok) : Prop := ∀ L a, Has L a l → (hd L (a + l.length) = none ∨ hd L (a + l.length) = some (5, ⟨#[41]⟩)) → pQuery L (P0 a) = some (q, P0 (a + l.length))
theorem itm_sub {k : Expr} {q : Query} {not : Bool} {r : List Tok} (h : KidsOk g [k]) (hr : quT g q = kT 1 :: r) (hq : Qtm q (quT g q)) : Itm (mKids 8 not [k] [q]) (kidL full g 8 0 [k] 0 ++ (notL not ++ (kT 17 :: lpT :: (quT g q ++ [rpT])))) 4 := by
 have hk := h.itm (k := 0) (by simp) full 8 0 (n := 5) (by decide) (by omega)
 have hf := h.fs (k := 0) (by simp) full 8 0
 refine itm_in_of hk (hf.mono fun _ => by decide) fun L a hl => ?_
 obtain ⟨t1, t2⟩ := hl
 obtain ⟨t3, t4⟩ := has_app.1 t2
 have hrp : hd L (a + 1 + (quT g q).length) = some (5, ⟨#[41]⟩) := t4.1
 have hsel : hd L (a + 1) = some (1, kw 1) := by rw [hr] at t3; exact t3.1
 unfold inM
 simp only [must, sg_yes t1, if_true, adv_P, key_yes hsel]
 rw [hq L (a + 1) t3 (.inr hrp)]
 simp only [sg_yes hrp, if_true, adv_P]
 rfl
theorem itm_ex {q : Query} (hq : Qtm q (quT g q)) : Itm (mKids 9 false [] [q]) (kT 19 :: lpT :: (quT g q ++ [rpT])) 9 := by
 refine mk_itm (Nat.le_refl 9) (fun L a hl hs => ?_) (fun L a _ hc => by unfold chn at hc; omega) fun L a hl => ⟨fun _ => hd_nt (has_hd hl) (by decide), fun _ => hd_ne (has_hd hl) (by decide)⟩
 obtain ⟨t1, t2, t3⟩ := hl
 obtain ⟨t4, t5⟩ := has_app.1 t3
 have h19 : hd L a = some (1, kw 19) := t1
 have hlp : hd L (a + 1) = some (5, ⟨#[40]⟩) := t2
 have hrp : hd L (a + 1 + 1 + (quT g q).length) = some (5, ⟨#[41]⟩) := t5.1
 rw [pE_9]
 unfold primM
 simp only [isK_ne h19 (by decide : (1 : Int) ≠ 3), isK_ne h19 (by decide : (1 : Int) ≠ 4), isK_ne h19 (by decide : (1 : Int) ≠ 2), key_no (hd_nt h19 (by decide : kw 19 ≠ kw 20)), key_no (hd_nt h19 (by decide : kw 19 ≠ kw 21)), key_no (hd_nt h19 (by decide : kw 19 ≠ kw 22)), sg_no (hd_ne h19 (by decide : (1 : Int) ≠ 5)), key_yes h19, Bool.false_eq_true, if_false, if_true, adv_P, must, sg_yes hlp]
 rw [hq L _ t4 (.inr hrp)]
 simp only [sg_yes hrp, if_true, adv_P, List.length_cons, List.length_append, List.length_nil]
 congr 3; omega
end
def En (ks : List Nat) (h : Option (Int × ByteArray)) : Prop := h = none ∨ h = some (5, ⟨#[41]⟩) ∨ ∃ k ∈ ks, h = some (1, kw k)
theorem En.mono {ks ks' : List Nat} {h : Option (Int × ByteArray)} (e : En ks h) (s : ∀ k ∈ ks, k ∈ ks') : En ks' h := e.imp id fun e => e.imp id fun ⟨k, h1, h2⟩ => ⟨k, s k h1, h2⟩
theorem En.st {ks : List Nat} {h : Option (Int × ByteArray)} (e : En ks h) (s : ∀ k ∈ ks, k = 3 ∨ k = 4 ∨ k = 6 ∨ k = 7 ∨ k = 9 ∨ k = 10 ∨ k = 11 ∨ k = 12) (lv : Nat) : St lv h := by
 rcases e with rfl | rfl | ⟨k, hk, rfl⟩
 ·exact st_none lv
 ·exact st_sg 41 (.inl rfl) lv
 ·exact st_key k lv (s k hk)
theorem En.key {ks : List Nat} {h : Option (Int × ByteArray)} (e : En ks h) {x : ByteArray} (s : ∀ k ∈ ks, kw k ≠ x) : h ≠ some (1, x) := by
 rcases e with rfl | rfl | ⟨k, hk, rfl⟩
 ·simp
 ·simp
 ·intro h; injection h with h; injection h with _ h; exact s k hk h
theorem En.sg {ks : List Nat} {h : Option (Int × ByteArray)} (e : En ks h) {x : ByteArray} (s : x ≠ ⟨#[41]⟩) : h ≠ some (5, x) := by
 rcases e with rfl | rfl | ⟨k, hk, rfl⟩
 ·simp
 ·intro h; injection h with h; injection h with _ h; exact s h.symm
 ·simp
theorem En.one {k : Nat} {ks : List Nat} {h : Option (Int × ByteArray)} (e : h = some (1, kw k)) (hk : k ∈ ks) : En ks h := .inr (.inr ⟨k, hk, e⟩)
theorem zE_eq {e : Expr} (h : zeroE e = true) : e = zExpr := by
 obtain ⟨kind, op, not, val, qual, name, kids, sub⟩ := e
 simp only [zeroE, zeroB, Bool.and_eq_true, decide_eq_true_eq, Bool.not_eq_true'] at h
 obtain ⟨h1, h2, h3, h4, h5, h6, h7, h8⟩ := h
 have e1 := zV_eq h4
 have e2 : kids = [] := List.eq_nil_of_length_eq_zero (by omega)
 have e3 : sub = [] := List.eq_nil_of_length_eq_zero (by omega)
 rw [h1, h2, h3, e1, h5, h6, e2, e3]; rfl
section
variable {g : Expr → List Tok}
def XOk (g : Expr → List Tok) (e : Expr) : Prop := Itm e (g e) (lvE e).toNat ∧ 1 ≤ lvE e ∧ Fs (g e) (lvE e)
theorem XOk.el {e : Expr} (h : XOk g e) {L : List Tok} {a : Nat} (hl : Has L a (g e)) (hs : St 1 (hd L (a + (g e).length))) : pExpr L 1 (P0 a) = some (e, P0 (a + (g e).length)) := (h.1 L a hl 1 (Nat.le_refl 1) (by have := h.2.1; omega)).1 hs
theorem asM_read {L : List Tok} {a : Nat} {x : ByteArray} (hx : mayB x = true) (h : Has L a (asL x)) (hn : hd L (a + (asL x).length) ≠ some (1, kw 12)) : asM L (P0 a) = (x, P0 (a + (asL x).length)) := by
 unfold asL at h hn ⊢
 unfold asM
 split at h
 ·rename_i e
  rw [if_pos e] at hn ⊢
  rw [key_no (by simpa using hn), if_neg (by simp), e]; rfl
 ·rename_i e
  rw [if_neg e]
  unfold mayB at hx
  simp only [Bool.or_eq_true, decide_eq_true_eq, e, false_or] at hx
  rw [key_yes h.1, if_pos rfl, adv_P, mText_at h.2.1 hx]; rfl
theorem as_hd {L : List Tok} {a : Nat} {x : ByteArray} (h : Has L a (asL x)) : hd L a = some (1, kw 12) ∨ hd L a = hd L (a + (asL x).length) := by
 unfold asL at h ⊢
 split at h
 ·rename_i e; rw [if_pos e]; exact .inr rfl
 ·exact .inl h.1
theorem item_read {x : Item} (hx : itB x = true) (h : x.star = false → XOk g x.e) : El (fun L => itemM L (pExpr L)) (fun h => h = some (1, kw 3)) x (itemT g x) := fun L a hl hs => by
 obtain ⟨star, qual, e, as_⟩ := x
 have hs' : En [3] (hd L (a + (itemT g (.mk star qual e as_)).length)) ∨ hd L (a + (itemT g (.mk star qual e as_)).length) = some (5, ⟨#[44]⟩) := hs.symm.imp (fun h => En.one h (by simp)) id
 cases star with
 | true =>
  unfold itB at hx
  simp only [if_true, Bool.and_eq_true, decide_eq_true_eq] at hx
  obtain ⟨hq, rfl, hz⟩ := hx
  rw [zE_eq hz]
  have e1 : itemT g (.mk true qual e ⟨#[]⟩) = qualL qual ++ [stT] := rfl
  have e2 : itemT g (.mk true qual zExpr ⟨#[]⟩) = qualL qual ++ [stT] := rfl
  rw [zE_eq hz, e2] at hl
  rw [e2]
  show itemM L (pExpr L) (P0 a) = _
  unfold itemM
  unfold qualL at hl ⊢
  split at hl
  ·rename_i e
   rw [if_pos e, sg_yes hl.1, if_pos rfl, e]; rfl
  ·rename_i e
   rw [if_neg e]
   unfold mayB at hq
   simp only [Bool.or_eq_true, decide_eq_true_eq, e, false_or] at hq
   have h1 : hd L a = some (2, qual) := hl.1
   have h2 : hd L (a + 1) = some (5, ⟨#[46]⟩) := hl.2.1
   have h3 : hd L (a + 2) = some (5, ⟨#[42]⟩) := hl.2.2.1
   have hst : starN L (P0 a) = true := by
    unfold starN
    rw [isK_at h1, name_ok hq, isT_hd, isT_hd, h2, h3]; simp
   rw [sg_no (hd_ne h1 (by decide)), if_neg (by simp), hst, if_pos rfl, textAt_at h1]; rfl
 | false =>
  unfold itB at hx
  simp only [Bool.false_eq_true, if_false, Bool.and_eq_true, decide_eq_true_eq] at hx
  obtain ⟨rfl, ha⟩ := hx
  have hX : XOk g e := h rfl
  have e1 : itemT g (.mk false ⟨#[]⟩ e as_) = g e ++ asL as_ := rfl
  rw [e1] at hl hs' ⊢
  obtain ⟨h1, h2⟩ := has_app.1 hl
  rw [List.length_append, ← Nat.add_assoc] at hs' ⊢
  have hst : St 1 (hd L (a + (g e).length)) := by
   rcases as_hd h2 with h3 | h3
   ·rw [h3]; exact st_key 12 1 (by omega)
   ·rw [h3]
    rcases hs' with h4 | h4
    ·exact h4.st (by simp) 1
    ·rw [h4]; exact st1_cm
  have hf := hX.2.2 L a h1
  show itemM L (pExpr L) (P0 a) = _
  unfold itemM
  rw [sg_no hf.2.1, if_neg (by simp), hf.2.2.1 hst.1, if_neg (by simp), hX.el h1 hst]
  simp only
  rw [asM_read ha h2 (by
   rcases hs' with h4 | h4
   ·exact h4.key (by decide)
   ·rw [h4]; simp)]
  rfl
theorem seq_at {α : Type} {F : Nat → List Tok} {A : List Tok} {h : α → List Tok} {r : List α} (h0 : F 0 = A) (h1 : ∀ i (hi : i < r.length), F (i + 1) = h r[i]) : seqN F (r.length + 1) = A ++ r.flatMap h := by
 have : seqN F (r.length + 1) = F 0 ++ (List.range r.length).flatMap fun i => F (i + 1) := by
  unfold seqN
  rw [List.range_succ_eq_map, List.flatMap_cons, List.flatMap_map]
 rw [this, h0]
 congr 1
 have e : (List.range r.length).map (fun i => F (i + 1)) = r.map h := List.ext_getElem (by simp) fun i a b => by simp at a b ⊢; rw [h1 i a]
 rw [List.flatMap_def, e, ← List.flatMap_def]
theorem rest_len {α : Type} {L : List Tok} {a : Nat} {r : List α} {tk : α → List Tok} (h : Has L a (r.flatMap fun x => cmT :: tk x)) : r.length < L.length + 1 := by
 have h4 : ∀ r : List α, r.length ≤ (r.flatMap fun p => cmT :: tk p).length := fun r => by
  induction r with
  | nil => simp
  | cons p r ih => rw [List.flatMap_cons, List.length_append, List.length_cons, List.length_cons]; omega
 have := h4 r
 rcases has_len h with h5 | h5
 ·rw [h5] at this; simp at this; simp [this]
 ·omega
theorem sep_all {α : Type} {f : List Tok → PM α} {Sx : Option (Int × ByteArray) → Prop} {tk : α → List Tok} (hS : ∀ h, Sx h → h ≠ some (5, ⟨#[44]⟩)) {r : List α} {acc : List α} {L : List Tok} {a : Nat} (hE : ∀ x ∈ r, El f Sx x (tk x))
 (hl : Has L a (r.flatMap fun x => cmT :: tk x)) (hs : Sx (hd L (a + (r.flatMap fun x => cmT :: tk x).length))) : sepM L (f L) (L.length + 1) acc (P0 a) = some (acc ++ r, P0 (a + (r.flatMap fun x => cmT :: tk x).length)) := by
 have e : (r.map fun x => (x, tk x)).flatMap (fun p => cmT :: p.2) = r.flatMap fun x => cmT :: tk x := by rw [List.flatMap_map]
 have := sep_read (f := f) hS (r.map fun x => (x, tk x)) (L.length + 1) acc L a (fun p hp => by
  obtain ⟨x, hx, rfl⟩ := List.mem_map.1 hp
  exact hE x hx) (by rw [List.length_map]; exact rest_len hl) (by rw [e]; exact hl) (by rw [e]; exact hs)
 rw [this, e, List.map_map]
 congr 2
 congr 1
 have : ((fun p : α × List Tok => p.1) ∘ fun x => (x, tk x)) = id := rfl
 rw [this, List.map_id]
theorem el_stop {α : Type} {Sx : Option (Int × ByteArray) → Prop} {tk : α → List Tok} {r : List α} {L : List Tok} {a : Nat} (hl : Has L a (r.flatMap fun x => cmT :: tk x)) (hs : Sx (hd L (a + (r.flatMap fun x => cmT :: tk x).length))) : hd L a = some (5, ⟨#[44]⟩) ∨ Sx (hd L a) := by
 cases r with
 | nil => exact .inr hs
 | cons x r' => rw [List.flatMap_cons, List.cons_append] at hl; exact .inl hl.1
theorem items_read {items : List Item} (h0 : 1 ≤ items.length) (hi : ∀ x ∈ items, itB x = true) (hx : ∀ x ∈ items, x.star = false → XOk g x.e) {L : List Tok} {a : Nat} (hl : Has L a (seqN (itemF g items) items.length)) (hs : hd L (a + (seqN (itemF g items) items.length).length) = some (1, kw 3)) :
 itemsM L (pExpr L) (P0 a) = some (items, P0 (a + (seqN (itemF g items) items.length).length)) := by
 obtain ⟨x, r, rfl⟩ : ∃ x r, items = x :: r := by
  cases items with
  | nil => simp at h0
  | cons x r => exact ⟨x, r, rfl⟩
 have e : seqN (itemF g (x :: r)) (r.length + 1) = itemT g x ++ r.flatMap fun y => cmT :: itemT g y := seq_at rfl fun i hi => by
  show cmL (i + 1) ++ atL (x :: r) (itemT g) (i + 1) = _
  rw [atL_get (by simpa using hi)]; rfl
 rw [List.length_cons, e] at hl hs ⊢
 obtain ⟨h1, h2⟩ := has_app.1 hl
 rw [List.length_append, ← Nat.add_assoc] at hs ⊢
 unfold itemsM
 have hI : itemM L (pExpr L) (P0 a) = _ := item_read (hi x (by simp)) (hx x (by simp)) L a h1 (el_stop (Sx := fun h => h = some (1, kw 3)) h2 hs)
 rw [hI]
 exact sep_all (f := fun L => itemM L (pExpr L)) (Sx := fun h => h = some (1, kw 3)) (fun h e => by rw [e]; decide) (fun y hy => item_read (hi y (by simp [hy])) (hx y (by simp [hy]))) h2 hs
theorem source_read {table as_ : ByteArray} (ht : nameB table = true) (ha : mayB as_ = true) {L : List Tok} {a : Nat} (hl : Has L a (nT table :: asL as_)) (hn : hd L (a + 1 + (asL as_).length) ≠ some (1, kw 12)) : sourceM L (P0 a) = (.mk table as_ [], P0 (a + 1 + (asL as_).length)) := by
 unfold sourceM
 rw [mText_at hl.1 ht]
 simp only
 rw [asM_read ha hl.2 hn]
 rfl
def srcR (g : Expr → List Tok) (x : Source) : List Tok := srcT g 1 x
theorem sources_read {ks : List Nat} (hks : ∀ k ∈ ks, k = 6 ∨ k = 7 ∨ k = 11) : ∀ (r : List Source) (n : Nat) (acc : List Source) {L : List Tok} {a : Nat}, (∀ x ∈ r, srB 1 x = true) → (∀ x ∈ r, ∀ y ∈ x.on, XOk g y) → r.length < n → Has L a (r.flatMap (srcR g)) → En ks (hd L (a + (r.flatMap (srcR g)).length)) →
 sourcesM L (pExpr L) n acc (P0 a) = some (acc ++ r, P0 (a + (r.flatMap (srcR g)).length))
 | [], n + 1, acc, L, a, _, _, _, _, hs => by
  rw [List.flatMap_nil, List.length_nil, Nat.add_zero] at hs ⊢
  have h4 : ∀ k ∈ ks, kw k ≠ kw 4 := fun k hk => by rcases hks k hk with rfl | rfl | rfl <;> decide
  rw [sourcesM, sg_no (hs.sg (by decide)), if_neg (by simp), key_no (hs.key h4)]
  simp
 | x :: r, n + 1, acc, L, a, hb, hX, hn, hl, hs => by
  rw [List.flatMap_cons] at hl hs ⊢
  rw [List.length_append, ← Nat.add_assoc] at hs ⊢
  obtain ⟨h1, h2⟩ := has_app.1 hl
  have hx := hb x (by simp)
  obtain ⟨table, as_, on⟩ := x
  unfold srB at hx
  simp only [Bool.and_eq_true, decide_eq_true_eq] at hx
  obtain ⟨ht, ha, ho, _⟩ := hx
  have hst : En (4 :: ks) (hd L (a + (srcR g (.mk table as_ on)).length)) ∨ hd L (a + (srcR g (.mk table as_ on)).length) = some (5, ⟨#[44]⟩) := by
   cases r with
   | nil => exact .inl (hs.mono fun k hk => by simp [hk])
   | cons y r' =>
    obtain ⟨ty, ay, oy⟩ := y
    rw [List.flatMap_cons] at h2
    have h3 := (has_app.1 h2).1
    have e3 : srcR g (.mk ty ay oy) = (if 0 < oy.length then [kT 4] else [cmT]) ++ (nT ty :: (asL ay ++ onL g oy)) := rfl
    rw [e3] at h3
    by_cases e : 0 < oy.length
    ·rw [if_pos e] at h3; exact .inl (En.one (k := 4) h3.1 (by simp))
    ·rw [if_neg e] at h3; exact .inr h3.1
  have n12 : hd L (a + (srcR g (.mk table as_ on)).length) ≠ some (1, kw 12) := by
   rcases hst with h | h
   ·refine h.key fun k hk => ?_
    rcases List.mem_cons.1 hk with rfl | hk
    ·decide
    ·rcases hks k hk with rfl | rfl | rfl <;> decide
   ·rw [h]; simp
  have rec_ := fun acc => sources_read hks r n acc (fun y hy => hb y (by simp [hy])) (fun y hy => hX y (by simp [hy])) (by simpa using hn) h2 hs
  cases on with
  | nil =>
   have e : srcR g (.mk table as_ []) = cmT :: nT table :: (asL as_ ++ []) := rfl
   rw [List.append_nil] at e
   rw [e] at h1 n12 rec_ ⊢
   have len : a + (cmT :: nT table :: asL as_).length = a + 1 + 1 + (asL as_).length := by simp only [List.length_cons]; omega
   rw [len] at n12 rec_ ⊢
   rw [sourcesM, sg_yes h1.1, if_pos rfl, adv_P, source_read ht ha h1.2 n12]
   simp only
   rw [rec_]; simp
  | cons y on' =>
   have hon' : on' = [] := List.eq_nil_of_length_eq_zero (by simp only [List.length_cons] at ho; omega)
   subst hon'
   have e : srcR g (.mk table as_ [y]) = kT 4 :: nT table :: (asL as_ ++ kT 5 :: g y) := rfl
   rw [e] at h1 n12 rec_ hst ⊢
   have len : a + (kT 4 :: nT table :: (asL as_ ++ kT 5 :: g y)).length = a + 1 + 1 + (asL as_).length + 1 + (g y).length := by simp only [List.length_cons, List.length_append]; omega
   rw [len] at n12 rec_ hst ⊢
   obtain ⟨t1, t2, t3⟩ := h1
   obtain ⟨t4, t5⟩ := has_app.1 t3
   have h4 : hd L a = some (1, kw 4) := t1
   have h5 : hd L (a + 1 + 1 + (asL as_).length) = some (1, kw 5) := t5.1
   rw [sourcesM, sg_no (hd_ne h4 (by decide)), if_neg (by simp), key_yes h4, if_pos rfl, adv_P, source_read ht ha ⟨t2, t4⟩ (by rw [h5]; decide)]
   simp only
   unfold must
   rw [if_pos (key_yes h5), adv_P]
   have hX1 : XOk g y := hX (.mk table as_ [y]) (by simp) y (by simp [Source.on])
   rw [hX1.el t5.2 (by
    rcases hst with h | h
    ·exact h.st (fun k hk => by
      rcases List.mem_cons.1 hk with rfl | hk
      ·omega
      ·have := hks k hk; omega) 1
    ·rw [h]; exact st1_cm)]
   simp only
   rw [rec_]
   simp [Source.withOn]
theorem keys_read {x : SortKey} (hX : XOk g x.e) : El (fun L => sortM L (pExpr L)) (En [11]) x (keyT g x) := fun L a hl hs => by
 obtain ⟨e, desc⟩ := x
 have hX' : XOk g e := hX
 clear hX
 show sortM L (pExpr L) (P0 a) = _
 have e1 : keyT g (.mk e desc) = g e ++ (if desc = true then [kT 10] else []) := rfl
 rw [e1] at hl hs ⊢
 obtain ⟨h1, h2⟩ := has_app.1 hl
 rw [List.length_append, ← Nat.add_assoc] at hs ⊢
 have st11 : ∀ h, En [11] h → St 1 h := fun h e => e.st (by simp) 1
 unfold sortM
 cases desc with
 | true =>
  rw [if_pos rfl] at h2 hs ⊢
  have h10 : hd L (a + (g e).length) = some (1, kw 10) := h2.1
  rw [hX'.el h1 (by rw [h10]; exact st_key 10 1 (by omega))]
  simp only
  rw [key_no (hd_nt h10 (by decide)), if_neg (by simp), key_yes h10]
  rfl
 | false =>
  rw [if_neg (by simp)] at h2 hs ⊢
  simp only [List.length_nil, Nat.add_zero] at hs ⊢
  rw [hX'.el h1 (by
   rcases hs with h | h
   ·rw [h]; exact st1_cm
   ·exact st11 _ h)]
  simp only
  have n9 : ∀ k, k = 9 ∨ k = 10 → hd L (a + (g e).length) ≠ some (1, kw k) := fun k hk => by
   rcases hs with h | h
   ·rw [h]; simp
   ·exact h.key (by rcases hk with rfl | rfl <;> decide)
  rw [key_no (n9 9 (.inl rfl)), if_neg (by simp), key_no (n9 10 (.inr rfl))]
  rfl
theorem order_read {order : List SortKey} (hX : ∀ x ∈ order, XOk g x.e) {L : List Tok} {a : Nat} (hl : Has L a (seqN (keyF g order) order.length)) (hs : En [11] (hd L (a + (seqN (keyF g order) order.length).length))) :
 orderM L (pExpr L) (P0 a) = some (order, P0 (a + (seqN (keyF g order) order.length).length)) := by
 cases order with
 | nil =>
  have e : seqN (keyF g []) ([] : List SortKey).length = [] := rfl
  rw [e] at hs ⊢
  simp only [List.length_nil, Nat.add_zero] at hs ⊢
  unfold orderM
  rw [key_no (hs.key (by decide)), if_neg (by simp)]
 | cons x r =>
  have e : seqN (keyF g (x :: r)) (r.length + 1) = kT 7 :: kT 8 :: (keyT g x ++ r.flatMap fun y => cmT :: keyT g y) := by
   have := seq_at (F := keyF g (x :: r)) (A := kT 7 :: kT 8 :: keyT g x) (h := fun y => cmT :: keyT g y) (r := r) rfl fun i hi => by
    show (if i + 1 = 0 then [kT 7, kT 8] else [cmT]) ++ atL (x :: r) (keyT g) (i + 1) = _
    rw [atL_get (by simpa using hi), if_neg (by omega)]; rfl
   rw [this]; rfl
  rw [List.length_cons, e] at hl hs ⊢
  obtain ⟨t1, t2, t3⟩ := hl
  obtain ⟨t4, t5⟩ := has_app.1 t3
  have len : a + (kT 7 :: kT 8 :: (keyT g x ++ r.flatMap fun y => cmT :: keyT g y)).length = a + 1 + 1 + (keyT g x).length + (r.flatMap fun y => cmT :: keyT g y).length := by simp only [List.length_cons, List.length_append]; omega
  rw [len] at hs ⊢
  have h7 : hd L a = some (1, kw 7) := t1
  have h8 : hd L (a + 1) = some (1, kw 8) := t2
  have hS : ∀ h, En [11] h → h ≠ some (5, ⟨#[44]⟩) := fun h e => e.sg (by decide)
  unfold orderM
  simp only
  rw [if_pos (key_yes h7), adv_P]
  unfold must
  rw [if_pos (key_yes h8), adv_P]
  have hI : sortM L (pExpr L) (P0 (a + 1 + 1)) = _ := keys_read (hX x (by simp)) L _ t4 (el_stop (Sx := En [11]) t5 hs)
  rw [hI]
  exact sep_all (f := fun L => sortM L (pExpr L)) (Sx := En [11]) hS (fun y hy => keys_read (hX y (by simp [hy]))) t5 hs
theorem limit_read {n : Int} (h0 : -1 ≤ n) (h1 : n ≤ 9223372036854775807) {L : List Tok} {a : Nat} (hl : Has L a (limL n)) (hs : En [] (hd L (a + (limL n).length))) : limitM L (P0 a) = (n, P0 (a + (limL n).length)) := by
 unfold limL at hl hs ⊢
 unfold limitM
 split at hl
 ·rename_i hn
  rw [if_pos hn]
  have h11 : hd L a = some (1, kw 11) := hl.1
  have hi : hd L (a + 1) = some (3, itoaB n) := hl.2.1
  obtain ⟨o1, o2⟩ := itoaB_num hn h1
  have hk : isK L (P0 (a + 1)) 3 = true := by rw [isK_at hi]; simp only [decide_true, Bool.true_and]; exact o1
  rw [if_pos (key_yes h11), adv_P]
  unfold mNum mText
  rw [if_pos hk, textAt_at hi]
  simp only [o2]; rfl
 ·rename_i hn
  rw [if_neg hn] at hs ⊢
  rw [key_no (by simpa using hs.key (by simp)), if_neg (by simp)]
  have : n = -1 := by omega
  rw [this]; rfl
theorem where_read {l : List Expr} (h1 : l.length ≤ 1) (hX : ∀ x ∈ l, XOk g x) {L : List Tok} {a : Nat} (hl : Has L a (whL g l)) (hs : En [7, 11] (hd L (a + (whL g l).length))) : whereM L (pExpr L) (P0 a) = some (l, P0 (a + (whL g l).length)) := by
 unfold whereM
 cases l with
 | nil =>
  rw [key_no (by have : En [7, 11] (hd L a) := hs; exact this.key (by decide)), if_neg (by simp)]
  rfl
 | cons x r =>
  have hr : r = [] := List.eq_nil_of_length_eq_zero (by simp only [List.length_cons] at h1; omega)
  subst hr
  have e : whL g [x] = kT 6 :: g x := rfl
  rw [e] at hl hs ⊢
  have len : a + (kT 6 :: g x).length = a + 1 + (g x).length := by rw [List.length_cons]; omega
  rw [len] at hs ⊢
  have h6 : hd L a = some (1, kw 6) := hl.1
  rw [if_pos (key_yes h6), adv_P, (hX x (by simp)).el hl.2 (hs.st (by simp) 1)]
theorem lim_hd {n : Int} {L : List Tok} {a : Nat} (hl : Has L a (limL n)) (hs : En [] (hd L (a + (limL n).length))) : En [11] (hd L a) := by
 unfold limL at hl hs
 split at hl
 ·exact En.one (k := 11) hl.1 (by simp)
 ·rename_i hn
  rw [if_neg hn] at hs
  exact En.mono hs (by simp)
theorem ord_hd {order : List SortKey} {L : List Tok} {a : Nat} (hl : Has L a (seqN (keyF g order) order.length)) (hs : En [11] (hd L (a + (seqN (keyF g order) order.length).length))) : En [7, 11] (hd L a) := by
 cases order with
 | nil => exact En.mono (ks := [11]) hs (by simp)
 | cons x r =>
  have e : seqN (keyF g (x :: r)) (r.length + 1) = (kT 7 :: kT 8 :: keyT g x) ++ r.flatMap fun y => cmT :: keyT g y := seq_at (F := keyF g (x :: r)) rfl fun i hi => by
   show (if i + 1 = 0 then [kT 7, kT 8] else [cmT]) ++ atL (x :: r) (keyT g) (i + 1) = _
   rw [atL_get (by simpa using hi), if_neg (by omega)]; rfl
  rw [List.length_cons, e] at hl
  exact En.one (k := 7) hl.1 (by simp)
theorem wh_hd {l : List Expr} {L : List Tok} {a : Nat} (hl : Has L a (whL g l)) (hs : En [7, 11] (hd L (a + (whL g l).length))) : En [6, 7, 11] (hd L a) := by
 cases l with
 | nil => exact En.mono (ks := [7, 11]) hs (by simp)
 | cons x r => exact En.one (k := 6) hl.1 (by simp)
theorem item_n2 {x : Item} (hx : itB x = true) (h : x.star = false → XOk g x.e) {L : List Tok} {a : Nat} (hl : Has L a (itemT g x)) : hd L a ≠ some (1, kw 2) := by
 obtain ⟨star, qual, e, as_⟩ := x
 cases star with
 | true =>
  have e1 : itemT g (.mk true qual e as_) = qualL qual ++ [stT] := rfl
  rw [e1] at hl
  unfold qualL at hl
  split at hl
  ·exact hd_ne (k := 5) (x := ⟨#[42]⟩) hl.1 (by decide)
  ·exact hd_ne (k := 2) (x := qual) hl.1 (by decide)
 | false =>
  have e1 : itemT g (.mk false qual e as_) = g e ++ asL as_ := rfl
  rw [e1] at hl
  exact ((h rfl).2.2 L a (has_app.1 hl).1).2.2.2.2
theorem query_read {gf : Expr → Bool} {q : Query} (hq : fmQ gf q = true) (hlim : q.lim ≤ 9223372036854775807) (hX : ∀ x ∈ exprsQ q, XOk g x) : Qtm q (quT g q) := fun L a hl hs => by
 obtain ⟨distinct, items, from_, where_, order, limit⟩ := q
 obtain ⟨hi, hf, hw, ho, hlm, hit, hsr, _⟩ := fq_parts hq
 have hlim : limit ≤ 9223372036854775807 := hlim
 have xi : ∀ x ∈ items, x.star = false → XOk g x.e := fun x hx hst => hX _ (by
  show x.e ∈ exprsI items ++ from_.flatMap Source.on ++ where_ ++ order.map SortKey.e
  simp only [List.mem_append, exprsI, List.mem_map, List.mem_filter]
  exact .inl (.inl (.inl ⟨x, ⟨hx, by simp [hst]⟩, rfl⟩)))
 have xf : ∀ x ∈ from_, ∀ y ∈ x.on, XOk g y := fun x hx y hy => hX _ (by
  show y ∈ exprsI items ++ from_.flatMap Source.on ++ where_ ++ order.map SortKey.e
  simp only [List.mem_append, List.mem_flatMap]
  exact .inl (.inl (.inr ⟨x, hx, hy⟩)))
 have xw : ∀ x ∈ where_, XOk g x := fun x hx => hX _ (by
  show x ∈ exprsI items ++ from_.flatMap Source.on ++ where_ ++ order.map SortKey.e
  simp only [List.mem_append]
  exact .inl (.inr hx))
 have xo : ∀ x ∈ order, XOk g x.e := fun x hx => hX _ (by
  show x.e ∈ exprsI items ++ from_.flatMap Source.on ++ where_ ++ order.map SortKey.e
  simp only [List.mem_append, List.mem_map]
  exact .inr ⟨x, hx, rfl⟩)
 have eq : quT g (.mk distinct items from_ where_ order limit) = kT 1 :: ((if distinct = true then [kT 2] else []) ++ (seqN (itemF g items) items.length ++ (kT 3 :: (seqN (srcF g from_) from_.length ++ (whL g where_ ++ (seqN (keyF g order) order.length ++ limL limit)))))) := rfl
 rw [eq] at hl hs ⊢
 obtain ⟨s0, rf, rfl⟩ : ∃ x r, from_ = x :: r := by
  cases from_ with
  | nil => simp at hf
  | cons x r => exact ⟨x, r, rfl⟩
 have es : seqN (srcF g (s0 :: rf)) (rf.length + 1) = srcT g 0 s0 ++ rf.flatMap (srcR g) := seq_at rfl fun i hi => by
  show atL (s0 :: rf) (srcT g (i + 1)) (i + 1) = _
  rw [atL_get (by simpa using hi)]
  have e2 : (s0 :: rf)[i + 1]'(by simpa using hi) = rf[i] := rfl
  rw [e2]
  obtain ⟨t, a', o⟩ := rf[i]
  show (if 0 < i + 1 then (if 0 < o.length then [kT 4] else [cmT]) else []) ++ (nT t :: (asL a' ++ onL g o)) = (if 0 < 1 then (if 0 < o.length then [kT 4] else [cmT]) else []) ++ (nT t :: (asL a' ++ onL g o))
  rw [if_pos (show 0 < i + 1 by omega), if_pos (show 0 < 1 by omega)]
 have ec : (s0 :: rf).length = rf.length + 1 := rfl
 rw [ec, es] at hl hs ⊢
 generalize hd1 : (if distinct = true then [kT 2] else []) = D at *
 generalize hI : seqN (itemF g items) items.length = I at *
 generalize hO : seqN (keyF g order) order.length = O at *
 obtain ⟨t1, t2⟩ := hl
 obtain ⟨t3, t4⟩ := has_app.1 t2
 obtain ⟨t5, t6⟩ := has_app.1 t4
 obtain ⟨t7, t8⟩ := t6
 obtain ⟨t9, t10⟩ := has_app.1 t8
 obtain ⟨t11, t12⟩ := has_app.1 t9
 obtain ⟨t13, t14⟩ := has_app.1 t10
 obtain ⟨t15, t16⟩ := has_app.1 t14
 have len : a + (kT 1 :: (D ++ (I ++ (kT 3 :: (srcT g 0 s0 ++ rf.flatMap (srcR g) ++ (whL g where_ ++ (O ++ limL limit))))))).length = a + 1 + D.length + I.length + 1 + (srcT g 0 s0 ++ rf.flatMap (srcR g)).length + (whL g where_).length + O.length + (limL limit).length := by
  simp only [List.length_cons, List.length_append]; omega
 rw [len] at hs ⊢
 have E0 : En [] (hd L (a + 1 + D.length + I.length + 1 + (srcT g 0 s0 ++ rf.flatMap (srcR g)).length + (whL g where_).length + O.length + (limL limit).length)) := hs.imp id .inl
 have E1 := lim_hd t16 E0
 have E2 := ord_hd (g := g) (order := order) (by rw [hO]; exact t15) (by rw [hO]; exact E1)
 have E3 := wh_hd t13 E2
 have hs0 := hsr 0 (by simp)
 obtain ⟨table, as_, on⟩ := s0
 have hs0 : srB 0 (.mk table as_ on) = true := hs0
 unfold srB at hs0
 simp only [Bool.and_eq_true, decide_eq_true_eq, Bool.or_eq_true] at hs0
 obtain ⟨ht, ha, _, hon⟩ := hs0
 have hon : on = [] := by simpa using hon
 subst hon
 have e0 : srcT g 0 (.mk table as_ []) = nT table :: (asL as_ ++ []) := rfl
 rw [List.append_nil] at e0
 rw [e0] at t11 t12 t13 t15 t16 E0 E1 E2 E3 ⊢
 have ls : ∀ p, p + (nT table :: asL as_ ++ rf.flatMap (srcR g)).length = p + 1 + (asL as_).length + (rf.flatMap (srcR g)).length := fun p => by simp only [List.length_cons, List.length_append]; omega
 simp only [ls] at t13 t15 t16 E0 E1 E2 E3 ⊢
 have l1 : a + 1 + D.length + I.length + 1 + (nT table :: asL as_).length = a + 1 + D.length + I.length + 1 + 1 + (asL as_).length := by rw [List.length_cons]; omega
 rw [l1] at t12
 have n12 : hd L (a + 1 + D.length + I.length + 1 + 1 + (asL as_).length) ≠ some (1, kw 12) := by
  cases rf with
  | nil => exact E3.key (by decide)
  | cons y r =>
   obtain ⟨ty, ay, oy⟩ := y
   rw [List.flatMap_cons] at t12
   have h3 := (has_app.1 t12).1
   have e3 : srcR g (.mk ty ay oy) = (if 0 < oy.length then [kT 4] else [cmT]) ++ (nT ty :: (asL ay ++ onL g oy)) := rfl
   rw [e3] at h3
   by_cases e : 0 < oy.length
   ·rw [if_pos e] at h3; exact hd_nt (k := 1) (x := kw 4) h3.1 (by decide)
   ·rw [if_neg e] at h3; exact hd_ne (k := 5) (x := ⟨#[44]⟩) h3.1 (by decide)
 have h1 : hd L a = some (1, kw 1) := t1
 have h3 : hd L (a + 1 + D.length + I.length) = some (1, kw 3) := t7
 have dis : isKey L (P0 (a + 1)) 2 = distinct ∧ tkIf (isKey L (P0 (a + 1)) 2) (P0 (a + 1)) = P0 (a + 1 + D.length) := by
  cases distinct with
  | true =>
   rw [if_pos rfl] at hd1
   subst hd1
   have h2 : hd L (a + 1) = some (1, kw 2) := t3.1
   refine ⟨key_yes h2, ?_⟩
   rw [key_yes h2]; rfl
  | false =>
   rw [if_neg (by simp)] at hd1
   subst hd1
   have n2 : hd L (a + 1) ≠ some (1, kw 2) := by
    cases items with
    | nil => simp at hi
    | cons x r =>
     have e : seqN (itemF g (x :: r)) (r.length + 1) = itemT g x ++ r.flatMap fun y => cmT :: itemT g y := seq_at rfl fun i hi => by
      show cmL (i + 1) ++ atL (x :: r) (itemT g) (i + 1) = _
      rw [atL_get (by simpa using hi)]; rfl
     rw [List.length_cons, e] at hI
     rw [← hI] at t5
     have t5 := (has_app.1 t5).1
     exact item_n2 (hit x (by simp)) (xi x (by simp)) t5
   refine ⟨key_no n2, ?_⟩
   rw [key_no n2]; rfl
 rw [pQuery_eq]
 unfold stepQ
 simp only
 have m1 : must (isKey L (P0 a) 1) (P0 a) = P0 (a + 1) := by unfold must; rw [if_pos (key_yes h1)]; rfl
 rw [m1, dis.2, dis.1]
 have R1 := items_read (g := g) hi.1 hit xi (L := L) (a := a + 1 + D.length) (by rw [hI]; exact t5) (by rw [hI]; exact h3)
 rw [hI] at R1
 rw [R1]
 simp only
 have m3 : must (isKey L (P0 (a + 1 + D.length + I.length)) 3) (P0 (a + 1 + D.length + I.length)) = P0 (a + 1 + D.length + I.length + 1) := by unfold must; rw [if_pos (key_yes h3)]; rfl
 rw [m3, source_read ht ha t11 n12]
 simp only
 have hrl : rf.length < L.length + 1 := by
  have h4 : ∀ r : List Source, r.length ≤ (r.flatMap (srcR g)).length := fun r => by
   induction r with
   | nil => simp
   | cons p r ih =>
    obtain ⟨ty, ay, oy⟩ := p
    have e3 : srcR g (.mk ty ay oy) = (if 0 < oy.length then [kT 4] else [cmT]) ++ (nT ty :: (asL ay ++ onL g oy)) := rfl
    rw [List.flatMap_cons, List.length_append, List.length_cons, e3, List.length_append, List.length_cons]; omega
  have := h4 rf
  rcases has_len t12 with h5 | h5
  ·rw [h5] at this; simp at this; simp [this]
  ·omega
 have R2 := sources_read (g := g) (ks := [6, 7, 11]) (by simp) rf (L.length + 1) [.mk table as_ []] (L := L) (a := a + 1 + D.length + I.length + 1 + 1 + (asL as_).length) (fun x hx => by
  obtain ⟨i, hi', rfl⟩ := List.getElem_of_mem hx
  have := hsr (i + 1) (by simpa using hi')
  have e : (Source.mk table as_ [] :: rf)[i + 1]'(by simpa using hi') = rf[i] := rfl
  rw [e] at this
  generalize rf[i] = y at *
  obtain ⟨ty, ay, oy⟩ := y
  unfold srB at this ⊢
  simp only [Bool.and_eq_true, decide_eq_true_eq, Bool.or_eq_true] at this ⊢
  exact ⟨this.1, this.2.1, this.2.2.1, .inl (by omega)⟩) (fun x hx => xf x (by simp [hx])) hrl t12 E3
 rw [R2]
 simp only
 have R3 := where_read (g := g) hw xw t13 E2
 rw [R3]
 simp only
 have R4 := order_read (g := g) xo (L := L) (a := a + 1 + D.length + I.length + 1 + 1 + (asL as_).length + (rf.flatMap (srcR g)).length + (whL g where_).length) (by rw [hO]; exact t15) (by rw [hO]; exact E1)
 rw [hO] at R4
 rw [R4]
 simp only
 have R5 := limit_read hlm hlim t16 E0
 rw [R5]
 rfl
end
def XO (e : Expr) (l : List Tok) : Prop := Itm e l (lvE e).toNat ∧ 1 ≤ lvE e ∧ Fs l (lvE e)
theorem xo_step {full : Bool} {gf : Expr → Bool} {g : Expr → List Tok} {e : Expr} (hf : fmF gf e = true) (hr : Rg e) (hg : ∀ x, below x e → gf x = true → Rg x → XO x (g x)) : XO e (exT full g e) := by
 have hb : ∀ x, below x e → Rg x := fun x hx => rg_down hr hx
 have hlim : ∀ q ∈ e.sub, q.lim ≤ 9223372036854775807 := fun q hq => (rg_sub hr hq).1
 obtain ⟨kind, op, not, val, qual, name, kids, sub⟩ := e
 have hnum := hr.num
 obtain ⟨hs, hk, hq⟩ := fm_parts hf
 have hkid : KidsOk g kids := fun k hk' => by
  have hm := List.getElem_mem hk'
  have e : kids.getD k zeroX = kids[k] := by rw [List.getD_eq_getElem?_getD, List.getElem?_eq_getElem hk']; rfl
  rw [e]
  exact hg _ (.inl hm) (hk _ hm) (hb _ (.inl hm))
 have hqs : ∀ q ∈ sub, Qtm q (quT g q) := fun q hm => query_read (hq q hm) (hlim q hm) fun x hx => hg x (.inr ⟨q, hm, hx⟩) (by
  have h1 := hq q hm
  simp only [fmQ, Bool.and_eq_true, List.all_eq_true] at h1
  exact h1.2 x hx) (hb _ (.inr ⟨q, hm, hx⟩))
 obtain ⟨z1, z2, z3, z4⟩ := shape_zero hs
 rcases shape_cases hs with ⟨rfl, hl, nk, ns⟩ | ⟨rfl, hn, hm, nk, ns⟩ | ⟨rfl, ho, nk, ns⟩ | ⟨rfl, ho, nk, ns⟩ | ⟨rfl, nk, ns⟩ | ⟨rfl, nk, ns⟩ | ⟨rfl, nk, ns⟩ | ⟨rfl, nk, ns⟩ | ⟨rfl, nk, ns⟩
 ·obtain rfl := z1 rfl
  obtain rfl := z2 rfl
  obtain ⟨rfl, rfl⟩ := z4 rfl
  obtain rfl := list0 nk
  obtain rfl := list0 ns
  exact ⟨itm_lit hl hnum.2, by show (1 : Int) ≤ 9; decide, fs_lit _⟩
 ·obtain rfl := z1 rfl
  obtain rfl := z2 rfl
  obtain rfl := z3 rfl
  obtain rfl := list0 nk
  obtain rfl := list0 ns
  exact ⟨itm_col hn hm, by show (1 : Int) ≤ 9; decide, fs_col _⟩
 ·obtain rfl := z2 rfl
  obtain rfl := z3 rfl
  obtain ⟨rfl, rfl⟩ := z4 rfl
  obtain ⟨k, rfl⟩ := list1 nk
  obtain rfl := list0 ns
  refine ⟨itm_un ho hkid, ?_, ?_⟩
  ·rcases ho with rfl | rfl
   ·show (1 : Int) ≤ 3; decide
   ·show (1 : Int) ≤ 8; decide
  ·rcases ho with rfl | rfl
   ·exact fs_cons (by decide) (fun _ => ⟨by decide, fun h => absurd h (by show ¬ (4 : Int) ≤ 3; decide), by decide⟩) (fun h => absurd h (by decide))
   ·exact fs_cons (by decide) (fun h => absurd h (by decide)) (fun _ => by decide)
 ·obtain rfl := z2 rfl
  obtain rfl := z3 rfl
  obtain ⟨rfl, rfl⟩ := z4 rfl
  obtain ⟨x, y, rfl⟩ := list2 nk
  obtain rfl := list0 ns
  have e1 : (Expr.mk 4 op false zVal z0 z0 [x, y] []) = mBin op.toNat x y := by unfold mBin; rw [show ((op.toNat : Nat) : Int) = op by omega]
  have e2 : lvE (Expr.mk 4 op false zVal z0 z0 [x, y] []) = lv 4 op := rfl
  unfold XO
  rw [e2]
  have := bl_cases ho.1 ho.2
  refine ⟨?_, by unfold lv; rw [if_pos rfl]; omega, fs_bin ho.1 ho.2 hkid⟩
  rw [e1]
  have e3 : exT full g (mBin op.toNat x y) = kidL full g 4 op [x, y] 0 ++ opTk op :: kidL full g 4 op [x, y] 1 := by rw [← e1]; rfl
  rw [e3]
  exact itm_bin ho.1 ho.2 hkid
 ·obtain rfl := z1 rfl
  obtain rfl := z3 rfl
  obtain ⟨rfl, rfl⟩ := z4 rfl
  obtain ⟨x, rfl⟩ := list1 nk
  obtain rfl := list0 ns
  exact ⟨itm_is hkid, by show (1 : Int) ≤ 4; decide, fs_app ((hkid.fs (k := 0) (by simp) full 5 0).mono fun _ => by decide) (fun h => absurd h (by decide))⟩
 ·obtain rfl := z1 rfl
  obtain rfl := z3 rfl
  obtain ⟨rfl, rfl⟩ := z4 rfl
  obtain ⟨x, y, z, rfl⟩ := list3 nk
  obtain rfl := list0 ns
  refine ⟨itm_btw hkid, by show (1 : Int) ≤ 4; decide, ?_⟩
  have hF := (hkid.fs (k := 0) (by simp) full 6 0).mono (m := 4) fun _ => by decide
  cases not with
  | true => exact fs_app (t := kT 15) hF (fun h => absurd h (by decide))
  | false => exact fs_app (t := kT 18) hF (fun h => absurd h (by decide))
 ·obtain rfl := z1 rfl
  obtain rfl := z3 rfl
  obtain ⟨rfl, rfl⟩ := z4 rfl
  obtain rfl := list0 ns
  refine ⟨itm_in (by omega) (by omega) hkid, by show (1 : Int) ≤ 4; decide, ?_⟩
  have hF := (hkid.fs (k := 0) (by omega) full 7 0).mono (m := 4) fun _ => by decide
  cases not with
  | true => exact fs_app (t := kT 15) hF (fun h => absurd h (by decide))
  | false => exact fs_app (t := kT 17) hF (fun h => absurd h (by decide))
 ·obtain rfl := z1 rfl
  obtain rfl := z3 rfl
  obtain ⟨rfl, rfl⟩ := z4 rfl
  obtain ⟨x, rfl⟩ := list1 nk
  obtain ⟨q, rfl⟩ := list1 ns
  have hqt : ∃ r, quT g q = kT 1 :: r := by
   obtain ⟨d, it, fr, wh, od, lm⟩ := q
   exact ⟨_, rfl⟩
  obtain ⟨r, hqt⟩ := hqt
  refine ⟨itm_sub hkid hqt (hqs q (by simp)), by show (1 : Int) ≤ 4; decide, ?_⟩
  have hF := (hkid.fs (k := 0) (by simp) full 8 0).mono (m := 4) fun _ => by decide
  cases not with
  | true => exact fs_app (t := kT 15) hF (fun h => absurd h (by decide))
  | false => exact fs_app (t := kT 17) hF (fun h => absurd h (by decide))
 ·obtain rfl := z1 rfl
  obtain rfl := z2 rfl
  obtain rfl := z3 rfl
  obtain ⟨rfl, rfl⟩ := z4 rfl
  obtain rfl := list0 nk
  obtain ⟨q, rfl⟩ := list1 ns
  exact ⟨itm_ex (hqs q (by simp)), by show (1 : Int) ≤ 9; decide, fs_cons (by decide) (fun _ => ⟨by decide, fun _ => by decide, by decide⟩) (fun h => absurd h (by decide))⟩
theorem tkE_read (full : Bool) (e : Expr) : fmE e = true → Rg e → XO e (tkE full e) :=
 foldE3_ind (F1 := fmF) (F2 := ndF) (F3 := exT full) (P := fun e f n t => f = true → Rg e → XO e t) (fun e gf gn g hg hf hr => xo_step hf hr hg) e
def SameK (L l : List Tok) : Prop := L.map (fun t => (t.kind, t.text)) = l.map fun t => (t.kind, t.text)
theorem SameK.len {L l : List Tok} (h : SameK L l) : L.length = l.length := by have := congrArg List.length h; simpa using this
theorem SameK.has {L l : List Tok} (h : SameK L l) : Has L 0 l := by
 have key : ∀ (l : List Tok) (a : Nat), (L.map fun t => (t.kind, t.text)).drop a = l.map (fun t => (t.kind, t.text)) → Has L a l := by
  intro l
  induction l with
  | nil => intro _ _; trivial
  | cons t r ih =>
   intro a h
   have h1 : (L.map fun t => (t.kind, t.text))[a]? = some (t.kind, t.text) := by
    have := congrArg (fun x => x[0]?) h
    simpa [List.getElem?_drop] using this
   refine ⟨?_, ih (a + 1) ?_⟩
   ·unfold hd; rw [← List.getElem?_map]; exact h1
   ·have := congrArg List.tail h
    rw [List.tail_drop] at this
    simpa using this
 exact key l 0 (by rw [List.drop_zero]; exact h)
theorem SameK.end_ {L l : List Tok} (h : SameK L l) : hd L (0 + l.length) = none := by
 unfold hd
 rw [List.getElem?_eq_none_iff.2 (by have := h.len; omega)]; rfl
theorem endM_end {L : List Tok} {a : Nat} (h : L.length = a) : endM L (P0 a) = -1 := by unfold endM; rw [if_pos ⟨rfl, by show L.length ≤ a; omega⟩]
theorem take_end {α : Type} {L : List Tok} {z x : α} {a : Nat} (h : L.length = a) : takeM L z (some (x, P0 a)) = (x, -1) := by
 unfold takeM
 simp only [endM_end h]
 rw [if_neg (by omega)]
theorem takeE_read {full : Bool} {e : Expr} {L : List Tok} (hf : fmE e = true) (hr : Rg e) (h : SameK L (tkE full e)) : takeE L = (e, -1) := by
 obtain ⟨h1, h2, _⟩ := tkE_read full e hf hr
 unfold takeE
 have : pExpr L 1 s0 = some (e, P0 (0 + (tkE full e).length)) := (h1 L 0 h.has 1 (Nat.le_refl 1) (by omega)).1 (by rw [h.end_]; exact st_none 1)
 rw [this]
 exact take_end (by rw [h.len]; omega)
theorem ba_eq {x : ByteArray} {l : List UInt8} (h : x.data.toList = l) : x = ⟨l.toArray⟩ := by
 obtain ⟨⟨xs⟩⟩ := x
 have h : xs = l := h
 rw [h]
theorem ba_list (x : ByteArray) : (⟨x.data.toList.toArray⟩ : ByteArray) = x := (ba_eq rfl).symm
theorem at_app {A X C : List UInt8} (i : Nat) (h : i < X.length) : (A ++ X ++ C)[A.length + i]? = X[i]? := by
 rw [List.append_assoc, List.getElem?_append_right (by omega), Nat.add_sub_cancel_left, List.getElem?_append_left h]
theorem at_rest {A X C : List UInt8} (i : Nat) : (A ++ X ++ C)[A.length + X.length + i]? = C[i]? := by
 rw [List.getElem?_append_right (by rw [List.length_append]; omega), List.length_append, Nat.add_sub_cancel_left]
theorem tw_app {p : UInt8 → Bool} {X C : List UInt8} (h : ∀ b, b ∈ X → p b = true) (hc : ∀ c, C.head? = some c → p c = false) : ((X ++ C).takeWhile p) = X := by
 induction X with
 | nil =>
  cases C with
  | nil => rfl
  | cons c r => rw [List.nil_append, List.takeWhile_cons, hc c rfl]; rfl
 | cons y r ih =>
  rw [List.cons_append, List.takeWhile_cons, h y (by simp)]
  simp only [if_true]
  rw [ih fun b hb => h b (by simp [hb])]
theorem run_app {A X C : List UInt8} (h : ∀ b, b ∈ X → (lxLet b || lxFig b) = true) (hc : ∀ c, C.head? = some c → (lxLet c || lxFig c) = false) : lxRun (A ++ X ++ C) A.length = A.length + X.length := by
 unfold lxRun
 rw [List.append_assoc, List.drop_left, tw_app h hc]
theorem cut_app {A X C : List UInt8} : lxCut (A ++ X ++ C) A.length (A.length + X.length) = ⟨X.toArray⟩ := by
 unfold lxCut
 rw [List.append_assoc, List.drop_left, Nat.add_sub_cancel_left, List.take_left]
theorem quot_app (q : UInt8) : ∀ (X : List UInt8) (B A C l : List UInt8) (n : Nat), B = A ++ quoteL q X ++ (q :: C) → (∀ c, C.head? = some c → c ≠ q) → B.length < A.length + n → lxQuot B q n A.length l = some (l ++ X, A.length + (quoteL q X).length + 1)
 | [], B, A, C, l, n, hB, hc, hn => by
  have e0 : quoteL q [] = [] := rfl
  rw [e0] at hB ⊢
  rw [List.append_nil] at hB
  have hl : B.length = A.length + (C.length + 1) := by rw [hB, List.length_append, List.length_cons]
  obtain ⟨n, rfl⟩ : ∃ m, n = m + 1 := ⟨n - 1, by omega⟩
  have h0 : B[A.length]? = some q := by rw [hB, List.getElem?_append_right (Nat.le_refl _), Nat.sub_self]; rfl
  have h1 : B[A.length + 1]? = C[0]? := by
   rw [hB, List.getElem?_append_right (by omega), Nat.add_sub_cancel_left]; rfl
  rw [lxQuot, h0]
  simp only [if_true]
  rw [h1, if_neg]
  ·simp
  ·intro h
   cases C with
   | nil => cases h
   | cons c r =>
    injection h with h
    exact hc c rfl h
 | y :: X, B, A, C, l, n, hB, hc, hn => by
  have hl : B.length = A.length + ((quoteL q (y :: X)).length + (C.length + 1)) := by rw [hB, List.length_append, List.length_append, List.length_cons]; omega
  obtain ⟨n, rfl⟩ : ∃ m, n = m + 1 := ⟨n - 1, by omega⟩
  by_cases hy : y = q
  ·subst hy
   have e : quoteL y (y :: X) = y :: y :: quoteL y X := by simp [quoteL]
   rw [e] at hB hl ⊢
   have h0 : B[A.length]? = some y := by rw [hB, List.append_assoc, List.getElem?_append_right (Nat.le_refl _), Nat.sub_self]; rfl
   have h1 : B[A.length + 1]? = some y := by rw [hB, List.append_assoc, List.getElem?_append_right (by omega), Nat.add_sub_cancel_left]; rfl
   have hB2 : B = (A ++ [y, y]) ++ quoteL y X ++ (y :: C) := by rw [hB]; simp
   have := quot_app y X B (A ++ [y, y]) C (l ++ [y]) n hB2 hc (by rw [List.length_append]; simp only [List.length_cons, List.length_nil] at hl ⊢; omega)
   rw [lxQuot, h0]
   simp only [if_true]
   rw [if_pos h1]
   have e2 : (A ++ [y, y]).length = A.length + 2 := by simp
   rw [e2] at this
   rw [this]
   simp only [List.length_cons, List.append_assoc, lc]
   congr 2
   omega
  ·have e : quoteL q (y :: X) = y :: quoteL q X := by simp [quoteL, hy]
   rw [e] at hB hl ⊢
   have h0 : B[A.length]? = some y := by rw [hB, List.append_assoc, List.getElem?_append_right (Nat.le_refl _), Nat.sub_self]; rfl
   have hB2 : B = (A ++ [y]) ++ quoteL q X ++ (q :: C) := by rw [hB]; simp
   have := quot_app q X B (A ++ [y]) C (l ++ [y]) n hB2 hc (by rw [List.length_append]; simp only [List.length_cons, List.length_nil] at hl ⊢; omega)
   rw [lxQuot, h0]
   simp only
   rw [if_neg hy]
   have e2 : (A ++ [y]).length = A.length + 1 := by simp
   rw [e2] at this
   rw [this]
   simp only [List.length_cons, List.append_assoc, lc]
   congr 2
   omega
def folB (t : Tok) (c : UInt8) : Bool :=
 if t.kind = 5 then !((decide (t.text = ⟨#[45]⟩) && decide (c = 45)) || (decide (t.text = ⟨#[47]⟩) && decide (c = 42)) || (decide (t.text = ⟨#[60]⟩) && (decide (c = 61) || decide (c = 62))) || (decide (t.text = ⟨#[62]⟩) && decide (c = 61)))
 else if t.kind = 4 then !(decide (c = 39)) else if wordB t = true then !(lxLet c || lxFig c) else !(decide (c = 34))
def tb (t : Tok) : List UInt8 := (tokT t).data.toList
def LxAt (B : List UInt8) (i : Nat) (t : Tok) (n : Nat) : Prop := (∃ b, B[i]? = some b ∧ (∀ k, lxPass B (k + 1) i = some (i, true)) ∧ lxOne B i b = some (⟨t.kind, t.text, i⟩, i + n))
theorem pass_stop {B : List UInt8} {i : Nat} {b : UInt8} (h : B[i]? = some b) (hw : lxWs b = false) (h1 : ¬(b = 45 ∧ B[i + 1]? = some 45)) (h2 : ¬(b = 47 ∧ B[i + 1]? = some 42)) (k : Nat) : lxPass B (k + 1) i = some (i, true) := by
 rw [lxPass, h]
 simp only
 rw [if_neg (by rw [hw]; simp), if_neg h1, if_neg h2]
theorem let_nw {b : UInt8} (h : (lxLet b || lxFig b) = true) : lxWs b = false ∧ b ≠ 45 ∧ b ≠ 47 ∧ b ≠ 34 ∧ b ≠ 39 := by
 have h2 : ∀ n : Fin 256, (lxLet (UInt8.ofNat n.1) || lxFig (UInt8.ofNat n.1)) = true → (lxWs (UInt8.ofNat n.1) = false ∧ UInt8.ofNat n.1 ≠ 45 ∧ UInt8.ofNat n.1 ≠ 47 ∧ UInt8.ofNat n.1 ≠ 34 ∧ UInt8.ofNat n.1 ≠ 39) := by decide
 have := h2 ⟨b.toNat, UInt8.toNat_lt b⟩
 simp only [UInt8.ofNat_toNat] at this
 exact this h
theorem ok_at (k : Int) (x : ByteArray) (a b : Int) : okTok ⟨k, x, a⟩ = okTok ⟨k, x, b⟩ := rfl
theorem lx_word {A C : List UInt8} {t : Tok} (ok : okTok t = true) (hX : tb t = t.text.data.toList) (hne : t.text.data.toList ≠ []) (hall : ∀ b, b ∈ t.text.data.toList → (lxLet b || lxFig b) = true) (hc : ∀ c, C.head? = some c → (lxLet c || lxFig c) = false)
 (hk : ∀ b, t.text.data.toList.head? = some b → (lxLet b = true ∧ ((t.kind = 2 ∧ key t.text = 0) ∨ (t.kind = 1 ∧ key t.text ≠ 0 ∧ foldB t.text = t.text))) ∨ (lxLet b = false ∧ lxFig b = true ∧ t.kind = 3)) : LxAt (A ++ tb t ++ C) A.length t (tb t).length := by
 rw [hX]
 obtain ⟨kind, text, at_⟩ := t
 simp only at *
 obtain ⟨b, r, hb⟩ : ∃ b r, text.data.toList = b :: r := by
  cases h : text.data.toList with
  | nil => exact absurd h hne
  | cons b r => exact ⟨b, r, rfl⟩
 have h0 : (A ++ text.data.toList ++ C)[A.length]? = some b := by
  have := at_app (A := A) (X := text.data.toList) (C := C) 0 (by rw [hb]; simp)
  rw [Nat.add_zero] at this
  rw [this, hb]; rfl
 obtain ⟨n1, n2, n3, n4, n5⟩ := let_nw (hall b (by rw [hb]; simp))
 refine ⟨b, h0, pass_stop h0 n1 (fun h => n2 h.1) (fun h => n3 h.1), ?_⟩
 unfold lxOne lxRaw
 simp only [run_app hall hc, cut_app, ba_list]
 rcases hk b (by rw [hb]; rfl) with ⟨hl, ⟨rfl, h1⟩ | ⟨rfl, h1, hf⟩⟩ | ⟨hl, hf, rfl⟩
 ·rw [if_pos hl, if_pos h1]
  simp only [ok_at _ _ _ at_, ok, if_true]
 ·rw [if_pos hl, if_neg h1, hf]
  simp only [ok_at _ _ _ at_, ok, if_true]
 ·rw [if_neg (by rw [hl]; simp), if_pos hf]
  simp only [ok_at _ _ _ at_, ok, if_true]
theorem lx_quot {A C : List UInt8} {t : Tok} {q : UInt8} (ok : okTok t = true) (hX : tb t = q :: (quoteL q t.text.data.toList ++ [q])) (hc : ∀ c, C.head? = some c → c ≠ q) (hq : (q = 34 ∧ t.kind = 2) ∨ (q = 39 ∧ t.kind = 4)) : LxAt (A ++ tb t ++ C) A.length t (tb t).length := by
 obtain ⟨kind, text, at_⟩ := t
 simp only at *
 have h0 : (A ++ tb ⟨kind, text, at_⟩ ++ C)[A.length]? = some q := by
  have := at_app (A := A) (X := tb ⟨kind, text, at_⟩) (C := C) 0 (by rw [hX]; simp)
  rw [Nat.add_zero] at this
  rw [this, hX]; rfl
 have hB : A ++ tb ⟨kind, text, at_⟩ ++ C = (A ++ [q]) ++ quoteL q text.data.toList ++ (q :: C) := by rw [hX]; simp
 have hQ := quot_app q text.data.toList _ (A ++ [q]) C [] ((A ++ tb ⟨kind, text, at_⟩ ++ C).length + 1) hB hc (by rw [show (A ++ [q]).length = A.length + 1 by simp]; omega)
 have e1 : (A ++ [q]).length = A.length + 1 := by simp
 rw [e1, List.nil_append] at hQ
 have e2 : A.length + 1 + (quoteL q text.data.toList).length + 1 = A.length + (tb ⟨kind, text, at_⟩).length := by rw [hX]; simp; omega
 rw [e2] at hQ
 generalize tb ⟨kind, text, at_⟩ = T at *
 generalize A ++ T ++ C = B at *
 have w1 : lxLet 34 = false := by decide
 have w2 : lxLet 39 = false := by decide
 have w3 : lxFig 34 = false := by decide
 have w4 : lxFig 39 = false := by decide
 rcases hq with ⟨rfl, rfl⟩ | ⟨rfl, rfl⟩
 ·refine ⟨34, h0, pass_stop h0 (by decide) (fun h => absurd h.1 (by decide)) (fun h => absurd h.1 (by decide)), ?_⟩
  unfold lxOne lxRaw
  simp only [w1, w3, hQ, Bool.false_eq_true, if_false, if_true, Option.map_some, ba_list, ok_at _ _ _ at_, ok]
 ·refine ⟨39, h0, pass_stop h0 (by decide) (fun h => absurd h.1 (by decide)) (fun h => absurd h.1 (by decide)), ?_⟩
  unfold lxOne lxRaw
  simp only [w2, w4, hQ, Bool.false_eq_true, if_false, if_true, Option.map_some, ba_list, ok_at _ _ _ at_, ok, show ¬((39 : UInt8) = 34) by decide]
theorem signB_two (a c : UInt8) : signB ⟨#[a, c]⟩ = ((decide (a = 60) && (decide (c = 62) || decide (c = 61))) || (decide (a = 62) && decide (c = 61)) || (decide (a = 124) && decide (c = 124))) := by
 unfold signB signs
 simp only [List.any_cons, List.any_nil, ByteArray.mk.injEq, Array.mk.injEq, List.cons.injEq, and_true, and_false, reduceCtorEq, decide_false, Bool.false_or, Bool.or_false, Bool.decide_and]
 cases decide (a = 60) <;> cases decide (a = 62) <;> cases decide (c = 62) <;> cases decide (c = 61) <;> simp
theorem lx_s1 {A C : List UInt8} {c0 : UInt8} {a : Int} (hs : signB ⟨#[c0]⟩ = true) (hn : lxLet c0 = false ∧ lxFig c0 = false ∧ ¬ c0 = 34 ∧ ¬ c0 = 39 ∧ lxWs c0 = false) (hc : ∀ c, C.head? = some c → signB ⟨#[c0, c]⟩ = false ∧ ¬(c0 = 45 ∧ c = 45) ∧ ¬(c0 = 47 ∧ c = 42)) : LxAt (A ++ [c0] ++ C) A.length ⟨5, ⟨#[c0]⟩, a⟩ 1 := by
 obtain ⟨n1, n2, n3, n4, n5⟩ := hn
 have h0 : (A ++ [c0] ++ C)[A.length]? = some c0 := by simpa using at_app (A := A) (X := [c0]) (C := C) 0 (by simp)
 have h1 : (A ++ [c0] ++ C)[A.length + 1]? = C[0]? := by simpa using at_rest (A := A) (X := [c0]) (C := C) 0
 have h1' : ∀ c, (A ++ [c0] ++ C)[A.length + 1]? = some c → C.head? = some c := fun c h => by rw [h1] at h; rw [List.head?_eq_getElem?]; exact h
 refine ⟨c0, h0, pass_stop h0 n5 (fun h => (hc _ (h1' _ h.2)).2.1 ⟨h.1, rfl⟩) (fun h => (hc _ (h1' _ h.2)).2.2 ⟨h.1, rfl⟩), ?_⟩
 have hcut : lxCut (A ++ [c0] ++ C) A.length (A.length + 1) = ⟨#[c0]⟩ := cut_app (A := A) (X := [c0]) (C := C)
 have hsg : lxSign (A ++ [c0] ++ C) A.length = A.length + 1 := by
  unfold lxSign
  cases C with
  | nil => exact if_neg fun h => by have := h.1; simp at this
  | cons c r =>
   have e : lxCut (A ++ [c0] ++ c :: r) A.length (A.length + 2) = ⟨#[c0, c]⟩ := by
    have := cut_app (A := A) (X := [c0, c]) (C := r)
    simpa using this
   rw [e, (hc c rfl).1]
   exact if_neg fun h => by cases h.2
 unfold lxOne lxRaw
 rw [if_neg (by rw [n1]; simp), if_neg (by rw [n2]; simp), if_neg n3, if_neg n4, hsg]
 simp only [hcut]
 rw [if_pos (show okTok ⟨5, ⟨#[c0]⟩, (A.length : Int)⟩ = true from hs)]
theorem lx_s2 {A C : List UInt8} {c0 c1 : UInt8} {a : Int} (hs : signB ⟨#[c0, c1]⟩ = true) (hn : lxLet c0 = false ∧ lxFig c0 = false ∧ ¬ c0 = 34 ∧ ¬ c0 = 39 ∧ lxWs c0 = false ∧ ¬ c0 = 45 ∧ ¬ c0 = 47) : LxAt (A ++ [c0, c1] ++ C) A.length ⟨5, ⟨#[c0, c1]⟩, a⟩ 2 := by
 obtain ⟨n1, n2, n3, n4, n5, n6, n7⟩ := hn
 have h0 : (A ++ [c0, c1] ++ C)[A.length]? = some c0 := by simpa using at_app (A := A) (X := [c0, c1]) (C := C) 0 (by simp)
 refine ⟨c0, h0, pass_stop h0 n5 (fun h => n6 h.1) (fun h => n7 h.1), ?_⟩
 have hcut : lxCut (A ++ [c0, c1] ++ C) A.length (A.length + 2) = ⟨#[c0, c1]⟩ := cut_app (A := A) (X := [c0, c1]) (C := C)
 have hsg : lxSign (A ++ [c0, c1] ++ C) A.length = A.length + 2 := by
  unfold lxSign
  rw [hcut]
  exact if_pos ⟨by simp, hs⟩
 unfold lxOne lxRaw
 rw [if_neg (by rw [n1]; simp), if_neg (by rw [n2]; simp), if_neg n3, if_neg n4, hsg]
 simp only [hcut]
 rw [if_pos (show okTok ⟨5, ⟨#[c0, c1]⟩, (A.length : Int)⟩ = true from hs)]
theorem lx_sign {A C : List UInt8} {x : ByteArray} {a : Int} (hs : signB x = true) (hc : ∀ c, C.head? = some c → folB ⟨5, x, a⟩ c = true) : LxAt (A ++ x.data.toList ++ C) A.length ⟨5, x, a⟩ x.data.toList.length := by
 have hm : x ∈ signs := by
  unfold signB at hs
  obtain ⟨y, hy, e⟩ := List.any_eq_true.1 hs
  rw [decide_eq_true_eq] at e
  rw [e]; exact hy
 have one : ∀ c0 : UInt8, x = ⟨#[c0]⟩ → (lxLet c0 = false ∧ lxFig c0 = false ∧ ¬ c0 = 34 ∧ ¬ c0 = 39 ∧ lxWs c0 = false) → c0 ≠ 124 → LxAt (A ++ x.data.toList ++ C) A.length ⟨5, x, a⟩ x.data.toList.length := fun c0 e hn hb => by
  subst e
  refine lx_s1 hs hn fun c h => ?_
  have := hc c h
  unfold folB at this
  simp only [if_true, ByteArray.mk.injEq, Array.mk.injEq, List.cons.injEq, and_true] at this
  rw [signB_two]
  revert this
  by_cases e1 : c0 = 45 <;> by_cases e2 : c0 = 47 <;> by_cases e3 : c0 = 60 <;> by_cases e4 : c0 = 62 <;> simp_all
 have two : ∀ c0 c1 : UInt8, x = ⟨#[c0, c1]⟩ → (lxLet c0 = false ∧ lxFig c0 = false ∧ ¬ c0 = 34 ∧ ¬ c0 = 39 ∧ lxWs c0 = false ∧ ¬ c0 = 45 ∧ ¬ c0 = 47) → LxAt (A ++ x.data.toList ++ C) A.length ⟨5, x, a⟩ x.data.toList.length := fun c0 c1 e hn => by
  subst e
  exact lx_s2 hs hn
 unfold signs at hm
 simp only [List.mem_cons, List.not_mem_nil, or_false] at hm
 rcases hm with h | h | h | h | h | h | h | h | h | h | h | h | h | h | h | h
 all_goals first
  | exact one _ h (by decide) (by decide)
  | exact two _ _ h (by decide)
theorem kws_let : ∀ x ∈ kws, x.data.toList ≠ [] ∧ ∀ b ∈ x.data.toList, lxLet b = true := by decide
theorem key_kws {x : ByteArray} (h : key x ≠ 0) : foldB x ∈ kws := by
 unfold key ixOf at h
 split at h
 ·rename_i hl
  have := List.findIdx_getElem (w := hl)
  simp only [decide_eq_true_eq] at this
  rw [← this]
  exact List.getElem_mem hl
 ·exact absurd rfl h
theorem dec_figs (n : Nat) : Go.Lib.decDigits n ≠ [] ∧ ∀ b ∈ Go.Lib.decDigits n, lxFig b = true ∧ lxLet b = false := by
 have h1 : ∀ i : Fin 10, lxFig (UInt8.ofNat (48 + i.1)) = true ∧ lxLet (UInt8.ofNat (48 + i.1)) = false := by decide
 induction n using Nat.strongRecOn with
 | _ n ih =>
  rw [Go.Lib.decDigits]
  by_cases h : n < 10
  ·rw [dif_pos h]
   exact ⟨by simp, fun b hb => by rw [List.mem_singleton.1 hb]; exact h1 ⟨n, h⟩⟩
  ·rw [dif_neg h]
   refine ⟨by simp, fun b hb => ?_⟩
   rcases List.mem_append.1 hb with hb | hb
   ·exact (ih (n / 10) (by omega)).2 b hb
   ·rw [List.mem_singleton.1 hb]; exact h1 ⟨n % 10, by omega⟩
theorem lx_tok {A C : List UInt8} {t : Tok} (ok : okTok t = true) (hc : ∀ c, C.head? = some c → folB t c = true) : tb t ≠ [] ∧ LxAt (A ++ tb t ++ C) A.length t (tb t).length := by
 have okf : ¬ okTok t = false := by rw [ok]; simp
 by_cases k1 : t.kind = 1
 ·have o := ok
  unfold okTok at o
  rw [if_pos k1, Bool.and_eq_true, decide_eq_true_eq, decide_eq_true_eq] at o
  have hX : tb t = t.text.data.toList := by
   unfold tb tokT
   rw [if_neg okf, if_neg (by omega), if_neg (by omega)]
  obtain ⟨m1, m2⟩ := kws_let _ (by have := key_kws o.1; rwa [o.2] at this)
  refine ⟨by rw [hX]; exact m1, lx_word ok hX m1 (fun b hb => by rw [m2 b hb]; rfl) (fun c h => ?_) fun b hb => .inl ⟨m2 b (List.mem_of_mem_head? hb), .inr ⟨k1, o.1, o.2⟩⟩⟩
  have := hc c h
  unfold folB at this
  rw [if_neg (by omega), if_neg (by omega), if_pos (by unfold wordB; rw [decide_eq_true k1]; rfl)] at this
  simpa using this
 by_cases k3 : t.kind = 3
 ·have o := ok
  unfold okTok at o
  rw [if_neg k1, if_neg (by omega), if_pos k3] at o
  have hX : tb t = t.text.data.toList := by
   unfold tb tokT
   rw [if_neg okf, if_neg (by omega), if_neg (by omega)]
  obtain ⟨m, hm⟩ := Option.isSome_iff_exists.1 (show (numN t.text.data.toList).isSome = true from o)
  have hm := (numN_some.1 hm).2
  obtain ⟨m1, m2⟩ := dec_figs m
  rw [hm] at m1 m2
  refine ⟨by rw [hX]; exact m1, lx_word ok hX m1 (fun b hb => by rw [(m2 b hb).1]; simp) (fun c h => ?_) fun b hb => .inr ⟨(m2 b (List.mem_of_mem_head? hb)).2, (m2 b (List.mem_of_mem_head? hb)).1, k3⟩⟩
  have := hc c h
  unfold folB at this
  rw [if_neg (by omega), if_neg (by omega), if_pos (by unfold wordB; rw [decide_eq_true k3]; simp)] at this
  simpa using this
 by_cases k4 : t.kind = 4
 ·have hX : tb t = 39 :: (quoteL 39 t.text.data.toList ++ [39]) := by
   unfold tb tokT
   rw [if_neg okf, if_neg (by omega), if_pos k4]; rfl
  refine ⟨by rw [hX]; simp, lx_quot ok hX (fun c h => ?_) (.inr ⟨rfl, k4⟩)⟩
  have := hc c h
  unfold folB at this
  rw [if_neg (by omega), if_pos k4] at this
  simpa using this
 by_cases k2 : t.kind = 2
 ·have o := ok
  unfold okTok at o
  rw [if_neg k1, if_pos k2, decide_eq_true_eq] at o
  cases hp : plainN t.text with
  | true =>
   have hX : tb t = t.text.data.toList := by
    unfold tb tokT nameT
    rw [if_neg okf, if_pos k2, if_pos o, if_pos hp]
   have hp' := hp
   simp only [plainN, Bool.and_eq_true, Bool.not_eq_true', decide_eq_true_eq, decide_eq_false_iff_not, List.all_eq_true] at hp
   obtain ⟨_, h1, h2, h3⟩ := hp
   have hne : t.text.data.toList ≠ [] := fun e => by
    have := size_toList t.text
    rw [e] at this; simp at this; omega
   refine ⟨by rw [hX]; exact hne, lx_word ok hX hne (fun b hb => h3 b hb) (fun c h => ?_) fun b hb => .inl ⟨?_, .inl ⟨k2, h2⟩⟩⟩
   ·have := hc c h
    unfold folB at this
    rw [if_neg (by omega), if_neg (by omega), if_pos (by unfold wordB; rw [decide_eq_true k2, hp']; simp)] at this
    simpa using this
   ·have e := h3 b (List.mem_of_mem_head? hb)
    have e2 : t.text.data.toList.headD 0 = b := by
     cases hl : t.text.data.toList with
     | nil => exact absurd hl hne
     | cons y r => rw [hl] at hb; injection hb with hb
    rw [e2] at h1
    unfold partB at e
    rw [decide_eq_false h1, Bool.or_false] at e
    exact e
  | false =>
   have hX : tb t = 34 :: (quoteL 34 t.text.data.toList ++ [34]) := by
    unfold tb tokT nameT
    rw [if_neg okf, if_pos k2, if_pos o, if_neg (by rw [hp]; simp)]; rfl
   refine ⟨by rw [hX]; simp, lx_quot ok hX (fun c h => ?_) (.inl ⟨rfl, k2⟩)⟩
   have := hc c h
   unfold folB at this
   rw [if_neg (by omega), if_neg (by omega), if_neg (by unfold wordB; rw [decide_eq_false k1, decide_eq_false k3, hp]; simp)] at this
   simpa using this
 ·have o := ok
  unfold okTok at o
  rw [if_neg k1, if_neg k2, if_neg k3, if_neg k4] at o
  by_cases k5 : t.kind = 5
  ·rw [if_pos k5] at o
   have hX : tb t = t.text.data.toList := by
    unfold tb tokT
    rw [if_neg okf, if_neg k2, if_neg k4]
   rw [hX]
   obtain ⟨kind, text, a⟩ := t
   have k5 : kind = 5 := k5
   subst k5
   refine ⟨fun e => ?_, lx_sign o hc⟩
   have : text = ⟨#[]⟩ := ba_eq e
   rw [this] at o
   exact absurd (show signB ⟨#[]⟩ = true from o) (by decide)
  ·rw [if_neg k5] at o; cases o
theorem fol_space (t : Tok) : folB t 32 = true := by
 unfold folB
 split
 ·simp
 split
 ·rfl
 split
 ·decide
 ·rfl
theorem let_nw2 {b : UInt8} (h : (lxLet b || lxFig b) = true) : b ≠ 42 ∧ b ≠ 61 ∧ b ≠ 62 := by
 have h2 : ∀ n : Fin 256, (lxLet (UInt8.ofNat n.1) || lxFig (UInt8.ofNat n.1)) = true → (UInt8.ofNat n.1 ≠ 42 ∧ UInt8.ofNat n.1 ≠ 61 ∧ UInt8.ofNat n.1 ≠ 62) := by decide
 have := h2 ⟨b.toNat, UInt8.toNat_lt b⟩
 simp only [UInt8.ofNat_toNat] at this
 exact this h
theorem sign_head : ∀ x ∈ signs, x.data.toList ≠ [] ∧ (lxLet (x.data.toList.headD 0) || lxFig (x.data.toList.headD 0)) = false ∧ x.data.toList.headD 0 ≠ 34 ∧ x.data.toList.headD 0 ≠ 39 ∧ (x.data.toList.headD 0 = 45 → x = ⟨#[45]⟩) ∧ (x.data.toList.headD 0 = 42 → x = ⟨#[42]⟩) := by decide
theorem sign_mem {x : ByteArray} (hs : signB x = true) : x ∈ signs := by
 unfold signB at hs
 obtain ⟨y, hy, e⟩ := List.any_eq_true.1 hs
 rw [decide_eq_true_eq] at e
 rw [e]; exact hy
theorem first_kind {u : Tok} (ok : okTok u = true) : ∃ c r, tb u = c :: r ∧ ((wordB u = true ∧ u.kind ≠ 5 ∧ u.kind ≠ 4 ∧ (lxLet c || lxFig c) = true) ∨ (quotB u = true ∧ wordB u = false ∧ u.kind ≠ 5 ∧ u.kind ≠ 4 ∧ c = 34) ∨ (u.kind = 4 ∧ c = 39) ∨ (u.kind = 5 ∧ u.text ∈ signs ∧ u.text.data.toList.headD 0 = c)) := by
 have okf : ¬ okTok u = false := by rw [ok]; simp
 have o := ok
 unfold okTok at o
 by_cases k1 : u.kind = 1
 ·rw [if_pos k1, Bool.and_eq_true, decide_eq_true_eq, decide_eq_true_eq] at o
  obtain ⟨m1, m2⟩ := kws_let _ (by have := key_kws o.1; rwa [o.2] at this)
  have hX : tb u = u.text.data.toList := by
   unfold tb tokT
   rw [if_neg okf, if_neg (by omega), if_neg (by omega)]
  obtain ⟨c, r, hc⟩ := List.exists_cons_of_ne_nil m1
  exact ⟨c, r, by rw [hX, hc], .inl ⟨by unfold wordB; rw [decide_eq_true k1]; rfl, by omega, by omega, by rw [m2 c (by rw [hc]; simp)]; rfl⟩⟩
 rw [if_neg k1] at o
 by_cases k2 : u.kind = 2
 ·rw [if_pos k2, decide_eq_true_eq] at o
  cases hp : plainN u.text with
  | true =>
   have hX : tb u = u.text.data.toList := by
    unfold tb tokT nameT
    rw [if_neg okf, if_pos k2, if_pos o, if_pos hp]
   have hp' := hp
   simp only [plainN, Bool.and_eq_true, List.all_eq_true] at hp
   have hne : u.text.data.toList ≠ [] := fun e => by
    have := size_toList u.text
    rw [e] at this; simp at this; omega
   obtain ⟨c, r, hc⟩ := List.exists_cons_of_ne_nil hne
   exact ⟨c, r, by rw [hX, hc], .inl ⟨by unfold wordB; rw [decide_eq_true k2, hp']; simp, by omega, by omega, hp.2.2.2 c (by rw [hc]; simp)⟩⟩
  | false =>
   have hX : tb u = 34 :: (quoteL 34 u.text.data.toList ++ [34]) := by
    unfold tb tokT nameT
    rw [if_neg okf, if_pos k2, if_pos o, if_neg (by rw [hp]; simp)]; rfl
   exact ⟨34, _, hX, .inr (.inl ⟨by unfold quotB; rw [decide_eq_true k2, hp]; rfl, by unfold wordB; rw [decide_eq_false k1, decide_eq_false (by omega), hp]; simp, by omega, by omega, rfl⟩)⟩
 rw [if_neg k2] at o
 by_cases k3 : u.kind = 3
 ·rw [if_pos k3] at o
  have hX : tb u = u.text.data.toList := by
   unfold tb tokT
   rw [if_neg okf, if_neg (by omega), if_neg (by omega)]
  obtain ⟨m, hm⟩ := Option.isSome_iff_exists.1 (show (numN u.text.data.toList).isSome = true from o)
  have hm := (numN_some.1 hm).2
  obtain ⟨m1, m2⟩ := dec_figs m
  rw [hm] at m1 m2
  obtain ⟨c, r, hc⟩ := List.exists_cons_of_ne_nil m1
  exact ⟨c, r, by rw [hX, hc], .inl ⟨by unfold wordB; rw [decide_eq_true k3]; simp, by omega, by omega, by rw [(m2 c (by rw [hc]; simp)).1]; simp⟩⟩
 rw [if_neg k3] at o
 by_cases k4 : u.kind = 4
 ·have hX : tb u = 39 :: (quoteL 39 u.text.data.toList ++ [39]) := by
   unfold tb tokT
   rw [if_neg okf, if_neg (by omega), if_pos k4]; rfl
  exact ⟨39, _, hX, .inr (.inr (.inl ⟨k4, rfl⟩))⟩
 rw [if_neg k4] at o
 by_cases k5 : u.kind = 5
 ·rw [if_pos k5] at o
  have hX : tb u = u.text.data.toList := by
   unfold tb tokT
   rw [if_neg okf, if_neg (by omega), if_neg (by omega)]
  have hm := sign_mem o
  obtain ⟨c, r, hc⟩ := List.exists_cons_of_ne_nil (sign_head _ hm).1
  exact ⟨c, r, by rw [hX, hc], .inr (.inr (.inr ⟨k5, hm, by rw [hc]; rfl⟩))⟩
 ·rw [if_neg k5] at o; cases o
theorem gap_fol {t u : Tok} (ot : okTok t = true) (ou : okTok u = true) (hg : gapB t u = false) {c : UInt8} (hc : (tb u).head? = some c) : folB t c = true := by
 obtain ⟨c', r, e, hk⟩ := first_kind ou
 rw [e] at hc
 injection hc with hc
 subst hc
 unfold gapB gapC at hg
 rw [ot, ou] at hg
 simp only [Bool.and_self, Bool.not_true, Bool.false_eq_true, if_false] at hg
 split at hg
 ·cases hg
 rename_i hh
 simp only [Bool.not_eq_true, Bool.or_eq_false_iff, Bool.and_eq_false_iff, decide_eq_false_iff_not] at hh
 obtain ⟨⟨hw, hq⟩, ht⟩ := hh
 unfold folB
 by_cases k5 : t.kind = 5
 ·rw [if_pos k5]
  rcases hk with ⟨_, _, _, hl⟩ | ⟨_, _, _, _, rfl⟩ | ⟨_, rfl⟩ | ⟨h5, hm, hh⟩
  ·obtain ⟨_, a1, _, _, _⟩ := let_nw hl
   obtain ⟨a2, a3, a4⟩ := let_nw2 hl
   simp [a1, a2, a3, a4]
  ·simp
  ·simp
  ·obtain ⟨_, _, _, _, s1, s2⟩ := sign_head _ hm
   rw [hh] at s1 s2
   unfold gapS at hg
   rw [if_neg (not_not_intro k5), if_neg (not_not_intro h5), hh] at hg
   by_cases e1 : t.text = ⟨#[45]⟩
   ·rw [if_pos e1, decide_eq_false_iff_not] at hg
    have : ¬ c' = 45 := fun h => hg (s1 h)
    rw [e1]; simp [this]
   rw [if_neg e1] at hg
   by_cases e2 : t.text = ⟨#[47]⟩
   ·rw [if_pos e2, decide_eq_false_iff_not] at hg
    have : ¬ c' = 42 := fun h => hg (s2 h)
    rw [e2]; simp [this]
   rw [if_neg e2] at hg
   by_cases e3 : t.text = ⟨#[60]⟩
   ·rw [if_pos e3, Bool.or_eq_false_iff, decide_eq_false_iff_not, decide_eq_false_iff_not] at hg
    rw [e3]; simp [hg.1, hg.2]
   rw [if_neg e3] at hg
   by_cases e4 : t.text = ⟨#[62]⟩
   ·rw [if_pos e4, decide_eq_false_iff_not] at hg
    rw [e4]; simp [hg]
   simp [e1, e2, e3, e4]
 rw [if_neg k5]
 by_cases k4 : t.kind = 4
 ·rw [if_pos k4]
  rcases hk with ⟨_, _, _, hl⟩ | ⟨_, _, _, _, rfl⟩ | ⟨h4, rfl⟩ | ⟨h5, hm, hh⟩
  ·obtain ⟨_, _, _, _, a1⟩ := let_nw hl
   simp [a1]
  ·rfl
  ·rcases ht with ht | ht
   ·exact absurd k4 ht
   ·exact absurd h4 ht
  ·obtain ⟨_, _, _, s1, _⟩ := sign_head _ hm
   rw [hh] at s1
   simp [s1]
 rw [if_neg k4]
 cases wt : wordB t with
 | true =>
  rw [if_pos rfl]
  rcases hk with ⟨wu, _, _, hl⟩ | ⟨_, _, _, _, rfl⟩ | ⟨h4, rfl⟩ | ⟨h5, hm, hh⟩
  ·rcases hw with hw | hw
   ·rw [wt] at hw; cases hw
   ·rw [wu] at hw; cases hw
  ·decide
  ·decide
  ·obtain ⟨_, s1, _⟩ := sign_head _ hm
   rw [hh] at s1
   rw [s1]; rfl
 | false =>
  rw [if_neg (by simp)]
  have qt : quotB t = true := by
   obtain ⟨_, _, _, hk⟩ := first_kind ot
   rcases hk with ⟨a, _⟩ | ⟨a, _⟩ | ⟨a, _⟩ | ⟨a, _⟩
   ·rw [wt] at a; cases a
   ·exact a
   ·exact absurd a k4
   ·exact absurd a k5
  rcases hk with ⟨wu, _, _, hl⟩ | ⟨qu, _, _, _, rfl⟩ | ⟨h4, rfl⟩ | ⟨h5, hm, hh⟩
  ·obtain ⟨_, _, _, a1, _⟩ := let_nw hl
   simp [a1]
  ·rcases hq with hq | hq
   ·rw [qt] at hq; cases hq
   ·rw [qu] at hq; cases hq
  ·rfl
  ·obtain ⟨_, _, s1, _⟩ := sign_head _ hm
   rw [hh] at s1
   simp [s1]
def gapL (p : Option Tok) (u : Tok) : List UInt8 := match p with | some t => if gapB t u = true then [32] else [] | none => []
def jl : Option Tok → List Tok → List UInt8
 | _, [] => []
 | p, u :: r => gapL p u ++ (tb u ++ jl (some u) r)
theorem joinL_jl (l : List Tok) : ∀ k, k ≤ l.length → joinL l k ++ jl (if k = 0 then none else l[k - 1]?) (l.drop k) = jl none l
 | 0, _ => by simp [joinL]
 | k + 1, h => by
  have hk : k < l.length := h
  rw [← joinL_jl l k (by omega), joinL_succ, List.drop_eq_getElem_cons hk]
  have e1 : (if k + 1 = 0 then none else l[k + 1 - 1]?) = some l[k] := by
   rw [if_neg (by omega), Nat.add_sub_cancel]; exact List.getElem?_eq_getElem hk
  rw [e1]
  show _ = joinL l k ++ (gapL _ l[k] ++ (tb l[k] ++ jl (some l[k]) (l.drop (k + 1))))
  have e2 : jn l k = gapL (if k = 0 then none else l[k - 1]?) l[k] ++ tb l[k] := by
   rw [jn_at l hk]
   congr 1
   by_cases h0 : k = 0
   ·subst h0; rfl
   ·rw [if_neg h0, List.getElem?_eq_getElem (by omega)]
    unfold gapL
    simp only [show 0 < k by omega, true_and]
  rw [e2]; simp only [List.append_assoc]
theorem joinL_all (l : List Tok) : joinL l l.length = jl none l := by
 have := joinL_jl l l.length (Nat.le_refl _)
 rw [List.drop_length] at this
 rw [← this]; simp [jl]
theorem jl_fol {u : Tok} {r : List Tok} (ou : okTok u = true) (hr : ∀ v, v ∈ r → okTok v = true) : ∀ c, (jl (some u) r).head? = some c → folB u c = true := fun c h => by
 cases r with
 | nil => cases h
 | cons v r =>
  have ov := hr v (by simp)
  obtain ⟨c', r', e, _⟩ := first_kind ov
  simp only [jl, gapL] at h
  by_cases hg : gapB u v = true
  ·rw [if_pos hg] at h
   injection h with h
   rw [← h]; exact fol_space u
  ·rw [if_neg hg, e] at h
   exact gap_fol ou ov (by simpa using hg) (by rw [e]; exact h)
theorem go_row : ∀ (r : List Tok) (p : Option Tok) (B A : List UInt8) (acc : List Tok) (n : Nat), (∀ u, u ∈ r → okTok u = true) → B = A ++ jl p r → r.length < n → ∃ r', lxGo B n A.length acc = some (.inl (acc ++ r')) ∧ SameK r' r
 | [], p, B, A, acc, n, _, hB, hn => by
  obtain ⟨n, rfl⟩ : ∃ m, n = m + 1 := ⟨n - 1, by omega⟩
  have hB : B = A := by rw [hB]; simp [jl]
  subst hB
  have h0 : B[B.length]? = none := List.getElem?_eq_none_iff.2 (Nat.le_refl _)
  refine ⟨[], ?_, rfl⟩
  rw [lxGo, lxPass, h0]
  simp only [Bool.true_eq_false, if_false]
  rw [h0, List.append_nil]
 | u :: r, p, B, A, acc, n, hok, hB, hn => by
  obtain ⟨n, rfl⟩ : ∃ m, n = m + 1 := ⟨n - 1, by omega⟩
  have ou := hok u (by simp)
  have hr : ∀ v, v ∈ r → okTok v = true := fun v hv => hok v (by simp [hv])
  have hB2 : B = (A ++ gapL p u) ++ tb u ++ jl (some u) r := by rw [hB]; simp [jl]
  obtain ⟨hne, b, hb, hp, ho⟩ := lx_tok (A := A ++ gapL p u) ou (jl_fol ou hr)
  rw [← hB2] at hb hp ho
  have hpass : lxPass B (B.length + 1) A.length = some ((A ++ gapL p u).length, true) := by
   have hg : gapL p u = [] ∨ gapL p u = [32] := by
    unfold gapL
    split
    ·split
     ·exact .inr rfl
     ·exact .inl rfl
    ·exact .inl rfl
   rcases hg with hg | hg
   ·have e : A ++ gapL p u = A := by rw [hg, List.append_nil]
    rw [e] at hp ⊢
    exact hp _
   ·have e : (A ++ gapL p u).length = A.length + 1 := by rw [hg]; simp
    have h32 : B[A.length]? = some 32 := by
     rw [hB2, hg, List.append_assoc, List.append_assoc, List.getElem?_append_right (Nat.le_refl _), Nat.sub_self]; rfl
    have hl : 1 ≤ B.length := by have := (List.getElem?_eq_some_iff.1 h32).1; omega
    obtain ⟨m, hm⟩ : ∃ m, B.length = m + 1 := ⟨B.length - 1, by omega⟩
    rw [e] at hp ⊢
    rw [hm, lxPass, h32]
    simp only
    rw [if_pos (by decide)]
    exact hp _
  obtain ⟨r', h1, h2⟩ := go_row r (some u) B (A ++ gapL p u ++ tb u) (acc ++ [⟨u.kind, u.text, (A ++ gapL p u).length⟩]) n hr (by rw [hB2]) (by simp only [List.length_cons] at hn; omega)
  refine ⟨⟨u.kind, u.text, (A ++ gapL p u).length⟩ :: r', ?_, ?_⟩
  ·rw [lxGo, hpass]
   simp only [Bool.true_eq_false, if_false, hb, ho]
   have e9 : (A ++ gapL p u ++ tb u).length = (A ++ gapL p u).length + (tb u).length := List.length_append
   rw [e9] at h1
   rw [h1]; simp
  ·unfold SameK at h2 ⊢
   rw [List.map_cons, List.map_cons, h2]
theorem jl_len : ∀ (r : List Tok) (p : Option Tok), (∀ u, u ∈ r → okTok u = true) → r.length ≤ (jl p r).length
 | [], _, _ => Nat.zero_le _
 | u :: r, p, h => by
  have h1 := jl_len r (some u) fun v hv => h v (by simp [hv])
  obtain ⟨c, x, e, _⟩ := first_kind (h u (by simp))
  simp only [jl, List.length_append, e, List.length_cons]
  omega
theorem lex_spaced {l : List Tok} (hok : l.all okTok = true) (hl : (joinL l l.length).length ≤ 2000) : ∃ L, lexR (spacedB l) = .inl L ∧ SameK L l := by
 have ho := List.all_eq_true.1 hok
 have e : spacedB l = ⟨(jl none l).toArray⟩ := by
  unfold spacedB
  rw [if_pos hok, if_neg (by omega), joinL_all]
 rw [joinL_all] at hl
 have hlen := jl_len l none ho
 obtain ⟨r', h1, h2⟩ := go_row l none (jl none l) [] [] ((jl none l).length + 1) ho rfl (by omega)
 refine ⟨r', ?_, h2⟩
 rw [e]
 unfold lexR
 rw [if_neg (by rw [← size_toList]; show ¬ 2000 < (jl none l).length; omega)]
 show (lxGo (jl none l) ((jl none l).length + 1) 0 []).getD (.inr 0) = _
 rw [show (0 : Nat) = ([] : List UInt8).length from rfl, h1]; rfl
theorem spaced_ne {l : List Tok} (h : spacedB l ≠ ⟨#[]⟩) : l.all okTok = true ∧ (joinL l l.length).length ≤ 2000 := by
 unfold spacedB at h
 split at h
 ·rename_i h1
  split at h
  ·exact absurd rfl h
  ·exact ⟨h1, by omega⟩
 ·exact absurd rfl h
theorem okE_fm {x : Expr} (h : okE x = true) : fmE x = true := by
 unfold okE at h
 simp only [Bool.and_eq_true] at h
 exact h.2.2
theorem parseExpr_printed (full : Bool) {x : Expr} (hok : okE x = true) (hr : Rg x) (hs : spacedB (tkE full x) ≠ ⟨#[]⟩) : parseExpr (spacedB (tkE full x)) = (x, (0, 0)) := by
 obtain ⟨h1, h2⟩ := spaced_ne hs
 obtain ⟨L, hL, hk⟩ := lex_spaced h1 h2
 unfold parseExpr parseR
 rw [hL]
 have e := takeE_read (full := full) (okE_fm hok) hr hk
 simp only [e, hok, if_true]
 rw [if_neg (by omega)]
 rfl
section
variable {L : List Tok}
theorem kidL_cg {full : Bool} {g g' : Expr → List Tok} {kind op : Int} {kids : List Expr} {k : Nat} (hk : k < kids.length) (h : ∀ x, x ∈ kids → g x = g' x) : kidL full g kind op kids k = kidL full g' kind op kids k := by
 unfold kidL
 rw [h _ (by rw [List.getD_eq_getElem?_getD, List.getElem?_eq_getElem hk]; exact List.getElem_mem hk)]
theorem seqN_cg {f f' : Nat → List Tok} {n : Nat} (h : ∀ i, i < n → f i = f' i) : seqN f n = seqN f' n := by
 unfold seqN
 rw [List.flatMap_def, List.flatMap_def, List.map_congr_left fun i hi => h i (List.mem_range.1 hi)]
theorem atL_cg {α : Type} {l : List α} {h h' : α → List Tok} {i : Nat} (e : ∀ x, x ∈ l → h x = h' x) : atL l h i = atL l h' i := by
 unfold atL
 cases hx : l[i]? with
 | none => rfl
 | some x => exact e x (List.mem_of_getElem? hx)
theorem quT_cg {g g' : Expr → List Tok} {q : Query} (h : ∀ x, x ∈ exprsQ q → g x = g' x) : quT g q = quT g' q := by
 obtain ⟨d, it, fr, wh, od, li⟩ := q
 have e : exprsQ (.mk d it fr wh od li) = exprsI it ++ fr.flatMap Source.on ++ wh ++ od.map SortKey.e := rfl
 rw [e] at h
 have h1 : ∀ i, itemF g it i = itemF g' it i := fun i => by
  unfold itemF
  rw [atL_cg fun x hx => ?_]
  obtain ⟨st, ql, e, a⟩ := x
  cases st with
  | true => rfl
  | false =>
   have : e ∈ exprsI it := List.mem_map.2 ⟨_, List.mem_filter.2 ⟨hx, rfl⟩, rfl⟩
   simp only [itemT, h e (by simp [this])]
 have h2 : ∀ i, srcF g fr i = srcF g' fr i := fun i => by
  unfold srcF
  rw [atL_cg fun x hx => ?_]
  obtain ⟨tb, a, on⟩ := x
  cases on with
  | nil => rfl
  | cons y r =>
   have : y ∈ fr.flatMap Source.on := List.mem_flatMap.2 ⟨_, hx, by simp [Source.on]⟩
   simp only [srcT, onL, h y (by simp [this])]
 have h3 : whL g wh = whL g' wh := by
  cases wh with
  | nil => rfl
  | cons y r => simp only [whL, h y (by simp)]
 have h4 : ∀ i, keyF g od i = keyF g' od i := fun i => by
  unfold keyF
  rw [atL_cg fun x hx => ?_]
  obtain ⟨e, d⟩ := x
  have : e ∈ od.map SortKey.e := List.mem_map.2 ⟨_, hx, rfl⟩
  simp only [keyT, h e (by simp [this])]
 simp only [quT]
 rw [seqN_cg fun i _ => h1 i, seqN_cg fun i _ => h2 i, h3, seqN_cg fun i _ => h4 i]
def Shp (kind : Int) (n : Nat) : Prop := ¬ kind = 1 → ¬ kind = 2 → ¬ kind = 9 → 1 ≤ n ∧ (kind = 4 → 2 ≤ n) ∧ (kind = 6 → 3 ≤ n)
theorem tkE_sh {full : Bool} {kind op : Int} {not : Bool} {val : Val} {qual name : ByteArray} {kids : List Expr} {sub : List Query} (hs : Shp kind kids.length) : tkE full (.mk kind op not val qual name kids sub) = exT full (tkE full) (.mk kind op not val qual name kids sub) := by
 unfold tkE
 rw [foldE]
 suffices H : ∀ g : Expr → List Tok, (∀ x, x ∈ kids → g x = foldE (exT full) x) → (∀ q, q ∈ sub → ∀ x, x ∈ exprsQ q → g x = foldE (exT full) x) → exT full g (.mk kind op not val qual name kids sub) = exT full (foldE (exT full)) (.mk kind op not val qual name kids sub) from
  H _ (fun x hx => dif_pos (below_lt (e := .mk kind op not val qual name kids sub) (.inl hx))) (fun q hq x hx => dif_pos (below_lt (e := .mk kind op not val qual name kids sub) (.inr ⟨q, hq, hx⟩)))
 intro g hk hq
 have hsub : subL' g sub = subL' (foldE (exT full)) sub := by
  cases sub with
  | nil => rfl
  | cons q r => exact quT_cg (hq q (by simp))
 simp only [exT]
 by_cases k1 : kind = 1
 ·simp only [if_pos k1]
 by_cases k2 : kind = 2
 ·simp only [if_neg k1, if_pos k2]
 by_cases k9 : kind = 9
 ·have k3 : ¬ kind = 3 := by omega
  simp only [if_neg k1, if_neg k2, if_neg k3, if_pos k9, hsub]
 obtain ⟨n1, n4, n6⟩ := hs k1 k2 k9
 have c0 := kidL_cg (full := full) (kind := kind) (op := op) (k := 0) (by omega) hk
 have cin : seqN (inF full g kind op kids) (kids.length - 1) = seqN (inF full (foldE (exT full)) kind op kids) (kids.length - 1) := seqN_cg fun i hi => by
  unfold inF
  rw [kidL_cg (by omega) hk]
 simp only [if_neg k1, if_neg k2, if_neg k9, c0, hsub, cin]
 by_cases k4 : kind = 4
 ·rw [kidL_cg (full := full) (kind := kind) (op := op) (k := 1) (by have := n4 k4; omega) hk]
  simp only [if_pos k4]
 by_cases k6 : kind = 6
 ·rw [kidL_cg (full := full) (kind := kind) (op := op) (k := 1) (by have := n6 k6; omega) hk, kidL_cg (full := full) (kind := kind) (op := op) (k := 2) (by have := n6 k6; omega) hk]
 ·simp only [if_neg k4, if_neg k6]
noncomputable def wr (n : Int) (e : Expr) : List Tok := parL (decide (lvE e < n)) (tkE false e)
theorem kid_wr {kind op : Int} {kids : List Expr} {k : Nat} : kidL false (tkE false) kind op kids k = wr (nd kind op k) (kids.getD k zeroX) := by
 unfold kidL wr wrF wrapB
 rw [Bool.false_and, Bool.or_false]; rfl
end
section
variable {L : List Tok}
theorem tk_un {op : Int} (x : Expr) : tkE false (mUn op x) = opTk op :: wr (nd 3 op 0) x := by
 unfold mUn
 rw [tkE_sh (fun _ _ _ => ⟨by simp, fun h => by omega, fun h => by omega⟩)]
 simp only [exT, kid_wr, if_true, show ¬((3 : Int) = 1) by decide, show ¬((3 : Int) = 2) by decide, if_false]
 rfl
theorem tk_lit (v : Val) : tkE false (mLit v) = [litT v] := by
 unfold mLit
 rw [tkE_sh (fun h => absurd rfl h)]
 simp only [exT, if_true]
end
end Go.Proofs.YtfddkbckoapmfaaGreatDoor
