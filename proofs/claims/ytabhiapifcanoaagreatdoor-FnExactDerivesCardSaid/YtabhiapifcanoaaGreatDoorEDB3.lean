/-
  What is derived is read, and the other way round.
  Conditions: none.
-/
import Derived.Test.YtabhiapifcanoaaGreatDoorEDF2
set_option linter.unusedVariables false
set_option linter.unusedSimpArgs false
set_option linter.unusedSectionVars false
set_option linter.unnecessarySimpa false
set_option maxRecDepth 8000
namespace Go.Proofs.YtabhiapifcanoaaGreatDoor
open Go Go.Dv
open Go.Vc (D shrI xorI andI)
section
variable {L : List Tok}
def hd (L : List Tok) (a : Nat) : Option (Int × ByteArray) := L[a]?.map fun t => (t.kind, t.text)
def Has (L : List Tok) : Nat → List Tok → Prop
 | _, [] => True
 | a, t :: r => hd L a = some (t.kind, t.text) ∧ Has L (a + 1) r
theorem has_app : ∀ {l m : List Tok} {a : Nat}, Has L a (l ++ m) ↔ Has L a l ∧ Has L (a + l.length) m
 | [], m, a => by simp [Has]
 | t :: r, m, a => by
  rw [List.cons_append, Has, Has, has_app, and_assoc, List.length_cons, show a + 1 + r.length = a + (r.length + 1) by omega]
abbrev P0 (a : Nat) : PS := ⟨a, false⟩
theorem isT_hd (a k : Nat) (kind : Int) (x : ByteArray) : isT L (P0 a) k kind x = decide (hd L (a + k) = some (kind, x)) := by
 unfold isT tkAt hd
 simp only [Bool.false_eq_true, if_false]
 cases L[a + k]? with
 | none => simp
 | some t => simp only [Option.map_some, Option.some.injEq, Prod.mk.injEq, Bool.decide_and]
theorem okTok_k (t : Tok) : okTok t = okTok ⟨t.kind, t.text, 0⟩ := by cases t; rfl
theorem isK_at {a : Nat} {kind k : Int} {x : ByteArray} (h : hd L a = some (k, x)) : isK L (P0 a) kind = (decide (k = kind) && okTok ⟨k, x, 0⟩) := by
 unfold isK tkAt
 unfold hd at h
 simp only [Bool.false_eq_true, if_false, Nat.add_zero]
 cases hl : L[a]? with
 | none => rw [hl] at h; cases h
 | some t =>
  rw [hl] at h
  injection h with h; injection h with h1 h2
  subst h1 h2
  simp only
  rw [okTok_k t]
theorem textAt_at {a : Nat} {k : Int} {x : ByteArray} (h : hd L a = some (k, x)) : textAt L (P0 a) = x := by
 unfold textAt tkAt
 unfold hd at h
 simp only [Bool.false_eq_true, if_false, Nat.add_zero]
 cases hl : L[a]? with
 | none => rw [hl] at h; cases h
 | some t =>
  rw [hl] at h
  injection h with h; injection h with h1 h2
theorem key_at (a k : Nat) : isKey L (P0 a) k = decide (hd L a = some (1, kw k)) := isT_hd a 0 1 _
theorem sg_at (a : Nat) (c : UInt8) : isSg L (P0 a) c = decide (hd L a = some (5, ⟨#[c]⟩)) := isT_hd a 0 5 _
theorem adv_P (a : Nat) : adv (P0 a) = P0 (a + 1) := rfl
def okind (op : Nat) : Int := if op = 1 ∨ op = 2 then 1 else 5
theorem op_at (a op : Nat) : opHit L (P0 a) op = decide (hd L a = some (okind op, opT op)) := isT_hd a 0 _ _
def St (lv : Nat) (h : Option (Int × ByteArray)) : Prop :=
 h ≠ some (5, ⟨#[46]⟩) ∧ (lv ≤ 4 → h ≠ some (1, kw 15) ∧ h ≠ some (1, kw 16) ∧ h ≠ some (1, kw 17) ∧ h ≠ some (1, kw 18)) ∧ ∀ op : Fin 15, 1 ≤ op.1 → (lv : Int) ≤ bl op.1 → h ≠ some (okind op.1, opT op.1)
theorem St.mono {lv lv' : Nat} {h : Option (Int × ByteArray)} (k : lv ≤ lv') (s : St lv h) : St lv' h := ⟨s.1, fun e => s.2.1 (by omega), fun op h1 h2 => s.2.2 op h1 (by omega)⟩
theorem opIn_none {s : PS} : ∀ {l : List Nat}, (∀ op ∈ l, opHit L s op = false) → opIn L s l = 0
 | [], _ => rfl
 | op :: r, h => by
  rw [opIn, h op (by simp), if_neg (by simp)]
  exact opIn_none fun x hx => h x (by simp [hx])
theorem opsL_bl : ∀ lv : Fin 10, ∀ op ∈ opsL lv.1, 1 ≤ op ∧ op ≤ 14 ∧ bl op = lv.1 := by decide
theorem St.noop {lv l a : Nat} (s : St lv (hd L a)) (h : lv ≤ l) (h9 : l ≤ 9) : opAt L (P0 a) l = 0 := opIn_none fun op hop => by
 obtain ⟨h1, h2, h3⟩ := opsL_bl ⟨l, by omega⟩ op hop
 rw [op_at, decide_eq_false_iff_not]
 exact s.2.2 ⟨op, by omega⟩ h1 (by show (lv : Int) ≤ bl op; rw [h3]; show (lv : Int) ≤ l; omega)
theorem opT_inj : ∀ i j : Fin 15, 1 ≤ i.1 → 1 ≤ j.1 → okind i.1 = okind j.1 → opT i.1 = opT j.1 → i = j := by decide +kernel
theorem opIn_hit {a op : Nat} (h1 : 1 ≤ op) (h2 : op ≤ 14) (hh : hd L a = some (okind op, opT op)) : ∀ {l : List Nat}, op ∈ l → (∀ x ∈ l, 1 ≤ x ∧ x ≤ 14) → opIn L (P0 a) l = op
 | [], h, _ => by cases h
 | x :: r, h, hb => by
  rw [opIn, op_at]
  obtain ⟨b1, b2⟩ := hb x (by simp)
  by_cases e : x = op
  ·subst e; rw [if_pos (by simp [hh])]
  ·rw [if_neg]
   ·exact opIn_hit h1 h2 hh (by simpa [Ne.symm e] using h) fun y hy => hb y (by simp [hy])
   ·rw [hh, decide_eq_true_eq]
    intro h3
    injection h3 with h3; injection h3 with h3 h4
    exact e (congrArg Fin.val (opT_inj ⟨op, by omega⟩ ⟨x, by omega⟩ h1 b1 h3 h4)).symm
theorem opsL_mem : ∀ op : Fin 15, 1 ≤ op.1 → op.1 ∈ opsL (bl op.1).toNat := by decide
theorem opAt_hit {a op : Nat} (h1 : 1 ≤ op) (h2 : op ≤ 14) (hh : hd L a = some (okind op, opT op)) : opAt L (P0 a) (bl op).toNat = op := by
 have hl := opsL_mem ⟨op, by omega⟩ h1
 have h9 : (bl op).toNat < 10 := by have := lv_bounds 4 op; unfold lv at this; simp only [if_true] at this; omega
 exact opIn_hit h1 h2 hh hl fun x hx => by
  obtain ⟨b1, b2, _⟩ := opsL_bl ⟨_, h9⟩ x hx
  exact ⟨b1, b2⟩
theorem st_none (lv : Nat) : St lv none := ⟨by simp, fun _ => by simp, fun _ _ _ => by simp⟩
theorem st_sg (c : UInt8) (h : (c = 41 ∨ c = 44)) (lv : Nat) : St lv (some (5, ⟨#[c]⟩)) := by
 rcases h with rfl | rfl
 ·exact ⟨by decide, fun _ => by decide, fun op _ _ => (by decide : ∀ op : Fin 15, (some (5, ⟨#[41]⟩) : Option (Int × ByteArray)) ≠ some (okind op.1, opT op.1)) op⟩
 ·exact ⟨by decide, fun _ => by decide, fun op _ _ => (by decide : ∀ op : Fin 15, (some (5, ⟨#[44]⟩) : Option (Int × ByteArray)) ≠ some (okind op.1, opT op.1)) op⟩
theorem st_key5 (k : Nat) (h : k = 13 ∨ k = 15 ∨ k = 16 ∨ k = 17 ∨ k = 18) : St 5 (some (1, kw k)) := by
 have h1 : ∀ k ∈ [13, 15, 16, 17, 18], ((some (1, kw k) : Option (Int × ByteArray)) ≠ some (5, ⟨#[46]⟩)) ∧ ∀ op : Fin 15, 5 ≤ bl op.1 → (some (1, kw k) : Option (Int × ByteArray)) ≠ some (okind op.1, opT op.1) := by decide +kernel
 obtain ⟨a, c⟩ := h1 k (by simpa using h)
 exact ⟨a, fun e => by omega, fun op _ h => c op h⟩
theorem st_op (op : Nat) (h1 : 1 ≤ op) (h2 : op ≤ 14) (lv : Nat) (hl : bl op < lv) (h4 : bl op = 4 → 5 ≤ lv) (h3 : bl op ≤ 2 → 5 ≤ lv ∨ lv ≤ 4) : St lv (some (okind op, opT op)) := by
 have k1 : ∀ op : Fin 15, 1 ≤ op.1 → ((some (okind op.1, opT op.1) : Option (Int × ByteArray)) ≠ some (5, ⟨#[46]⟩)) ∧ ((some (okind op.1, opT op.1) : Option (Int × ByteArray)) ≠ some (1, kw 15) ∧ (some (okind op.1, opT op.1) : Option (Int × ByteArray)) ≠ some (1, kw 16) ∧ (some (okind op.1, opT op.1) : Option (Int × ByteArray)) ≠ some (1, kw 17) ∧ (some (okind op.1, opT op.1) : Option (Int × ByteArray)) ≠ some (1, kw 18)) := by decide +kernel
 obtain ⟨a, b⟩ := k1 ⟨op, by omega⟩ h1
 refine ⟨a, fun _ => b, fun op' h1' hb e => ?_⟩
 injection e with e; injection e with e1 e2
 have := congrArg Fin.val (opT_inj ⟨op, by omega⟩ op' h1 h1' e1 e2)
 simp only at this
 rw [← this] at hb
 omega
end
def chn (lv : Nat) : Prop := lv = 1 ∨ lv = 2 ∨ lv = 5 ∨ lv = 6 ∨ lv = 7
def ItA (L : List Tok) (e : Expr) (l : List Tok) (lv a : Nat) : Prop := St lv (hd L (a + l.length)) → pExpr L lv (P0 a) = some (e, P0 (a + l.length))
def ItB (L : List Tok) (e : Expr) (l : List Tok) (lv a : Nat) : Prop := St (lv + 1) (hd L (a + l.length)) → pExpr L lv (P0 a) = chainM L (pExpr L (lv + 1)) lv (L.length + 1) e (P0 (a + l.length))
def Itm (e : Expr) (l : List Tok) (n : Nat) : Prop := ∀ L a, Has L a l → ∀ lv, 1 ≤ lv → lv ≤ n → ItA L e l lv a ∧ (chn lv → ItB L e l lv a)
theorem Itm.mono {e : Expr} {l : List Tok} {n m : Nat} (h : Itm e l n) (k : m ≤ n) : Itm e l m := fun L a hl lv h1 h2 => h L a hl lv h1 (by omega)
section
variable {L : List Tok}
theorem pE_chain {lv : Nat} (h : chn lv) (s : PS) : pExpr L lv s = match pExpr L (lv + 1) s with
 | none => none
 | some (e, s1) => chainM L (pExpr L (lv + 1)) lv (L.length + 1) e s1 := by
 unfold chn at h
 rw [pExpr_eq lv (by omega) (by omega)]
 unfold stepE
 rw [if_neg (by omega), if_neg (by omega), if_neg (by omega), if_neg (by omega)]
 rcases pExpr L (lv + 1) s with _ | ⟨e, s1⟩ <;> rfl
theorem chain_stop {g : PM Expr} {lv n : Nat} {e : Expr} {s : PS} (h : opAt L s lv = 0) : chainM L g lv (n + 1) e s = some (e, s) := by rw [chainM, if_pos h]
theorem pE_4 (s : PS) : pExpr L 4 s = cmpM L (pExpr L) (pQuery L) s := by rw [pExpr_eq 4 (by omega) (by omega)]; rfl
theorem pE_9 (s : PS) : pExpr L 9 s = primM L (pExpr L) (pQuery L) s := by rw [pExpr_eq 9 (by omega) (by omega)]; rfl
theorem pE_3 (s : PS) : pExpr L 3 s = (if isKey L s 15 = true then (match pExpr L 3 (adv s) with
 | none => none
 | some (e, s1) => some (mUn 15 e, s1)) else pExpr L 4 s) := by rw [pExpr_eq 3 (by omega) (by omega)]; rfl
theorem pE_8 (s : PS) : pExpr L 8 s = (if isSg L s 45 = true then (match pExpr L 8 (adv s) with
 | none => none
 | some (e, s1) => some (mUn 16 e, s1)) else pExpr L 9 s) := by rw [pExpr_eq 8 (by omega) (by omega)]; rfl
theorem key_no {a k : Nat} (h : hd L a ≠ some (1, kw k)) : isKey L (P0 a) k = false := by rw [key_at, decide_eq_false_iff_not]; exact h
theorem key_yes {a k : Nat} (h : hd L a = some (1, kw k)) : isKey L (P0 a) k = true := by rw [key_at, decide_eq_true_eq]; exact h
theorem sg_no {a : Nat} {c : UInt8} (h : hd L a ≠ some (5, ⟨#[c]⟩)) : isSg L (P0 a) c = false := by rw [sg_at, decide_eq_false_iff_not]; exact h
theorem sg_yes {a : Nat} {c : UInt8} (h : hd L a = some (5, ⟨#[c]⟩)) : isSg L (P0 a) c = true := by rw [sg_at, decide_eq_true_eq]; exact h
theorem cmp_stop {a : Nat} {e : Expr} (h : St 4 (hd L a)) : cmpT L (pExpr L) (pQuery L) e (P0 a) = some (e, P0 a) := by
 obtain ⟨_, h2, _⟩ := h
 obtain ⟨k15, k16, k17, k18⟩ := h2 (by omega)
 unfold cmpT
 simp only [key_no k16, key_no k15, Bool.false_eq_true, if_false, tkIf, key_no k18, key_no k17, Bool.or_self]
theorem pE_4_stop {a b : Nat} {e : Expr} (h : pExpr L 5 (P0 a) = some (e, P0 b)) (hs : St 4 (hd L b)) : pExpr L 4 (P0 a) = some (e, P0 b) := by
 rw [pE_4]
 unfold cmpM
 rw [h]
 simp only [hs.noop (Nat.le_refl 4) (by omega), if_true]
 exact cmp_stop hs
end
theorem mk_itm {e : Expr} {l : List Tok} {n : Nat} (hn9 : n ≤ 9) (hA : ∀ L a, Has L a l → ItA L e l n a) (hB : ∀ L a, Has L a l → chn n → ItB L e l n a)
 (hC : ∀ L a, Has L a l → (4 ≤ n → hd L a ≠ some (1, kw 15)) ∧ (n = 9 → hd L a ≠ some (5, ⟨#[45]⟩))) : Itm e l n := by
 intro L a hl
 have key : ∀ d lv, lv + d = n → 1 ≤ lv → ItA L e l lv a ∧ (chn lv → ItB L e l lv a) := by
  intro d
  induction d with
  | zero => intro lv h _; obtain rfl : lv = n := (by omega); exact ⟨hA L a hl, hB L a hl⟩
  | succ d ih =>
   intro lv h h1
   obtain ⟨i1, i2⟩ := ih (lv + 1) (by omega) (by omega)
   have B : chn lv → ItB L e l lv a := fun hc hs => by
    rw [pE_chain hc, i1 hs]
   refine ⟨fun hs => ?_, B⟩
   by_cases hc : chn lv
   ·rw [B hc (hs.mono (by omega)), chain_stop (hs.noop (Nat.le_refl lv) (by omega))]
   ·unfold chn at hc
    rcases (show lv = 3 ∨ lv = 4 ∨ lv = 8 by omega) with rfl | rfl | rfl
    ·rw [pE_3, key_no ((hC L a hl).1 (by omega)), if_neg (by simp)]
     exact i1 (hs.mono (by omega))
    ·exact pE_4_stop (i1 (hs.mono (by omega))) hs
    ·rw [pE_8, sg_no ((hC L a hl).2 (by omega)), if_neg (by simp)]
     exact i1 (hs.mono (by omega))
 exact fun lv h1 h2 => key (n - lv) lv (by omega) h1
theorem hd_ne {L : List Tok} {a : Nat} {k k' : Int} {x x' : ByteArray} (h : hd L a = some (k, x)) (hk : k ≠ k') : hd L a ≠ some (k', x') := by rw [h]; intro e; injection e with e; injection e with e _; exact hk e
theorem hd_nt {L : List Tok} {a : Nat} {k k' : Int} {x x' : ByteArray} (h : hd L a = some (k, x)) (hk : x ≠ x') : hd L a ≠ some (k', x') := by rw [h]; intro e; injection e with e; injection e with _ e; exact hk e
theorem isK_ne {L : List Tok} {a : Nat} {k kind : Int} {x : ByteArray} (h : hd L a = some (k, x)) (hk : k ≠ kind) : isK L (P0 a) kind = false := by rw [isK_at h, decide_eq_false hk]; rfl
theorem itm_par {e : Expr} {l : List Tok} {n : Nat} (h : Itm e l n) (h1 : 1 ≤ n) : Itm e (lpT :: (l ++ [rpT])) 9 := by
 have tk : ∀ L a, Has L a (lpT :: (l ++ [rpT])) → hd L a = some (5, ⟨#[40]⟩) ∧ Has L (a + 1) l ∧ hd L (a + 1 + l.length) = some (5, ⟨#[41]⟩) := fun L a hl => by
  rw [Has, has_app, Has] at hl
  exact ⟨hl.1, hl.2.1, hl.2.2.1⟩
 refine mk_itm (Nat.le_refl 9) (fun L a hl hs => ?_) (fun L a _ hc => by unfold chn at hc; omega) fun L a hl => ?_
 ·obtain ⟨t1, t2, t3⟩ := tk L a hl
  rw [pE_9]
  unfold primM
  have hst : St 1 (hd L (a + 1 + l.length)) := by rw [t3]; exact st_sg 41 (.inl rfl) 1
  have := (h L (a + 1) t2 1 (Nat.le_refl 1) h1).1 hst
  simp only [isK_ne t1 (by decide : (5 : Int) ≠ 3), isK_ne t1 (by decide : (5 : Int) ≠ 4), isK_ne t1 (by decide : (5 : Int) ≠ 2), key_no (hd_ne t1 (by decide : (5 : Int) ≠ 1)), sg_yes t1, Bool.false_eq_true, if_false, if_true, adv_P, this, must, sg_yes t3, List.length_cons, List.length_append, List.length_nil]
  congr 3
  omega
 ·obtain ⟨t1, _, _⟩ := tk L a hl
  exact ⟨fun _ => hd_ne t1 (by decide), fun _ => hd_nt t1 (by decide)⟩
theorem has_hd {L : List Tok} {a : Nat} {t : Tok} {r : List Tok} (h : Has L a (t :: r)) : hd L a = some (t.kind, t.text) := h.1
theorem zV_eq {v : Val} (h : zV v = true) : v = zVal := by
 obtain ⟨a, b, c⟩ := v
 simp only [zV, Bool.and_eq_true, decide_eq_true_eq] at h
 simp only [zVal, Val.mk.injEq]
 exact ⟨h.1, h.2⟩
theorem shape_zero {kind op : Int} {not : Bool} {val : Val} {qual name : ByteArray} {nk ns : Int} (h : shapeB kind op not val qual name nk ns = true) :
 ((fmT kind).1 = false → op = 0) ∧ ((fmT kind).2.1 = false → not = false) ∧ ((fmT kind).2.2.1 = false → val = zVal) ∧ ((fmT kind).2.2.2.1 = false → qual = z0 ∧ name = z0) := by
 simp only [shapeB, Bool.and_eq_true] at h
 obtain ⟨_, h1, h2, h3, h4, _⟩ := h
 refine ⟨fun e => ?_, fun e => ?_, fun e => ?_, fun e => ?_⟩
 ·rw [e] at h1; simpa using h1
 ·rw [e] at h2; simpa using h2
 ·rw [e] at h3; exact zV_eq (by simpa using h3)
 ·rw [e] at h4; simpa [z0] using h4
theorem itoaB_num {n : Int} (h0 : 0 ≤ n) (h1 : n ≤ 9223372036854775807) : numOk (itoaB n) = true ∧ numV (itoaB n) = n := by
 obtain ⟨m, rfl⟩ := Int.eq_ofNat_of_zero_le h0
 have e : numN (itoaB m).data.toList = some m := numN_some.2 ⟨by omega, by show _ = (Lib.itoa m); rw [itoa_nat]⟩
 exact ⟨by rw [numOk, e]; rfl, by rw [numV, e]; rfl⟩
theorem itm_lit {v : Val} (h : litB v = true) (hr : v.num ≤ 9223372036854775807) : Itm (mLit v) [litT v] 9 := by
 simp only [litB, Bool.and_eq_true] at h
 obtain ⟨hv, hn, ht⟩ := h
 obtain ⟨kind, num, text⟩ := v
 simp only [decide_eq_true_eq, Bool.or_eq_true] at hn ht hr
 unfold valOk at hv
 simp only at hv
 have done : ∀ k x, litT ⟨kind, num, text⟩ = ⟨k, x, 0⟩ → (k = 1 → x ≠ kw 15) → k ≠ 5 → (∀ L a, hd L a = some (k, x) → primM L (pExpr L) (pQuery L) (P0 a) = some (mLit ⟨kind, num, text⟩, P0 (a + 1))) → Itm (mLit ⟨kind, num, text⟩) [litT ⟨kind, num, text⟩] 9 := fun k x e h15 h5 hp => by
  rw [e]
  refine mk_itm (Nat.le_refl 9) (fun L a hl _ => ?_) (fun L a _ hc => by unfold chn at hc; omega) fun L a hl => ⟨fun _ => ?_, fun _ => hd_ne hl.1 h5⟩
  ·rw [pE_9]; exact hp L a hl.1
  ·by_cases k1 : k = 1
   ·exact hd_nt hl.1 (h15 k1)
   ·exact hd_ne hl.1 k1
 by_cases k0 : kind = 0
 ·subst k0
  rw [if_pos rfl] at hv
  simp only [Bool.and_eq_true, decide_eq_true_eq] at hv
  obtain ⟨rfl, rfl⟩ := hv
  refine done 1 (kw 20) rfl (fun _ => by decide) (by decide) fun L a hh => ?_
  unfold primM
  simp only [isK_ne hh (by decide : (1 : Int) ≠ 3), isK_ne hh (by decide : (1 : Int) ≠ 4), key_yes hh, Bool.false_eq_true, if_false, if_true, adv_P]
  rfl
 rw [if_neg k0] at hv
 by_cases k1 : kind = 1
 ·subst k1
  rw [if_pos rfl] at hv
  simp only [decide_eq_true_eq] at hv
  subst hv
  have h0 : 0 ≤ num := hn.resolve_left (fun h => h rfl)
  obtain ⟨o1, o2⟩ := itoaB_num h0 hr
  refine done 3 (itoaB num) rfl (fun h => absurd h (by decide)) (by decide) fun L a hh => ?_
  have hk : isK L (P0 a) 3 = true := by rw [isK_at hh]; simp only [decide_true, Bool.true_and]; exact o1
  unfold primM
  simp only [hk, if_true, textAt_at hh, o2, adv_P]
  rfl
 rw [if_neg k1] at hv
 by_cases k2 : kind = 2
 ·subst k2
  rw [if_pos rfl] at hv
  simp only [Bool.and_eq_true, decide_eq_true_eq] at hv
  obtain ⟨rfl, _⟩ := hv
  refine done 4 text rfl (fun h => absurd h (by decide)) (by decide) fun L a hh => ?_
  have hk : isK L (P0 a) 4 = true := by rw [isK_at hh]; simp only [decide_true, Bool.true_and]; exact decide_eq_true ht
  unfold primM
  simp only [isK_ne hh (by decide : (4 : Int) ≠ 3), hk, if_true, if_false, Bool.false_eq_true, textAt_at hh, adv_P]
 rw [if_neg k2] at hv
 by_cases k3 : kind = 3
 ·subst k3
  rw [if_pos rfl] at hv
  simp only [Bool.and_eq_true, decide_eq_true_eq] at hv
  obtain ⟨h01, rfl⟩ := hv
  rcases (show num = 1 ∨ num = 0 by omega) with rfl | rfl
  ·refine done 1 (kw 21) rfl (fun _ => by decide) (by decide) fun L a hh => ?_
   unfold primM
   simp only [isK_ne hh (by decide : (1 : Int) ≠ 3), isK_ne hh (by decide : (1 : Int) ≠ 4), key_no (hd_nt hh (by decide : kw 21 ≠ kw 20)), key_yes hh, Bool.false_eq_true, if_false, if_true, adv_P]
   rfl
  ·refine done 1 (kw 22) rfl (fun _ => by decide) (by decide) fun L a hh => ?_
   unfold primM
   simp only [isK_ne hh (by decide : (1 : Int) ≠ 3), isK_ne hh (by decide : (1 : Int) ≠ 4), key_no (hd_nt hh (by decide : kw 22 ≠ kw 20)), key_no (hd_nt hh (by decide : kw 22 ≠ kw 21)), key_yes hh, Bool.false_eq_true, if_false, if_true, adv_P]
   rfl
 ·rw [if_neg k3] at hv; cases hv
theorem name_ok {x : ByteArray} (h : nameB x = true) : okTok ⟨2, x, 0⟩ = true := by
 unfold nameB at h
 exact h
theorem mText_at {L : List Tok} {a : Nat} {x : ByteArray} (h : hd L a = some (2, x)) (hx : nameB x = true) : mText L 2 (P0 a) = (x, P0 (a + 1)) := by
 have hk : isK L (P0 a) 2 = true := by rw [isK_at h, name_ok hx]; rfl
 unfold mText
 rw [if_pos hk, textAt_at h]
 rfl
theorem itm_col {q n : ByteArray} (hn : nameB n = true) (hq : mayB q = true) : Itm (mCol q n) (qualL q ++ [nT n]) 9 := by
 have hb : ∀ L a, Has L a (qualL q ++ [nT n]) → ∃ x, nameB x = true ∧ hd L a = some (2, x) ∧ ((q = z0 ∧ x = n ∧ (qualL q ++ [nT n]).length = 1) ∨ (x = q ∧ hd L (a + 1) = some (5, ⟨#[46]⟩) ∧ hd L (a + 1 + 1) = some (2, n) ∧ (qualL q ++ [nT n]).length = 3)) := fun L a hl => by
  unfold qualL at hl ⊢
  split at hl
  ·rename_i e
   rw [if_pos e]
   exact ⟨n, hn, hl.1, .inl ⟨e, rfl, rfl⟩⟩
  ·rename_i e
   rw [if_neg e]
   unfold mayB at hq
   simp only [Bool.or_eq_true, decide_eq_true_eq, e, false_or] at hq
   exact ⟨q, hq, hl.1, .inr ⟨rfl, hl.2.1, hl.2.2.1, rfl⟩⟩
 refine mk_itm (Nat.le_refl 9) (fun L a hl hs => ?_) (fun L a _ hc => by unfold chn at hc; omega) fun L a hl => ?_
 ·obtain ⟨x, hx, hh, hc⟩ := hb L a hl
  have hk : isK L (P0 a) 2 = true := by rw [isK_at hh, name_ok hx]; rfl
  rw [pE_9]
  unfold primM
  have n1 : (2 : Int) ≠ 1 := by decide
  rcases hc with ⟨rfl, rfl, hlen⟩ | ⟨rfl, h1, h2, hlen⟩
  ·rw [hlen] at hs ⊢
   simp only [isK_ne hh (by decide : (2 : Int) ≠ 3), isK_ne hh (by decide : (2 : Int) ≠ 4), key_no (hd_ne hh n1), hk, Bool.false_eq_true, if_false, if_true, adv_P, sg_no hs.1, textAt_at hh]
  ·rw [hlen]
   simp only [isK_ne hh (by decide : (2 : Int) ≠ 3), isK_ne hh (by decide : (2 : Int) ≠ 4), key_no (hd_ne hh n1), hk, Bool.false_eq_true, if_false, if_true, adv_P, sg_yes h1, textAt_at hh, mText_at h2 hn]
 ·obtain ⟨x, hx, hh, _⟩ := hb L a hl
  exact ⟨fun _ => hd_ne hh (by decide), fun _ => hd_ne hh (by decide)⟩
def Fs (l : List Tok) (n : Int) : Prop := ∀ L a, Has L a l → hd L a ≠ some (1, kw 1) ∧ hd L a ≠ some (5, ⟨#[42]⟩) ∧ (hd L (a + l.length) ≠ some (5, ⟨#[46]⟩) → starN L (P0 a) = false) ∧ (4 ≤ n → hd L a ≠ some (1, kw 15)) ∧ hd L a ≠ some (1, kw 2)
theorem Fs.mono {l : List Tok} {n m : Int} (h : Fs l n) (k : 4 ≤ m → 4 ≤ n) : Fs l m := fun L a hl => ⟨(h L a hl).1, (h L a hl).2.1, (h L a hl).2.2.1, fun e => (h L a hl).2.2.2.1 (k e), (h L a hl).2.2.2.2⟩
theorem starN_no {L : List Tok} {a : Nat} {k : Int} {x : ByteArray} (h : hd L a = some (k, x)) (hk : k ≠ 2) : starN L (P0 a) = false := by
 unfold starN; rw [isK_ne h hk]; rfl
theorem fs_cons {t : Tok} {r : List Tok} {n : Int} (h2 : t.kind ≠ 2) (h1 : t.kind = 1 → t.text ≠ kw 1 ∧ (4 ≤ n → t.text ≠ kw 15) ∧ t.text ≠ kw 2) (h5 : t.kind = 5 → t.text ≠ ⟨#[42]⟩) : Fs (t :: r) n := fun L a hl => by
 have hh := has_hd hl
 refine ⟨?_, ?_, fun _ => starN_no hh h2, fun h4 => ?_, ?_⟩
 ·by_cases e : t.kind = 1
  ·exact hd_nt hh (h1 e).1
  ·exact hd_ne hh e
 ·by_cases e : t.kind = 5
  ·exact hd_nt hh (h5 e)
  ·exact hd_ne hh e
 ·by_cases e : t.kind = 1
  ·exact hd_nt hh ((h1 e).2.1 h4)
  ·exact hd_ne hh e
 ·by_cases e : t.kind = 1
  ·exact hd_nt hh (h1 e).2.2
  ·exact hd_ne hh e
theorem fs_app {l r : List Tok} {t : Tok} {n : Int} (h : Fs l n) (ht : t.kind = 5 → t.text ≠ ⟨#[46]⟩) : Fs (l ++ t :: r) n := fun L a hl => by
 obtain ⟨h1, h2⟩ := has_app.1 hl
 obtain ⟨k1, k2, k3, k4⟩ := h L a h1
 refine ⟨k1, k2, fun _ => k3 ?_, k4⟩
 by_cases e : t.kind = 5
 ·exact hd_nt h2.1 (ht e)
 ·exact hd_ne h2.1 e
theorem fs_par (l : List Tok) (n : Int) : Fs (lpT :: l) n := fs_cons (by decide) (fun e => absurd e (by decide)) (fun _ => by decide)
theorem fs_lit {v : Val} (n : Int) : Fs [litT v] n := by
 unfold litT
 split
 ·exact fs_cons (by decide : (3 : Int) ≠ 2) (fun e => absurd e (by decide : (3 : Int) ≠ 1)) (fun e => absurd e (by decide : (3 : Int) ≠ 5))
 split
 ·exact fs_cons (by decide : (4 : Int) ≠ 2) (fun e => absurd e (by decide : (4 : Int) ≠ 1)) (fun e => absurd e (by decide : (4 : Int) ≠ 5))
 split
 ·split
  ·exact fs_cons (by decide) (fun _ => ⟨by decide, fun _ => by decide, by decide⟩) (fun e => absurd e (by decide : (1 : Int) ≠ 5))
  ·exact fs_cons (by decide) (fun _ => ⟨by decide, fun _ => by decide, by decide⟩) (fun e => absurd e (by decide : (1 : Int) ≠ 5))
 ·exact fs_cons (by decide) (fun _ => ⟨by decide, fun _ => by decide, by decide⟩) (fun e => absurd e (by decide : (1 : Int) ≠ 5))
theorem fs_col {q n : ByteArray} (m : Int) : Fs (qualL q ++ [nT n]) m := fun L a hl => by
 unfold qualL at hl ⊢
 split at hl
 ·rename_i e
  rw [if_pos e]
  have hh := has_hd hl
  refine ⟨hd_ne hh (by decide : (2 : Int) ≠ 1), hd_ne hh (by decide : (2 : Int) ≠ 5), fun hd' => ?_, fun _ => hd_ne hh (by decide : (2 : Int) ≠ 1), hd_ne hh (by decide : (2 : Int) ≠ 1)⟩
  unfold starN
  have : isT L (P0 a) 1 5 ⟨#[46]⟩ = false := by rw [isT_hd, decide_eq_false_iff_not]; exact hd'
  rw [this]; simp
 ·rename_i e
  rw [if_neg e]
  have hh := has_hd hl
  refine ⟨hd_ne hh (by decide : (2 : Int) ≠ 1), hd_ne hh (by decide : (2 : Int) ≠ 5), fun _ => ?_, fun _ => hd_ne hh (by decide : (2 : Int) ≠ 1), hd_ne hh (by decide : (2 : Int) ≠ 1)⟩
  unfold starN
  have h3 : hd L (a + 2) = some (2, n) := hl.2.2.1
  have : isT L (P0 a) 2 5 ⟨#[42]⟩ = false := by rw [isT_hd, decide_eq_false_iff_not]; exact hd_ne h3 (by decide)
  rw [this]; simp
theorem op_noop4 {L : List Tok} {a : Nat} {x : ByteArray} (h : hd L a = some (1, x)) : opAt L (P0 a) 4 = 0 := opIn_none fun op hop => by
 rw [op_at, decide_eq_false_iff_not]
 refine hd_ne h ?_
 have : op = 3 ∨ op = 4 ∨ op = 5 ∨ op = 6 ∨ op = 7 ∨ op = 8 := by simpa [opsL] using hop
 unfold okind
 rw [if_neg (by omega)]; decide
theorem opTk_at {L : List Tok} {a : Nat} {op : Int} {r : List Tok} (h0 : 1 ≤ op) (h1 : op ≤ 14) (h : Has L a (opTk op :: r)) : hd L a = some (okind op.toNat, opT op.toNat) := by
 have hh := has_hd h
 have e : ((op.toNat : Nat) : Int) = op := by omega
 rw [hh, opTk, okind, e]
 congr 2
 by_cases c : op = 1 ∨ op = 2
 ·rw [if_pos (by omega), if_pos (by omega)]
 ·rw [if_neg (by omega), if_neg (by omega)]
section
variable {full : Bool} {g : Expr → List Tok}
theorem bl_cases {op : Int} (h0 : 1 ≤ op) (h1 : op ≤ 14) : (bl op = 1 ∨ bl op = 2 ∨ bl op = 4 ∨ bl op = 5 ∨ bl op = 6 ∨ bl op = 7) := by unfold bl; (repeat' split) <;> omega
theorem itm_tail {k0 e : Expr} {l m : List Tok} {t : Tok} {r : List Tok} (hm : m = t :: r) (hk : Itm k0 l 5) (hf : Fs l 5) (ht : t.kind = 1) (h5 : ∀ h, h = some (t.kind, t.text) → St 5 h)
 (hp : ∀ L a, Has L a m → St 4 (hd L (a + m.length)) → cmpT L (pExpr L) (pQuery L) k0 (P0 a) = some (e, P0 (a + m.length))) : Itm e (l ++ m) 4 := by
 refine mk_itm (n := 4) (by omega) (fun L a hl hs => ?_) (fun L a _ hc => by unfold chn at hc; omega) fun L a hl => ⟨fun _ => (hf L a (has_app.1 hl).1).2.2.2.1 (by omega), fun h => by omega⟩
 obtain ⟨t1, t2⟩ := has_app.1 hl
 have hh : hd L (a + l.length) = some (t.kind, t.text) := by rw [hm] at t2; exact t2.1
 rw [List.length_append, ← Nat.add_assoc] at hs ⊢
 rw [pE_4]
 unfold cmpM
 rw [(hk L a t1 5 (by omega) (by omega)).1 (h5 _ hh)]
 have hn : opAt L (P0 (a + l.length)) 4 = 0 := by rw [ht] at hh; exact op_noop4 hh
 simp only [hn, if_true]
 exact hp L _ t2 hs
end
theorem has_len {L : List Tok} : ∀ {l : List Tok} {a : Nat}, Has L a l → l = [] ∨ a + l.length ≤ L.length
 | [], _, _ => .inl rfl
 | t :: r, a, h => by
  have hlt : a < L.length := by
   have := h.1
   unfold hd at this
   by_cases e : a < L.length
   ·exact e
   ·rw [List.getElem?_eq_none_iff.2 (by omega)] at this; cases this
  rw [List.length_cons]
  rcases has_len h.2 with h1 | h1
  ·subst h1; simp; omega
  ·exact .inr (by omega)
def El {α : Type} (f : List Tok → PM α) (Sx : Option (Int × ByteArray) → Prop) (x : α) (l : List Tok) : Prop := ∀ L a, Has L a l → (hd L (a + l.length) = some (5, ⟨#[44]⟩) ∨ Sx (hd L (a + l.length))) → f L (P0 a) = some (x, P0 (a + l.length))
theorem sep_read {α : Type} {f : List Tok → PM α} {Sx : Option (Int × ByteArray) → Prop} (hS : ∀ h, Sx h → h ≠ some (5, ⟨#[44]⟩)) : ∀ (rest : List (α × List Tok)) (n : Nat) (acc : List α) (L : List Tok) (a : Nat),
 (∀ p ∈ rest, El f Sx p.1 p.2) → rest.length < n → Has L a (rest.flatMap fun p => cmT :: p.2) → Sx (hd L (a + (rest.flatMap fun p => cmT :: p.2).length)) →
 sepM L (f L) n acc (P0 a) = some (acc ++ rest.map (·.1), P0 (a + (rest.flatMap fun p => cmT :: p.2).length))
 | [], n + 1, acc, L, a, _, _, _, hs => by
  rw [List.flatMap_nil, List.length_nil, Nat.add_zero] at hs ⊢
  rw [sepM, sg_no (hS _ hs), if_neg (by simp)]
  simp
 | p :: r, n + 1, acc, L, a, hr, hn, hl, hs => by
  rw [List.flatMap_cons, List.cons_append, Has] at hl
  obtain ⟨h1, h2⟩ := hl
  obtain ⟨h3, h4⟩ := has_app.1 h2
  rw [sepM, sg_yes h1, if_pos rfl, adv_P]
  have len : a + ((p :: r).flatMap fun p => cmT :: p.2).length = a + 1 + p.2.length + (r.flatMap fun p => cmT :: p.2).length := by rw [List.flatMap_cons, List.length_append, List.length_cons]; omega
  rw [len] at hs ⊢
  have hst : hd L (a + 1 + p.2.length) = some (5, ⟨#[44]⟩) ∨ Sx (hd L (a + 1 + p.2.length)) := by
   cases r with
   | nil => exact .inr hs
   | cons q r' =>
    rw [List.flatMap_cons, List.cons_append, Has] at h4
    exact .inl h4.1
  rw [hr p (by simp) L (a + 1) h3 hst]
  simp only
  rw [sep_read hS r n (acc ++ [p.1]) L _ (fun q hq => hr q (by simp [hq])) (by simpa using hn) h4 hs]
  simp
section
variable {full : Bool} {g : Expr → List Tok}
theorem st1_cm : St 1 (some (5, ⟨#[44]⟩)) := st_sg 44 (.inr rfl) 1
theorem el_itm {e : Expr} {l : List Tok} {n : Nat} {Sx : Option (Int × ByteArray) → Prop} (h : Itm e l n) (h1 : 1 ≤ n) (hS : ∀ h, Sx h → St 1 h) : El (fun L => pExpr L 1) Sx e l := fun L a hl hs => (h L a hl 1 (Nat.le_refl 1) h1).1 (by
 rcases hs with hs | hs
 ·rw [hs]; exact st1_cm
 ·exact hS _ hs)
theorem tkIf_not {L : List Tok} {a : Nat} (n : Bool) {m : List Tok} {t : Tok} (h : Has L a (notL n ++ t :: m)) (ht : t.text ≠ kw 15) : isKey L (P0 a) 15 = n ∧ tkIf (isKey L (P0 a) 15) (P0 a) = P0 (a + (notL n).length) ∧ hd L (a + (notL n).length) = some (t.kind, t.text) ∧ Has L (a + (notL n).length + 1) m := by
 obtain ⟨h1, h2⟩ := has_app.1 h
 cases n with
 | true =>
  have hh : hd L a = some (1, kw 15) := h1.1
  refine ⟨key_yes hh, ?_, h2.1, h2.2⟩
  rw [key_yes hh]; rfl
 | false =>
  have hk : isKey L (P0 a) 15 = false := key_no (hd_nt (k := t.kind) (x := t.text) h2.1 ht)
  refine ⟨hk, ?_, h2.1, h2.2⟩
  rw [hk]; rfl
theorem itm_in_of {k0 e : Expr} {l m : List Tok} {not : Bool} (hk : Itm k0 l 5) (hf : Fs l 5)
 (hp : ∀ L a, Has L a (lpT :: (m ++ [rpT])) → inM L (pExpr L) (pQuery L) k0 not (P0 a) = some (e, P0 (a + 1 + m.length + 1))) : Itm e (l ++ (notL not ++ (kT 17 :: lpT :: (m ++ [rpT])))) 4 := by
 have body : ∀ L a, Has L a (notL not ++ (kT 17 :: lpT :: (m ++ [rpT]))) → St 4 (hd L (a + (notL not ++ (kT 17 :: lpT :: (m ++ [rpT]))).length)) → cmpT L (pExpr L) (pQuery L) k0 (P0 a) = some (e, P0 (a + (notL not ++ (kT 17 :: lpT :: (m ++ [rpT]))).length)) := fun L a hl hs => by
  obtain ⟨n1, n2, n3, n4⟩ := tkIf_not not hl (by decide)
  have no16 : isKey L (P0 a) 16 = false := by
   cases not with
   | true => exact key_no (hd_nt (k := 1) (x := kw 15) hl.1 (by decide))
   | false => exact key_no (hd_nt (k := 1) (x := kw 17) hl.1 (by decide))
  have len : a + (notL not ++ (kT 17 :: lpT :: (m ++ [rpT]))).length = a + (notL not).length + 1 + 1 + m.length + 1 := by
   simp only [List.length_cons, List.length_append, List.length_nil]; omega
  rw [len]
  unfold cmpT
  simp only [no16, Bool.false_eq_true, if_false]
  rw [n2, n1, if_neg (by rw [key_no (hd_nt n3 (by decide))]; simp), if_pos (key_yes n3), adv_P]
  exact hp L _ n4
 cases not with
 | true => exact itm_tail rfl hk hf rfl (fun h e => by rw [e]; exact st_key5 15 (by omega)) body
 | false => exact itm_tail rfl hk hf rfl (fun h e => by rw [e]; exact st_key5 17 (by omega)) body
end
theorem foldE_fx {α : Type} [Inhabited α] {F : (Expr → α) → Expr → α} (hF : ∀ e g g', (∀ x, below x e → g x = g' x) → F g e = F g' e) (e : Expr) : foldE F e = F (foldE F) e := by
 rw [foldE]
 refine hF e _ _ fun x hx => ?_
 have := below_lt hx
 simp only [dif_pos this]
def zT (t : Tok) : Tok := ⟨t.kind, t.text, 0⟩
abbrev zL (l : List Tok) : List Tok := l.map zT
def sameT (t u : Tok) : Bool := decide (t.kind = u.kind) && decide (t.text = u.text)
def atQ (l : List Tok) (i : Nat) (u : Tok) : Bool := match l[i]? with
 | some t => sameT t u
 | none => false
abbrev DF := List Tok → Int → Bool
section
variable (g : Expr → DF)
def kidD (kind op : Int) (kids : List Expr) (k : Nat) (l : List Tok) : Bool := match kids[k]? with
 | some x => g x l (nd kind op k)
 | none => false
def primD (kind : Int) (val : Val) (qual name : ByteArray) (l : List Tok) : Bool :=
 if kind = 1 then decide (l.length = 1) && atQ l 0 (litT val)
 else if qual = ⟨#[]⟩ then decide (l.length = 1) && atQ l 0 (nT name)
 else decide (l.length = 3) && (atQ l 0 (nT qual) && (atQ l 1 dtT && atQ l 2 (nT name)))
def tailD (not : Bool) (l : List Tok) (i word : Nat) : Option Nat :=
 if not = true then (if (atQ l i (kT 15) && atQ l (i + 1) (kT word)) = true then some (i + 2) else none)
 else if atQ l i (kT word) = true then some (i + 1) else none
def twoD (kind op : Int) (kids : List Expr) (l : List Tok) : Bool := (List.range l.length).any fun i => decide (1 ≤ i) && (atQ l i (kT 13) && (kidD g kind op kids 1 (l.take i) && kidD g kind op kids 2 (l.drop (i + 1))))
def amongD (kind op : Int) (kids : List Expr) : Nat → Nat → List Tok → Bool
 | 0, k, l => kidD g kind op kids k l
 | m + 1, k, l => (List.range l.length).any fun i => atQ l i cmT && (kidD g kind op kids k (l.take i) && amongD kind op kids m (k + 1) (l.drop (i + 1)))
def splitAt (kind op : Int) (not : Bool) (kids : List Expr) (l : List Tok) (i : Nat) : Bool :=
 if kind = 4 then atQ l i (opTk op) && (kidD g kind op kids 0 (l.take i) && kidD g kind op kids 1 (l.drop (i + 1)))
 else if kind = 5 then atQ l i (kT 16) && (decide ((if not = true then i + 2 else i + 1) + 1 = l.length) && (atQ l (l.length - 1) (kT 20) && ((!not || atQ l (i + 1) (kT 15)) && kidD g kind op kids 0 (l.take i))))
 else if kind = 6 then (match tailD not l i 18 with
  | some j => kidD g kind op kids 0 (l.take i) && twoD g kind op kids (l.drop j)
  | none => false)
 else if kind = 7 then (match tailD not l i 17 with
  | some j => decide (j + 1 < l.length) && (atQ l j lpT && (atQ l (l.length - 1) rpT && (kidD g kind op kids 0 (l.take i) && amongD g kind op kids (kids.length - 2) 1 ((l.drop (j + 1)).take (l.length - 1 - (j + 1))))))
  | none => false)
 else false
def splitD (kind op : Int) (not : Bool) (kids : List Expr) (l : List Tok) : Bool := (List.range l.length).any fun i => decide (1 ≤ i) && splitAt g kind op not kids l i
def coreD : Expr → List Tok → Bool
 | .mk kind op not val qual name kids _, l =>
  if kind = 1 ∨ kind = 2 then primD kind val qual name l
  else if kind = 3 then atQ l 0 (opTk op) && kidD g kind op kids 0 (l.drop 1)
  else splitD g kind op not kids l
def derN (e : Expr) : Nat → DF
 | 0, l, v => decide (v ≤ lvE e) && coreD g e l
 | n + 1, l, v => (decide (2 ≤ l.length) && (atQ l 0 lpT && (atQ l (l.length - 1) rpT && derN e n ((l.drop 1).take (l.length - 2)) 1))) || (decide (v ≤ lvE e) && coreD g e l)
def derF (e : Expr) : DF := fun l v => derN g e l.length l v
end
noncomputable def derE : Expr → DF := foldE derF
def plF (g : Expr → Bool) : Expr → Bool | .mk _ _ _ _ _ _ kids sub => kids.all g && sub.isEmpty
noncomputable def plE : Expr → Bool := foldE plF
section
variable {g : Expr → DF}
theorem derN_more {e : Expr} : ∀ (n m : Nat) (l : List Tok) (v : Int), l.length ≤ n → l.length ≤ m → derN g e n l v = derN g e m l v
 | 0, 0, _, _, _, _ => rfl
 | 0, m + 1, l, v, h, _ => by
  rw [derN, derN, decide_eq_false (show ¬ 2 ≤ l.length by omega)]; rfl
 | n + 1, 0, l, v, _, h => by
  rw [derN, derN, decide_eq_false (show ¬ 2 ≤ l.length by omega)]; rfl
 | n + 1, m + 1, l, v, h, k => by
  rw [derN, derN]
  by_cases h2 : 2 ≤ l.length
  ·rw [derN_more n m _ _ (by rw [List.length_take, List.length_drop]; omega) (by rw [List.length_take, List.length_drop]; omega)]
  ·rw [decide_eq_false h2]; rfl
theorem derF_eq (e : Expr) (l : List Tok) (v : Int) : derF g e l v = ((decide (2 ≤ l.length) && (atQ l 0 lpT && (atQ l (l.length - 1) rpT && derF g e ((l.drop 1).take (l.length - 2)) 1))) || (decide (v ≤ lvE e) && coreD g e l)) := by
 by_cases h2 : 2 ≤ l.length
 ·unfold derF
  obtain ⟨n, hn⟩ : ∃ n, l.length = n + 1 := ⟨l.length - 1, by omega⟩
  rw [show derN g e l.length l v = derN g e (n + 1) l v by rw [hn], derN]
  rw [derN_more n _ ((l.drop 1).take (l.length - 2)) 1 (by rw [List.length_take, List.length_drop]; omega) (Nat.le_refl _)]
 ·unfold derF
  rw [decide_eq_false h2]
  cases hl : l.length with
  | zero => rfl
  | succ n =>
   rw [derN, decide_eq_false h2]; rfl
theorem derN_low {e : Expr} {v v' : Int} (hv : v ≤ v') : ∀ (n : Nat) (l : List Tok), derN g e n l v' = true → derN g e n l v = true
 | 0, l, h => by
  rw [derN] at h ⊢
  simp only [Bool.and_eq_true, decide_eq_true_eq] at h ⊢
  exact ⟨by omega, h.2⟩
 | n + 1, l, h => by
  rw [derN] at h ⊢
  simp only [Bool.or_eq_true, Bool.and_eq_true, decide_eq_true_eq] at h ⊢
  rcases h with h | h
  ·exact .inl h
  ·exact .inr ⟨by omega, h.2⟩
end
theorem kidD_congr {g g' : Expr → DF} {e : Expr} (h : ∀ x, below x e → g x = g' x) {kind op : Int} {kids : List Expr} (hk : ∀ x ∈ kids, below x e) (k : Nat) : kidD g kind op kids k = kidD g' kind op kids k := by
 funext l
 unfold kidD
 cases hx : kids[k]? with
 | none => rfl
 | some x => simp only [h x (hk x (List.mem_of_getElem? hx))]
theorem amongD_congr {g g' : Expr → DF} {e : Expr} (h : ∀ x, below x e → g x = g' x) {kind op : Int} {kids : List Expr} (hk : ∀ x ∈ kids, below x e) : ∀ (m k : Nat), amongD g kind op kids m k = amongD g' kind op kids m k
 | 0, k => by funext l; rw [amongD, amongD, kidD_congr h hk k]
 | m + 1, k => by funext l; rw [amongD, amongD, kidD_congr h hk k, amongD_congr h hk m (k + 1)]
theorem coreD_congr {g g' : Expr → DF} {e : Expr} (h : ∀ x, below x e → g x = g' x) : coreD g e = coreD g' e := by
 obtain ⟨kind, op, not, val, qual, name, kids, sub⟩ := e
 have hk : ∀ x ∈ kids, below x (Expr.mk kind op not val qual name kids sub) := fun x hx => .inl hx
 have K := fun k => kidD_congr (kind := kind) (op := op) h hk k
 have A := fun m k => amongD_congr (kind := kind) (op := op) h hk m k
 funext l
 simp only [coreD, splitD, splitAt, twoD, K, A]
theorem derF_congr (e : Expr) (g g' : Expr → DF) (h : ∀ x, below x e → g x = g' x) : derF g e = derF g' e := by
 have hc := coreD_congr h
 have : ∀ n, derN g e n = derN g' e n := fun n => by
  induction n with
  | zero => funext l v; rw [derN, derN, hc]
  | succ n ih => funext l v; rw [derN, derN, hc, ih]
 funext l v
 unfold derF
 rw [this]
theorem derE_eq (e : Expr) : derE e = derF derE e := foldE_fx derF_congr e
def SameK (L l : List Tok) : Prop := L.map (fun t => (t.kind, t.text)) = l.map fun t => (t.kind, t.text)
theorem SameK.len {L l : List Tok} (h : SameK L l) : L.length = l.length := by have := congrArg List.length h; simpa using this
theorem SameK.has {L l : List Tok} (h : SameK L l) : Has L 0 l := by
 have key : ∀ (l : List Tok) (a : Nat), (L.map fun t => (t.kind, t.text)).drop a = l.map (fun t => (t.kind, t.text)) → Has L a l := by
  intro l
  induction l with
  | nil => intro _ _; trivial
  | cons t r ih =>
   intro a h
   have h1 : (L.map fun t => (t.kind, t.text))[a]? = some (t.kind, t.text) := by
    have := congrArg (fun x => x[0]?) h
    simpa [List.getElem?_drop] using this
   refine ⟨?_, ih (a + 1) ?_⟩
   ·unfold hd; rw [← List.getElem?_map]; exact h1
   ·have := congrArg List.tail h
    rw [List.tail_drop] at this
    simpa using this
 exact key l 0 (by rw [List.drop_zero]; exact h)
theorem SameK.end_ {L l : List Tok} (h : SameK L l) : hd L (0 + l.length) = none := by
 unfold hd
 rw [List.getElem?_eq_none_iff.2 (by have := h.len; omega)]; rfl
theorem endM_end {L : List Tok} {a : Nat} (h : L.length = a) : endM L (P0 a) = -1 := by unfold endM; rw [if_pos ⟨rfl, by show L.length ≤ a; omega⟩]
theorem take_end {α : Type} {L : List Tok} {z x : α} {a : Nat} (h : L.length = a) : takeM L z (some (x, P0 a)) = (x, -1) := by
 unfold takeM
 simp only [endM_end h]
 rw [if_neg (by omega)]
section
variable {l : List Tok}
theorem atQ_get {i : Nat} {u : Tok} (h : atQ l i u = true) : ∃ hi : i < l.length, zT l[i] = zT u := by
 unfold atQ at h
 cases hl : l[i]? with
 | none => rw [hl] at h; cases h
 | some t =>
  rw [hl] at h
  obtain ⟨hi, rfl⟩ := List.getElem?_eq_some_iff.1 hl
  refine ⟨hi, ?_⟩
  simp only [sameT, Bool.and_eq_true, decide_eq_true_eq] at h
  unfold zT
  rw [h.1, h.2]
theorem zdrop {i : Nat} {u : Tok} (h : atQ l i u = true) : zL (l.drop i) = zT u :: zL (l.drop (i + 1)) := by
 obtain ⟨hi, h⟩ := atQ_get h
 rw [List.drop_eq_getElem_cons hi]
 show zT l[i] :: zL _ = _
 rw [h]
theorem zcut {i : Nat} {u : Tok} (h : atQ l i u = true) : zL l = zL (l.take i) ++ zT u :: zL (l.drop (i + 1)) := by
 rw [← zdrop h, ← List.map_append, List.take_append_drop]
theorem zlast {i : Nat} {u : Tok} (h : atQ l i u = true) (hi : i + 1 = l.length) : zL (l.drop i) = [zT u] := by
 rw [zdrop h, List.drop_of_length_le (by omega)]; rfl
theorem zmid {i : Nat} {u v : Tok} (h : atQ l i u = true) (hi : i + 1 < l.length) (hv : atQ l (l.length - 1) v = true) : zL (l.drop i) = zT u :: (zL ((l.drop (i + 1)).take (l.length - 1 - (i + 1))) ++ [zT v]) := by
 rw [zdrop h, ← zlast hv (by omega)]
 rw [← List.map_append]
 congr 2
 have e := List.take_append_drop (l.length - 1 - (i + 1)) (l.drop (i + 1))
 rw [List.drop_drop, show i + 1 + (l.length - 1 - (i + 1)) = l.length - 1 by omega] at e
 exact e.symm
end
def RdD (e : Expr) (l : List Tok) (n : Int) : Prop := Itm e l n.toNat ∧ Fs l n
def XD (e : Expr) (f : DF) : Prop := ∀ l v, 1 ≤ v → v ≤ 9 → f l v = true → RdD e (zL l) v
theorem RdD.mono {e : Expr} {l : List Tok} {n m : Int} (h : RdD e l n) (k : m ≤ n) : RdD e l m := ⟨h.1.mono (by omega), h.2.mono fun _ => by omega⟩
theorem rd_bin {x y : Expr} {op : Int} {lx ly : List Tok} (h0 : 1 ≤ op) (h1 : op ≤ 14) (hx : RdD x lx (nd 4 op 0)) (hy : RdD y ly (nd 4 op 1)) : RdD (mBin op.toNat x y) (lx ++ opTk op :: ly) (lv 4 op) := by
 have hbl := bl_cases h0 h1
 have e4 : lv 4 op = bl op := by unfold lv; rw [if_pos rfl]
 have eop : ((op.toNat : Nat) : Int) = op := by omega
 have tk : ∀ L a, Has L a (lx ++ opTk op :: ly) → Has L a lx ∧ hd L (a + lx.length) = some (okind op.toNat, opT op.toNat) ∧ Has L (a + lx.length + 1) ly := fun L a hl => by
  obtain ⟨a1, a2⟩ := has_app.1 hl
  exact ⟨a1, opTk_at h0 h1 a2, a2.2⟩
 have len : ∀ a, a + (lx ++ opTk op :: ly).length = a + lx.length + 1 + ly.length := fun a => by rw [List.length_append, List.length_cons]; omega
 have n0 : nd 4 op 0 = if bl op = 4 then 5 else bl op := by
  unfold nd; rw [e4, if_neg (by omega), if_pos rfl]; simp
 have n1 : nd 4 op 1 = if bl op = 4 then 5 else bl op + 1 := by
  unfold nd; rw [e4, if_neg (by omega), if_pos rfl]; simp
 have hot : opT op ≠ ⟨#[46]⟩ := by
  have : ∀ i : Fin 15, opT i.1 ≠ ⟨#[46]⟩ := by decide
  have := this ⟨op.toNat, by omega⟩
  rwa [show ((op.toNat : Nat) : Int) = op by omega] at this
 rw [n0] at hx
 rw [n1] at hy
 obtain ⟨kx, hf⟩ := hx
 obtain ⟨ky, _⟩ := hy
 rw [e4]
 refine ⟨?_, fs_app (hf.mono fun h => by split <;> omega) fun _ => hot⟩
 by_cases b4 : bl op = 4
 ·rw [if_pos b4] at kx ky hf
  rw [b4]
  refine mk_itm (n := 4) (by omega) (fun L a hl hs => ?_) (fun L a _ hc => by unfold chn at hc; omega) fun L a hl => ⟨fun _ => (hf L a (tk L a hl).1).2.2.2.1 (by omega), fun h => by omega⟩
  obtain ⟨t1, t2, t3⟩ := tk L a hl
  rw [len] at hs ⊢
  have s0 : St 5 (hd L (a + lx.length)) := by rw [t2]; exact st_op op.toNat (by omega) (by omega) 5 (by rw [eop]; omega) (fun _ => by omega) (fun _ => by omega)
  rw [pE_4]
  unfold cmpM
  rw [(kx L a t1 5 (by omega) (by decide)).1 s0]
  have ho := opAt_hit (L := L) (op := op.toNat) (by omega) (by omega) t2
  rw [eop, b4] at ho
  have ho : opAt L (P0 (a + lx.length)) 4 = op.toNat := ho
  simp only [ho]
  rw [if_neg (by omega), adv_P, (ky L _ t3 5 (by omega) (by decide)).1 (hs.mono (by omega))]
 ·rw [if_neg b4] at kx ky hf
  obtain ⟨l, hl⟩ : ∃ l : Nat, bl op = l := ⟨(bl op).toNat, by omega⟩
  have hc : chn l := by unfold chn; omega
  have el : (bl op).toNat = l := by omega
  have el1 : (bl op + 1).toNat = l + 1 := by omega
  rw [el] at kx ⊢
  rw [el1] at ky
  have B : ∀ L a, Has L a (lx ++ opTk op :: ly) → ItB L (mBin op.toNat x y) (lx ++ opTk op :: ly) l a := fun L a hl' hs => by
   obtain ⟨t1, t2, t3⟩ := tk L a hl'
   rw [len] at hs ⊢
   have s0 : St (l + 1) (hd L (a + lx.length)) := by rw [t2]; exact st_op op.toNat (by omega) (by omega) (l + 1) (by rw [eop]; omega) (fun _ => by rw [eop] at *; omega) (fun _ => by omega)
   rw [(kx L a t1 l (by omega) (Nat.le_refl l)).2 hc s0, chainM]
   have ho := opAt_hit (L := L) (op := op.toNat) (by omega) (by omega) t2
   rw [eop, el] at ho
   rw [ho, if_neg (by omega), adv_P, (ky L _ t3 (l + 1) (by omega) (Nat.le_refl _)).1 hs]
   have hlt : a + lx.length < L.length := by
    unfold hd at t2
    by_cases e : a + lx.length < L.length
    ·exact e
    ·rw [List.getElem?_eq_none_iff.2 (by omega)] at t2; cases t2
   exact chain_any (by omega) (by omega) (by show L.length - (a + lx.length + 1 + ly.length) < L.length; omega) (by omega)
  refine mk_itm (n := l) (by omega) (fun L a hl' hs => ?_) (fun L a hl' _ => B L a hl') fun L a hl' => ⟨fun _ => (hf L a (tk L a hl').1).2.2.2.1 (by omega), fun h => by omega⟩
  rw [B L a hl' (hs.mono (by omega)), chain_stop (hs.noop (Nat.le_refl l) (by omega))]
theorem rd_un {k : Expr} {op : Int} {l : List Tok} (ho : op = 15 ∨ op = 16) (hk : RdD k l (nd 3 op 0)) : RdD (mUn op k) (opTk op :: l) (lv 3 op) := by
 rcases ho with rfl | rfl
 ·have hk : Itm k l 3 := hk.1
  refine ⟨mk_itm (n := 3) (by omega) (fun L a hl hs => ?_) (fun L a _ hc => by unfold chn at hc; omega) fun L a _ => ⟨fun h => by omega, fun h => by omega⟩, fs_cons (by decide) (fun _ => ⟨by decide, fun h => absurd h (by show ¬ (4 : Int) ≤ 3; decide), by decide⟩) (fun h => absurd h (by decide))⟩
  have hh : hd L a = some (1, kw 15) := hl.1
  rw [pE_3, key_yes hh, if_pos rfl, adv_P]
  have e : a + (opTk 15 :: l).length = a + 1 + l.length := by rw [List.length_cons]; omega
  rw [e] at hs ⊢
  rw [(hk L (a + 1) hl.2 3 (by omega) (by omega)).1 hs]
 ·have hk : Itm k l 8 := hk.1
  refine ⟨mk_itm (n := 8) (by omega) (fun L a hl hs => ?_) (fun L a _ hc => by unfold chn at hc; omega) fun L a hl => ⟨fun _ => hd_ne (has_hd hl) (by decide), fun h => by omega⟩, fs_cons (by decide) (fun h => absurd h (by decide)) (fun _ => by decide)⟩
  have hh : hd L a = some (5, ⟨#[45]⟩) := hl.1
  rw [pE_8, sg_yes hh, if_pos rfl, adv_P]
  have e : a + (opTk 16 :: l).length = a + 1 + l.length := by rw [List.length_cons]; omega
  rw [e] at hs ⊢
  rw [(hk L (a + 1) hl.2 8 (by omega) (by omega)).1 hs]
theorem rd_is {k : Expr} {not : Bool} {l : List Tok} (h : RdD k l 5) : RdD (mKids 5 not [k] []) (l ++ kT 16 :: (notL not ++ [kT 20])) 4 := by
 refine ⟨itm_tail rfl h.1 h.2 rfl (fun h e => by rw [e]; exact st_key5 16 (by omega)) fun L a hl _ => ?_, fs_app (h.2.mono fun _ => by decide) (fun h => absurd h (by decide))⟩
 obtain ⟨h1, h2⟩ := hl
 have h1 : hd L a = some (1, kw 16) := h1
 obtain ⟨n1, n2, n3, _⟩ := tkIf_not not h2 (by decide)
 have n3 : hd L (a + 1 + (notL not).length) = some (1, kw 20) := n3
 unfold cmpT
 simp only [key_yes h1, if_true, adv_P]
 rw [n2, n1]
 unfold must
 rw [if_pos (key_yes n3)]
 simp only [List.length_cons, List.length_append, List.length_nil, adv_P]
 congr 3; omega
theorem rd_btw {x y z : Expr} {not : Bool} {lx ly lz : List Tok} (hx : RdD x lx 5) (hy : RdD y ly 5) (hz : RdD z lz 5) : RdD (mKids 6 not [x, y, z] []) (lx ++ (notL not ++ (kT 18 :: (ly ++ (kT 13 :: lz))))) 4 := by
 have body : ∀ L a, Has L a (notL not ++ (kT 18 :: (ly ++ (kT 13 :: lz)))) → St 4 (hd L (a + (notL not ++ (kT 18 :: (ly ++ (kT 13 :: lz)))).length)) →
  cmpT L (pExpr L) (pQuery L) x (P0 a) = some (mKids 6 not [x, y, z] [], P0 (a + (notL not ++ (kT 18 :: (ly ++ (kT 13 :: lz)))).length)) := fun L a hl hs => by
  obtain ⟨n1, n2, n3, n4⟩ := tkIf_not not hl (by decide)
  obtain ⟨t1, t2⟩ := has_app.1 n4
  have no16 : isKey L (P0 a) 16 = false := by
   cases not with
   | true => exact key_no (hd_nt (k := 1) (x := kw 15) hl.1 (by decide))
   | false => exact key_no (hd_nt (k := 1) (x := kw 18) hl.1 (by decide))
  have len : a + (notL not ++ (kT 18 :: (ly ++ (kT 13 :: lz)))).length = a + (notL not).length + 1 + ly.length + 1 + lz.length := by
   simp only [List.length_cons, List.length_append]; omega
  rw [len] at hs ⊢
  have h13 : hd L (a + (notL not).length + 1 + ly.length) = some (1, kw 13) := t2.1
  unfold cmpT
  simp only [no16, Bool.false_eq_true, if_false]
  rw [n2, n1, if_pos (key_yes n3), adv_P, (hy.1 L _ t1 5 (by omega) (by decide)).1 (by rw [h13]; exact st_key5 13 (by omega))]
  simp only
  unfold must
  rw [if_pos (key_yes h13), adv_P, (hz.1 L _ t2.2 5 (by omega) (by decide)).1 (hs.mono (by omega))]
 cases not with
 | true => exact ⟨itm_tail rfl hx.1 hx.2 rfl (fun h e => by rw [e]; exact st_key5 15 (by omega)) body, fs_app (t := kT 15) (hx.2.mono fun _ => by decide) (fun h => absurd h (by decide))⟩
 | false => exact ⟨itm_tail rfl hx.1 hx.2 rfl (fun h e => by rw [e]; exact st_key5 18 (by omega)) body, fs_app (t := kT 18) (hx.2.mono fun _ => by decide) (fun h => absurd h (by decide))⟩
theorem rd_in {kids : List Expr} {not : Bool} {lx h0 : List Tok} {rest : List (Expr × List Tok)} {x y : Expr} (hx : RdD x lx 5) (hy : RdD y h0 1) (hr : ∀ p ∈ rest, RdD p.1 p.2 1) (hk : kids = x :: y :: rest.map (·.1)) :
 RdD (mKids 7 not kids []) (lx ++ (notL not ++ (kT 17 :: lpT :: ((h0 ++ rest.flatMap fun p => cmT :: p.2) ++ [rpT])))) 4 := by
 refine ⟨itm_in_of hx.1 hx.2 fun L a hl => ?_, ?_⟩
 ·obtain ⟨t1, t2⟩ := hl
  obtain ⟨t3, t4⟩ := has_app.1 t2
  obtain ⟨t5, t6⟩ := has_app.1 t3
  have hrp : hd L (a + 1 + (h0 ++ rest.flatMap fun p => cmT :: p.2).length) = some (5, ⟨#[41]⟩) := t4.1
  unfold inM
  have hsel : isKey L (P0 (a + 1)) 1 = false := key_no (hy.2 L (a + 1) t5).1
  simp only [must, sg_yes t1, if_true, adv_P, hsel, Bool.false_eq_true, if_false]
  have st0 : St 1 (hd L (a + 1 + h0.length)) := by
   cases rest with
   | nil => rw [List.flatMap_nil, List.append_nil] at hrp; rw [hrp]; exact st_sg 41 (.inl rfl) 1
   | cons p r => rw [List.flatMap_cons, List.cons_append, Has] at t6; rw [t6.1]; exact st1_cm
  have hor : orsM L (pExpr L) (P0 (a + 1)) = some (y :: rest.map (·.1), P0 (a + 1 + (h0 ++ rest.flatMap fun p => cmT :: p.2).length)) := by
   unfold orsM
   rw [(hy.1 L (a + 1) t5 1 (by omega) (by decide)).1 st0]
   simp only
   have hlen : rest.length < L.length + 1 := by
    have h4 : ∀ r : List (Expr × List Tok), r.length ≤ (r.flatMap fun p => cmT :: p.2).length := fun r => by
     induction r with
     | nil => simp
     | cons p r ih => rw [List.flatMap_cons, List.length_append, List.length_cons, List.length_cons]; omega
    have h5 := h4 rest
    rcases has_len t6 with h6 | h6
    ·rw [h6] at h5; simp at h5; simp [h5]
    ·omega
   have := sep_read (f := fun L => pExpr L 1) (Sx := fun h => h = some (5, ⟨#[41]⟩)) (fun h e => by rw [e]; decide) rest (L.length + 1) [y] L _ (fun p hp => el_itm (hr p hp).1 (by decide) (fun h e => by rw [e]; exact st_sg 41 (.inl rfl) 1)) hlen t6 (by rw [List.length_append, ← Nat.add_assoc] at hrp; exact hrp)
   rw [this, List.length_append, ← Nat.add_assoc]
   rfl
  rw [hor]
  simp only [sg_yes hrp, if_true, adv_P]
  rw [hk]
 ·have hF := hx.2.mono (m := 4) fun _ => by decide
  cases not with
  | true => exact fs_app (t := kT 15) hF (fun h => absurd h (by decide))
  | false => exact fs_app (t := kT 17) hF (fun h => absurd h (by decide))
section
variable {g : Expr → DF}
theorem tail_z {not : Bool} {l : List Tok} {i j word : Nat} (h : tailD not l i word = some j) : zL (l.drop i) = notL not ++ kT word :: zL (l.drop j) := by
 unfold tailD at h
 cases not with
 | true =>
  rw [if_pos rfl] at h
  split at h
  ·rename_i hc
   rw [Bool.and_eq_true] at hc
   injection h with h; subst h
   rw [zdrop hc.1, zdrop hc.2]; rfl
  ·cases h
 | false =>
  rw [if_neg (by simp)] at h
  split at h
  ·rename_i hc
   injection h with h; subst h
   rw [zdrop hc]; rfl
  ·cases h
theorem kid_rd {kind op : Int} {kids : List Expr} (hg : ∀ x ∈ kids, XD x (g x)) {k : Nat} {l : List Tok} (h : kidD g kind op kids k l = true) {n : Int} (hn : nd kind op k = n) (h1 : 1 ≤ n) (h9 : n ≤ 9) : ∃ x, kids[k]? = some x ∧ RdD x (zL l) n := by
 unfold kidD at h
 cases hx : kids[k]? with
 | none => rw [hx] at h; cases h
 | some x =>
  rw [hx] at h
  subst hn
  exact ⟨x, rfl, hg x (List.mem_of_getElem? hx) l _ h1 h9 h⟩
theorem drop_cons' {kids : List Expr} {k : Nat} {x : Expr} (h : kids[k]? = some x) : kids.drop k = x :: kids.drop (k + 1) := by
 obtain ⟨hlt, rfl⟩ := List.getElem?_eq_some_iff.1 h
 exact List.drop_eq_getElem_cons hlt
theorem among_rd {kids : List Expr} (hg : ∀ x ∈ kids, XD x (g x)) : ∀ (m k : Nat) (l : List Tok), 1 ≤ k → k + m + 1 = kids.length → amongD g 7 0 kids m k l = true →
 ∃ y h0, ∃ rest : List (Expr × List Tok), zL l = h0 ++ (rest.flatMap fun p => cmT :: p.2) ∧ RdD y h0 1 ∧ (∀ p ∈ rest, RdD p.1 p.2 1) ∧ kids.drop k = y :: rest.map (·.1)
 | 0, k, l, h1, hl, h => by
  rw [amongD] at h
  have hn : nd 7 0 k = 1 := by unfold nd; rw [if_neg (by decide), if_neg (by decide), if_neg (by decide), if_pos ⟨rfl, by omega⟩]
  obtain ⟨x, hx, hr⟩ := kid_rd hg h hn (by omega) (by omega)
  refine ⟨x, zL l, [], by simp, hr, fun p hp => (by cases hp), ?_⟩
  rw [drop_cons' hx, List.drop_of_length_le (by omega)]; rfl
 | m + 1, k, l, h1, hl, h => by
  rw [amongD, List.any_eq_true] at h
  obtain ⟨i, _, h⟩ := h
  simp only [Bool.and_eq_true] at h
  obtain ⟨hc, hk, ha⟩ := h
  have hn : nd 7 0 k = 1 := by unfold nd; rw [if_neg (by decide), if_neg (by decide), if_neg (by decide), if_pos ⟨rfl, by omega⟩]
  obtain ⟨x, hx, hr⟩ := kid_rd hg hk hn (by omega) (by omega)
  obtain ⟨y, h0, rest, e, hy, hrest, hd'⟩ := among_rd hg m (k + 1) _ (by omega) (by omega) ha
  refine ⟨x, zL (l.take i), (y, h0) :: rest, ?_, hr, fun p hp => ?_, ?_⟩
  ·rw [zcut hc, e]
   simp [cmT, zT, gT]
  ·rcases List.mem_cons.1 hp with rfl | hp
   ·exact hy
   ·exact hrest p hp
  ·rw [drop_cons' hx, hd']; rfl
theorem coreD_mk {kind op : Int} {not : Bool} {val : Val} {qual name : ByteArray} {kids : List Expr} {sub : List Query} {l : List Tok} : coreD g (.mk kind op not val qual name kids sub) l = (if kind = 1 ∨ kind = 2 then primD kind val qual name l else if kind = 3 then atQ l 0 (opTk op) && kidD g kind op kids 0 (l.drop 1) else splitD g kind op not kids l) := rfl
theorem zT_lit (v : Val) : zT (litT v) = litT v := by unfold litT; (repeat' split) <;> rfl
theorem core_rd {gf gp : Expr → Bool} {e : Expr} (hf : fmF gf e = true) (hp : plF gp e = true) (hr : Rg e) (hg : ∀ x, below x e → gf x = true → gp x = true → Rg x → XD x (g x)) {l : List Tok} (h : coreD g e l = true) : RdD e (zL l) (lvE e) := by
 have hb : ∀ x, below x e → Rg x := fun x hx => rg_down hr hx
 obtain ⟨kind, op, not, val, qual, name, kids, sub⟩ := e
 have hnum := hr.num
 obtain ⟨hs, hk, _⟩ := fm_parts hf
 simp only [plF, Bool.and_eq_true, List.all_eq_true] at hp
 obtain ⟨hpk, hsub⟩ := hp
 obtain rfl : sub = [] := by cases sub with | nil => rfl | cons _ _ => cases hsub
 have hkid : ∀ x ∈ kids, XD x (g x) := fun x hx => hg x (.inl hx) (hk x hx) (hpk x hx) (hb x (.inl hx))
 obtain ⟨z1, z2, z3, z4⟩ := shape_zero hs
 have any_split : kind ≠ 1 → kind ≠ 2 → kind ≠ 3 → ∃ i, 1 ≤ i ∧ splitAt g kind op not kids l i = true := fun k1 k2 k3 => by
  rw [coreD_mk, if_neg (by omega), if_neg k3, splitD, List.any_eq_true] at h
  obtain ⟨i, _, h⟩ := h
  rw [Bool.and_eq_true, decide_eq_true_eq] at h
  exact ⟨i, h⟩
 rcases shape_cases hs with ⟨rfl, hl, nk, ns⟩ | ⟨rfl, hn, hm, nk, ns⟩ | ⟨rfl, ho, nk, ns⟩ | ⟨rfl, ho, nk, ns⟩ | ⟨rfl, nk, ns⟩ | ⟨rfl, nk, ns⟩ | ⟨rfl, nk, ns⟩ | ⟨rfl, nk, ns⟩ | ⟨rfl, nk, ns⟩
 ·obtain rfl := z1 rfl
  obtain rfl := z2 rfl
  obtain ⟨rfl, rfl⟩ := z4 rfl
  obtain rfl := list0 nk
  rw [coreD_mk, if_pos (.inl rfl), primD, if_pos rfl, Bool.and_eq_true, decide_eq_true_eq] at h
  have e : zL l = [litT val] := by
   have := zlast h.2 (by omega)
   rw [List.drop_zero] at this
   rw [this, zT_lit]
  rw [e]
  exact ⟨itm_lit hl hnum.2, fs_lit _⟩
 ·obtain rfl := z1 rfl
  obtain rfl := z2 rfl
  obtain rfl := z3 rfl
  obtain rfl := list0 nk
  rw [coreD_mk, if_pos (.inr rfl), primD, if_neg (by decide)] at h
  have e : zL l = qualL qual ++ [nT name] := by
   unfold qualL
   split at h
   ·rename_i hq
    rw [Bool.and_eq_true, decide_eq_true_eq] at h
    have := zlast h.2 (by omega)
    rw [List.drop_zero] at this
    rw [this, if_pos hq]; rfl
   ·rename_i hq
    simp only [Bool.and_eq_true, decide_eq_true_eq] at h
    obtain ⟨h1, h2, h3, h4⟩ := h
    have e0 := zdrop h2
    rw [List.drop_zero] at e0
    rw [e0, zdrop h3, zlast h4 (by omega), if_neg hq]; rfl
  rw [e]
  exact ⟨itm_col hn hm, fs_col _⟩
 ·obtain rfl := z2 rfl
  obtain rfl := z3 rfl
  obtain ⟨rfl, rfl⟩ := z4 rfl
  obtain ⟨k, rfl⟩ := list1 nk
  rw [coreD_mk, if_neg (by decide), if_pos rfl, Bool.and_eq_true] at h
  have hn : 1 ≤ nd 3 op 0 ∧ nd 3 op 0 ≤ 9 := by rcases ho with rfl | rfl <;> decide
  obtain ⟨x, hx, hrd⟩ := kid_rd hkid h.2 rfl hn.1 hn.2
  injection hx with hx; subst hx
  have e0 := zdrop h.1
  rw [List.drop_zero] at e0
  rw [e0]
  exact rd_un ho hrd
 ·obtain rfl := z2 rfl
  obtain rfl := z3 rfl
  obtain ⟨rfl, rfl⟩ := z4 rfl
  obtain ⟨x, y, rfl⟩ := list2 nk
  have e1 : (Expr.mk 4 op false zVal z0 z0 [x, y] []) = mBin op.toNat x y := by unfold mBin; rw [show ((op.toNat : Nat) : Int) = op by omega]
  obtain ⟨i, _, h⟩ := any_split (by decide) (by decide) (by decide)
  unfold splitAt at h
  rw [if_pos rfl] at h
  simp only [Bool.and_eq_true] at h
  have hbl := bl_cases ho.1 ho.2
  have e4 : lv 4 op = bl op := by unfold lv; rw [if_pos rfl]
  have hn : ∀ k, 1 ≤ nd 4 op k ∧ nd 4 op k ≤ 9 := fun k => by
   unfold nd; rw [e4, if_neg (by omega), if_pos rfl]; (repeat' split) <;> omega
  obtain ⟨u, hu, hru⟩ := kid_rd hkid h.2.1 rfl (hn 0).1 (hn 0).2
  obtain ⟨w, hw, hrw⟩ := kid_rd hkid h.2.2 rfl (hn 1).1 (hn 1).2
  injection hu with hu; subst hu
  injection hw with hw; subst hw
  have e2 : lvE (Expr.mk 4 op false zVal z0 z0 [x, y] []) = lv 4 op := rfl
  rw [e2, e1, zcut h.1]
  exact rd_bin ho.1 ho.2 hru hrw
 ·obtain rfl := z1 rfl
  obtain rfl := z3 rfl
  obtain ⟨rfl, rfl⟩ := z4 rfl
  obtain ⟨x, rfl⟩ := list1 nk
  obtain ⟨i, _, h⟩ := any_split (by decide) (by decide) (by decide)
  unfold splitAt at h
  rw [if_neg (by decide), if_pos rfl] at h
  simp only [Bool.and_eq_true, decide_eq_true_eq] at h
  obtain ⟨h1, h2, h3, h4, h5⟩ := h
  obtain ⟨u, hu, hru⟩ := kid_rd hkid h5 (n := 5) (by decide) (by omega) (by omega)
  injection hu with hu; subst hu
  have e : zL l = zL (l.take i) ++ kT 16 :: (notL not ++ [kT 20]) := by
   rw [zcut h1]
   congr 2
   cases not with
   | true =>
    simp only [if_true] at h2
    simp only [Bool.not_true, Bool.false_or] at h4
    rw [zdrop h4, show i + 1 + 1 = l.length - 1 by omega, zlast h3 (by omega)]; rfl
   | false =>
    simp only [Bool.false_eq_true, if_false] at h2
    rw [show i + 1 = l.length - 1 by omega, zlast h3 (by omega)]; rfl
  rw [e]
  exact rd_is hru
 ·obtain rfl := z1 rfl
  obtain rfl := z3 rfl
  obtain ⟨rfl, rfl⟩ := z4 rfl
  obtain ⟨x, y, z, rfl⟩ := list3 nk
  obtain ⟨i, _, h⟩ := any_split (by decide) (by decide) (by decide)
  unfold splitAt at h
  rw [if_neg (by decide), if_neg (by decide), if_pos rfl] at h
  split at h
  ·rename_i j hj
   rw [Bool.and_eq_true] at h
   obtain ⟨h1, h2⟩ := h
   rw [twoD, List.any_eq_true] at h2
   obtain ⟨m, _, h2⟩ := h2
   simp only [Bool.and_eq_true, decide_eq_true_eq] at h2
   obtain ⟨_, h3, h4, h5⟩ := h2
   obtain ⟨u, hu, hru⟩ := kid_rd hkid h1 (n := 5) (by decide) (by omega) (by omega)
   obtain ⟨w, hw, hrw⟩ := kid_rd hkid h4 (n := 5) (by decide) (by omega) (by omega)
   obtain ⟨v, hv, hrv⟩ := kid_rd hkid h5 (n := 5) (by decide) (by omega) (by omega)
   injection hu with hu; subst hu
   injection hw with hw; subst hw
   injection hv with hv; subst hv
   have e : zL l = zL (l.take i) ++ zL (l.drop i) := by rw [← List.map_append, List.take_append_drop]
   rw [e, tail_z hj, zcut h3]
   exact rd_btw hru hrw hrv
  ·cases h
 ·obtain rfl := z1 rfl
  obtain rfl := z3 rfl
  obtain ⟨rfl, rfl⟩ := z4 rfl
  obtain ⟨i, _, h⟩ := any_split (by decide) (by decide) (by decide)
  unfold splitAt at h
  rw [if_neg (by decide), if_neg (by decide), if_neg (by decide), if_pos rfl] at h
  split at h
  ·rename_i j hj
   simp only [Bool.and_eq_true, decide_eq_true_eq] at h
   obtain ⟨h1, h2, h3, h4, h5⟩ := h
   obtain ⟨u, hu, hru⟩ := kid_rd hkid h4 (n := 5) (by decide) (by omega) (by omega)
   obtain ⟨y, h0, rest, e5, hy, hrest, hd'⟩ := among_rd hkid (kids.length - 2) 1 _ (by omega) (by omega) h5
   have e : zL l = zL (l.take i) ++ zL (l.drop i) := by rw [← List.map_append, List.take_append_drop]
   rw [e, tail_z hj, zmid h2 h1 h3, e5]
   have hk' : kids = u :: y :: rest.map (·.1) := by
    have := drop_cons' hu
    rw [List.drop_zero, hd'] at this
    exact this
   exact rd_in hru hy hrest hk'
  ·cases h
 ·simp at ns
 ·simp at ns
theorem xd_step {gf gp : Expr → Bool} {e : Expr} (hf : fmF gf e = true) (hp : plF gp e = true) (hr : Rg e) (hg : ∀ x, below x e → gf x = true → gp x = true → Rg x → XD x (g x)) : XD e (derF g e) := by
 intro l v h1 h9 h
 unfold derF at h
 generalize l.length = n at h
 induction n generalizing l v with
 | zero =>
  rw [derN, Bool.and_eq_true, decide_eq_true_eq] at h
  exact (core_rd hf hp hr hg h.2).mono h.1
 | succ n ih =>
  rw [derN] at h
  simp only [Bool.or_eq_true, Bool.and_eq_true, decide_eq_true_eq] at h
  rcases h with ⟨a1, a2, a3, a4⟩ | h
  ·have := ih _ 1 (by omega) (by omega) a4
   have e := zmid a2 (by omega) a3
   rw [List.drop_zero, show l.length - 1 - (0 + 1) = l.length - 2 by omega] at e
   rw [e]
   exact RdD.mono (n := 9) ⟨itm_par this.1 (by decide), fs_par _ _⟩ h9
  ·exact (core_rd hf hp hr hg h.2).mono h.1
end
theorem derE_rd (e : Expr) : fmE e = true → plE e = true → Rg e → XD e (derE e) :=
 foldE3_ind (F1 := fmF) (F2 := plF) (F3 := derF) (P := fun e f p d => f = true → p = true → Rg e → XD e d) (fun e gf gp g hg hf hp hr => xd_step hf hp hr fun x hx h1 h2 h3 => hg x hx h1 h2 h3) e
theorem zL_same (L : List Tok) : SameK L (zL L) := by unfold SameK; rw [List.map_map]; rfl
theorem takeE_der {e : Expr} {L : List Tok} (hf : fmE e = true) (hp : plE e = true) (hr : Rg e) (h : derE e L 1 = true) : takeE L = (e, -1) := by
 obtain ⟨h1, _⟩ := derE_rd e hf hp hr L 1 (by omega) (by omega) h
 unfold takeE
 have hs := zL_same L
 have : pExpr L 1 s0 = some (e, P0 (0 + (zL L).length)) := (h1 L 0 hs.has 1 (Nat.le_refl 1) (by decide)).1 (by rw [hs.end_]; exact st_none 1)
 rw [this]
 exact take_end (by rw [hs.len]; omega)
section
variable {L1 L2 : List Tok} {k : Nat}
def Ag (k : Nat) (L1 L2 : List Tok) : Prop := ∀ i, i < k → L1[i]? = L2[i]?
def LcM {α : Type} (k : Nat) (m1 m2 : PM α) : Prop := ∀ s x s1 r, m1 s = some (x, s1) → s1.a < k → m2 s = some r → r = (x, s1)
variable (h : Ag k L1 L2)
include h
variable {f1 f2 : Nat → PM Expr} {q1 q2 : PM Query} (okf : ∀ lv, OkM (L := L1) (f1 lv)) (okq : OkM (L := L1) q1) (hf : ∀ lv, LcM k (f1 lv) (f2 lv)) (hq : LcM k q1 q2)
include okf hf
end
section
variable {L : List Tok}
theorem opIn_hit2 {s : PS} : ∀ {l : List Nat}, opIn L s l ≠ 0 → opHit L s (opIn L s l) = true ∧ opIn L s l ∈ l
 | [], h => absurd rfl h
 | op :: r, h => by
  unfold opIn at h ⊢
  split
  ·rename_i hh; exact ⟨hh, by simp⟩
  ·rename_i hh
   rw [if_neg hh] at h
   have := opIn_hit2 h
   exact ⟨this.1, by simp [this.2]⟩
theorem Ok.nb {s t : PS} (h : Ok L s t) (hb : t.b = false) : s.b = false := by
 cases e : s.b with
 | false => rfl
 | true => rw [h.2.2 e, e] at hb; cases hb
theorem must_nb {c : Bool} {s : PS} (h : (must c s).b = false) : c = true ∧ must c s = adv s := by
 cases c with
 | true => exact ⟨rfl, rfl⟩
 | false => cases h
theorem mText_nb {kind : Int} {s : PS} (h : (mText L kind s).2.b = false) : isK L s kind = true ∧ mText L kind s = (textAt L s, adv s) := by
 unfold mText at h ⊢
 split
 ·rename_i hc; exact ⟨hc, rfl⟩
 ·rename_i hc; rw [if_neg hc] at h; cases h
end
theorem ba_eq {x : ByteArray} {l : List UInt8} (h : x.data.toList = l) : x = ⟨l.toArray⟩ := by
 obtain ⟨⟨xs⟩⟩ := x
 have h : xs = l := h
 rw [h]
def tb (t : Tok) : List UInt8 := (tokT t).data.toList
section
variable {L : List Tok}
theorem num_text {x : ByteArray} (h : numOk x = true) : itoaB (numV x) = x := by
 unfold numOk at h
 unfold numV
 obtain ⟨m, hm⟩ := Option.isSome_iff_exists.1 h
 have h2 := (numN_some.1 hm).2
 rw [hm]
 show itoaB ((m : Nat) : Int) = x
 rw [ba_eq (x := x) h2.symm]
 show (⟨(Go.Lib.itoa ((m : Nat) : Int)).toArray⟩ : ByteArray) = _
 rw [itoa_nat]
end
section
variable {L : List Tok}
def sgm (L : List Tok) (a b : Nat) : List Tok := (L.drop a).take (b - a)
theorem sgm_len {a b : Nat} (h : b ≤ L.length) : (sgm L a b).length = b - a := by unfold sgm; rw [List.length_take, List.length_drop]; omega
theorem sgm_at {a b i : Nat} {u : Tok} (h : a + i < b) (hh : hd L (a + i) = some (u.kind, u.text)) : atQ (sgm L a b) i u = true := by
 unfold atQ sgm
 rw [List.getElem?_take_of_lt (by omega), List.getElem?_drop]
 unfold hd at hh
 cases hl : L[a + i]? with
 | none => rw [hl] at hh; cases hh
 | some t =>
  rw [hl] at hh
  injection hh with hh; injection hh with h1 h2
  simp only [sameT, h1, h2, decide_true, Bool.and_self]
theorem sgm_take {a b i : Nat} (h : a + i ≤ b) : (sgm L a b).take i = sgm L a (a + i) := by
 unfold sgm; rw [List.take_take]; congr 1; omega
theorem sgm_drop {a b i : Nat} : (sgm L a b).drop i = sgm L (a + i) b := by
 unfold sgm; rw [List.drop_take, List.drop_drop]; congr 1; omega
theorem sgm_all : sgm L 0 L.length = L := by unfold sgm; rw [List.drop_zero, Nat.sub_zero, List.take_length]
theorem sgm_cut {a b m : Nat} (h1 : a ≤ m) (h2 : m < b) : (sgm L a b).take (m - a) = sgm L a m ∧ (sgm L a b).drop (m - a + 1) = sgm L (m + 1) b := by
 refine ⟨?_, ?_⟩
 ·rw [sgm_take (by omega)]; congr 1; omega
 ·rw [sgm_drop]; congr 1; omega
theorem sgm_tok {a b m : Nat} {u : Tok} (h1 : a ≤ m) (h2 : m < b) (hh : hd L m = some (u.kind, u.text)) : atQ (sgm L a b) (m - a) u = true :=
 sgm_at (by omega) (by rw [show a + (m - a) = m by omega]; exact hh)
theorem any_at {n i : Nat} {p : Nat → Bool} (h : i < n) (hp : p i = true) : (List.range n).any p = true := List.any_eq_true.2 ⟨i, List.mem_range.2 h, hp⟩
theorem T_hd {s : PS} {k : Nat} {kind : Int} {x : ByteArray} (h : isT L s k kind x = true) : hd L (s.a + k) = some (kind, x) := by
 obtain ⟨a, b⟩ := s
 have hb := (isT_lt h).1
 simp only at hb; subst hb
 exact of_decide_eq_true ((isT_hd a k kind x).symm.trans h)
theorem K_hd {s : PS} {kind : Int} (h : isK L s kind = true) : hd L s.a = some (kind, textAt L s) ∧ okTok ⟨kind, textAt L s, 0⟩ = true := by
 obtain ⟨a, b⟩ := s
 have hb := (isK_lt h).1
 have hlt := (isK_lt h).2
 simp only at hb hlt; subst hb
 have hh : hd L a = some (L[a].kind, L[a].text) := by unfold hd; rw [List.getElem?_eq_getElem hlt]; rfl
 have h' := (isK_at hh (kind := kind)).symm.trans h
 rw [Bool.and_eq_true, decide_eq_true_eq] at h'
 rw [show textAt L ⟨a, false⟩ = L[a].text from textAt_at hh]
 rw [h'.1] at hh h'
 exact ⟨hh, h'.2⟩
theorem op_hd {s : PS} {lv : Nat} (h9 : lv ≤ 9) (h : ¬ opAt L s lv = 0) : 1 ≤ opAt L s lv ∧ opAt L s lv ≤ 14 ∧ bl (opAt L s lv) = lv ∧ hd L s.a = some ((opTk (opAt L s lv)).kind, (opTk (opAt L s lv)).text) := by
 obtain ⟨h1, h2⟩ := opIn_hit2 h
 obtain ⟨b1, b2, b3⟩ := opsL_bl ⟨lv, by omega⟩ _ h2
 refine ⟨b1, b2, b3, ?_⟩
 have := T_hd h1
 rw [Nat.add_zero] at this
 rw [this]
 unfold opTk opAt at *
 congr 2
 by_cases c : opIn L s (opsL lv) = 1 ∨ opIn L s (opsL lv) = 2
 ·rw [if_pos c, if_pos (by omega)]
 ·rw [if_neg c, if_neg (by omega)]
theorem core_pos {g : Expr → DF} {e : Expr} {l : List Tok} (h : coreD g e l = true) : 1 ≤ l.length := by
 cases l with
 | cons t r => simp
 | nil =>
  obtain ⟨kind, op, not, val, qual, name, kids, sub⟩ := e
  have h0 : ∀ u, atQ [] 0 u = false := fun _ => rfl
  rw [coreD_mk] at h
  split at h
  ·unfold primD at h
   split at h
   ·simp at h
   ·split at h
    ·simp at h
    ·simp at h
  ·split at h
   ·rw [h0] at h; cases h
   ·cases h
theorem der_pos {e : Expr} {l : List Tok} {v : Int} (h : derE e l v = true) : 1 ≤ l.length := by
 rw [derE_eq, derF_eq] at h
 simp only [Bool.or_eq_true, Bool.and_eq_true, decide_eq_true_eq] at h
 rcases h with h | h
 ·omega
 ·exact core_pos h.2
theorem der_low {e : Expr} {l : List Tok} {v v' : Int} (hv : v ≤ v') (h : derE e l v' = true) : derE e l v = true := by
 rw [derE_eq] at h ⊢
 exact derN_low hv _ _ h
theorem der_core {e : Expr} {l : List Tok} {v : Int} (hv : v ≤ lvE e) (h : coreD derE e l = true) : derE e l v = true := by
 rw [derE_eq, derF_eq, decide_eq_true hv, h]; simp
theorem kid_der {kind op : Int} {kids : List Expr} {k : Nat} {x : Expr} {l : List Tok} {n : Int} (hx : kids[k]? = some x) (hn : nd kind op k = n) (h : derE x l n = true) : kidD derE kind op kids k l = true := by
 unfold kidD; rw [hx, hn]; exact h
theorem der_par {e : Expr} {a b : Nat} {v : Int} (hb : b < L.length) (h : derE e (sgm L (a + 1) b) 1 = true) (h1 : hd L a = some (5, ⟨#[40]⟩)) (h2 : hd L b = some (5, ⟨#[41]⟩)) : derE e (sgm L a (b + 1)) v = true := by
 have hp := der_pos h
 rw [sgm_len (by omega)] at hp
 have hl : (sgm L a (b + 1)).length = b + 1 - a := sgm_len (by omega)
 have e1 : ((sgm L a (b + 1)).drop 1).take ((sgm L a (b + 1)).length - 2) = sgm L (a + 1) b := by
  rw [hl, sgm_drop, sgm_take (by omega), show a + 1 + (b + 1 - a - 2) = b by omega]
 have t0 : atQ (sgm L a (b + 1)) 0 lpT = true := sgm_at (by omega) h1
 have t1 : atQ (sgm L a (b + 1)) ((sgm L a (b + 1)).length - 1) rpT = true := sgm_at (by omega) (by rw [hl, show a + (b + 1 - a - 1) = b by omega]; exact h2)
 rw [derE_eq, derF_eq, e1, ← derE_eq, h, t0, t1, decide_eq_true (show 2 ≤ (sgm L a (b + 1)).length by omega)]; rfl
theorem der_bin {op : Nat} {x y : Expr} {a m b : Nat} {v : Int} (h0 : 1 ≤ op) (h1 : op ≤ 14) (hm : m < b) (hb : b ≤ L.length) (ham : a ≤ m) (hx : derE x (sgm L a m) (nd 4 op 0) = true) (hy : derE y (sgm L (m + 1) b) (nd 4 op 1) = true) (ht : hd L m = some ((opTk op).kind, (opTk op).text)) (hv : v ≤ bl op) : derE (mBin op x y) (sgm L a b) v = true := by
 have hp := der_pos hx
 rw [sgm_len (by omega)] at hp
 obtain ⟨c1, c2⟩ := sgm_cut (L := L) ham hm
 refine der_core (by show v ≤ lv 4 op; unfold lv; rw [if_pos rfl]; exact hv) ?_
 unfold mBin
 rw [coreD_mk, if_neg (by decide), if_neg (by decide), splitD]
 refine any_at (i := m - a) (by rw [sgm_len hb]; omega) ?_
 unfold splitAt
 rw [if_pos rfl, c1, c2, sgm_tok ham hm ht, kid_der (x := x) rfl rfl hx, kid_der (x := y) rfl rfl hy, decide_eq_true (by omega)]; rfl
theorem der_un {op : Int} {k : Expr} {a b : Nat} {v : Int} (ho : op = 15 ∨ op = 16) (hab : a < b) (hk : derE k (sgm L (a + 1) b) (nd 3 op 0) = true) (ht : hd L a = some ((opTk op).kind, (opTk op).text)) (hv : v ≤ lv 3 op) : derE (mUn op k) (sgm L a b) v = true := by
 refine der_core hv ?_
 unfold mUn
 rw [coreD_mk, if_neg (by decide), if_pos rfl, sgm_drop, sgm_at (by omega) (by simpa using ht), kid_der (x := k) rfl rfl hk]; rfl
theorem split_any {kind op : Int} {not : Bool} {kids : List Expr} {l : List Tok} {i : Nat} (h1 : 1 ≤ i) (hi : i < l.length) (h : splitAt derE kind op not kids l i = true) : splitD derE kind op not kids l = true := any_at hi (by rw [h, decide_eq_true h1]; rfl)
theorem core_split {kind : Int} {not : Bool} {kids : List Expr} {sub : List Query} {l : List Tok} (h1 : kind = 5 ∨ kind = 6 ∨ kind = 7) (h : splitD derE kind 0 not kids l = true) : coreD derE (mKids kind not kids sub) l = true := by
 unfold mKids
 rw [coreD_mk, if_neg (by omega), if_neg (by omega)]; exact h
theorem lv_kids {kind : Int} {not : Bool} {kids : List Expr} {sub : List Query} (h1 : kind = 5 ∨ kind = 6 ∨ kind = 7) : lvE (mKids kind not kids sub) = 4 := by
 rcases h1 with rfl | rfl | rfl <;> rfl
theorem tkIf_nb {L : List Tok} {s : PS} (k : Nat) (h : s.b = false) : (tkIf (isKey L s k) s).b = false ∧ (tkIf (isKey L s k) s).a = (if isKey L s k = true then s.a + 1 else s.a) := by
 unfold tkIf
 split
 ·exact ⟨h, rfl⟩
 ·exact ⟨h, rfl⟩
theorem tail_at {not : Bool} {a m b word : Nat} (ham : a ≤ m) (h1 : not = true → hd L m = some (1, kw 15)) (h2 : hd L (if not = true then m + 1 else m) = some (1, kw word)) (hb : (if not = true then m + 1 else m) < b) : tailD not (sgm L a b) (m - a) word = some ((if not = true then m + 2 else m + 1) - a) := by
 unfold tailD
 cases not with
 | true =>
  simp only [if_true] at h2 hb ⊢
  have e1 : atQ (sgm L a b) (m - a) (kT 15) = true := sgm_tok ham (by omega) (h1 rfl)
  have e2 : atQ (sgm L a b) (m - a + 1) (kT word) = true := by
   rw [show m - a + 1 = (m + 1) - a by omega]; exact sgm_tok (by omega) (by omega) h2
  rw [e1, e2]
  simp; omega
 | false =>
  simp only [Bool.false_eq_true, if_false] at h2 hb ⊢
  have e1 : atQ (sgm L a b) (m - a) (kT word) = true := sgm_tok ham (by omega) h2
  rw [if_pos e1]
  congr 1; omega
def SdM (L : List Tok) (v : Nat) (m : PM Expr) : Prop := ∀ s e s', m s = some (e, s') → s'.b = false → plE e = true → s.a ≤ L.length → derE e (sgm L s.a s'.a) v = true
theorem plE_eq (e : Expr) : plE e = plF plE e := foldE_fx (fun e g g' h => by
 obtain ⟨kind, op, not, val, qual, name, kids, sub⟩ := e
 show (kids.all g && sub.isEmpty) = (kids.all g' && sub.isEmpty)
 have : kids.all g = kids.all g' := by
  rw [Bool.eq_iff_iff, List.all_eq_true, List.all_eq_true]
  exact ⟨fun k x hx => (h x (.inl hx)) ▸ k x hx, fun k x hx => (h x (.inl hx)).symm ▸ k x hx⟩
 rw [this]) e
theorem pl_kids {kind op : Int} {not : Bool} {val : Val} {qual name : ByteArray} {kids : List Expr} {sub : List Query} (h : plE (.mk kind op not val qual name kids sub) = true) : (∀ x ∈ kids, plE x = true) ∧ sub = [] := by
 rw [plE_eq] at h
 simp only [plF, Bool.and_eq_true, List.all_eq_true] at h
 refine ⟨h.1, ?_⟩
 cases sub with
 | nil => rfl
 | cons _ _ => cases h.2
theorem sd_chain {g : PM Expr} {lv : Nat} (hc : chn lv) (hg : SdM L (lv + 1) g) (hok : OkM (L := L) g) : ∀ (n : Nat) (e : Expr) (s : PS) (x : Expr) (s' : PS) (a : Nat), chainM L g lv n e s = some (x, s') → s'.b = false → plE x = true → a ≤ s.a → s.a ≤ L.length → (plE e = true → derE e (sgm L a s.a) lv = true) → derE x (sgm L a s'.a) lv = true
 | 0, _, _, _, _, _, h, _, _, _, _, _ => by cases h
 | n + 1, e, s, x, s', a, h, hb, hp, ha, hl, he => by
  rw [chainM] at h
  split at h
  ·injection h with h; injection h with h1 h2; subst h1 h2
   exact he hp
  ·rename_i ho
   split at h
   ·cases h
   ·rename_i y s1 h1
    have hc9 : lv ≤ 9 := by unfold chn at hc; omega
    obtain ⟨o1, o2, o3, o4⟩ := op_hd hc9 ho
    have k2 := OkM.chain hok lv n _ _ _ _ h
    have b1 := k2.nb hb
    have k1 := hok _ _ _ h1
    have k0 := Ok.adv (opAt_lt ho)
    have l1 := k1.2.1 (k0.2.1 hl)
    refine sd_chain hc hg hok n _ s1 x s' a h hb hp (Nat.le_trans ha (Nat.le_trans k0.1 k1.1)) l1 fun hp' => ?_
    obtain ⟨q1, _⟩ := pl_kids hp'
    have hx := he (q1 e (by simp))
    have hy := hg _ _ _ h1 b1 (q1 y (by simp)) (k0.2.1 hl)
    have n0 : nd 4 (opAt L s lv : Nat) 0 = lv := by
     unfold nd Go.Proofs.YtabhiapifcanoaaGreatDoor.lv
     rw [if_pos rfl, o3, if_neg (by unfold chn at hc; omega), if_pos rfl, if_neg (by unfold chn at hc; omega), if_pos rfl]
    have n1 : nd 4 (opAt L s lv : Nat) 1 = (lv + 1 : Nat) := by
     unfold nd Go.Proofs.YtabhiapifcanoaaGreatDoor.lv
     rw [if_pos rfl, o3, if_neg (by unfold chn at hc; omega), if_pos rfl, if_neg (by unfold chn at hc; omega), if_neg (by decide)]; rfl
    have := der_pos hy
    rw [sgm_len l1] at this
    have ea : (adv s).a = s.a + 1 := rfl
    exact der_bin o1 o2 (by omega) l1 ha (by rw [n0]; exact hx) (by rw [n1]; exact hy) o4 (by omega)
def Seps (L : List Tok) : List Expr → Nat → Nat → Prop
 | [], a, b => a = b
 | x :: r, a, b => hd L a = some (5, ⟨#[44]⟩) ∧ ∃ c, (plE x = true → derE x (sgm L (a + 1) c) 1 = true) ∧ c ≤ L.length ∧ Seps L r c b
theorem sd_sep {g : PM Expr} (hg : SdM L 1 g) (hok : OkM (L := L) g) : ∀ (n : Nat) (acc l : List Expr) (s s' : PS), sepM L g n acc s = some (l, s') → s'.b = false → s.a ≤ L.length → ∃ more, l = acc ++ more ∧ Seps L more s.a s'.a
 | 0, _, _, _, _, h, _, _ => by cases h
 | n + 1, acc, l, s, s', h, hb, hl => by
  rw [sepM] at h
  split at h
  ·rename_i hc
   split at h
   ·cases h
   ·rename_i y s1 h1
    have k2 := OkM.sep hok n _ _ _ _ h
    have b1 := k2.nb hb
    have k1 := hok _ _ _ h1
    have k0 := Ok.adv (isSg_lt hc)
    have l1 := k1.2.1 (k0.2.1 hl)
    obtain ⟨more, e, hs⟩ := sd_sep hg hok n _ _ _ _ h hb l1
    exact ⟨y :: more, by rw [e]; simp, T_hd hc, s1.a, fun hp => hg _ _ _ h1 b1 hp (k0.2.1 hl), l1, hs⟩
  ·injection h with h; injection h with h1 h2; subst h1 h2
   exact ⟨[], by simp, rfl⟩
theorem seps_le : ∀ {r : List Expr} {a b : Nat}, Seps L r a b → (∀ x ∈ r, plE x = true) → a ≤ b ∧ (a ≤ L.length → b ≤ L.length)
 | [], _, _, h, _ => by cases h; exact ⟨Nat.le_refl _, id⟩
 | x :: r, a, b, h, hp => by
  obtain ⟨_, c, h2, h3, h4⟩ := h
  have hd' := der_pos (h2 (hp x (by simp)))
  rw [sgm_len h3] at hd'
  obtain ⟨k1, k2⟩ := seps_le h4 fun y hy => hp y (by simp [hy])
  exact ⟨by omega, fun _ => k2 h3⟩
theorem among_sd {kids : List Expr} : ∀ (r : List Expr) (y : Expr) (a c b k : Nat), kids.drop k = y :: r → 1 ≤ k → derE y (sgm L a c) 1 = true → c ≤ L.length → Seps L r c b → (∀ x ∈ r, plE x = true) → amongD derE 7 0 kids r.length k (sgm L a b) = true
 | [], y, a, c, b, k, hd', hk, hy, hc, hs, _ => by
  cases hs
  have hn : nd 7 0 k = 1 := by unfold nd; rw [if_neg (by decide), if_neg (by decide), if_neg (by decide), if_pos ⟨rfl, by omega⟩]
  rw [List.length_nil, amongD]
  exact kid_der (x := y) (by have := congrArg (fun l => l[0]?) hd'; simpa using this) hn hy
 | x :: r, y, a, c, b, k, hd', hk, hy, hc, hs, hp => by
  have hn : nd 7 0 k = 1 := by unfold nd; rw [if_neg (by decide), if_neg (by decide), if_neg (by decide), if_pos ⟨rfl, by omega⟩]
  have hle := seps_le hs hp
  have hpos := der_pos hy
  rw [sgm_len hc] at hpos
  obtain ⟨h1, c', h2, h3, h4⟩ := hs
  have hx := h2 (hp x (by simp))
  have hpx := der_pos hx
  rw [sgm_len h3] at hpx
  have hle2 := seps_le h4 fun z hz => hp z (by simp [hz])
  obtain ⟨c1, c2⟩ := sgm_cut (L := L) (a := a) (m := c) (b := b) (by omega) (by omega)
  rw [List.length_cons, amongD]
  refine any_at (i := c - a) (by rw [sgm_len (hle.2 hc)]; omega) ?_
  rw [c1, c2, sgm_tok (u := cmT) (by omega) (by omega) h1]
  rw [kid_der (x := y) (by have := congrArg (fun l => l[0]?) hd'; simpa using this) hn hy]
  rw [among_sd r x (c + 1) c' b (k + 1) (by have := congrArg List.tail hd'; rw [List.tail_drop] at this; simpa using this) (by omega) hx h3 h4 fun z hz => hp z (by simp [hz])]
  rfl
end
section
variable {L : List Tok} {f : Nat → PM Expr} {q : PM Query}
theorem sd_in (hf : ∀ v, 1 ≤ v → v ≤ 9 → SdM L v (f v)) (hok : ∀ v, OkM (L := L) (f v)) (hoq : OkM (L := L) q) {e x : Expr} {n : Bool} {s s' : PS} {a m : Nat} (h : inM L f q e n s = some (x, s')) (hb : s'.b = false) (hp : plE x = true) (hl : s.a ≤ L.length) (ham : a ≤ m)
 (he : plE e = true → derE e (sgm L a m) 5 = true) (hm : s.a = (if n = true then m + 2 else m + 1)) (h1 : n = true → hd L m = some (1, kw 15)) (h2 : hd L (if n = true then m + 1 else m) = some (1, kw 17)) : derE x (sgm L a s'.a) 4 = true := by
 have hall := OkM.inn hok hoq e n _ _ _ h
 have hbs := hall.nb hb
 unfold inM at h
 simp only at h
 split at h
 ·split at h
  ·cases h
  ·rename_i y s2 hy
   injection h with h; injection h with h3 h4; subst h3
   have := (pl_kids hp).2
   cases this
 ·split at h
  ·cases h
  ·rename_i l s2 hy
   injection h with h; injection h with h3 h4; subst h3 h4
   obtain ⟨r1, r2⟩ := must_nb hb
   have b2 : s2.b = false := (isSg_lt r1).1
   have hrp := T_hd r1
   have r2' := (isSg_lt r1).2
   rw [r2]
   have ko := OkM.ors hok _ _ _ hy
   have b1 := ko.nb b2
   obtain ⟨p1, p2⟩ := must_nb b1
   have hlp := T_hd p1
   have plt := (isSg_lt p1).2
   rw [p2] at hy ko
   unfold orsM at hy
   split at hy
   ·cases hy
   ·rename_i z s3 hz
    have ks := OkM.sep (hok 1) _ _ _ _ _ hy
    have b3 := ks.nb b2
    have kz := hok 1 _ _ _ hz
    have ea : (adv s).a = s.a + 1 := rfl
    have l3 : s3.a ≤ L.length := kz.2.1 (by omega)
    obtain ⟨more, em, hse⟩ := sd_sep (hf 1 (by omega) (by omega)) (hok 1) _ _ _ _ _ hy b2 l3
    subst em
    obtain ⟨pk, _⟩ := pl_kids hp
    have hder := he (pk e (by simp))
    have hdz := hf 1 (by omega) (by omega) _ _ _ hz b3 (pk z (by simp)) (by omega)
    have hpe := der_pos hder
    have hpz := der_pos hdz
    rw [sgm_len l3] at hpz
    have hmL : m < L.length := by
     by_cases e : m < L.length
     ·exact e
     ·cases n <;> simp at hm <;> omega
    rw [sgm_len (by omega)] at hpe
    have hsl := seps_le hse fun y hy => pk y (by simp [hy])
    have hs2 : (adv s2).a = s2.a + 1 := rfl
    rw [hs2]
    have lenB : (sgm L a (s2.a + 1)).length = s2.a + 1 - a := sgm_len (by omega)
    have hj : s.a - a < s2.a - a := by cases n <;> simp at hm <;> omega
    refine der_core (by rw [lv_kids (by omega)]; decide) (core_split (by omega) (split_any (i := m - a) (by omega) (by rw [lenB]; cases n <;> simp at hm <;> omega) ?_))
    obtain ⟨c1, _⟩ := sgm_cut (L := L) (a := a) (m := m) (b := s2.a + 1) ham (by cases n <;> simp at hm <;> omega)
    have htl := tail_at (L := L) (not := n) (a := a) (m := m) (b := s2.a + 1) (word := 17) ham h1 h2 (by cases n <;> simp at hm ⊢ <;> omega)
    rw [← hm] at htl
    unfold splitAt
    rw [if_neg (by decide), if_neg (by decide), if_neg (by decide), if_pos rfl, htl]
    simp only
    have t1 : atQ (sgm L a (s2.a + 1)) (s.a - a) lpT = true := sgm_tok (by cases n <;> simp at hm <;> omega) (by omega) hlp
    have t2 : atQ (sgm L a (s2.a + 1)) ((sgm L a (s2.a + 1)).length - 1) rpT = true := by
     rw [lenB, show s2.a + 1 - a - 1 = s2.a - a by omega]; exact sgm_tok (by omega) (by omega) hrp
    have t3 : ((sgm L a (s2.a + 1)).drop (s.a - a + 1)).take ((sgm L a (s2.a + 1)).length - 1 - (s.a - a + 1)) = sgm L (s.a + 1) s2.a := by
     have hsa : a ≤ s.a := by cases n <;> simp at hm <;> omega
     rw [lenB, sgm_drop, show a + (s.a - a + 1) = s.a + 1 by omega, show s2.a + 1 - a - 1 - (s.a - a + 1) = s2.a - (s.a + 1) by omega, sgm_take (by omega), show s.a + 1 + (s2.a - (s.a + 1)) = s2.a by omega]
    rw [t1, t2, c1, t3, kid_der (x := e) (n := 5) rfl (by decide) hder, decide_eq_true (by rw [lenB]; omega)]
    rw [show (e :: ([z] ++ more)).length - 2 = more.length by simp]
    rw [among_sd more z (s.a + 1) s3.a s2.a 1 rfl (by omega) hdz l3 hse fun y hy => pk y (by simp [hy])]
    rfl
theorem sd_cmpT (hf : ∀ v, 1 ≤ v → v ≤ 9 → SdM L v (f v)) (hok : ∀ v, OkM (L := L) (f v)) (hoq : OkM (L := L) q) {e x : Expr} {s s' : PS} {a : Nat} (h : cmpT L f q e s = some (x, s')) (hb : s'.b = false) (hp : plE x = true) (hl : s.a ≤ L.length) (ham : a ≤ s.a)
 (he : plE e = true → derE e (sgm L a s.a) 5 = true) : derE x (sgm L a s'.a) 4 = true := by
 have hbs := (OkM.cmpT hok hoq e _ _ _ h).nb hb
 unfold cmpT at h
 simp only at h
 split at h
 ·rename_i h16
  injection h with h; injection h with h3 h4; subst h3 h4
  obtain ⟨r1, r2⟩ := must_nb hb
  have h20 := T_hd r1
  have l20 := (isKey_lt r1).2
  rw [r2]
  have is := T_hd h16
  have hder := he ((pl_kids hp).1 e (by simp))
  have hpe := der_pos hder
  rw [sgm_len hl] at hpe
  obtain ⟨_, e2⟩ := tkIf_nb (L := L) (s := adv s) 15 hbs
  have ea : (adv s).a = s.a + 1 := rfl
  have e3 : (adv (tkIf (isKey L (adv s) 15) (adv s))).a = (tkIf (isKey L (adv s) 15) (adv s)).a + 1 := rfl
  rw [e3]
  rw [e2, ea] at h20 l20 ⊢
  rw [Nat.add_zero] at h20
  cases hn : isKey L (adv s) 15 with
  | true =>
   rw [hn] at h20 l20
   simp only [if_true] at h20 l20 ⊢
   have hnot := T_hd hn
   rw [ea, Nat.add_zero] at hnot
   rw [Nat.add_zero] at is
   have lenB : (sgm L a (s.a + 1 + 1 + 1)).length = s.a + 3 - a := sgm_len (by omega)
   refine der_core (by rw [lv_kids (by omega)]; decide) (core_split (by omega) (split_any (i := s.a - a) (by omega) (by rw [lenB]; omega) ?_))
   obtain ⟨c1, _⟩ := sgm_cut (L := L) (a := a) (m := s.a) (b := s.a + 1 + 1 + 1) ham (by omega)
   unfold splitAt
   rw [if_neg (by decide), if_pos rfl, c1, kid_der (x := e) (n := 5) rfl (by decide) hder]
   have t1 : atQ (sgm L a (s.a + 1 + 1 + 1)) (s.a - a) (kT 16) = true := sgm_tok ham (by omega) is
   have t2 : atQ (sgm L a (s.a + 1 + 1 + 1)) ((sgm L a (s.a + 1 + 1 + 1)).length - 1) (kT 20) = true := by
    rw [lenB, show s.a + 3 - a - 1 = s.a + 1 + 1 - a by omega]; exact sgm_tok (by omega) (by omega) h20
   have t3 : atQ (sgm L a (s.a + 1 + 1 + 1)) (s.a - a + 1) (kT 15) = true := by
    rw [show s.a - a + 1 = s.a + 1 - a by omega]; exact sgm_tok (by omega) (by omega) hnot
   rw [t1, t2, t3, decide_eq_true (by simp only [if_true]; rw [lenB]; omega)]; rfl
  | false =>
   rw [hn] at h20 l20
   simp only [Bool.false_eq_true, if_false] at h20 l20 ⊢
   rw [Nat.add_zero] at is
   have lenB : (sgm L a (s.a + 1 + 1)).length = s.a + 2 - a := sgm_len (by omega)
   refine der_core (by rw [lv_kids (by omega)]; decide) (core_split (by omega) (split_any (i := s.a - a) (by omega) (by rw [lenB]; omega) ?_))
   obtain ⟨c1, _⟩ := sgm_cut (L := L) (a := a) (m := s.a) (b := s.a + 1 + 1) ham (by omega)
   unfold splitAt
   rw [if_neg (by decide), if_pos rfl, c1, kid_der (x := e) (n := 5) rfl (by decide) hder]
   have t1 : atQ (sgm L a (s.a + 1 + 1)) (s.a - a) (kT 16) = true := sgm_tok ham (by omega) is
   have t2 : atQ (sgm L a (s.a + 1 + 1)) ((sgm L a (s.a + 1 + 1)).length - 1) (kT 20) = true := by
    rw [lenB, show s.a + 2 - a - 1 = s.a + 1 - a by omega]; exact sgm_tok (by omega) (by omega) h20
   rw [t1, t2, decide_eq_true (by simp only [Bool.false_eq_true, if_false]; rw [lenB]; omega)]; rfl
 ·rename_i h16
  obtain ⟨b1, e1⟩ := tkIf_nb (L := L) (s := s) 15 hbs
  have hnot : isKey L s 15 = true → hd L s.a = some (1, kw 15) := fun hn => by have := T_hd hn; rwa [Nat.add_zero] at this
  split at h
  ·rename_i h18
   have t18 := T_hd h18
   have l18 := (isKey_lt h18).2
   rw [Nat.add_zero, e1] at t18
   rw [e1] at l18
   split at h
   ·cases h
   ·rename_i y s2 hy
    split at h
    ·cases h
    ·rename_i z s3 hz
     injection h with h; injection h with h3 h4; subst h3 h4
     have kz := hok 5 _ _ _ hz
     have bm := kz.nb hb
     obtain ⟨r1, r2⟩ := must_nb bm
     have t13 := T_hd r1
     have l13 := (isKey_lt r1).2
     have b2 := (isKey_lt r1).1
     rw [Nat.add_zero] at t13
     rw [r2] at hz kz
     have ky := hok 5 _ _ _ hy
     have ea2 : (adv s2).a = s2.a + 1 := rfl
     have ea1 : (adv (tkIf (isKey L s 15) s)).a = (if isKey L s 15 = true then s.a + 1 else s.a) + 1 := by rw [← e1]; rfl
     have hpk := (pl_kids hp).1
     have hdx := he (hpk e (by simp))
     have l3 : s3.a ≤ L.length := kz.2.1 (by omega)
     have hdy := hf 5 (by omega) (by omega) _ _ _ hy b2 (hpk y (by simp)) (by omega)
     have hdz := hf 5 (by omega) (by omega) _ _ _ hz hb (hpk z (by simp)) (by omega)
     have px := der_pos hdx
     have py := der_pos hdy
     have pz := der_pos hdz
     rw [sgm_len (by omega)] at px py pz
     rw [ea1] at hdy py
     rw [ea2] at hdz pz
     have lenB : (sgm L a s3.a).length = s3.a - a := sgm_len l3
     have hlow : s.a ≤ (if isKey L s 15 = true then s.a + 1 else s.a) := by split <;> omega
     refine der_core (by rw [lv_kids (by omega)]; decide) (core_split (by omega) (split_any (i := s.a - a) (by omega) (by rw [lenB]; omega) ?_))
     obtain ⟨c1, _⟩ := sgm_cut (L := L) (a := a) (m := s.a) (b := s3.a) ham (by omega)
     have htl := tail_at (L := L) (not := isKey L s 15) (a := a) (m := s.a) (b := s3.a) (word := 18) ham hnot t18 (by omega)
     have ej : (if isKey L s 15 = true then s.a + 2 else s.a + 1) = (if isKey L s 15 = true then s.a + 1 else s.a) + 1 := by split <;> rfl
     rw [ej] at htl
     generalize (if isKey L s 15 = true then s.a + 1 else s.a) = m1 at *
     unfold splitAt
     rw [if_neg (by decide), if_neg (by decide), if_pos rfl, htl]
     simp only
     rw [c1, kid_der (x := e) (n := 5) rfl (by decide) hdx, Bool.true_and, sgm_drop, show a + (m1 + 1 - a) = m1 + 1 by omega, twoD]
     obtain ⟨c3, c4⟩ := sgm_cut (L := L) (a := m1 + 1) (m := s2.a) (b := s3.a) (by omega) (by omega)
     refine any_at (i := s2.a - (m1 + 1)) (by rw [sgm_len l3]; omega) ?_
     have t13' : atQ (sgm L (m1 + 1) s3.a) (s2.a - (m1 + 1)) (kT 13) = true := sgm_tok (by omega) (by omega) t13
     rw [c3, c4, t13', kid_der (x := y) (n := 5) rfl (by decide) hdy, kid_der (x := z) (n := 5) rfl (by decide) hdz, decide_eq_true (by omega)]; rfl
  ·split at h
   ·rename_i h17
    have t17 := T_hd h17
    have l17 := (isKey_lt h17).2
    rw [Nat.add_zero, e1] at t17
    rw [e1] at l17
    have ea1 : (adv (tkIf (isKey L s 15) s)).a = (if isKey L s 15 = true then s.a + 1 else s.a) + 1 := by rw [← e1]; rfl
    refine sd_in hf hok hoq h hb hp (by rw [ea1]; omega) ham he ?_ hnot t17
    rw [ea1]; split <;> rfl
   ·injection h with h; injection h with h3 h4; subst h3 h4
    simp only [Bool.or_eq_false_iff] at hb
    rw [e1, hb.2]
    exact der_low (by omega) (he hp)
theorem sd_prim (hf : ∀ v, 1 ≤ v → v ≤ 9 → SdM L v (f v)) (hok : ∀ v, OkM (L := L) (f v)) : SdM L 9 (primM L f q) := by
 intro s e s' h hb hp hl
 have ea : (adv s).a = s.a + 1 := rfl
 have lit : ∀ v : Val, s.a < L.length → hd L s.a = some ((litT v).kind, (litT v).text) → derE (mLit v) (sgm L s.a (s.a + 1)) (9 : Nat) = true := fun v hlt hh => by
  refine der_core (show ((9 : Nat) : Int) ≤ lv 1 0 by decide) ?_
  unfold mLit
  rw [coreD_mk, if_pos (.inl rfl), primD, if_pos rfl, sgm_at (by omega) hh, sgm_len (by omega), decide_eq_true (by omega)]; rfl
 unfold primM at h
 simp only at h
 split at h
 ·rename_i hc
  injection h with h; injection h with h1 h2; subst h1 h2
  obtain ⟨k1, k2⟩ := K_hd hc
  rw [ea]
  refine lit _ (isK_lt hc).2 ?_
  rw [k1]
  show some ((3 : Int), textAt L s) = some (3, itoaB (numV (textAt L s)))
  rw [num_text (by exact k2)]
 split at h
 ·rename_i hc
  injection h with h; injection h with h1 h2; subst h1 h2
  rw [ea]
  exact lit _ (isK_lt hc).2 (K_hd hc).1
 split at h
 ·rename_i hc
  injection h with h; injection h with h1 h2; subst h1 h2
  rw [ea]
  exact lit _ (isKey_lt hc).2 (T_hd hc)
 split at h
 ·rename_i hc
  injection h with h; injection h with h1 h2; subst h1 h2
  rw [ea]
  exact lit _ (isKey_lt hc).2 (T_hd hc)
 split at h
 ·rename_i hc
  injection h with h; injection h with h1 h2; subst h1 h2
  rw [ea]
  exact lit _ (isKey_lt hc).2 (T_hd hc)
 split at h
 ·rename_i hc
  obtain ⟨k1, k2⟩ := K_hd hc
  have hlt := (isK_lt hc).2
  split at h
  ·rename_i hd'
   injection h with h; injection h with h1 h2; subst h1 h2
   obtain ⟨m1, m2⟩ := mText_nb hb
   obtain ⟨k3, k4⟩ := K_hd m1
   have hdot := T_hd hd'
   have hlt2 := (isK_lt m1).2
   have e2 : (adv (adv s)).a = s.a + 2 := rfl
   have e3 : (adv (adv (adv s))).a = s.a + 3 := rfl
   rw [e2] at k3 hlt2
   rw [ea, Nat.add_zero] at hdot
   rw [m2, e3]
   refine der_core (show ((9 : Nat) : Int) ≤ lv 2 0 by decide) ?_
   unfold mCol
   rw [coreD_mk]
   have hq : textAt L s ≠ ⟨#[]⟩ := fun e => by
    rw [e] at k2
    exact absurd k2 (by decide)
   rw [if_pos (.inr rfl), primD, if_neg (by decide), if_neg hq, sgm_len (by omega), decide_eq_true (by omega)]
   have t0 : atQ (sgm L s.a (s.a + 3)) 0 (nT (textAt L s)) = true := sgm_at (by omega) k1
   have t1 : atQ (sgm L s.a (s.a + 3)) 1 dtT = true := sgm_at (by omega) hdot
   have t2 : atQ (sgm L s.a (s.a + 3)) 2 (nT (textAt L (adv (adv s)))) = true := sgm_at (by omega) k3
   rw [t0, t1, t2]; rfl
  ·injection h with h; injection h with h1 h2; subst h1 h2
   rw [ea]
   refine der_core (show ((9 : Nat) : Int) ≤ lv 2 0 by decide) ?_
   unfold mCol
   rw [coreD_mk]
   have t0 : atQ (sgm L s.a (s.a + 1)) 0 (nT (textAt L s)) = true := sgm_at (by omega) k1
   rw [if_pos (.inr rfl), primD, if_neg (by decide), if_pos (by rfl), sgm_len (by omega), decide_eq_true (by omega), t0]; rfl
 split at h
 ·rename_i hc
  split at h
  ·cases h
  ·rename_i y s1 h1
   injection h with h; injection h with h2 h3; subst h2 h3
   obtain ⟨r1, r2⟩ := must_nb hb
   have hrp := T_hd r1
   have hlp := T_hd hc
   have l1 := (isSg_lt r1).2
   have b1 := (isSg_lt r1).1
   have lt := (isSg_lt hc).2
   rw [Nat.add_zero] at hrp hlp
   rw [r2]
   exact der_par l1 (hf 1 (by omega) (by omega) _ _ _ h1 b1 hp (by rw [ea]; omega)) hlp hrp
 split at h
 ·split at h
  ·cases h
  ·rename_i y s1 h1
   injection h with h; injection h with h2 h3; subst h2
   have := (pl_kids hp).2
   cases this
 ·injection h with h; injection h with h1 h2; subst h2
  cases hb
theorem sd_cmp (hf : ∀ v, 1 ≤ v → v ≤ 9 → SdM L v (f v)) (hok : ∀ v, OkM (L := L) (f v)) (hoq : OkM (L := L) q) : SdM L 4 (cmpM L f q) := by
 intro s e s' h hb hp hl
 unfold cmpM at h
 split at h
 ·cases h
 ·rename_i y s1 h1
  have k1 := hok 5 _ _ _ h1
  have l1 := k1.2.1 hl
  split at h
  ·have b1 := (OkM.cmpT hok hoq _ _ _ _ h).nb hb
   exact sd_cmpT hf hok hoq h hb hp l1 k1.1 fun hpy => hf 5 (by omega) (by omega) _ _ _ h1 b1 hpy hl
  ·rename_i ho
   split at h
   ·cases h
   ·rename_i z s2 h2
    injection h with h; injection h with h3 h4; subst h3 h4
    obtain ⟨o1, o2, o3, o4⟩ := op_hd (by omega) ho
    have hlt := (opAt_lt ho).2
    have b1 := (opAt_lt ho).1
    have k2 := hok 5 _ _ _ h2
    have ea : (adv s1).a = s1.a + 1 := rfl
    have l2 := k2.2.1 (by omega)
    obtain ⟨q1, _⟩ := pl_kids hp
    have hy := hf 5 (by omega) (by omega) _ _ _ h1 b1 (q1 y (by simp)) hl
    have hz := hf 5 (by omega) (by omega) _ _ _ h2 hb (q1 z (by simp)) (by omega)
    have n0 : ∀ k, nd 4 (opAt L s1 4 : Nat) k = 5 := fun k => by
     unfold nd lv
     rw [if_pos rfl, o3, if_neg (by decide), if_pos rfl, if_pos (by decide)]
    have := k2.1
    exact der_bin o1 o2 (by omega) l2 k1.1 (by rw [n0]; exact hy) (by rw [n0]; exact hz) o4 (by rw [o3]; exact Int.le_refl _)
theorem sd_step (hf : ∀ v, 1 ≤ v → v ≤ 9 → SdM L v (f v)) (hok : ∀ v, OkM (L := L) (f v)) (hoq : OkM (L := L) q) {v : Nat} (h1 : 1 ≤ v) (h9 : v ≤ 9) : SdM L v (stepE L f q v) := by
 intro s e s' h hb hp hl
 unfold stepE at h
 split at h
 ·rename_i hv; subst hv
  split at h
  ·rename_i hc
   split at h
   ·cases h
   ·rename_i y s1 h2
    injection h with h; injection h with h3 h4; subst h3 h4
    have k := hok 3 _ _ _ h2
    have lt := (isKey_lt hc).2
    have ea : (adv s).a = s.a + 1 := rfl
    have hh := T_hd hc
    rw [Nat.add_zero] at hh
    have hk := hf 3 (by omega) (by omega) _ _ _ h2 hb ((pl_kids hp).1 y (by simp)) (by omega)
    have := k.1
    exact der_un (.inl rfl) (by omega) hk hh (by decide)
  ·exact der_low (by omega) (hf 4 (by omega) (by omega) _ _ _ h hb hp hl)
 split at h
 ·rename_i hv; subst hv
  exact sd_cmp hf hok hoq _ _ _ h hb hp hl
 split at h
 ·rename_i hv; subst hv
  split at h
  ·rename_i hc
   split at h
   ·cases h
   ·rename_i y s1 h2
    injection h with h; injection h with h3 h4; subst h3 h4
    have k := hok 8 _ _ _ h2
    have lt := (isSg_lt hc).2
    have ea : (adv s).a = s.a + 1 := rfl
    have hh := T_hd hc
    rw [Nat.add_zero] at hh
    have hk := hf 8 (by omega) (by omega) _ _ _ h2 hb ((pl_kids hp).1 y (by simp)) (by omega)
    have := k.1
    exact der_un (.inr rfl) (by omega) hk hh (by decide)
  ·exact der_low (by omega) (hf 9 (by omega) (by omega) _ _ _ h hb hp hl)
 split at h
 ·rename_i hv; subst hv
  exact sd_prim hf hok _ _ _ h hb hp hl
 ·rename_i v3 v4 v8 v9
  split at h
  ·cases h
  ·rename_i y s1 h2
   have k := hok (v + 1) _ _ _ h2
   have b1 := (OkM.chain (hok (v + 1)) v _ _ _ _ _ h).nb hb
   exact sd_chain (by unfold chn; omega) (hf (v + 1) (by omega) (by omega)) (hok (v + 1)) _ _ _ _ _ s.a h hb hp k.1 (k.2.1 hl) fun hpy => der_low (by omega) (hf (v + 1) (by omega) (by omega) _ _ _ h2 b1 hpy hl)
theorem sd_pP : ∀ k v, 1 ≤ v → v ≤ 9 → SdM L v ((pP L k).1 v)
 | 0, _, _, _ => fun _ _ _ h => by cases h
 | k + 1, v, h1, h9 => sd_step (sd_pP k) (pP_ok k).1 (pP_ok k).2 h1 h9
theorem der_takeE {e : Expr} (hp : plE e = true) (h : takeE L = (e, -1)) : derE e L 1 = true := by
 unfold takeE takeM at h
 split at h
 ·injection h with _ h; exact absurd h (by decide)
 ·rename_i x s hx
  split at h
  ·rename_i h0
   injection h with _ h; omega
  ·rename_i h0
   injection h with h _; subst h
   unfold endM at h0
   split at h0
   ·rename_i hc
    have hok := pExpr_ok (L := L) 1 _ _ _ hx
    have hle := hok.2.1 (Nat.zero_le _)
    have := sd_pP (L := L) (pD L) 1 (by omega) (by omega) _ _ _ hx hc.1 hp (Nat.zero_le _)
    have e : s.a = L.length := by omega
    rw [e] at this
    have e2 : sgm L s0.a L.length = L := sgm_all
    rwa [e2] at this
   ·omega
end
theorem der_iff {e : Expr} {L : List Tok} (hf : fmE e = true) (hp : plE e = true) (hr : Rg e) : derE e L 1 = true ↔ takeE L = (e, -1) := ⟨takeE_der hf hp hr, der_takeE hp⟩
end Go.Proofs.YtabhiapifcanoaaGreatDoor
