/-
  Sizes of what is read.
  Conditions: none.
-/
import Derived.Test.YtabhiapifcanoaaGreatDoorOTB1
set_option linter.unusedVariables false
set_option linter.unusedSimpArgs false
set_option linter.unusedSectionVars false
set_option linter.unnecessarySimpa false
set_option maxRecDepth 8000
namespace Go.Proofs.YtabhiapifcanoaaGreatDoor
open Go Go.Dv
open Go.Vc (D shrI xorI andI and255)
section
variable {L : List Tok}
def Wt {α : Type} (m : PM α) (w : α → Nat) (c : Nat) : Prop := ∀ s x s', m s = some (x, s') → w x + 164 * s.a ≤ c + 164 * s'.a
theorem adv_a (s : PS) : (adv s).a = s.a + 1 := rfl
theorem fl_a (s : PS) : (fl s).a = s.a := rfl
theorem must_a (c : Bool) (s : PS) : s.a ≤ (must c s).a := by unfold must; split <;> simp [adv, fl]
theorem tkIf_a (c : Bool) (s : PS) : s.a ≤ (tkIf c s).a := by unfold tkIf; split <;> simp [adv]
theorem mText_a (k : Int) (s : PS) : s.a ≤ (mText L k s).2.a := by unfold mText; split <;> simp [adv, fl]
theorem limitM_a (s : PS) : s.a ≤ (limitM L s).2.a := by
 unfold limitM
 split
 ·have := mText_a (L := L) 3 (adv s); rw [adv_a] at this; show s.a ≤ (mText L 3 (adv s)).2.a; omega
 ·exact Nat.le_refl _
variable {f : Nat → PM Expr} {q : PM Query}
end
section
variable {L : List Tok}
def sz1 {α : Type} (f : α → Nat) (x : α) : Nat := f x + 1
theorem sum_cn {α : Type} (f : α → Nat) : ∀ l : List α, l.length + (l.map f).sum = cnL (sz1 f) l
 | [] => rfl
 | x :: r => by
  have := sum_cn f r
  simp only [List.length_cons, List.map_cons, List.sum_cons, cnL, sz1] at *
  omega
theorem szEs_cn (l : List Expr) : szExprs l = cnL (sz1 szExpr) l := by rw [szExprs_eq]; exact sum_cn _ l
theorem szQs_cn (l : List Query) : szQuerys l = cnL (sz1 szQuery) l := by rw [szQuerys_eq]; exact sum_cn _ l
theorem szE_cn (k o : Int) (n : Bool) (v : Val) (ql nm : ByteArray) (ks : List Expr) (ss : List Query) : szExpr (.mk k o n v ql nm ks ss) = v.text.size + ql.size + nm.size + cnL (sz1 szExpr) ks + cnL (sz1 szQuery) ss := by
 rw [szExpr_mk, szEs_cn, szQs_cn]
 show v.text.size + _ = _
 omega
theorem szI_cn (b : Bool) (ql : ByteArray) (e : Expr) (a : ByteArray) : szItem (.mk b ql e a) = ql.size + szExpr e + a.size := by rw [szItem_mk]; omega
theorem szSo_cn (tb a : ByteArray) (on : List Expr) : szSource (.mk tb a on) = tb.size + a.size + cnL (sz1 szExpr) on := by rw [szSource_mk, szEs_cn]; omega
theorem szQ_cn (d : Bool) (it : List Item) (fr : List Source) (wh : List Expr) (od : List SortKey) (li : Int) : szQuery (.mk d it fr wh od li) = cnL (sz1 szItem) it + cnL (sz1 szSource) fr + cnL (sz1 szExpr) wh + cnL (sz1 szSortKey) od := by
 rw [szQuery_mk, szEs_cn, szItems_eq, sum_cn, szSources_eq, sum_cn, szSortKeys_eq, sum_cn]; omega
theorem zb_size : (⟨#[]⟩ : ByteArray).size = 0 := rfl
theorem text40 (h40 : ∀ t ∈ L, t.text.size ≤ 100) (s : PS) : (textAt L s).size ≤ 100 := by
 unfold textAt
 cases h : tkAt L s 0 with
 | none => exact Nat.zero_le _
 | some t =>
  unfold tkAt at h
  split at h
  ·cases h
  ·exact h40 t (List.mem_of_getElem? h)
theorem mText40 (h40 : ∀ t ∈ L, t.text.size ≤ 100) (k : Int) (s : PS) : (mText L k s).1.size ≤ 100 ∧ (mText L k s).1.size + 164 * s.a ≤ 164 * (mText L k s).2.a := by
 have := text40 h40 s
 unfold mText
 split
 ·exact ⟨this, by simp only [adv]; omega⟩
 ·exact ⟨Nat.zero_le _, by show (0 : Nat) + _ ≤ _; simp [fl]⟩
theorem asM40 (h40 : ∀ t ∈ L, t.text.size ≤ 100) (s : PS) : (asM L s).1.size + 164 * s.a ≤ 164 * (asM L s).2.a := by
 unfold asM
 split
 ·have := (mText40 h40 2 (adv s)).2; rw [adv_a] at this; omega
 ·show (0 : Nat) + 164 * s.a ≤ 164 * s.a; omega
theorem source40 (h40 : ∀ t ∈ L, t.text.size ≤ 100) (s : PS) : szSource (sourceM L s).1 + 164 * s.a ≤ 164 * (sourceM L s).2.a := by
 have h1 := (mText40 h40 2 s).2
 have h2 := asM40 h40 (mText L 2 s).2
 unfold sourceM
 rw [szSo_cn]
 simp only [cnL]
 omega
theorem withOn_sz (x : Source) (e : Expr) (h : ∃ a b, x = .mk a b []) : szSource (x.withOn [e]) = szSource x + szExpr e + 1 := by
 obtain ⟨a, b, rfl⟩ := h
 simp only [Source.withOn, szSo_cn, cnL, sz1]
 omega
theorem Wt.up {α : Type} {m : PM α} {w : α → Nat} {c : Nat} (h : Wt m w c) : Wt m (sz1 w) (c + 1) := fun s x s' hx => by
 have := h _ _ _ hx
 show w x + 1 + _ ≤ _
 omega
variable {f : Nat → PM Expr} {q : PM Query}
theorem Wz.chain {g : PM Expr} (hg : Wt g szExpr 8) (lv : Nat) : ∀ (n : Nat) (e : Expr) (s : PS) (x : Expr) (s' : PS), chainM L g lv n e s = some (x, s') → szExpr x + 164 * s.a ≤ szExpr e + 164 * s'.a
 | 0, _, _, _, _, h => by cases h
 | n + 1, e, s, x, s', h => by
  rw [chainM] at h
  split at h
  ·injection h with h; injection h with hx h; subst hx h; exact Nat.le_refl _
  ·split at h
   ·cases h
   ·rename_i y s1 h1
    have a1 := hg _ _ _ h1
    have a2 := Wz.chain hg lv n _ _ _ _ h
    (try simp only [mBin, mUn, mKids, mLit, mCol, zExpr, szE_cn, szI_cn, szSo_cn, szSortKey_mk, szQ_cn, cnL, cnL_app, sz1, adv_a, fl_a, zVal, z0, zb_size] at *); omega
theorem Wz.sep {α : Type} {g : PM α} {w : α → Nat} {c : Nat} (hc : c ≤ 64) (hg : Wt g w c) : ∀ (n : Nat) (l : List α) (s : PS) (x : List α) (s' : PS), sepM L g n l s = some (x, s') → cnL w x + 164 * s.a ≤ cnL w l + 164 * s'.a
 | 0, _, _, _, _, h => by cases h
 | n + 1, l, s, x, s', h => by
  rw [sepM] at h
  split at h
  ·split at h
   ·cases h
   ·rename_i y s1 h1
    have a1 := hg _ _ _ h1
    have a2 := Wz.sep hc hg n _ _ _ _ h
    (try simp only [mBin, mUn, mKids, mLit, mCol, zExpr, szE_cn, szI_cn, szSo_cn, szSortKey_mk, szQ_cn, cnL, cnL_app, sz1, adv_a, fl_a, zVal, z0, zb_size] at *); omega
  ·injection h with h; injection h with hx h; subst hx h; exact Nat.le_refl _
theorem Wz.ors (hf : ∀ lv, Wt (f lv) szExpr 8) : Wt (orsM L f) (cnL (sz1 szExpr)) 9 := fun s x s' h => by
 unfold orsM at h
 split at h
 ·cases h
 ·rename_i y s1 h1
  have a1 := hf 1 _ _ _ h1
  have a2 := Wz.sep (by omega) (Wt.up (hf 1)) _ _ _ _ _ h
  (try simp only [mBin, mUn, mKids, mLit, mCol, zExpr, szE_cn, szI_cn, szSo_cn, szSortKey_mk, szQ_cn, cnL, cnL_app, sz1, adv_a, fl_a, zVal, z0, zb_size] at *); omega
theorem Wz.inn (hf : ∀ lv, Wt (f lv) szExpr 8) (hq : Wt q szQuery 15) (e : Expr) (n : Bool) (s : PS) (x : Expr) (s' : PS) (h : inM L f q e n s = some (x, s')) : szExpr x + 164 * s.a ≤ szExpr e + 40 + 164 * s'.a := by
 unfold inM at h
 simp only at h
 have m1 := must_a (isSg L s 40) s
 split at h
 ·split at h
  ·cases h
  ·rename_i y s1 h1
   injection h with h; injection h with hx h; subst hx h
   have a1 := hq _ _ _ h1
   have m2 := must_a (isSg L s1 41) s1
   (try simp only [mBin, mUn, mKids, mLit, mCol, zExpr, szE_cn, szI_cn, szSo_cn, szSortKey_mk, szQ_cn, cnL, cnL_app, sz1, adv_a, fl_a, zVal, z0, zb_size] at *); omega
 ·split at h
  ·cases h
  ·rename_i y s1 h1
   injection h with h; injection h with hx h; subst hx h
   have a1 := Wz.ors hf _ _ _ h1
   have m2 := must_a (isSg L s1 41) s1
   (try simp only [mBin, mUn, mKids, mLit, mCol, zExpr, szE_cn, szI_cn, szSo_cn, szSortKey_mk, szQ_cn, cnL, cnL_app, sz1, adv_a, fl_a, zVal, z0, zb_size] at *); omega
theorem Wz.cmpT (hf : ∀ lv, Wt (f lv) szExpr 8) (hq : Wt q szQuery 15) (e : Expr) (s : PS) (x : Expr) (s' : PS) (h : cmpT L f q e s = some (x, s')) : szExpr x + 164 * s.a ≤ szExpr e + 164 * s'.a := by
 unfold Go.Proofs.YtabhiapifcanoaaGreatDoor.cmpT at h
 simp only at h
 split at h
 ·injection h with h; injection h with hx h; subst hx h
  have m1 := tkIf_a (isKey L (adv s) 15) (adv s)
  have m2 := must_a (isKey L (tkIf (isKey L (adv s) 15) (adv s)) 20) (tkIf (isKey L (adv s) 15) (adv s))
  (try simp only [mBin, mUn, mKids, mLit, mCol, zExpr, szE_cn, szI_cn, szSo_cn, szSortKey_mk, szQ_cn, cnL, cnL_app, sz1, adv_a, fl_a, zVal, z0, zb_size] at *); omega
 ·have m0 := tkIf_a (isKey L s 15) s
  split at h
  ·split at h
   ·cases h
   ·rename_i y s1 h1
    split at h
    ·cases h
    ·rename_i z s2 h2
     injection h with h; injection h with hx h; subst hx h
     have a1 := hf 5 _ _ _ h1
     have a2 := hf 5 _ _ _ h2
     have m2 := must_a (isKey L s1 13) s1
     (try simp only [mBin, mUn, mKids, mLit, mCol, zExpr, szE_cn, szI_cn, szSo_cn, szSortKey_mk, szQ_cn, cnL, cnL_app, sz1, adv_a, fl_a, zVal, z0, zb_size] at *); omega
  ·split at h
   ·have a1 := Wz.inn hf hq e _ _ _ _ h
    (try simp only [mBin, mUn, mKids, mLit, mCol, zExpr, szE_cn, szI_cn, szSo_cn, szSortKey_mk, szQ_cn, cnL, cnL_app, sz1, adv_a, fl_a, zVal, z0, zb_size] at *); omega
   ·injection h with h; injection h with hx h; subst hx h
    show szExpr e + 164 * s.a ≤ szExpr e + 164 * (tkIf (isKey L s 15) s).a
    omega
theorem Wz.cmp (hf : ∀ lv, Wt (f lv) szExpr 8) (hq : Wt q szQuery 15) : Wt (cmpM L f q) szExpr 8 := fun s x s' h => by
 unfold cmpM at h
 split at h
 ·cases h
 ·rename_i y s1 h1
  have a1 := hf 5 _ _ _ h1
  split at h
  ·have a2 := Wz.cmpT hf hq _ _ _ _ h
   omega
  ·split at h
   ·cases h
   ·rename_i z s2 h2
    injection h with h; injection h with hx h; subst hx h
    have a2 := hf 5 _ _ _ h2
    (try simp only [mBin, mUn, mKids, mLit, mCol, zExpr, szE_cn, szI_cn, szSo_cn, szSortKey_mk, szQ_cn, cnL, cnL_app, sz1, adv_a, fl_a, zVal, z0, zb_size] at *); omega
theorem Wz.prim (h40 : ∀ t ∈ L, t.text.size ≤ 100) (hf : ∀ lv, Wt (f lv) szExpr 8) (hq : Wt q szQuery 15) : Wt (primM L f q) szExpr 8 := fun s x s' h => by
 have x40 := text40 h40 s
 unfold primM at h
 simp only at h
 split at h
 ·injection h with h; injection h with hx h; subst hx h; (try simp only [mBin, mUn, mKids, mLit, mCol, zExpr, szE_cn, szI_cn, szSo_cn, szSortKey_mk, szQ_cn, cnL, cnL_app, sz1, adv_a, fl_a, zVal, z0, zb_size] at *); omega
 split at h
 ·injection h with h; injection h with hx h; subst hx h; (try simp only [mBin, mUn, mKids, mLit, mCol, zExpr, szE_cn, szI_cn, szSo_cn, szSortKey_mk, szQ_cn, cnL, cnL_app, sz1, adv_a, fl_a, zVal, z0, zb_size] at *); omega
 split at h
 ·injection h with h; injection h with hx h; subst hx h; (try simp only [mBin, mUn, mKids, mLit, mCol, zExpr, szE_cn, szI_cn, szSo_cn, szSortKey_mk, szQ_cn, cnL, cnL_app, sz1, adv_a, fl_a, zVal, z0, zb_size] at *); omega
 split at h
 ·injection h with h; injection h with hx h; subst hx h; (try simp only [mBin, mUn, mKids, mLit, mCol, zExpr, szE_cn, szI_cn, szSo_cn, szSortKey_mk, szQ_cn, cnL, cnL_app, sz1, adv_a, fl_a, zVal, z0, zb_size] at *); omega
 split at h
 ·injection h with h; injection h with hx h; subst hx h; (try simp only [mBin, mUn, mKids, mLit, mCol, zExpr, szE_cn, szI_cn, szSo_cn, szSortKey_mk, szQ_cn, cnL, cnL_app, sz1, adv_a, fl_a, zVal, z0, zb_size] at *); omega
 split at h
 ·split at h
  ·injection h with h; injection h with hx h; subst hx h
   have m1 := (mText40 h40 2 (adv (adv s))).2
   (try simp only [mBin, mUn, mKids, mLit, mCol, zExpr, szE_cn, szI_cn, szSo_cn, szSortKey_mk, szQ_cn, cnL, cnL_app, sz1, adv_a, fl_a, zVal, z0, zb_size] at *); omega
  ·injection h with h; injection h with hx h; subst hx h; (try simp only [mBin, mUn, mKids, mLit, mCol, zExpr, szE_cn, szI_cn, szSo_cn, szSortKey_mk, szQ_cn, cnL, cnL_app, sz1, adv_a, fl_a, zVal, z0, zb_size] at *); omega
 split at h
 ·split at h
  ·cases h
  ·rename_i y s1 h1
   injection h with h; injection h with hx h; subst hx h
   have a1 := hf 1 _ _ _ h1
   have m1 := must_a (isSg L s1 41) s1
   (try simp only [mBin, mUn, mKids, mLit, mCol, zExpr, szE_cn, szI_cn, szSo_cn, szSortKey_mk, szQ_cn, cnL, cnL_app, sz1, adv_a, fl_a, zVal, z0, zb_size] at *); omega
 split at h
 ·split at h
  ·cases h
  ·rename_i y s1 h1
   injection h with h; injection h with hx h; subst hx h
   have a1 := hq _ _ _ h1
   have m1 := must_a (isSg L (adv s) 40) (adv s)
   have m2 := must_a (isSg L s1 41) s1
   (try simp only [mBin, mUn, mKids, mLit, mCol, zExpr, szE_cn, szI_cn, szSo_cn, szSortKey_mk, szQ_cn, cnL, cnL_app, sz1, adv_a, fl_a, zVal, z0, zb_size] at *); omega
 ·injection h with h; injection h with hx h; subst hx h; (try simp only [mBin, mUn, mKids, mLit, mCol, zExpr, szE_cn, szI_cn, szSo_cn, szSortKey_mk, szQ_cn, cnL, cnL_app, sz1, adv_a, fl_a, zVal, z0, zb_size] at *); omega
theorem Wz.stepE (h40 : ∀ t ∈ L, t.text.size ≤ 100) (hf : ∀ lv, Wt (f lv) szExpr 8) (hq : Wt q szQuery 15) (lv : Nat) : Wt (stepE L f q lv) szExpr 8 := fun s x s' h => by
 unfold Go.Proofs.YtabhiapifcanoaaGreatDoor.stepE at h
 split at h
 ·split at h
  ·split at h
   ·cases h
   ·rename_i y s1 h1
    injection h with h; injection h with hx h; subst hx h
    have a1 := hf 3 _ _ _ h1
    (try simp only [mBin, mUn, mKids, mLit, mCol, zExpr, szE_cn, szI_cn, szSo_cn, szSortKey_mk, szQ_cn, cnL, cnL_app, sz1, adv_a, fl_a, zVal, z0, zb_size] at *); omega
  ·exact hf 4 _ _ _ h
 split at h
 ·exact Wz.cmp hf hq _ _ _ h
 split at h
 ·split at h
  ·split at h
   ·cases h
   ·rename_i y s1 h1
    injection h with h; injection h with hx h; subst hx h
    have a1 := hf 8 _ _ _ h1
    (try simp only [mBin, mUn, mKids, mLit, mCol, zExpr, szE_cn, szI_cn, szSo_cn, szSortKey_mk, szQ_cn, cnL, cnL_app, sz1, adv_a, fl_a, zVal, z0, zb_size] at *); omega
  ·exact hf 9 _ _ _ h
 split at h
 ·exact Wz.prim h40 hf hq _ _ _ h
 ·split at h
  ·cases h
  ·rename_i y s1 h1
   have a1 := hf _ _ _ _ h1
   have a2 := Wz.chain (hf _) lv _ _ _ _ _ h
   omega
theorem Wz.item (h40 : ∀ t ∈ L, t.text.size ≤ 100) (hf : ∀ lv, Wt (f lv) szExpr 8) : Wt (itemM L f) szItem 11 := fun s x s' h => by
 have x40 := text40 h40 s
 unfold itemM at h
 split at h
 ·injection h with h; injection h with hx h; subst hx h
  (try simp only [mBin, mUn, mKids, mLit, mCol, zExpr, szE_cn, szI_cn, szSo_cn, szSortKey_mk, szQ_cn, cnL, cnL_app, sz1, adv_a, fl_a, zVal, z0, zb_size] at *); omega
 split at h
 ·injection h with h; injection h with hx h; subst hx h
  (try simp only [mBin, mUn, mKids, mLit, mCol, zExpr, szE_cn, szI_cn, szSo_cn, szSortKey_mk, szQ_cn, cnL, cnL_app, sz1, adv_a, fl_a, zVal, z0, zb_size] at *); omega
 split at h
 ·cases h
 ·rename_i y s1' h1
  injection h with h; injection h with hx h; subst hx h
  have a1 := hf 1 _ _ _ h1
  have m1 := asM40 h40 s1'
  rw [szI_cn]
  show (0 : Nat) + _ + _ + _ ≤ _
  omega
theorem Wz.sources (h40 : ∀ t ∈ L, t.text.size ≤ 100) (hf : ∀ lv, Wt (f lv) szExpr 8) : ∀ (n : Nat) (l : List Source) (s : PS) (x : List Source) (s' : PS), sourcesM L f n l s = some (x, s') → cnL (sz1 szSource) x + 164 * s.a ≤ cnL (sz1 szSource) l + 164 * s'.a
 | 0, _, _, _, _, h => by cases h
 | n + 1, l, s, x, s', h => by
  rw [sourcesM] at h
  have m1 := source40 h40 (adv s)
  split at h
  ·have a2 := Wz.sources h40 hf n _ _ _ _ h
   (try simp only [mBin, mUn, mKids, mLit, mCol, zExpr, szE_cn, szI_cn, szSo_cn, szSortKey_mk, szQ_cn, cnL, cnL_app, sz1, adv_a, fl_a, zVal, z0, zb_size] at *); omega
  simp only at h
  split at h
  ·split at h
   ·cases h
   ·rename_i y s1 h1
    have a1 := hf 1 _ _ _ h1
    have m2 := must_a (isKey L (sourceM L (adv s)).2 5) (sourceM L (adv s)).2
    have a2 := Wz.sources h40 hf n _ _ _ _ h
    have w2 := withOn_sz (sourceM L (adv s)).1 y ⟨_, _, rfl⟩
    (try simp only [mBin, mUn, mKids, mLit, mCol, zExpr, szE_cn, szI_cn, szSo_cn, szSortKey_mk, szQ_cn, cnL, cnL_app, sz1, adv_a, fl_a, zVal, z0, zb_size] at *); omega
  ·injection h with h; injection h with hx h; subst hx h; exact Nat.le_refl _
theorem Wz.wher (hf : ∀ lv, Wt (f lv) szExpr 8) : Wt (whereM L f) (cnL (sz1 szExpr)) 0 := fun s x s' h => by
 unfold whereM at h
 split at h
 ·split at h
  ·cases h
  ·rename_i y s1 h1
   injection h with h; injection h with hx h; subst hx h
   have a1 := hf 1 _ _ _ h1
   (try simp only [mBin, mUn, mKids, mLit, mCol, zExpr, szE_cn, szI_cn, szSo_cn, szSortKey_mk, szQ_cn, cnL, cnL_app, sz1, adv_a, fl_a, zVal, z0, zb_size] at *); omega
 ·injection h with h; injection h with hx h; subst hx h; (try simp only [mBin, mUn, mKids, mLit, mCol, zExpr, szE_cn, szI_cn, szSo_cn, szSortKey_mk, szQ_cn, cnL, cnL_app, sz1, adv_a, fl_a, zVal, z0, zb_size] at *); omega
theorem szSort_eq (e : Expr) (d : Bool) : szSortKey (.mk e d) = szExpr e := szSortKey_mk e d
theorem Wz.sort (hf : ∀ lv, Wt (f lv) szExpr 8) : Wt (sortM L f) szSortKey 9 := fun s x s' h => by
 unfold sortM at h
 split at h
 ·cases h
 ·rename_i y s1 h1
  have a1 := hf 1 _ _ _ h1
  split at h
  ·injection h with h; injection h with hx h; subst hx h
   rw [szSort_eq, adv_a]
   omega
  ·injection h with h; injection h with hx h; subst hx h
   have m1 := tkIf_a (isKey L s1 10) s1
   rw [szSort_eq]
   omega
theorem Wz.order (hf : ∀ lv, Wt (f lv) szExpr 8) : Wt (orderM L f) (cnL (sz1 szSortKey)) 0 := fun s x s' h => by
 unfold orderM at h
 simp only at h
 split at h
 ·split at h
  ·cases h
  ·rename_i y s1 h1
   have m1 := must_a (isKey L (adv s) 8) (adv s)
   have a1 := Wz.sort hf _ _ _ h1
   have a2 := Wz.sep (by omega) (Wt.up (Wz.sort hf)) _ _ _ _ _ h
   (try simp only [mBin, mUn, mKids, mLit, mCol, zExpr, szE_cn, szI_cn, szSo_cn, szSortKey_mk, szQ_cn, cnL, cnL_app, sz1, adv_a, fl_a, zVal, z0, zb_size] at *); omega
 ·injection h with h; injection h with hx h; subst hx h; (try simp only [mBin, mUn, mKids, mLit, mCol, zExpr, szE_cn, szI_cn, szSo_cn, szSortKey_mk, szQ_cn, cnL, cnL_app, sz1, adv_a, fl_a, zVal, z0, zb_size] at *); omega
theorem Wz.items (h40 : ∀ t ∈ L, t.text.size ≤ 100) (hf : ∀ lv, Wt (f lv) szExpr 8) : Wt (itemsM L f) (cnL (sz1 szItem)) 12 := fun s x s' h => by
 unfold itemsM at h
 split at h
 ·cases h
 ·rename_i y s1 h1
  have a1 := Wz.item h40 hf _ _ _ h1
  have a2 := Wz.sep (by omega) (Wt.up (Wz.item h40 hf)) _ _ _ _ _ h
  (try simp only [mBin, mUn, mKids, mLit, mCol, zExpr, szE_cn, szI_cn, szSo_cn, szSortKey_mk, szQ_cn, cnL, cnL_app, sz1, adv_a, fl_a, zVal, z0, zb_size] at *); omega
theorem Wz.stepQ (h40 : ∀ t ∈ L, t.text.size ≤ 100) (hf : ∀ lv, Wt (f lv) szExpr 8) : Wt (stepQ L f) szQuery 15 := fun s x s' h => by
 unfold Go.Proofs.YtabhiapifcanoaaGreatDoor.stepQ at h
 simp only at h
 split at h
 ·cases h
 rename_i its s2 h1
 split at h
 ·cases h
 rename_i frs s4 h2
 split at h
 ·cases h
 rename_i wh s5 h3
 split at h
 ·cases h
 rename_i od s6 h4
 injection h with h; injection h with hx h; subst hx h
 have m1 := must_a (isKey L s 1) s
 have m2 := tkIf_a (isKey L (must (isKey L s 1) s) 2) (must (isKey L s 1) s)
 have a1 := Wz.items h40 hf _ _ _ h1
 have m3 := must_a (isKey L s2 3) s2
 have m4 := source40 h40 (must (isKey L s2 3) s2)
 have a2 := Wz.sources h40 hf _ _ _ _ _ h2
 have a3 := Wz.wher hf _ _ _ h3
 have a4 := Wz.order hf _ _ _ h4
 have m5 := limitM_a (L := L) s6
 (try simp only [mBin, mUn, mKids, mLit, mCol, zExpr, szE_cn, szI_cn, szSo_cn, szSortKey_mk, szQ_cn, cnL, cnL_app, sz1, adv_a, fl_a, zVal, z0, zb_size] at *); omega
theorem pP_wz (h40 : ∀ t ∈ L, t.text.size ≤ 100) : ∀ k, (∀ lv, Wt ((pP L k).1 lv) szExpr 8) ∧ Wt (pP L k).2 szQuery 15
 | 0 => ⟨fun _ _ _ _ h => (by cases h), fun _ _ _ h => (by cases h)⟩
 | k + 1 => ⟨fun lv => Wz.stepE h40 (pP_wz h40 k).1 (pP_wz h40 k).2 lv, Wz.stepQ h40 (pP_wz h40 k).1⟩
theorem takeE_sz (h40 : ∀ t ∈ L, t.text.size ≤ 100) (hL : L.length ≤ 2000) : szExpr (takeE L).1 ≤ 400000 := by
 have hz : szExpr zExpr ≤ 400000 := by rw [zExpr, szE_cn]; exact (by decide : 0 + 0 + 0 + 0 + 0 ≤ 400000)
 unfold takeE
 cases h : pExpr L 1 s0 with
 | none => exact hz
 | some p =>
  obtain ⟨x, s⟩ := p
  have h1 := (pP_wz h40 (pD L)).1 1 _ _ _ h
  have h2 := (pExpr_ok (L := L) 1 _ _ _ h).2.1 (Nat.zero_le _)
  unfold takeM
  simp only
  split
  ·exact hz
  ·show szExpr x ≤ _
   omega
end
end Go.Proofs.YtabhiapifcanoaaGreatDoor
