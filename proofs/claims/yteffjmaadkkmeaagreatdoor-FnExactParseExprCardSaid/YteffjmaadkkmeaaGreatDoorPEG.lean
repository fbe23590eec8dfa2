/-
  Marks, and what holds them.
  Conditions: none.
-/
import Derived.Test.YteffjmaadkkmeaaGreatDoorPEB
set_option linter.unusedVariables false
set_option linter.unusedSimpArgs false
set_option linter.unusedSectionVars false
set_option maxRecDepth 8000
namespace Go.Proofs.YteffjmaadkkmeaaGreatDoor
open Go Go.Dv
open Go.Vc (D shrI xorI andI and255)
open Go.Cv
open Go.Vc (CellF ValsF callable)
def mtLoop : Nat → Int → ByteArray → ByteArray
 | 0, _, s => s
 | n + 1, k, s => if 0 < k then mtLoop n (k.tdiv 10) (⟨#[UInt8.ofNat (48 + k.tmod 10).toNat]⟩ ++ s) else s
def mtext (k : Int) : ByteArray := if k ≤ 0 then ⟨#[109, 48]⟩ else ⟨#[109]⟩ ++ mtLoop k.toNat k ⟨#[]⟩
theorem mtLoop_size : ∀ (n : Nat) (k : Int) (s : ByteArray), 0 ≤ k → ((mtLoop n k s).size : Int) ≤ s.size + k
 | 0, k, s, h => by simp [mtLoop]; omega
 | n + 1, k, s, h => by
  rw [mtLoop]
  split
  ·rename_i hk
   have hq0 : 0 ≤ k.tdiv 10 := Int.tdiv_nonneg h (by decide)
   have hq1 : k.tdiv 10 < k := by rw [Int.tdiv_eq_ediv_of_nonneg h]; omega
   have := mtLoop_size n (k.tdiv 10) (⟨#[UInt8.ofNat (48 + k.tmod 10).toNat]⟩ ++ s) hq0
   have hz : (⟨#[UInt8.ofNat (48 + k.tmod 10).toNat]⟩ : ByteArray).size = 1 := rfl
   rw [ByteArray.size_append, hz] at this
   omega
  ·omega
theorem mtext_ok {k : Int} (h1 : k ≤ 4611686018427387904) : Go.Vc.okV (.string (mtext k)) := by
 show (mtext k).size ≤ 9223372036854775807
 rw [mtext]
 split
 ·exact (by decide : (⟨#[109, 48]⟩ : ByteArray).size ≤ 9223372036854775807)
 ·have := mtLoop_size k.toNat k ⟨#[]⟩ (by omega)
  have hz : (⟨#[109]⟩ : ByteArray).size = 1 := rfl
  have hz0 : (⟨#[]⟩ : ByteArray).size = 0 := rfl
  rw [ByteArray.size_append, hz]
  omega
theorem markText_d (k : Int) (h1 : k ≤ 4611686018427387904) : Cl Tryz.prog 48 [vi k] [] fun r _ => r = vs (mtext k) := by
 refine cl_of_d follows_mixed false Tryz.func48 rfl (by kernel_rfl) ?_
 simp only [Tryz.f48, tt, seval]
 refine And.intro (fun h => ?_) (fun h => ?_)
 ·exact ⟨_, _, vsE (by rw [mtext, if_pos h]), end0 rfl⟩
 ·refine dLoop.intro (fun f L p => ∃ (j : Int) (s : ByteArray) (N : Nat), f 0 = vi j ∧ f 3 = vs s ∧ 0 ≤ j ∧ j ≤ N ∧ s.size + j ≤ k ∧ mtLoop N j s = mtLoop k.toNat k ⟨#[]⟩ ∧ L = [] ∧ p = none) (fun f _ _ => (ixS (f 0)).toNat) [] none ⟨SubO.nil _, PoSub.none _, ?_⟩ ?_
  ·simp only [tt, seval]
   refine ⟨k, ⟨#[]⟩, k.toNat, rfl, rfl, by omega, by omega, ?_, rfl⟩
   show ((0 : Nat) : Int) + k ≤ k
   omega
  ·rintro g L p ⟨j, s, N, h0, h3, hj, hN, hsz, heq, rfl, rfl⟩
   simp only [tt, seval] at h0 h3
   simp only [tt, seval, h0, h3]
   refine And.intro (fun hlt => ?_) (fun hge => ?_)
   ·have hr0 : 0 ≤ j.tmod 10 := Int.tmod_nonneg _ hj
    have hr1 : j.tmod 10 < 10 := Int.tmod_lt_of_pos _ (by decide)
    have hval : IntKind.u8.wrap (IntKind.i64.wrap (48 + j.tmod 10)) = ((UInt8.ofNat (48 + j.tmod 10).toNat).toNat : Int) := by
     rw [wrap_id (by omega) (by omega), IntWalk.u8_in _ (by omega), UInt8.toNat_ofNat']; omega
    refine ⟨by kernel_rfl, by decide, [UInt8.ofNat (48 + j.tmod 10).toNat], rfl, by rw [hval]; rfl, ?_⟩
    simp only [tt, seval, h0, h3]
    have hz : (⟨#[UInt8.ofNat (48 + j.tmod 10).toNat]⟩ : ByteArray).size = 1 := rfl
    have hz' : (⟨[UInt8.ofNat (48 + j.tmod 10).toNat].toArray⟩ : ByteArray).size = 1 := rfl
    rw [pu_sadd (by rw [hz']; omega)]
    simp only [tt, seval, h0, h3]
    have hq0 : 0 ≤ j.tdiv 10 := Int.tdiv_nonneg hj (by decide)
    have hq1 : j.tdiv 10 < j := by rw [Int.tdiv_eq_ediv_of_nonneg hj]; omega
    rw [wrap_id (n := j.tdiv 10) (by omega) (by omega)]
    have hsz2 : ((⟨#[UInt8.ofNat (48 + j.tmod 10).toNat]⟩ : ByteArray) ++ s).size = 1 + s.size := by rw [ByteArray.size_append, hz]
    cases N with
    | zero => exact absurd hlt (by omega)
    | succ N =>
    rw [mtLoop, if_pos hlt] at heq
    exact ⟨[], none, SubO.nil _, PoSub.none _, ⟨_, _, N, rfl, rfl, hq0, by omega, by rw [hsz2]; omega, heq, rfl, rfl⟩, by simp only [ixS]; omega⟩
   ·have : j = 0 := by omega
    subst this
    have heq' : s = mtLoop k.toNat k ⟨#[]⟩ := by rw [← heq]; cases N <;> simp [mtLoop]
    have hz : (⟨#[109]⟩ : ByteArray).size = 1 := rfl
    rw [pu_sadd (by rw [hz]; omega)]
    simp only [tt, seval, h0, h3]
    exact ⟨_, _, vsE (by rw [mtext, if_neg h, heq']), end0 rfl⟩
theorem markText_c (k : Int) (w : World) (hg : GlW w (fun _ => False)) (h1 : k ≤ 4611686018427387904) : callable Tryz.prog 48 = true ∧ Calls Tryz.prog 48 #[.int .i64 k] w fun e w' => ∃ v, e = .returned v ∧ v = .string (mtext k) ∧ Gr w w' := by
 obtain ⟨h0, h⟩ := Go.Cv.Cl.at (markText_d k h1) rfl (vs := [.int .i64 k]) (w := w) ⟨⟨rfl, trivial⟩, trivial⟩ hg
 refine ⟨h0, h.mono ?_⟩
 rintro e w' ⟨v, he, r, rfl, hgr, hres⟩
 exact ⟨v, he, hres.val, hgr⟩
section
variable {α : Type} (f : Int → α → α) (c : α → Nat)
def cnL : List α → Nat
 | [] => 0
 | e :: es => c e + cnL es
def mkL : Int → List α → List α
 | _, [] => []
 | k, e :: es => f k e :: mkL (k + c e) es
theorem cnL_app : ∀ (es fs : List α), cnL c (es ++ fs) = cnL c es + cnL c fs
 | [], fs => by simp [cnL]
 | e :: es, fs => by simp [cnL, cnL_app es fs]; omega
theorem mkL_len : ∀ (k : Int) (es : List α), (mkL f c k es).length = es.length
 | _, [] => rfl
 | k, e :: es => by simp [mkL, mkL_len (k + c e) es]
theorem mkL_snoc : ∀ (k : Int) (es : List α) (e : α), mkL f c k (es ++ [e]) = mkL f c k es ++ [f (k + cnL c es) e]
 | k, [], e => by simp [mkL, cnL]
 | k, x :: es, e => by simp [mkL, cnL, mkL_snoc (k + c x) es e]; congr 1; omega
theorem cnL_take_le (es : List α) (i : Nat) : cnL c (es.take i) ≤ cnL c es := by
 have := cnL_app c (es.take i) (es.drop i)
 rw [List.take_append_drop] at this; omega
theorem cnL_take_succ (es : List α) (i : Nat) (h : i < es.length) : cnL c (es.take (i + 1)) = cnL c (es.take i) + c es[i] := by
 rw [List.take_add_one, List.getElem?_eq_getElem h, cnL_app]; simp [cnL]
theorem mkL_take_succ (k : Int) (es : List α) (i : Nat) (h : i < es.length) : mkL f c k (es.take (i + 1)) = mkL f c k (es.take i) ++ [f (k + cnL c (es.take i)) es[i]] := by
 rw [List.take_add_one, List.getElem?_eq_getElem h]; exact mkL_snoc f c _ _ _
theorem mkL_get : ∀ (k : Int) (es : List α) (i : Nat) (h : i < es.length), (mkL f c k es)[i]? = some (f (k + cnL c (es.take i)) es[i])
 | _, [], i, h => by simp at h
 | k, e :: es, 0, h => by simp [mkL, cnL]
 | k, e :: es, i + 1, h => by
  simp only [mkL, List.getElem?_cons_succ, List.take_succ_cons, cnL, List.getElem_cons_succ]
  rw [mkL_get (k + c e) es i (by simpa using h)]
  congr 2; omega
end
def MkC {α : Type} (fn : FuncId) (row : α → List D) (f : Int → α → α) (c : α → Nat) (es : List α) : Prop :=
 ∀ (w : World) (k : Int) (v : Value) (F : List Nat), CellF w (.sl es.length (es.flatMap row)) v F → F.Nodup → OwnL w F → GlW w (fun _ => False) → (∀ t ∈ libVars, t.1 ∉ F) → 0 ≤ k → k + cnL c es ≤ 4611686018427387904 →
  callable Tryz.prog fn = true ∧ Calls Tryz.prog fn #[v, .int .i64 k] w fun e w' => ∃ r, e = .returned r ∧ r = .int .i64 (k + cnL c es) ∧ CellF w' (.sl es.length ((mkL f c k es).flatMap row)) v F ∧ OwnL w' F ∧ ChL F w w'
mutual
def cnExpr : Expr → Nat
 | .mk kind op not val qual name kids sub => 8 + cnExprs kids + cnQuerys sub
def cnItem : Item → Nat
 | .mk star qual (.mk e_kind e_op e_not e_val e_qual e_name e_kids e_sub) as_ => 11 + cnExprs e_kids + cnQuerys e_sub
def cnSource : Source → Nat
 | .mk table as_ on => 2 + cnExprs on
def cnSortKey : SortKey → Nat
 | .mk (.mk e_kind e_op e_not e_val e_qual e_name e_kids e_sub) desc => 9 + cnExprs e_kids + cnQuerys e_sub
def cnQuery : Query → Nat
 | .mk distinct items from_ where_ order limit => 2 + cnItems items + cnSources from_ + cnExprs where_ + cnSortKeys order
def cnExprs : List Expr → Nat
 | [] => 0
 | e :: es => cnExpr e + cnExprs es
def cnItems : List Item → Nat
 | [] => 0
 | e :: es => cnItem e + cnItems es
def cnQuerys : List Query → Nat
 | [] => 0
 | e :: es => cnQuery e + cnQuerys es
def cnSortKeys : List SortKey → Nat
 | [] => 0
 | e :: es => cnSortKey e + cnSortKeys es
def cnSources : List Source → Nat
 | [] => 0
 | e :: es => cnSource e + cnSources es
end
theorem cnExprs_eq : ∀ es, cnExprs es = cnL cnExpr es
 | [] => by simp [cnExprs, cnL]
 | e :: es => by simp [cnExprs, cnL, cnExprs_eq es]
theorem cnItems_eq : ∀ es, cnItems es = cnL cnItem es
 | [] => by simp [cnItems, cnL]
 | e :: es => by simp [cnItems, cnL, cnItems_eq es]
theorem cnQuerys_eq : ∀ es, cnQuerys es = cnL cnQuery es
 | [] => by simp [cnQuerys, cnL]
 | e :: es => by simp [cnQuerys, cnL, cnQuerys_eq es]
theorem cnSortKeys_eq : ∀ es, cnSortKeys es = cnL cnSortKey es
 | [] => by simp [cnSortKeys, cnL]
 | e :: es => by simp [cnSortKeys, cnL, cnSortKeys_eq es]
theorem cnSources_eq : ∀ es, cnSources es = cnL cnSource es
 | [] => by simp [cnSources, cnL]
 | e :: es => by simp [cnSources, cnL, cnSources_eq es]
mutual
def mkExpr : Int → Expr → Expr
 | q, .mk kind op not val qual name kids sub => .mk (q) (q + 1) (decide ((q + 1 + 1).tmod 3 = 0)) ⟨q + 1 + 1 + 1, q + 1 + 1 + 1 + 1, mtext (q + 1 + 1 + 1 + 1 + 1)⟩ (mtext (q + 1 + 1 + 1 + 1 + 1 + 1)) (mtext (q + 1 + 1 + 1 + 1 + 1 + 1 + 1)) (mkExprs (q + 1 + 1 + 1 + 1 + 1 + 1 + 1 + 1) kids) (mkQuerys (q + 1 + 1 + 1 + 1 + 1 + 1 + 1 + 1 + (cnExprs kids : Int)) sub)
def mkItem : Int → Item → Item
 | q, .mk star qual (.mk e_kind e_op e_not e_val e_qual e_name e_kids e_sub) as_ => .mk (decide ((q).tmod 3 = 0)) (mtext (q + 1)) (.mk (q + 1 + 1) (q + 1 + 1 + 1) (decide ((q + 1 + 1 + 1 + 1).tmod 3 = 0)) ⟨q + 1 + 1 + 1 + 1 + 1, q + 1 + 1 + 1 + 1 + 1 + 1, mtext (q + 1 + 1 + 1 + 1 + 1 + 1 + 1)⟩ (mtext (q + 1 + 1 + 1 + 1 + 1 + 1 + 1 + 1)) (mtext (q + 1 + 1 + 1 + 1 + 1 + 1 + 1 + 1 + 1)) (mkExprs (q + 1 + 1 + 1 + 1 + 1 + 1 + 1 + 1 + 1 + 1) e_kids) (mkQuerys (q + 1 + 1 + 1 + 1 + 1 + 1 + 1 + 1 + 1 + 1 + (cnExprs e_kids : Int)) e_sub)) (mtext (q + 1 + 1 + 1 + 1 + 1 + 1 + 1 + 1 + 1 + 1 + (cnExprs e_kids : Int) + (cnQuerys e_sub : Int)))
def mkSource : Int → Source → Source
 | q, .mk table as_ on => .mk (mtext (q)) (mtext (q + 1)) (mkExprs (q + 1 + 1) on)
def mkSortKey : Int → SortKey → SortKey
 | q, .mk (.mk e_kind e_op e_not e_val e_qual e_name e_kids e_sub) desc => .mk (.mk (q) (q + 1) (decide ((q + 1 + 1).tmod 3 = 0)) ⟨q + 1 + 1 + 1, q + 1 + 1 + 1 + 1, mtext (q + 1 + 1 + 1 + 1 + 1)⟩ (mtext (q + 1 + 1 + 1 + 1 + 1 + 1)) (mtext (q + 1 + 1 + 1 + 1 + 1 + 1 + 1)) (mkExprs (q + 1 + 1 + 1 + 1 + 1 + 1 + 1 + 1) e_kids) (mkQuerys (q + 1 + 1 + 1 + 1 + 1 + 1 + 1 + 1 + (cnExprs e_kids : Int)) e_sub)) (decide ((q + 1 + 1 + 1 + 1 + 1 + 1 + 1 + 1 + (cnExprs e_kids : Int) + (cnQuerys e_sub : Int)).tmod 3 = 0))
def mkQuery : Int → Query → Query
 | q, .mk distinct items from_ where_ order limit => .mk (decide ((q).tmod 3 = 0)) (mkItems (q + 1) items) (mkSources (q + 1 + (cnItems items : Int)) from_) (mkExprs (q + 1 + (cnItems items : Int) + (cnSources from_ : Int)) where_) (mkSortKeys (q + 1 + (cnItems items : Int) + (cnSources from_ : Int) + (cnExprs where_ : Int)) order) (q + 1 + (cnItems items : Int) + (cnSources from_ : Int) + (cnExprs where_ : Int) + (cnSortKeys order : Int))
def mkExprs : Int → List Expr → List Expr
 | _, [] => []
 | q, e :: es => mkExpr q e :: mkExprs (q + cnExpr e) es
def mkItems : Int → List Item → List Item
 | _, [] => []
 | q, e :: es => mkItem q e :: mkItems (q + cnItem e) es
def mkQuerys : Int → List Query → List Query
 | _, [] => []
 | q, e :: es => mkQuery q e :: mkQuerys (q + cnQuery e) es
def mkSortKeys : Int → List SortKey → List SortKey
 | _, [] => []
 | q, e :: es => mkSortKey q e :: mkSortKeys (q + cnSortKey e) es
def mkSources : Int → List Source → List Source
 | _, [] => []
 | q, e :: es => mkSource q e :: mkSources (q + cnSource e) es
end
theorem mkExprs_eq : ∀ q es, mkExprs q es = mkL mkExpr cnExpr q es
 | q, [] => by simp [mkExprs, mkL]
 | q, e :: es => by simp [mkExprs, mkL, mkExprs_eq _ es]
theorem mkItems_eq : ∀ q es, mkItems q es = mkL mkItem cnItem q es
 | q, [] => by simp [mkItems, mkL]
 | q, e :: es => by simp [mkItems, mkL, mkItems_eq _ es]
theorem mkQuerys_eq : ∀ q es, mkQuerys q es = mkL mkQuery cnQuery q es
 | q, [] => by simp [mkQuerys, mkL]
 | q, e :: es => by simp [mkQuerys, mkL, mkQuerys_eq _ es]
theorem mkSortKeys_eq : ∀ q es, mkSortKeys q es = mkL mkSortKey cnSortKey q es
 | q, [] => by simp [mkSortKeys, mkL]
 | q, e :: es => by simp [mkSortKeys, mkL, mkSortKeys_eq _ es]
theorem mkSources_eq : ∀ q es, mkSources q es = mkL mkSource cnSource q es
 | q, [] => by simp [mkSources, mkL]
 | q, e :: es => by simp [mkSources, mkL, mkSources_eq _ es]
theorem cnExpr_mk (kind : Int) (op : Int) (not : Bool) (val : Val) (qual : ByteArray) (name : ByteArray) (kids : List Expr) (sub : List Query) : cnExpr (.mk kind op not val qual name kids sub) = 8 + cnL cnExpr kids + cnL cnQuery sub := by simp only [cnExpr, cnExprs_eq, cnItems_eq, cnQuerys_eq, cnSortKeys_eq, cnSources_eq, mkExprs_eq, mkItems_eq, mkQuerys_eq, mkSortKeys_eq, mkSources_eq]
theorem mkExpr_mk (q : Int) (kind : Int) (op : Int) (not : Bool) (val : Val) (qual : ByteArray) (name : ByteArray) (kids : List Expr) (sub : List Query) : mkExpr q (.mk kind op not val qual name kids sub) = .mk (q) (q + 1) (decide ((q + 1 + 1).tmod 3 = 0)) ⟨q + 1 + 1 + 1, q + 1 + 1 + 1 + 1, mtext (q + 1 + 1 + 1 + 1 + 1)⟩ (mtext (q + 1 + 1 + 1 + 1 + 1 + 1)) (mtext (q + 1 + 1 + 1 + 1 + 1 + 1 + 1)) (mkL mkExpr cnExpr (q + 1 + 1 + 1 + 1 + 1 + 1 + 1 + 1) kids) (mkL mkQuery cnQuery (q + 1 + 1 + 1 + 1 + 1 + 1 + 1 + 1 + (cnL cnExpr kids : Int)) sub) := by simp only [mkExpr, cnExprs_eq, cnItems_eq, cnQuerys_eq, cnSortKeys_eq, cnSources_eq, mkExprs_eq, mkItems_eq, mkQuerys_eq, mkSortKeys_eq, mkSources_eq]
theorem cnItem_mk (star : Bool) (qual : ByteArray) (e_kind : Int) (e_op : Int) (e_not : Bool) (e_val : Val) (e_qual : ByteArray) (e_name : ByteArray) (e_kids : List Expr) (e_sub : List Query) (as_ : ByteArray) : cnItem (.mk star qual (.mk e_kind e_op e_not e_val e_qual e_name e_kids e_sub) as_) = 11 + cnL cnExpr e_kids + cnL cnQuery e_sub := by simp only [cnItem, cnExprs_eq, cnItems_eq, cnQuerys_eq, cnSortKeys_eq, cnSources_eq, mkExprs_eq, mkItems_eq, mkQuerys_eq, mkSortKeys_eq, mkSources_eq]
theorem mkItem_mk (q : Int) (star : Bool) (qual : ByteArray) (e_kind : Int) (e_op : Int) (e_not : Bool) (e_val : Val) (e_qual : ByteArray) (e_name : ByteArray) (e_kids : List Expr) (e_sub : List Query) (as_ : ByteArray) : mkItem q (.mk star qual (.mk e_kind e_op e_not e_val e_qual e_name e_kids e_sub) as_) = .mk (decide ((q).tmod 3 = 0)) (mtext (q + 1)) (.mk (q + 1 + 1) (q + 1 + 1 + 1) (decide ((q + 1 + 1 + 1 + 1).tmod 3 = 0)) ⟨q + 1 + 1 + 1 + 1 + 1, q + 1 + 1 + 1 + 1 + 1 + 1, mtext (q + 1 + 1 + 1 + 1 + 1 + 1 + 1)⟩ (mtext (q + 1 + 1 + 1 + 1 + 1 + 1 + 1 + 1)) (mtext (q + 1 + 1 + 1 + 1 + 1 + 1 + 1 + 1 + 1)) (mkL mkExpr cnExpr (q + 1 + 1 + 1 + 1 + 1 + 1 + 1 + 1 + 1 + 1) e_kids) (mkL mkQuery cnQuery (q + 1 + 1 + 1 + 1 + 1 + 1 + 1 + 1 + 1 + 1 + (cnL cnExpr e_kids : Int)) e_sub)) (mtext (q + 1 + 1 + 1 + 1 + 1 + 1 + 1 + 1 + 1 + 1 + (cnL cnExpr e_kids : Int) + (cnL cnQuery e_sub : Int))) := by simp only [mkItem, cnExprs_eq, cnItems_eq, cnQuerys_eq, cnSortKeys_eq, cnSources_eq, mkExprs_eq, mkItems_eq, mkQuerys_eq, mkSortKeys_eq, mkSources_eq]
theorem cnSource_mk (table : ByteArray) (as_ : ByteArray) (on : List Expr) : cnSource (.mk table as_ on) = 2 + cnL cnExpr on := by simp only [cnSource, cnExprs_eq, cnItems_eq, cnQuerys_eq, cnSortKeys_eq, cnSources_eq, mkExprs_eq, mkItems_eq, mkQuerys_eq, mkSortKeys_eq, mkSources_eq]
theorem mkSource_mk (q : Int) (table : ByteArray) (as_ : ByteArray) (on : List Expr) : mkSource q (.mk table as_ on) = .mk (mtext (q)) (mtext (q + 1)) (mkL mkExpr cnExpr (q + 1 + 1) on) := by simp only [mkSource, cnExprs_eq, cnItems_eq, cnQuerys_eq, cnSortKeys_eq, cnSources_eq, mkExprs_eq, mkItems_eq, mkQuerys_eq, mkSortKeys_eq, mkSources_eq]
theorem cnSortKey_mk (e_kind : Int) (e_op : Int) (e_not : Bool) (e_val : Val) (e_qual : ByteArray) (e_name : ByteArray) (e_kids : List Expr) (e_sub : List Query) (desc : Bool) : cnSortKey (.mk (.mk e_kind e_op e_not e_val e_qual e_name e_kids e_sub) desc) = 9 + cnL cnExpr e_kids + cnL cnQuery e_sub := by simp only [cnSortKey, cnExprs_eq, cnItems_eq, cnQuerys_eq, cnSortKeys_eq, cnSources_eq, mkExprs_eq, mkItems_eq, mkQuerys_eq, mkSortKeys_eq, mkSources_eq]
theorem mkSortKey_mk (q : Int) (e_kind : Int) (e_op : Int) (e_not : Bool) (e_val : Val) (e_qual : ByteArray) (e_name : ByteArray) (e_kids : List Expr) (e_sub : List Query) (desc : Bool) : mkSortKey q (.mk (.mk e_kind e_op e_not e_val e_qual e_name e_kids e_sub) desc) = .mk (.mk (q) (q + 1) (decide ((q + 1 + 1).tmod 3 = 0)) ⟨q + 1 + 1 + 1, q + 1 + 1 + 1 + 1, mtext (q + 1 + 1 + 1 + 1 + 1)⟩ (mtext (q + 1 + 1 + 1 + 1 + 1 + 1)) (mtext (q + 1 + 1 + 1 + 1 + 1 + 1 + 1)) (mkL mkExpr cnExpr (q + 1 + 1 + 1 + 1 + 1 + 1 + 1 + 1) e_kids) (mkL mkQuery cnQuery (q + 1 + 1 + 1 + 1 + 1 + 1 + 1 + 1 + (cnL cnExpr e_kids : Int)) e_sub)) (decide ((q + 1 + 1 + 1 + 1 + 1 + 1 + 1 + 1 + (cnL cnExpr e_kids : Int) + (cnL cnQuery e_sub : Int)).tmod 3 = 0)) := by simp only [mkSortKey, cnExprs_eq, cnItems_eq, cnQuerys_eq, cnSortKeys_eq, cnSources_eq, mkExprs_eq, mkItems_eq, mkQuerys_eq, mkSortKeys_eq, mkSources_eq]
theorem cnQuery_mk (distinct : Bool) (items : List Item) (from_ : List Source) (where_ : List Expr) (order : List SortKey) (limit : Int) : cnQuery (.mk distinct items from_ where_ order limit) = 2 + cnL cnItem items + cnL cnSource from_ + cnL cnExpr where_ + cnL cnSortKey order := by simp only [cnQuery, cnExprs_eq, cnItems_eq, cnQuerys_eq, cnSortKeys_eq, cnSources_eq, mkExprs_eq, mkItems_eq, mkQuerys_eq, mkSortKeys_eq, mkSources_eq]
theorem mkQuery_mk (q : Int) (distinct : Bool) (items : List Item) (from_ : List Source) (where_ : List Expr) (order : List SortKey) (limit : Int) : mkQuery q (.mk distinct items from_ where_ order limit) = .mk (decide ((q).tmod 3 = 0)) (mkL mkItem cnItem (q + 1) items) (mkL mkSource cnSource (q + 1 + (cnL cnItem items : Int)) from_) (mkL mkExpr cnExpr (q + 1 + (cnL cnItem items : Int) + (cnL cnSource from_ : Int)) where_) (mkL mkSortKey cnSortKey (q + 1 + (cnL cnItem items : Int) + (cnL cnSource from_ : Int) + (cnL cnExpr where_ : Int)) order) (q + 1 + (cnL cnItem items : Int) + (cnL cnSource from_ : Int) + (cnL cnExpr where_ : Int) + (cnL cnSortKey order : Int)) := by simp only [mkQuery, cnExprs_eq, cnItems_eq, cnQuerys_eq, cnSortKeys_eq, cnSources_eq, mkExprs_eq, mkItems_eq, mkQuerys_eq, mkSortKeys_eq, mkSources_eq]
def MkExpr : Expr → Prop
 | .mk _ _ _ _ _ _ kids sub => MkC 49 Expr.row mkExpr cnExpr kids ∧ MkC 50 Query.row mkQuery cnQuery sub
def MkItem : Item → Prop
 | .mk _ _ e _ => MkExpr e
def MkSource : Source → Prop
 | .mk _ _ on => MkC 49 Expr.row mkExpr cnExpr on
def MkSortKey : SortKey → Prop
 | .mk e _ => MkExpr e
def MkQuery : Query → Prop
 | .mk _ items from_ where_ order _ => MkC 58 Item.row mkItem cnItem items ∧ MkC 59 Source.row mkSource cnSource from_ ∧ MkC 49 Expr.row mkExpr cnExpr where_ ∧ MkC 60 SortKey.row mkSortKey cnSortKey order
set_option maxHeartbeats 8000000 in
theorem markExprs_step (es : List Expr) (hx : ∀ e ∈ es, MkExpr e) : MkC 49 Expr.row mkExpr cnExpr es := by
 intro w k v F h hn ho hg hlib h0 h1
 obtain ⟨a, cap, rfl, hcap, hmax, hz⟩ := h.slice
 have hmax' : cap ≤ 9223372036854775807 := hmax
 have hM := Mrk.start h hn ho
 clear h hn ho
 refine ⟨by kernel_rfl, calls_of_c (vs := [.slice a es.length cap, .int .i64 k]) Tryz.func49 rfl (Nat.le_of_ble_eq_true rfl) ?_⟩
 simp (maxSteps := 10000000) only [tt, cc, seval, Tryz.f49]
 refine ⟨fun f w1 => ∃ i : Nat, f 5 = vi i ∧ f 1 = vi (k + cnL cnExpr (es.take i)) ∧ i ≤ es.length ∧ Mrk w F w1 a ((mkL mkExpr cnExpr k (es.take i)).flatMap Expr.row) ((es.drop i).flatMap Expr.row), fun f _ => (es.length - ixS (f 5)).toNat, ?_, ?_⟩
 ·simp (maxSteps := 10000000) only [tt, cc, seval]
  exact ⟨0, rfl, viE (by simp [cnL]), by omega, by simpa [mkL] using hM⟩
 ·rintro g w0 ⟨i, h5, h1', hi, hM⟩
  simp (maxSteps := 10000000) only [tt, cc, seval] at h5 h1'
  simp (maxSteps := 10000000) only [tt, cc, seval, h5, h1', Int.ofNat_lt]
  refine And.intro (fun hlt => ?_) (fun hge => ?_)
  ·have hlt : i < es.length := by omega
   have hd : es.drop i = es[i] :: es.drop (i + 1) := List.drop_eq_getElem_cons hlt
   have hks := cnL_take_succ cnExpr es i hlt
   have hkl := cnL_take_le cnExpr es (i + 1)
   have hts := mkL_take_succ mkExpr cnExpr k es i hlt
   have hdl : ((mkL mkExpr cnExpr k (es.take i)).flatMap Expr.row).length = i * 10 := by rw [flatMap_len Expr.row_len, mkL_len, List.length_take]; congr 1; omega
   rw [hd, List.flatMap_cons] at hM
   generalize hk0 : k + (cnL cnExpr (es.take i) : Int) = k0 at *
   generalize hdone : (mkL mkExpr cnExpr k (es.take i)).flatMap Expr.row = done at *
   obtain ⟨e, he⟩ : ∃ e, es[i] = e := ⟨_, rfl⟩
   rw [he] at hks hts hM
   have hxe := hx _ (List.getElem_mem hlt)
   rw [he] at hxe
   obtain ⟨kind, op, not, val, qual, name, kids, sub⟩ := e
   obtain ⟨Hkids, Hsub⟩ := hxe
   rw [cnExpr_mk] at hks
   simp only [Expr.row_mk, lc, Val.row] at hM
   obtain ⟨b, o, rfl, hM0⟩ := hM.open (by simp)
   clear hM
   have hc0 := hM0.chl
   obtain ⟨q0, z0, w1, e0, hM1⟩ := Mrk1.st hM0 (o + i * 10) (.int .i64 k0) (by simp [hdl]; try omega) trivial
   have hc1 := hM1.chl
   refine ⟨by omega, by omega, q0, z0, w1, e0, Stp.go ?_⟩
   simp (maxSteps := 10000000) only [tt, cc, seval, h5, h1']
   rw [wrap_id (n := k0 + 1) (by omega) (by omega)]
   generalize hk1 : k0 + 1 = k1 at *
   obtain ⟨q1, z1, w2, e1, hM2⟩ := Mrk1.st hM1 (o + i * 10 + 1) (.int .i64 k1) (by simp [hdl]; try omega) trivial
   have hc2 := hM2.chl
   refine ⟨by omega, by omega, q1, z1, w2, e1, Stp.go ?_⟩
   simp (maxSteps := 10000000) only [tt, cc, seval, h5, h1']
   rw [wrap_id (n := k1 + 1) (by omega) (by omega)]
   generalize hk2 : k1 + 1 = k2 at *
   obtain ⟨q2, z2, w3, e2, hM3⟩ := Mrk1.st hM2 (o + i * 10 + 2) (.bool (decide (k2.tmod 3 = 0))) (by simp [hdl]; try omega) trivial
   have hc3 := hM3.chl
   refine ⟨by omega, by omega, q2, z2, w3, e2, Stp.go ?_⟩
   simp (maxSteps := 10000000) only [tt, cc, seval, h5, h1']
   rw [wrap_id (n := k2 + 1) (by omega) (by omega)]
   generalize hk3 : k2 + 1 = k3 at *
   obtain ⟨q3, z3, w4, e3, hM4⟩ := Mrk1.st hM3 (o + i * 10 + 3) (.int .i64 k3) (by simp [hdl]; try omega) trivial
   have hc4 := hM4.chl
   refine ⟨by omega, by omega, q3, z3, w4, e3, Stp.go ?_⟩
   simp (maxSteps := 10000000) only [tt, cc, seval, h5, h1']
   rw [wrap_id (n := k3 + 1) (by omega) (by omega)]
   generalize hk4 : k3 + 1 = k4 at *
   obtain ⟨q4, z4, w5, e4, hM5⟩ := Mrk1.st hM4 (o + i * 10 + 4) (.int .i64 k4) (by simp [hdl]; try omega) trivial
   have hc5 := hM5.chl
   refine ⟨by omega, by omega, q4, z4, w5, e4, Stp.go ?_⟩
   simp (maxSteps := 10000000) only [tt, cc, seval, h5, h1']
   rw [wrap_id (n := k4 + 1) (by omega) (by omega)]
   generalize hk5 : k4 + 1 = k5 at *
   obtain ⟨hcb5, hcl5⟩ := markText_c k5 w5 (glw_chl hc5 hg hlib) (by omega)
   refine ⟨hcb5, _, hcl5, ?_⟩
   rintro _ w6 ⟨rfl, hgr5⟩
   replace hM6 := hM5.grow hgr5
   have hc6 := hM6.chl
   refine Stp.go ?_
   simp (maxSteps := 10000000) only [tt, cc, seval, h5, h1']
   obtain ⟨q5, z5, w7, e6, hM7⟩ := Mrk1.st hM6 (o + i * 10 + 5) (.string (mtext k5)) (by simp [hdl]; try omega) (mtext_ok (by omega))
   have hc7 := hM7.chl
   refine ⟨by omega, by omega, q5, z5, w7, e6, Stp.go ?_⟩
   simp (maxSteps := 10000000) only [tt, cc, seval, h5, h1']
   rw [wrap_id (n := k5 + 1) (by omega) (by omega)]
   generalize hk6 : k5 + 1 = k6 at *
   obtain ⟨hcb6, hcl6⟩ := markText_c k6 w7 (glw_chl hc7 hg hlib) (by omega)
   refine ⟨hcb6, _, hcl6, ?_⟩
   rintro _ w8 ⟨rfl, hgr7⟩
   replace hM8 := hM7.grow hgr7
   have hc8 := hM8.chl
   refine Stp.go ?_
   simp (maxSteps := 10000000) only [tt, cc, seval, h5, h1']
   obtain ⟨q6, z6, w9, e8, hM9⟩ := Mrk1.st hM8 (o + i * 10 + 6) (.string (mtext k6)) (by simp [hdl]; try omega) (mtext_ok (by omega))
   have hc9 := hM9.chl
   refine ⟨by omega, by omega, q6, z6, w9, e8, Stp.go ?_⟩
   simp (maxSteps := 10000000) only [tt, cc, seval, h5, h1']
   rw [wrap_id (n := k6 + 1) (by omega) (by omega)]
   generalize hk7 : k6 + 1 = k7 at *
   obtain ⟨hcb7, hcl7⟩ := markText_c k7 w9 (glw_chl hc9 hg hlib) (by omega)
   refine ⟨hcb7, _, hcl7, ?_⟩
   rintro _ w10 ⟨rfl, hgr9⟩
   replace hM10 := hM9.grow hgr9
   have hc10 := hM10.chl
   refine Stp.go ?_
   simp (maxSteps := 10000000) only [tt, cc, seval, h5, h1']
   obtain ⟨q7, z7, w11, e10, hM11⟩ := Mrk1.st hM10 (o + i * 10 + 7) (.string (mtext k7)) (by simp [hdl]; try omega) (mtext_ok (by omega))
   have hc11 := hM11.chl
   refine ⟨by omega, by omega, q7, z7, w11, e10, Stp.go ?_⟩
   simp (maxSteps := 10000000) only [tt, cc, seval, h5, h1']
   rw [wrap_id (n := k7 + 1) (by omega) (by omega)]
   generalize hk8 : k7 + 1 = k8 at *
   obtain ⟨v8, G8, hv8, hd8, nd8, ow8, sb8, nx8⟩ := Mrk1.load hM11 (p := o + i * 10 + 8) (by simp [hdl]; try omega)
   refine ⟨by omega, by omega, _, hv8, ?_⟩
   obtain ⟨hcb8, hcl8⟩ := Hkids w11 k8 v8 G8 hd8 nd8 ow8 (glw_chl hc11 hg hlib) (fun t ht hm => hlib t ht (sb8 _ hm)) (by omega) (by omega)
   refine ⟨hcb8, _, hcl8, ?_⟩
   rintro _ w12 ⟨rfl, cd8, ow8', cg8⟩
   have hM12 := nx8 _ _ cg8 cd8 ow8'
   have hc12 := hM12.chl
   refine Stp.go ?_
   simp (maxSteps := 10000000) only [tt, cc, seval, h5, h1']
   generalize hk9 : k8 + (cnL cnExpr kids : Int) = k9 at *
   obtain ⟨v9, G9, hv9, hd9, nd9, ow9, sb9, nx9⟩ := Mrk1.load hM12 (p := o + i * 10 + 9) (by simp [hdl]; try omega)
   refine ⟨by omega, by omega, _, hv9, ?_⟩
   obtain ⟨hcb9, hcl9⟩ := Hsub w12 k9 v9 G9 hd9 nd9 ow9 (glw_chl hc12 hg hlib) (fun t ht hm => hlib t ht (sb9 _ hm)) (by omega) (by omega)
   refine ⟨hcb9, _, hcl9, ?_⟩
   rintro _ w13 ⟨rfl, cd9, ow9', cg9⟩
   have hM13 := nx9 _ _ cg9 cd9 ow9'
   have hc13 := hM13.chl
   refine Stp.go ?_
   simp (maxSteps := 10000000) only [tt, cc, seval, h5, h1']
   generalize hk10 : k9 + (cnL cnQuery sub : Int) = k10 at *
   rw [wrS i (by omega)]
   refine ⟨⟨i + 1, rfl, viE (by rw [hks]; omega), by omega, ?_⟩, by simp only [ixS]; omega⟩
   rw [hts, List.flatMap_append]
   have := hM13.close
   rw [hdone]
   simpa [mkExpr_mk, Expr.row_mk, lc, Val.row, hk1, hk2, hk3, hk4, hk5, hk6, hk7, hk8, hk9, hk10, mkL_len, int, bool, str] using this
  ·have : i = es.length := by omega
   subst this
   rw [List.take_length, List.drop_length] at hM
   obtain ⟨hc, ho, hcg⟩ := hM.done hcap hmax hz
   exact ⟨by rw [List.take_length], hc, ho, hcg⟩
set_option maxHeartbeats 8000000 in
theorem markItems_step (es : List Item) (hx : ∀ e ∈ es, MkItem e) : MkC 58 Item.row mkItem cnItem es := by
 intro w k v F h hn ho hg hlib h0 h1
 obtain ⟨a, cap, rfl, hcap, hmax, hz⟩ := h.slice
 have hmax' : cap ≤ 9223372036854775807 := hmax
 have hM := Mrk.start h hn ho
 clear h hn ho
 refine ⟨by kernel_rfl, calls_of_c (vs := [.slice a es.length cap, .int .i64 k]) Tryz.func58 rfl (Nat.le_of_ble_eq_true rfl) ?_⟩
 simp (maxSteps := 10000000) only [tt, cc, seval, Tryz.f58]
 refine ⟨fun f w1 => ∃ i : Nat, f 5 = vi i ∧ f 1 = vi (k + cnL cnItem (es.take i)) ∧ i ≤ es.length ∧ Mrk w F w1 a ((mkL mkItem cnItem k (es.take i)).flatMap Item.row) ((es.drop i).flatMap Item.row), fun f _ => (es.length - ixS (f 5)).toNat, ?_, ?_⟩
 ·simp (maxSteps := 10000000) only [tt, cc, seval]
  exact ⟨0, rfl, viE (by simp [cnL]), by omega, by simpa [mkL] using hM⟩
 ·rintro g w0 ⟨i, h5, h1', hi, hM⟩
  simp (maxSteps := 10000000) only [tt, cc, seval] at h5 h1'
  simp (maxSteps := 10000000) only [tt, cc, seval, h5, h1', Int.ofNat_lt]
  refine And.intro (fun hlt => ?_) (fun hge => ?_)
  ·have hlt : i < es.length := by omega
   have hd : es.drop i = es[i] :: es.drop (i + 1) := List.drop_eq_getElem_cons hlt
   have hks := cnL_take_succ cnItem es i hlt
   have hkl := cnL_take_le cnItem es (i + 1)
   have hts := mkL_take_succ mkItem cnItem k es i hlt
   have hdl : ((mkL mkItem cnItem k (es.take i)).flatMap Item.row).length = i * 13 := by rw [flatMap_len Item.row_len, mkL_len, List.length_take]; congr 1; omega
   rw [hd, List.flatMap_cons] at hM
   generalize hk0 : k + (cnL cnItem (es.take i) : Int) = k0 at *
   generalize hdone : (mkL mkItem cnItem k (es.take i)).flatMap Item.row = done at *
   obtain ⟨e, he⟩ : ∃ e, es[i] = e := ⟨_, rfl⟩
   rw [he] at hks hts hM
   have hxe := hx _ (List.getElem_mem hlt)
   rw [he] at hxe
   obtain ⟨star, qual, ⟨e_kind, e_op, e_not, e_val, e_qual, e_name, e_kids, e_sub⟩, as_⟩ := e
   obtain ⟨He_kids, He_sub⟩ := hxe
   rw [cnItem_mk] at hks
   simp only [Expr.row_mk, Item.row_mk, lc, Val.row] at hM
   obtain ⟨b, o, rfl, hM0⟩ := hM.open (by simp)
   clear hM
   have hc0 := hM0.chl
   obtain ⟨q0, z0, w1, e0, hM1⟩ := Mrk1.st hM0 (o + i * 13) (.bool (decide (k0.tmod 3 = 0))) (by simp [hdl]; try omega) trivial
   have hc1 := hM1.chl
   refine ⟨by omega, by omega, q0, z0, w1, e0, Stp.go ?_⟩
   simp (maxSteps := 10000000) only [tt, cc, seval, h5, h1']
   rw [wrap_id (n := k0 + 1) (by omega) (by omega)]
   generalize hk1 : k0 + 1 = k1 at *
   obtain ⟨hcb1, hcl1⟩ := markText_c k1 w1 (glw_chl hc1 hg hlib) (by omega)
   refine ⟨hcb1, _, hcl1, ?_⟩
   rintro _ w2 ⟨rfl, hgr1⟩
   replace hM2 := hM1.grow hgr1
   have hc2 := hM2.chl
   refine Stp.go ?_
   simp (maxSteps := 10000000) only [tt, cc, seval, h5, h1']
   obtain ⟨q1, z1, w3, e2, hM3⟩ := Mrk1.st hM2 (o + i * 13 + 1) (.string (mtext k1)) (by simp [hdl]; try omega) (mtext_ok (by omega))
   have hc3 := hM3.chl
   refine ⟨by omega, by omega, q1, z1, w3, e2, Stp.go ?_⟩
   simp (maxSteps := 10000000) only [tt, cc, seval, h5, h1']
   rw [wrap_id (n := k1 + 1) (by omega) (by omega)]
   generalize hk2 : k1 + 1 = k2 at *
   obtain ⟨q2, z2, w4, e3, hM4⟩ := Mrk1.st hM3 (o + i * 13 + 2) (.int .i64 k2) (by simp [hdl]; try omega) trivial
   have hc4 := hM4.chl
   refine ⟨by omega, by omega, q2, z2, w4, e3, Stp.go ?_⟩
   simp (maxSteps := 10000000) only [tt, cc, seval, h5, h1']
   rw [wrap_id (n := k2 + 1) (by omega) (by omega)]
   generalize hk3 : k2 + 1 = k3 at *
   obtain ⟨q3, z3, w5, e4, hM5⟩ := Mrk1.st hM4 (o + i * 13 + 3) (.int .i64 k3) (by simp [hdl]; try omega) trivial
   have hc5 := hM5.chl
   refine ⟨by omega, by omega, q3, z3, w5, e4, Stp.go ?_⟩
   simp (maxSteps := 10000000) only [tt, cc, seval, h5, h1']
   rw [wrap_id (n := k3 + 1) (by omega) (by omega)]
   generalize hk4 : k3 + 1 = k4 at *
   obtain ⟨q4, z4, w6, e5, hM6⟩ := Mrk1.st hM5 (o + i * 13 + 4) (.bool (decide (k4.tmod 3 = 0))) (by simp [hdl]; try omega) trivial
   have hc6 := hM6.chl
   refine ⟨by omega, by omega, q4, z4, w6, e5, Stp.go ?_⟩
   simp (maxSteps := 10000000) only [tt, cc, seval, h5, h1']
   rw [wrap_id (n := k4 + 1) (by omega) (by omega)]
   generalize hk5 : k4 + 1 = k5 at *
   obtain ⟨q5, z5, w7, e6, hM7⟩ := Mrk1.st hM6 (o + i * 13 + 5) (.int .i64 k5) (by simp [hdl]; try omega) trivial
   have hc7 := hM7.chl
   refine ⟨by omega, by omega, q5, z5, w7, e6, Stp.go ?_⟩
   simp (maxSteps := 10000000) only [tt, cc, seval, h5, h1']
   rw [wrap_id (n := k5 + 1) (by omega) (by omega)]
   generalize hk6 : k5 + 1 = k6 at *
   obtain ⟨q6, z6, w8, e7, hM8⟩ := Mrk1.st hM7 (o + i * 13 + 6) (.int .i64 k6) (by simp [hdl]; try omega) trivial
   have hc8 := hM8.chl
   refine ⟨by omega, by omega, q6, z6, w8, e7, Stp.go ?_⟩
   simp (maxSteps := 10000000) only [tt, cc, seval, h5, h1']
   rw [wrap_id (n := k6 + 1) (by omega) (by omega)]
   generalize hk7 : k6 + 1 = k7 at *
   obtain ⟨hcb7, hcl7⟩ := markText_c k7 w8 (glw_chl hc8 hg hlib) (by omega)
   refine ⟨hcb7, _, hcl7, ?_⟩
   rintro _ w9 ⟨rfl, hgr8⟩
   replace hM9 := hM8.grow hgr8
   have hc9 := hM9.chl
   refine Stp.go ?_
   simp (maxSteps := 10000000) only [tt, cc, seval, h5, h1']
   obtain ⟨q7, z7, w10, e9, hM10⟩ := Mrk1.st hM9 (o + i * 13 + 7) (.string (mtext k7)) (by simp [hdl]; try omega) (mtext_ok (by omega))
   have hc10 := hM10.chl
   refine ⟨by omega, by omega, q7, z7, w10, e9, Stp.go ?_⟩
   simp (maxSteps := 10000000) only [tt, cc, seval, h5, h1']
   rw [wrap_id (n := k7 + 1) (by omega) (by omega)]
   generalize hk8 : k7 + 1 = k8 at *
   obtain ⟨hcb8, hcl8⟩ := markText_c k8 w10 (glw_chl hc10 hg hlib) (by omega)
   refine ⟨hcb8, _, hcl8, ?_⟩
   rintro _ w11 ⟨rfl, hgr10⟩
   replace hM11 := hM10.grow hgr10
   have hc11 := hM11.chl
   refine Stp.go ?_
   simp (maxSteps := 10000000) only [tt, cc, seval, h5, h1']
   obtain ⟨q8, z8, w12, e11, hM12⟩ := Mrk1.st hM11 (o + i * 13 + 8) (.string (mtext k8)) (by simp [hdl]; try omega) (mtext_ok (by omega))
   have hc12 := hM12.chl
   refine ⟨by omega, by omega, q8, z8, w12, e11, Stp.go ?_⟩
   simp (maxSteps := 10000000) only [tt, cc, seval, h5, h1']
   rw [wrap_id (n := k8 + 1) (by omega) (by omega)]
   generalize hk9 : k8 + 1 = k9 at *
   obtain ⟨hcb9, hcl9⟩ := markText_c k9 w12 (glw_chl hc12 hg hlib) (by omega)
   refine ⟨hcb9, _, hcl9, ?_⟩
   rintro _ w13 ⟨rfl, hgr12⟩
   replace hM13 := hM12.grow hgr12
   have hc13 := hM13.chl
   refine Stp.go ?_
   simp (maxSteps := 10000000) only [tt, cc, seval, h5, h1']
   obtain ⟨q9, z9, w14, e13, hM14⟩ := Mrk1.st hM13 (o + i * 13 + 9) (.string (mtext k9)) (by simp [hdl]; try omega) (mtext_ok (by omega))
   have hc14 := hM14.chl
   refine ⟨by omega, by omega, q9, z9, w14, e13, Stp.go ?_⟩
   simp (maxSteps := 10000000) only [tt, cc, seval, h5, h1']
   rw [wrap_id (n := k9 + 1) (by omega) (by omega)]
   generalize hk10 : k9 + 1 = k10 at *
   obtain ⟨v10, G10, hv10, hd10, nd10, ow10, sb10, nx10⟩ := Mrk1.load hM14 (p := o + i * 13 + 10) (by simp [hdl]; try omega)
   refine ⟨by omega, by omega, _, hv10, ?_⟩
   obtain ⟨hcb10, hcl10⟩ := He_kids w14 k10 v10 G10 hd10 nd10 ow10 (glw_chl hc14 hg hlib) (fun t ht hm => hlib t ht (sb10 _ hm)) (by omega) (by omega)
   refine ⟨hcb10, _, hcl10, ?_⟩
   rintro _ w15 ⟨rfl, cd10, ow10', cg10⟩
   have hM15 := nx10 _ _ cg10 cd10 ow10'
   have hc15 := hM15.chl
   refine Stp.go ?_
   simp (maxSteps := 10000000) only [tt, cc, seval, h5, h1']
   generalize hk11 : k10 + (cnL cnExpr e_kids : Int) = k11 at *
   obtain ⟨v11, G11, hv11, hd11, nd11, ow11, sb11, nx11⟩ := Mrk1.load hM15 (p := o + i * 13 + 11) (by simp [hdl]; try omega)
   refine ⟨by omega, by omega, _, hv11, ?_⟩
   obtain ⟨hcb11, hcl11⟩ := He_sub w15 k11 v11 G11 hd11 nd11 ow11 (glw_chl hc15 hg hlib) (fun t ht hm => hlib t ht (sb11 _ hm)) (by omega) (by omega)
   refine ⟨hcb11, _, hcl11, ?_⟩
   rintro _ w16 ⟨rfl, cd11, ow11', cg11⟩
   have hM16 := nx11 _ _ cg11 cd11 ow11'
   have hc16 := hM16.chl
   refine Stp.go ?_
   simp (maxSteps := 10000000) only [tt, cc, seval, h5, h1']
   generalize hk12 : k11 + (cnL cnQuery e_sub : Int) = k12 at *
   obtain ⟨hcb12, hcl12⟩ := markText_c k12 w16 (glw_chl hc16 hg hlib) (by omega)
   refine ⟨hcb12, _, hcl12, ?_⟩
   rintro _ w17 ⟨rfl, hgr16⟩
   replace hM17 := hM16.grow hgr16
   have hc17 := hM17.chl
   refine Stp.go ?_
   simp (maxSteps := 10000000) only [tt, cc, seval, h5, h1']
   obtain ⟨q12, z12, w18, e17, hM18⟩ := Mrk1.st hM17 (o + i * 13 + 12) (.string (mtext k12)) (by simp [hdl]; try omega) (mtext_ok (by omega))
   have hc18 := hM18.chl
   refine ⟨by omega, by omega, q12, z12, w18, e17, Stp.go ?_⟩
   simp (maxSteps := 10000000) only [tt, cc, seval, h5, h1']
   rw [wrap_id (n := k12 + 1) (by omega) (by omega)]
   generalize hk13 : k12 + 1 = k13 at *
   rw [wrS i (by omega)]
   refine ⟨⟨i + 1, rfl, viE (by rw [hks]; omega), by omega, ?_⟩, by simp only [ixS]; omega⟩
   rw [hts, List.flatMap_append]
   have := hM18.close
   rw [hdone]
   simpa [mkItem_mk, Expr.row_mk, Item.row_mk, lc, Val.row, hk1, hk2, hk3, hk4, hk5, hk6, hk7, hk8, hk9, hk10, hk11, hk12, hk13, mkL_len, int, bool, str] using this
  ·have : i = es.length := by omega
   subst this
   rw [List.take_length, List.drop_length] at hM
   obtain ⟨hc, ho, hcg⟩ := hM.done hcap hmax hz
   exact ⟨by rw [List.take_length], hc, ho, hcg⟩
set_option maxHeartbeats 8000000 in
theorem markQuerys_step (es : List Query) (hx : ∀ e ∈ es, MkQuery e) : MkC 50 Query.row mkQuery cnQuery es := by
 intro w k v F h hn ho hg hlib h0 h1
 obtain ⟨a, cap, rfl, hcap, hmax, hz⟩ := h.slice
 have hmax' : cap ≤ 9223372036854775807 := hmax
 have hM := Mrk.start h hn ho
 clear h hn ho
 refine ⟨by kernel_rfl, calls_of_c (vs := [.slice a es.length cap, .int .i64 k]) Tryz.func50 rfl (Nat.le_of_ble_eq_true rfl) ?_⟩
 simp (maxSteps := 10000000) only [tt, cc, seval, Tryz.f50]
 refine ⟨fun f w1 => ∃ i : Nat, f 5 = vi i ∧ f 1 = vi (k + cnL cnQuery (es.take i)) ∧ i ≤ es.length ∧ Mrk w F w1 a ((mkL mkQuery cnQuery k (es.take i)).flatMap Query.row) ((es.drop i).flatMap Query.row), fun f _ => (es.length - ixS (f 5)).toNat, ?_, ?_⟩
 ·simp (maxSteps := 10000000) only [tt, cc, seval]
  exact ⟨0, rfl, viE (by simp [cnL]), by omega, by simpa [mkL] using hM⟩
 ·rintro g w0 ⟨i, h5, h1', hi, hM⟩
  simp (maxSteps := 10000000) only [tt, cc, seval] at h5 h1'
  simp (maxSteps := 10000000) only [tt, cc, seval, h5, h1', Int.ofNat_lt]
  refine And.intro (fun hlt => ?_) (fun hge => ?_)
  ·have hlt : i < es.length := by omega
   have hd : es.drop i = es[i] :: es.drop (i + 1) := List.drop_eq_getElem_cons hlt
   have hks := cnL_take_succ cnQuery es i hlt
   have hkl := cnL_take_le cnQuery es (i + 1)
   have hts := mkL_take_succ mkQuery cnQuery k es i hlt
   have hdl : ((mkL mkQuery cnQuery k (es.take i)).flatMap Query.row).length = i * 6 := by rw [flatMap_len Query.row_len, mkL_len, List.length_take]; congr 1; omega
   rw [hd, List.flatMap_cons] at hM
   generalize hk0 : k + (cnL cnQuery (es.take i) : Int) = k0 at *
   generalize hdone : (mkL mkQuery cnQuery k (es.take i)).flatMap Query.row = done at *
   obtain ⟨e, he⟩ : ∃ e, es[i] = e := ⟨_, rfl⟩
   rw [he] at hks hts hM
   have hxe := hx _ (List.getElem_mem hlt)
   rw [he] at hxe
   obtain ⟨distinct, items, from_, where_, order, limit⟩ := e
   obtain ⟨Hitems, Hfrom_, Hwhere_, Horder⟩ := hxe
   rw [cnQuery_mk] at hks
   simp only [lc, Query.row_mk, Val.row] at hM
   obtain ⟨b, o, rfl, hM0⟩ := hM.open (by simp)
   clear hM
   have hc0 := hM0.chl
   obtain ⟨q0, z0, w1, e0, hM1⟩ := Mrk1.st hM0 (o + i * 6) (.bool (decide (k0.tmod 3 = 0))) (by simp [hdl]; try omega) trivial
   have hc1 := hM1.chl
   refine ⟨by omega, by omega, q0, z0, w1, e0, Stp.go ?_⟩
   simp (maxSteps := 10000000) only [tt, cc, seval, h5, h1']
   rw [wrap_id (n := k0 + 1) (by omega) (by omega)]
   generalize hk1 : k0 + 1 = k1 at *
   obtain ⟨v1, G1, hv1, hd1, nd1, ow1, sb1, nx1⟩ := Mrk1.load hM1 (p := o + i * 6 + 1) (by simp [hdl]; try omega)
   refine ⟨by omega, by omega, _, hv1, ?_⟩
   obtain ⟨hcb1, hcl1⟩ := Hitems w1 k1 v1 G1 hd1 nd1 ow1 (glw_chl hc1 hg hlib) (fun t ht hm => hlib t ht (sb1 _ hm)) (by omega) (by omega)
   refine ⟨hcb1, _, hcl1, ?_⟩
   rintro _ w2 ⟨rfl, cd1, ow1', cg1⟩
   have hM2 := nx1 _ _ cg1 cd1 ow1'
   have hc2 := hM2.chl
   refine Stp.go ?_
   simp (maxSteps := 10000000) only [tt, cc, seval, h5, h1']
   generalize hk2 : k1 + (cnL cnItem items : Int) = k2 at *
   obtain ⟨v2, G2, hv2, hd2, nd2, ow2, sb2, nx2⟩ := Mrk1.load hM2 (p := o + i * 6 + 2) (by simp [hdl]; try omega)
   refine ⟨by omega, by omega, _, hv2, ?_⟩
   obtain ⟨hcb2, hcl2⟩ := Hfrom_ w2 k2 v2 G2 hd2 nd2 ow2 (glw_chl hc2 hg hlib) (fun t ht hm => hlib t ht (sb2 _ hm)) (by omega) (by omega)
   refine ⟨hcb2, _, hcl2, ?_⟩
   rintro _ w3 ⟨rfl, cd2, ow2', cg2⟩
   have hM3 := nx2 _ _ cg2 cd2 ow2'
   have hc3 := hM3.chl
   refine Stp.go ?_
   simp (maxSteps := 10000000) only [tt, cc, seval, h5, h1']
   generalize hk3 : k2 + (cnL cnSource from_ : Int) = k3 at *
   obtain ⟨v3, G3, hv3, hd3, nd3, ow3, sb3, nx3⟩ := Mrk1.load hM3 (p := o + i * 6 + 3) (by simp [hdl]; try omega)
   refine ⟨by omega, by omega, _, hv3, ?_⟩
   obtain ⟨hcb3, hcl3⟩ := Hwhere_ w3 k3 v3 G3 hd3 nd3 ow3 (glw_chl hc3 hg hlib) (fun t ht hm => hlib t ht (sb3 _ hm)) (by omega) (by omega)
   refine ⟨hcb3, _, hcl3, ?_⟩
   rintro _ w4 ⟨rfl, cd3, ow3', cg3⟩
   have hM4 := nx3 _ _ cg3 cd3 ow3'
   have hc4 := hM4.chl
   refine Stp.go ?_
   simp (maxSteps := 10000000) only [tt, cc, seval, h5, h1']
   generalize hk4 : k3 + (cnL cnExpr where_ : Int) = k4 at *
   obtain ⟨v4, G4, hv4, hd4, nd4, ow4, sb4, nx4⟩ := Mrk1.load hM4 (p := o + i * 6 + 4) (by simp [hdl]; try omega)
   refine ⟨by omega, by omega, _, hv4, ?_⟩
   obtain ⟨hcb4, hcl4⟩ := Horder w4 k4 v4 G4 hd4 nd4 ow4 (glw_chl hc4 hg hlib) (fun t ht hm => hlib t ht (sb4 _ hm)) (by omega) (by omega)
   refine ⟨hcb4, _, hcl4, ?_⟩
   rintro _ w5 ⟨rfl, cd4, ow4', cg4⟩
   have hM5 := nx4 _ _ cg4 cd4 ow4'
   have hc5 := hM5.chl
   refine Stp.go ?_
   simp (maxSteps := 10000000) only [tt, cc, seval, h5, h1']
   generalize hk5 : k4 + (cnL cnSortKey order : Int) = k5 at *
   obtain ⟨q5, z5, w6, e5, hM6⟩ := Mrk1.st hM5 (o + i * 6 + 5) (.int .i64 k5) (by simp [hdl]; try omega) trivial
   have hc6 := hM6.chl
   refine ⟨by omega, by omega, q5, z5, w6, e5, Stp.go ?_⟩
   simp (maxSteps := 10000000) only [tt, cc, seval, h5, h1']
   rw [wrap_id (n := k5 + 1) (by omega) (by omega)]
   generalize hk6 : k5 + 1 = k6 at *
   rw [wrS i (by omega)]
   refine ⟨⟨i + 1, rfl, viE (by rw [hks]; omega), by omega, ?_⟩, by simp only [ixS]; omega⟩
   rw [hts, List.flatMap_append]
   have := hM6.close
   rw [hdone]
   simpa [mkQuery_mk, lc, Query.row_mk, Val.row, hk1, hk2, hk3, hk4, hk5, hk6, mkL_len, int, bool, str] using this
  ·have : i = es.length := by omega
   subst this
   rw [List.take_length, List.drop_length] at hM
   obtain ⟨hc, ho, hcg⟩ := hM.done hcap hmax hz
   exact ⟨by rw [List.take_length], hc, ho, hcg⟩
set_option maxHeartbeats 8000000 in
theorem markSortKeys_step (es : List SortKey) (hx : ∀ e ∈ es, MkSortKey e) : MkC 60 SortKey.row mkSortKey cnSortKey es := by
 intro w k v F h hn ho hg hlib h0 h1
 obtain ⟨a, cap, rfl, hcap, hmax, hz⟩ := h.slice
 have hmax' : cap ≤ 9223372036854775807 := hmax
 have hM := Mrk.start h hn ho
 clear h hn ho
 refine ⟨by kernel_rfl, calls_of_c (vs := [.slice a es.length cap, .int .i64 k]) Tryz.func60 rfl (Nat.le_of_ble_eq_true rfl) ?_⟩
 simp (maxSteps := 10000000) only [tt, cc, seval, Tryz.f60]
 refine ⟨fun f w1 => ∃ i : Nat, f 5 = vi i ∧ f 1 = vi (k + cnL cnSortKey (es.take i)) ∧ i ≤ es.length ∧ Mrk w F w1 a ((mkL mkSortKey cnSortKey k (es.take i)).flatMap SortKey.row) ((es.drop i).flatMap SortKey.row), fun f _ => (es.length - ixS (f 5)).toNat, ?_, ?_⟩
 ·simp (maxSteps := 10000000) only [tt, cc, seval]
  exact ⟨0, rfl, viE (by simp [cnL]), by omega, by simpa [mkL] using hM⟩
 ·rintro g w0 ⟨i, h5, h1', hi, hM⟩
  simp (maxSteps := 10000000) only [tt, cc, seval] at h5 h1'
  simp (maxSteps := 10000000) only [tt, cc, seval, h5, h1', Int.ofNat_lt]
  refine And.intro (fun hlt => ?_) (fun hge => ?_)
  ·have hlt : i < es.length := by omega
   have hd : es.drop i = es[i] :: es.drop (i + 1) := List.drop_eq_getElem_cons hlt
   have hks := cnL_take_succ cnSortKey es i hlt
   have hkl := cnL_take_le cnSortKey es (i + 1)
   have hts := mkL_take_succ mkSortKey cnSortKey k es i hlt
   have hdl : ((mkL mkSortKey cnSortKey k (es.take i)).flatMap SortKey.row).length = i * 11 := by rw [flatMap_len SortKey.row_len, mkL_len, List.length_take]; congr 1; omega
   rw [hd, List.flatMap_cons] at hM
   generalize hk0 : k + (cnL cnSortKey (es.take i) : Int) = k0 at *
   generalize hdone : (mkL mkSortKey cnSortKey k (es.take i)).flatMap SortKey.row = done at *
   obtain ⟨e, he⟩ : ∃ e, es[i] = e := ⟨_, rfl⟩
   rw [he] at hks hts hM
   have hxe := hx _ (List.getElem_mem hlt)
   rw [he] at hxe
   obtain ⟨⟨e_kind, e_op, e_not, e_val, e_qual, e_name, e_kids, e_sub⟩, desc⟩ := e
   obtain ⟨He_kids, He_sub⟩ := hxe
   rw [cnSortKey_mk] at hks
   simp only [Expr.row_mk, lc, SortKey.row_mk, Val.row] at hM
   obtain ⟨b, o, rfl, hM0⟩ := hM.open (by simp)
   clear hM
   have hc0 := hM0.chl
   obtain ⟨q0, z0, w1, e0, hM1⟩ := Mrk1.st hM0 (o + i * 11) (.int .i64 k0) (by simp [hdl]; try omega) trivial
   have hc1 := hM1.chl
   refine ⟨by omega, by omega, q0, z0, w1, e0, Stp.go ?_⟩
   simp (maxSteps := 10000000) only [tt, cc, seval, h5, h1']
   rw [wrap_id (n := k0 + 1) (by omega) (by omega)]
   generalize hk1 : k0 + 1 = k1 at *
   obtain ⟨q1, z1, w2, e1, hM2⟩ := Mrk1.st hM1 (o + i * 11 + 1) (.int .i64 k1) (by simp [hdl]; try omega) trivial
   have hc2 := hM2.chl
   refine ⟨by omega, by omega, q1, z1, w2, e1, Stp.go ?_⟩
   simp (maxSteps := 10000000) only [tt, cc, seval, h5, h1']
   rw [wrap_id (n := k1 + 1) (by omega) (by omega)]
   generalize hk2 : k1 + 1 = k2 at *
   obtain ⟨q2, z2, w3, e2, hM3⟩ := Mrk1.st hM2 (o + i * 11 + 2) (.bool (decide (k2.tmod 3 = 0))) (by simp [hdl]; try omega) trivial
   have hc3 := hM3.chl
   refine ⟨by omega, by omega, q2, z2, w3, e2, Stp.go ?_⟩
   simp (maxSteps := 10000000) only [tt, cc, seval, h5, h1']
   rw [wrap_id (n := k2 + 1) (by omega) (by omega)]
   generalize hk3 : k2 + 1 = k3 at *
   obtain ⟨q3, z3, w4, e3, hM4⟩ := Mrk1.st hM3 (o + i * 11 + 3) (.int .i64 k3) (by simp [hdl]; try omega) trivial
   have hc4 := hM4.chl
   refine ⟨by omega, by omega, q3, z3, w4, e3, Stp.go ?_⟩
   simp (maxSteps := 10000000) only [tt, cc, seval, h5, h1']
   rw [wrap_id (n := k3 + 1) (by omega) (by omega)]
   generalize hk4 : k3 + 1 = k4 at *
   obtain ⟨q4, z4, w5, e4, hM5⟩ := Mrk1.st hM4 (o + i * 11 + 4) (.int .i64 k4) (by simp [hdl]; try omega) trivial
   have hc5 := hM5.chl
   refine ⟨by omega, by omega, q4, z4, w5, e4, Stp.go ?_⟩
   simp (maxSteps := 10000000) only [tt, cc, seval, h5, h1']
   rw [wrap_id (n := k4 + 1) (by omega) (by omega)]
   generalize hk5 : k4 + 1 = k5 at *
   obtain ⟨hcb5, hcl5⟩ := markText_c k5 w5 (glw_chl hc5 hg hlib) (by omega)
   refine ⟨hcb5, _, hcl5, ?_⟩
   rintro _ w6 ⟨rfl, hgr5⟩
   replace hM6 := hM5.grow hgr5
   have hc6 := hM6.chl
   refine Stp.go ?_
   simp (maxSteps := 10000000) only [tt, cc, seval, h5, h1']
   obtain ⟨q5, z5, w7, e6, hM7⟩ := Mrk1.st hM6 (o + i * 11 + 5) (.string (mtext k5)) (by simp [hdl]; try omega) (mtext_ok (by omega))
   have hc7 := hM7.chl
   refine ⟨by omega, by omega, q5, z5, w7, e6, Stp.go ?_⟩
   simp (maxSteps := 10000000) only [tt, cc, seval, h5, h1']
   rw [wrap_id (n := k5 + 1) (by omega) (by omega)]
   generalize hk6 : k5 + 1 = k6 at *
   obtain ⟨hcb6, hcl6⟩ := markText_c k6 w7 (glw_chl hc7 hg hlib) (by omega)
   refine ⟨hcb6, _, hcl6, ?_⟩
   rintro _ w8 ⟨rfl, hgr7⟩
   replace hM8 := hM7.grow hgr7
   have hc8 := hM8.chl
   refine Stp.go ?_
   simp (maxSteps := 10000000) only [tt, cc, seval, h5, h1']
   obtain ⟨q6, z6, w9, e8, hM9⟩ := Mrk1.st hM8 (o + i * 11 + 6) (.string (mtext k6)) (by simp [hdl]; try omega) (mtext_ok (by omega))
   have hc9 := hM9.chl
   refine ⟨by omega, by omega, q6, z6, w9, e8, Stp.go ?_⟩
   simp (maxSteps := 10000000) only [tt, cc, seval, h5, h1']
   rw [wrap_id (n := k6 + 1) (by omega) (by omega)]
   generalize hk7 : k6 + 1 = k7 at *
   obtain ⟨hcb7, hcl7⟩ := markText_c k7 w9 (glw_chl hc9 hg hlib) (by omega)
   refine ⟨hcb7, _, hcl7, ?_⟩
   rintro _ w10 ⟨rfl, hgr9⟩
   replace hM10 := hM9.grow hgr9
   have hc10 := hM10.chl
   refine Stp.go ?_
   simp (maxSteps := 10000000) only [tt, cc, seval, h5, h1']
   obtain ⟨q7, z7, w11, e10, hM11⟩ := Mrk1.st hM10 (o + i * 11 + 7) (.string (mtext k7)) (by simp [hdl]; try omega) (mtext_ok (by omega))
   have hc11 := hM11.chl
   refine ⟨by omega, by omega, q7, z7, w11, e10, Stp.go ?_⟩
   simp (maxSteps := 10000000) only [tt, cc, seval, h5, h1']
   rw [wrap_id (n := k7 + 1) (by omega) (by omega)]
   generalize hk8 : k7 + 1 = k8 at *
   obtain ⟨v8, G8, hv8, hd8, nd8, ow8, sb8, nx8⟩ := Mrk1.load hM11 (p := o + i * 11 + 8) (by simp [hdl]; try omega)
   refine ⟨by omega, by omega, _, hv8, ?_⟩
   obtain ⟨hcb8, hcl8⟩ := He_kids w11 k8 v8 G8 hd8 nd8 ow8 (glw_chl hc11 hg hlib) (fun t ht hm => hlib t ht (sb8 _ hm)) (by omega) (by omega)
   refine ⟨hcb8, _, hcl8, ?_⟩
   rintro _ w12 ⟨rfl, cd8, ow8', cg8⟩
   have hM12 := nx8 _ _ cg8 cd8 ow8'
   have hc12 := hM12.chl
   refine Stp.go ?_
   simp (maxSteps := 10000000) only [tt, cc, seval, h5, h1']
   generalize hk9 : k8 + (cnL cnExpr e_kids : Int) = k9 at *
   obtain ⟨v9, G9, hv9, hd9, nd9, ow9, sb9, nx9⟩ := Mrk1.load hM12 (p := o + i * 11 + 9) (by simp [hdl]; try omega)
   refine ⟨by omega, by omega, _, hv9, ?_⟩
   obtain ⟨hcb9, hcl9⟩ := He_sub w12 k9 v9 G9 hd9 nd9 ow9 (glw_chl hc12 hg hlib) (fun t ht hm => hlib t ht (sb9 _ hm)) (by omega) (by omega)
   refine ⟨hcb9, _, hcl9, ?_⟩
   rintro _ w13 ⟨rfl, cd9, ow9', cg9⟩
   have hM13 := nx9 _ _ cg9 cd9 ow9'
   have hc13 := hM13.chl
   refine Stp.go ?_
   simp (maxSteps := 10000000) only [tt, cc, seval, h5, h1']
   generalize hk10 : k9 + (cnL cnQuery e_sub : Int) = k10 at *
   obtain ⟨q10, z10, w14, e13, hM14⟩ := Mrk1.st hM13 (o + i * 11 + 10) (.bool (decide (k10.tmod 3 = 0))) (by simp [hdl]; try omega) trivial
   have hc14 := hM14.chl
   refine ⟨by omega, by omega, q10, z10, w14, e13, Stp.go ?_⟩
   simp (maxSteps := 10000000) only [tt, cc, seval, h5, h1']
   rw [wrap_id (n := k10 + 1) (by omega) (by omega)]
   generalize hk11 : k10 + 1 = k11 at *
   rw [wrS i (by omega)]
   refine ⟨⟨i + 1, rfl, viE (by rw [hks]; omega), by omega, ?_⟩, by simp only [ixS]; omega⟩
   rw [hts, List.flatMap_append]
   have := hM14.close
   rw [hdone]
   simpa [mkSortKey_mk, Expr.row_mk, lc, SortKey.row_mk, Val.row, hk1, hk2, hk3, hk4, hk5, hk6, hk7, hk8, hk9, hk10, hk11, mkL_len, int, bool, str] using this
  ·have : i = es.length := by omega
   subst this
   rw [List.take_length, List.drop_length] at hM
   obtain ⟨hc, ho, hcg⟩ := hM.done hcap hmax hz
   exact ⟨by rw [List.take_length], hc, ho, hcg⟩
set_option maxHeartbeats 8000000 in
theorem markSources_step (es : List Source) (hx : ∀ e ∈ es, MkSource e) : MkC 59 Source.row mkSource cnSource es := by
 intro w k v F h hn ho hg hlib h0 h1
 obtain ⟨a, cap, rfl, hcap, hmax, hz⟩ := h.slice
 have hmax' : cap ≤ 9223372036854775807 := hmax
 have hM := Mrk.start h hn ho
 clear h hn ho
 refine ⟨by kernel_rfl, calls_of_c (vs := [.slice a es.length cap, .int .i64 k]) Tryz.func59 rfl (Nat.le_of_ble_eq_true rfl) ?_⟩
 simp (maxSteps := 10000000) only [tt, cc, seval, Tryz.f59]
 refine ⟨fun f w1 => ∃ i : Nat, f 5 = vi i ∧ f 1 = vi (k + cnL cnSource (es.take i)) ∧ i ≤ es.length ∧ Mrk w F w1 a ((mkL mkSource cnSource k (es.take i)).flatMap Source.row) ((es.drop i).flatMap Source.row), fun f _ => (es.length - ixS (f 5)).toNat, ?_, ?_⟩
 ·simp (maxSteps := 10000000) only [tt, cc, seval]
  exact ⟨0, rfl, viE (by simp [cnL]), by omega, by simpa [mkL] using hM⟩
 ·rintro g w0 ⟨i, h5, h1', hi, hM⟩
  simp (maxSteps := 10000000) only [tt, cc, seval] at h5 h1'
  simp (maxSteps := 10000000) only [tt, cc, seval, h5, h1', Int.ofNat_lt]
  refine And.intro (fun hlt => ?_) (fun hge => ?_)
  ·have hlt : i < es.length := by omega
   have hd : es.drop i = es[i] :: es.drop (i + 1) := List.drop_eq_getElem_cons hlt
   have hks := cnL_take_succ cnSource es i hlt
   have hkl := cnL_take_le cnSource es (i + 1)
   have hts := mkL_take_succ mkSource cnSource k es i hlt
   have hdl : ((mkL mkSource cnSource k (es.take i)).flatMap Source.row).length = i * 3 := by rw [flatMap_len Source.row_len, mkL_len, List.length_take]; congr 1; omega
   rw [hd, List.flatMap_cons] at hM
   generalize hk0 : k + (cnL cnSource (es.take i) : Int) = k0 at *
   generalize hdone : (mkL mkSource cnSource k (es.take i)).flatMap Source.row = done at *
   obtain ⟨e, he⟩ : ∃ e, es[i] = e := ⟨_, rfl⟩
   rw [he] at hks hts hM
   have hxe := hx _ (List.getElem_mem hlt)
   rw [he] at hxe
   obtain ⟨table, as_, on⟩ := e
   have Hon := hxe
   rw [cnSource_mk] at hks
   simp only [lc, Source.row_mk, Val.row] at hM
   obtain ⟨b, o, rfl, hM0⟩ := hM.open (by simp)
   clear hM
   have hc0 := hM0.chl
   obtain ⟨hcb0, hcl0⟩ := markText_c k0 w0 (glw_chl hc0 hg hlib) (by omega)
   refine ⟨hcb0, _, hcl0, ?_⟩
   rintro _ w1 ⟨rfl, hgr0⟩
   replace hM1 := hM0.grow hgr0
   have hc1 := hM1.chl
   refine Stp.go ?_
   simp (maxSteps := 10000000) only [tt, cc, seval, h5, h1']
   obtain ⟨q0, z0, w2, e1, hM2⟩ := Mrk1.st hM1 (o + i * 3) (.string (mtext k0)) (by simp [hdl]; try omega) (mtext_ok (by omega))
   have hc2 := hM2.chl
   refine ⟨by omega, by omega, q0, z0, w2, e1, Stp.go ?_⟩
   simp (maxSteps := 10000000) only [tt, cc, seval, h5, h1']
   rw [wrap_id (n := k0 + 1) (by omega) (by omega)]
   generalize hk1 : k0 + 1 = k1 at *
   obtain ⟨hcb1, hcl1⟩ := markText_c k1 w2 (glw_chl hc2 hg hlib) (by omega)
   refine ⟨hcb1, _, hcl1, ?_⟩
   rintro _ w3 ⟨rfl, hgr2⟩
   replace hM3 := hM2.grow hgr2
   have hc3 := hM3.chl
   refine Stp.go ?_
   simp (maxSteps := 10000000) only [tt, cc, seval, h5, h1']
   obtain ⟨q1, z1, w4, e3, hM4⟩ := Mrk1.st hM3 (o + i * 3 + 1) (.string (mtext k1)) (by simp [hdl]; try omega) (mtext_ok (by omega))
   have hc4 := hM4.chl
   refine ⟨by omega, by omega, q1, z1, w4, e3, Stp.go ?_⟩
   simp (maxSteps := 10000000) only [tt, cc, seval, h5, h1']
   rw [wrap_id (n := k1 + 1) (by omega) (by omega)]
   generalize hk2 : k1 + 1 = k2 at *
   obtain ⟨v2, G2, hv2, hd2, nd2, ow2, sb2, nx2⟩ := Mrk1.load hM4 (p := o + i * 3 + 2) (by simp [hdl]; try omega)
   refine ⟨by omega, by omega, _, hv2, ?_⟩
   obtain ⟨hcb2, hcl2⟩ := Hon w4 k2 v2 G2 hd2 nd2 ow2 (glw_chl hc4 hg hlib) (fun t ht hm => hlib t ht (sb2 _ hm)) (by omega) (by omega)
   refine ⟨hcb2, _, hcl2, ?_⟩
   rintro _ w5 ⟨rfl, cd2, ow2', cg2⟩
   have hM5 := nx2 _ _ cg2 cd2 ow2'
   have hc5 := hM5.chl
   refine Stp.go ?_
   simp (maxSteps := 10000000) only [tt, cc, seval, h5, h1']
   generalize hk3 : k2 + (cnL cnExpr on : Int) = k3 at *
   rw [wrS i (by omega)]
   refine ⟨⟨i + 1, rfl, viE (by rw [hks]; omega), by omega, ?_⟩, by simp only [ixS]; omega⟩
   rw [hts, List.flatMap_append]
   have := hM5.close
   rw [hdone]
   simpa [mkSource_mk, lc, Source.row_mk, Val.row, hk1, hk2, hk3, mkL_len, int, bool, str] using this
  ·have : i = es.length := by omega
   subst this
   rw [List.take_length, List.drop_length] at hM
   obtain ⟨hc, ho, hcg⟩ := hM.done hcap hmax hz
   exact ⟨by rw [List.take_length], hc, ho, hcg⟩
theorem mkExpr_all : (∀ a : Expr, MkExpr a) ∧ (∀ a : Item, MkItem a) ∧ (∀ a : Source, MkSource a) ∧ (∀ a : SortKey, MkSortKey a) ∧ (∀ a : Query, MkQuery a) := by
 refine Expr.ind ?_ ?_ ?_ ?_ ?_
 ·intro kind op not val qual name kids sub hkids hsub
  exact ⟨markExprs_step _ hkids, markQuerys_step _ hsub⟩
 ·intro star qual e as_ he
  exact he
 ·intro table as_ on hon
  exact markExprs_step _ hon
 ·intro e desc he
  exact he
 ·intro distinct items from_ where_ order limit hitems hfrom_ hwhere_ horder
  exact ⟨markItems_step _ hitems, markSources_step _ hfrom_, markExprs_step _ hwhere_, markSortKeys_step _ horder⟩
theorem markExprs_c (es : List Expr) : MkC 49 Expr.row mkExpr cnExpr es := markExprs_step es (fun e _ => mkExpr_all.1 e)
theorem markQuerys_c (es : List Query) : MkC 50 Query.row mkQuery cnQuery es := markQuerys_step es (fun e _ => mkExpr_all.2.2.2.2 e)
set_option maxHeartbeats 1000000 in
theorem markExpr_c (kind : Int) (op : Int) (not : Bool) (val : Val) (qual : ByteArray) (name : ByteArray) (kids : List Expr) (sub : List Query) (q : Int) (w : World) (vs : List Value) (F : List Nat) (h : ValsF w (Expr.mk kind op not val qual name kids sub).row vs F) (hn : F.Nodup) (ho : OwnL w F) (hg : GlW w (fun _ => False)) (hlib : ∀ t ∈ libVars, t.1 ∉ F) (h0 : 0 ≤ q) (h1 : q + (cnL cnExpr kids : Int) + (cnL cnQuery sub : Int) ≤ 4611686018427387904) :
 callable Tryz.prog 17 = true ∧ Calls Tryz.prog 17 #[.agg vs.toArray, .int .i64 q] w fun e w' => ∃ r, e = .returned r ∧ r = .int .i64 (q + (cnL cnExpr kids : Int) + (cnL cnQuery sub : Int)) ∧ ValsF w' (Expr.mk kind op not val qual name (mkL mkExpr cnExpr (q) kids) (mkL mkQuery cnQuery (q + (cnL cnExpr kids : Int)) sub)).row vs F ∧ OwnL w' F ∧ ChL F w w' := by
 simp only [Expr.row_mk, lc, Val.row] at h ⊢
 obtain ⟨v0, r0, F0, R0, rfl, c0, hh0, rfl⟩ := vals_cons h
 obtain ⟨rfl, rfl, ok0⟩ := c0
 obtain ⟨v1, r1, F1, R1, rfl, c1, hh1, rfl⟩ := vals_cons hh0
 obtain ⟨rfl, rfl, ok1⟩ := c1
 obtain ⟨v2, r2, F2, R2, rfl, c2, hh2, rfl⟩ := vals_cons hh1
 obtain ⟨rfl, rfl, ok2⟩ := c2
 obtain ⟨v3, r3, F3, R3, rfl, c3, hh3, rfl⟩ := vals_cons hh2
 obtain ⟨rfl, rfl, ok3⟩ := c3
 obtain ⟨v4, r4, F4, R4, rfl, c4, hh4, rfl⟩ := vals_cons hh3
 obtain ⟨rfl, rfl, ok4⟩ := c4
 obtain ⟨v5, r5, F5, R5, rfl, c5, hh5, rfl⟩ := vals_cons hh4
 obtain ⟨rfl, rfl, ok5⟩ := c5
 obtain ⟨v6, r6, F6, R6, rfl, c6, hh6, rfl⟩ := vals_cons hh5
 obtain ⟨rfl, rfl, ok6⟩ := c6
 obtain ⟨v7, r7, F7, R7, rfl, c7, hh7, rfl⟩ := vals_cons hh6
 obtain ⟨rfl, rfl, ok7⟩ := c7
 obtain ⟨v8, r8, F8, R8, rfl, c8, hh8, rfl⟩ := vals_cons hh7
 obtain ⟨v9, r9, F9, R9, rfl, c9, hh9, rfl⟩ := vals_cons hh8
 obtain ⟨rfl, rfl⟩ := vals_nil hh9
 simp only [List.nil_append, List.append_nil] at hn ho hlib ⊢
 have n8 : F8.Nodup := nodup_of hn (by intro x; simp only [List.count_append]; omega)
 have n9 : F9.Nodup := nodup_of hn (by intro x; simp only [List.count_append]; omega)
 have o8 : OwnL w F8 := ho.sub (by intro x hx; simp [hx])
 have l8 : ∀ t ∈ libVars, t.1 ∉ F8 := fun t ht hm => hlib t ht (by simp [hm])
 have o9 : OwnL w F9 := ho.sub (by intro x hx; simp [hx])
 have l9 : ∀ t ∈ libVars, t.1 ∉ F9 := fun t ht hm => hlib t ht (by simp [hm])
 have d8_9 : ∀ x ∈ F8, x ∉ F9 := fun x hx hy => disj_of hn (by intro x; simp only [List.count_append]; omega) x hx hy
 have d9_8 : ∀ x ∈ F9, x ∉ F8 := fun x hx hy => disj_of hn (by intro x; simp only [List.count_append]; omega) x hx hy
 refine ⟨by kernel_rfl, ?_⟩
 have hcc := fun R => @calls_of_c Tryz.prog w 17 Tryz.f17 _ [.agg [.int .i64 kind, .int .i64 op, .bool not, .int .i64 val.kind, .int .i64 val.num, .string val.text, .string qual, .string name, v8, v9].toArray, .int .i64 q] R Tryz.func17 rfl (Nat.le_of_ble_eq_true rfl)
 refine hcc _ ?_
 simp (maxSteps := 10000000) only [tt, cc, seval, Tryz.f17, cBox]
 intro b w1 hb hw1
 obtain ⟨hbx, hg1⟩ := box_new hb hw1
 have hlt : ∀ x ∈ F8 ++ (F9), x < b := fun x hx => by rw [hb]; exact Go.Cv.vis_lt (ho.vis x hx)
 replace c8 := c8.grow hg1.grow
 replace o8 := o8.grow hg1.grow
 replace c9 := c9.grow hg1.grow
 replace o9 := o9.grow hg1.grow
 have hG := glw_gr hg1 hg
 refine ⟨_, box_cell (j := 8) hbx rfl, ?_⟩
 obtain ⟨hcb8, hcl8⟩ := markExprs_c kids w1 (q) v8 F8 c8 n8 o8 hG l8 (by omega) (by omega)
 refine ⟨hcb8, _, hcl8, ?_⟩
 rintro _ w2 ⟨rfl, c8, o8, g8⟩
 replace hbx := (g8.keep b (lt_of_heap hbx) (fun hm => absurd (hlt b (by simp [hm])) (Nat.lt_irrefl _))).trans hbx
 replace hG := glw_chl g8 hG l8
 replace c9 := c9.chg g8.chg d9_8
 replace o9 := o9.other g8 d9_8
 have gg0 : ChL (F8 ++ (F9)) w1 w2 := g8.mono (by intro x hx; simp [hx])
 refine Stp.go ?_
 simp (maxSteps := 10000000) only [tt, cc, seval]
 refine ⟨_, box_cell (j := 9) hbx rfl, ?_⟩
 obtain ⟨hcb9, hcl9⟩ := markQuerys_c sub w2 (q + (cnL cnExpr kids : Int)) v9 F9 c9 n9 o9 hG l9 (by omega) (by omega)
 refine ⟨hcb9, _, hcl9, ?_⟩
 rintro _ w3 ⟨rfl, c9, o9, g9⟩
 replace hbx := (g9.keep b (lt_of_heap hbx) (fun hm => absurd (hlt b (by simp [hm])) (Nat.lt_irrefl _))).trans hbx
 replace hG := glw_chl g9 hG l9
 replace c8 := c8.chg g9.chg d8_9
 replace o8 := o8.other g9 d8_9
 have gg1 : ChL (F8 ++ (F9)) w2 w3 := g9.mono (by intro x hx; simp [hx])
 refine Stp.go ?_
 simp (maxSteps := 10000000) only [tt, cc, seval]
 refine ⟨?_, o8.app (o9), (((hg1.chl _).trans gg0).trans gg1)⟩
 simpa [mkL_len] using (vals_cons_mk (lit_cell ok0) (vals_cons_mk (lit_cell ok1) (vals_cons_mk (lit_cell ok2) (vals_cons_mk (lit_cell ok3) (vals_cons_mk (lit_cell ok4) (vals_cons_mk (lit_cell ok5) (vals_cons_mk (lit_cell ok6) (vals_cons_mk (lit_cell ok7) (vals_cons_mk c8 (vals_cons_mk c9 vals_nil_mk))))))))))
end Go.Proofs.YteffjmaadkkmeaaGreatDoor
set_option maxRecDepth 8000
namespace Go.Proofs.YteffjmaadkkmeaaGreatDoor
open Go Go.Dv
open Go.Vc (D shrI xorI andI and255)
section
variable {L : List Tok}
def Wt {α : Type} (m : PM α) (w : α → Nat) (c : Nat) : Prop := ∀ s x s', m s = some (x, s') → w x + 64 * s.a ≤ c + 64 * s'.a
theorem adv_a (s : PS) : (adv s).a = s.a + 1 := rfl
theorem fl_a (s : PS) : (fl s).a = s.a := rfl
theorem must_a (c : Bool) (s : PS) : s.a ≤ (must c s).a := by unfold must; split <;> simp [adv, fl]
theorem tkIf_a (c : Bool) (s : PS) : s.a ≤ (tkIf c s).a := by unfold tkIf; split <;> simp [adv]
theorem mText_a (k : Int) (s : PS) : s.a ≤ (mText L k s).2.a := by unfold mText; split <;> simp [adv, fl]
theorem asM_a (s : PS) : s.a ≤ (asM L s).2.a := by
 unfold asM
 split
 ·have := mText_a (L := L) 2 (adv s); rw [adv_a] at this; omega
 ·exact Nat.le_refl _
theorem sourceM_a (s : PS) : s.a ≤ (sourceM L s).2.a := Nat.le_trans (mText_a (L := L) 2 s) (asM_a _)
theorem sourceM_w (s : PS) : cnSource (sourceM L s).1 = 2 := rfl
theorem withOn_w (x : Source) (h : cnSource x = 2) (e : Expr) : cnSource (x.withOn [e]) ≤ 2 + cnExpr e := by
 obtain ⟨a, b, c⟩ := x
 simp only [Source.withOn, cnSource_mk, cnL]
 omega
theorem limitM_a (s : PS) : s.a ≤ (limitM L s).2.a := by
 unfold limitM
 split
 ·have := mText_a (L := L) 3 (adv s); rw [adv_a] at this; show s.a ≤ (mText L 3 (adv s)).2.a; omega
 ·exact Nat.le_refl _
variable {f : Nat → PM Expr} {q : PM Query}
theorem Wt.chain {g : PM Expr} (hg : Wt g cnExpr 8) (lv : Nat) : ∀ (n : Nat) (e : Expr) (s : PS) (x : Expr) (s' : PS), chainM L g lv n e s = some (x, s') → cnExpr x + 64 * s.a ≤ cnExpr e + 64 * s'.a
 | 0, _, _, _, _, h => by cases h
 | n + 1, e, s, x, s', h => by
  rw [chainM] at h
  split at h
  ·injection h with h; injection h with hx h; subst hx h; exact Nat.le_refl _
  ·split at h
   ·cases h
   ·rename_i y s1 h1
    have a1 := hg _ _ _ h1
    have a2 := Wt.chain hg lv n _ _ _ _ h
    (try simp only [mBin, mUn, mKids, mLit, mCol, zExpr, cnExpr_mk, cnItem_mk, cnSource_mk, cnSortKey_mk, cnQuery_mk, cnL, cnL_app, adv_a, fl_a] at *); omega
theorem Wt.sep {α : Type} {g : PM α} {w : α → Nat} {c : Nat} (hc : c ≤ 64) (hg : Wt g w c) : ∀ (n : Nat) (l : List α) (s : PS) (x : List α) (s' : PS), sepM L g n l s = some (x, s') → cnL w x + 64 * s.a ≤ cnL w l + 64 * s'.a
 | 0, _, _, _, _, h => by cases h
 | n + 1, l, s, x, s', h => by
  rw [sepM] at h
  split at h
  ·split at h
   ·cases h
   ·rename_i y s1 h1
    have a1 := hg _ _ _ h1
    have a2 := Wt.sep hc hg n _ _ _ _ h
    (try simp only [mBin, mUn, mKids, mLit, mCol, zExpr, cnExpr_mk, cnItem_mk, cnSource_mk, cnSortKey_mk, cnQuery_mk, cnL, cnL_app, adv_a, fl_a] at *); omega
  ·injection h with h; injection h with hx h; subst hx h; exact Nat.le_refl _
theorem Wt.ors (hf : ∀ lv, Wt (f lv) cnExpr 8) : Wt (orsM L f) (cnL cnExpr) 8 := fun s x s' h => by
 unfold orsM at h
 split at h
 ·cases h
 ·rename_i y s1 h1
  have a1 := hf 1 _ _ _ h1
  have a2 := Wt.sep (by omega) (hf 1) _ _ _ _ _ h
  (try simp only [mBin, mUn, mKids, mLit, mCol, zExpr, cnExpr_mk, cnItem_mk, cnSource_mk, cnSortKey_mk, cnQuery_mk, cnL, cnL_app, adv_a, fl_a] at *); omega
theorem Wt.inn (hf : ∀ lv, Wt (f lv) cnExpr 8) (hq : Wt q cnQuery 15) (e : Expr) (n : Bool) (s : PS) (x : Expr) (s' : PS) (h : inM L f q e n s = some (x, s')) : cnExpr x + 64 * s.a ≤ cnExpr e + 40 + 64 * s'.a := by
 unfold inM at h
 simp only at h
 have m1 := must_a (isSg L s 40) s
 split at h
 ·split at h
  ·cases h
  ·rename_i y s1 h1
   injection h with h; injection h with hx h; subst hx h
   have a1 := hq _ _ _ h1
   have m2 := must_a (isSg L s1 41) s1
   (try simp only [mBin, mUn, mKids, mLit, mCol, zExpr, cnExpr_mk, cnItem_mk, cnSource_mk, cnSortKey_mk, cnQuery_mk, cnL, cnL_app, adv_a, fl_a] at *); omega
 ·split at h
  ·cases h
  ·rename_i y s1 h1
   injection h with h; injection h with hx h; subst hx h
   have a1 := Wt.ors hf _ _ _ h1
   have m2 := must_a (isSg L s1 41) s1
   (try simp only [mBin, mUn, mKids, mLit, mCol, zExpr, cnExpr_mk, cnItem_mk, cnSource_mk, cnSortKey_mk, cnQuery_mk, cnL, cnL_app, adv_a, fl_a] at *); omega
theorem Wt.cmpT (hf : ∀ lv, Wt (f lv) cnExpr 8) (hq : Wt q cnQuery 15) (e : Expr) (s : PS) (x : Expr) (s' : PS) (h : cmpT L f q e s = some (x, s')) : cnExpr x + 64 * s.a ≤ cnExpr e + 64 * s'.a := by
 unfold Go.Proofs.YteffjmaadkkmeaaGreatDoor.cmpT at h
 simp only at h
 split at h
 ·injection h with h; injection h with hx h; subst hx h
  have m1 := tkIf_a (isKey L (adv s) 15) (adv s)
  have m2 := must_a (isKey L (tkIf (isKey L (adv s) 15) (adv s)) 20) (tkIf (isKey L (adv s) 15) (adv s))
  (try simp only [mBin, mUn, mKids, mLit, mCol, zExpr, cnExpr_mk, cnItem_mk, cnSource_mk, cnSortKey_mk, cnQuery_mk, cnL, cnL_app, adv_a, fl_a] at *); omega
 ·have m0 := tkIf_a (isKey L s 15) s
  split at h
  ·split at h
   ·cases h
   ·rename_i y s1 h1
    split at h
    ·cases h
    ·rename_i z s2 h2
     injection h with h; injection h with hx h; subst hx h
     have a1 := hf 5 _ _ _ h1
     have a2 := hf 5 _ _ _ h2
     have m2 := must_a (isKey L s1 13) s1
     (try simp only [mBin, mUn, mKids, mLit, mCol, zExpr, cnExpr_mk, cnItem_mk, cnSource_mk, cnSortKey_mk, cnQuery_mk, cnL, cnL_app, adv_a, fl_a] at *); omega
  ·split at h
   ·have a1 := Wt.inn hf hq e _ _ _ _ h
    (try simp only [mBin, mUn, mKids, mLit, mCol, zExpr, cnExpr_mk, cnItem_mk, cnSource_mk, cnSortKey_mk, cnQuery_mk, cnL, cnL_app, adv_a, fl_a] at *); omega
   ·injection h with h; injection h with hx h; subst hx h
    show cnExpr e + 64 * s.a ≤ cnExpr e + 64 * (tkIf (isKey L s 15) s).a
    omega
theorem Wt.cmp (hf : ∀ lv, Wt (f lv) cnExpr 8) (hq : Wt q cnQuery 15) : Wt (cmpM L f q) cnExpr 8 := fun s x s' h => by
 unfold cmpM at h
 split at h
 ·cases h
 ·rename_i y s1 h1
  have a1 := hf 5 _ _ _ h1
  split at h
  ·have a2 := Wt.cmpT hf hq _ _ _ _ h
   omega
  ·split at h
   ·cases h
   ·rename_i z s2 h2
    injection h with h; injection h with hx h; subst hx h
    have a2 := hf 5 _ _ _ h2
    (try simp only [mBin, mUn, mKids, mLit, mCol, zExpr, cnExpr_mk, cnItem_mk, cnSource_mk, cnSortKey_mk, cnQuery_mk, cnL, cnL_app, adv_a, fl_a] at *); omega
theorem Wt.prim (hf : ∀ lv, Wt (f lv) cnExpr 8) (hq : Wt q cnQuery 15) : Wt (primM L f q) cnExpr 8 := fun s x s' h => by
 unfold primM at h
 simp only at h
 split at h
 ·injection h with h; injection h with hx h; subst hx h; (try simp only [mBin, mUn, mKids, mLit, mCol, zExpr, cnExpr_mk, cnItem_mk, cnSource_mk, cnSortKey_mk, cnQuery_mk, cnL, cnL_app, adv_a, fl_a] at *); omega
 split at h
 ·injection h with h; injection h with hx h; subst hx h; (try simp only [mBin, mUn, mKids, mLit, mCol, zExpr, cnExpr_mk, cnItem_mk, cnSource_mk, cnSortKey_mk, cnQuery_mk, cnL, cnL_app, adv_a, fl_a] at *); omega
 split at h
 ·injection h with h; injection h with hx h; subst hx h; (try simp only [mBin, mUn, mKids, mLit, mCol, zExpr, cnExpr_mk, cnItem_mk, cnSource_mk, cnSortKey_mk, cnQuery_mk, cnL, cnL_app, adv_a, fl_a] at *); omega
 split at h
 ·injection h with h; injection h with hx h; subst hx h; (try simp only [mBin, mUn, mKids, mLit, mCol, zExpr, cnExpr_mk, cnItem_mk, cnSource_mk, cnSortKey_mk, cnQuery_mk, cnL, cnL_app, adv_a, fl_a] at *); omega
 split at h
 ·injection h with h; injection h with hx h; subst hx h; (try simp only [mBin, mUn, mKids, mLit, mCol, zExpr, cnExpr_mk, cnItem_mk, cnSource_mk, cnSortKey_mk, cnQuery_mk, cnL, cnL_app, adv_a, fl_a] at *); omega
 split at h
 ·split at h
  ·injection h with h; injection h with hx h; subst hx h
   have m1 := mText_a (L := L) 2 (adv (adv s))
   (try simp only [mBin, mUn, mKids, mLit, mCol, zExpr, cnExpr_mk, cnItem_mk, cnSource_mk, cnSortKey_mk, cnQuery_mk, cnL, cnL_app, adv_a, fl_a] at *); omega
  ·injection h with h; injection h with hx h; subst hx h; (try simp only [mBin, mUn, mKids, mLit, mCol, zExpr, cnExpr_mk, cnItem_mk, cnSource_mk, cnSortKey_mk, cnQuery_mk, cnL, cnL_app, adv_a, fl_a] at *); omega
 split at h
 ·split at h
  ·cases h
  ·rename_i y s1 h1
   injection h with h; injection h with hx h; subst hx h
   have a1 := hf 1 _ _ _ h1
   have m1 := must_a (isSg L s1 41) s1
   (try simp only [mBin, mUn, mKids, mLit, mCol, zExpr, cnExpr_mk, cnItem_mk, cnSource_mk, cnSortKey_mk, cnQuery_mk, cnL, cnL_app, adv_a, fl_a] at *); omega
 split at h
 ·split at h
  ·cases h
  ·rename_i y s1 h1
   injection h with h; injection h with hx h; subst hx h
   have a1 := hq _ _ _ h1
   have m1 := must_a (isSg L (adv s) 40) (adv s)
   have m2 := must_a (isSg L s1 41) s1
   (try simp only [mBin, mUn, mKids, mLit, mCol, zExpr, cnExpr_mk, cnItem_mk, cnSource_mk, cnSortKey_mk, cnQuery_mk, cnL, cnL_app, adv_a, fl_a] at *); omega
 ·injection h with h; injection h with hx h; subst hx h; (try simp only [mBin, mUn, mKids, mLit, mCol, zExpr, cnExpr_mk, cnItem_mk, cnSource_mk, cnSortKey_mk, cnQuery_mk, cnL, cnL_app, adv_a, fl_a] at *); omega
theorem Wt.stepE (hf : ∀ lv, Wt (f lv) cnExpr 8) (hq : Wt q cnQuery 15) (lv : Nat) : Wt (stepE L f q lv) cnExpr 8 := fun s x s' h => by
 unfold Go.Proofs.YteffjmaadkkmeaaGreatDoor.stepE at h
 split at h
 ·split at h
  ·split at h
   ·cases h
   ·rename_i y s1 h1
    injection h with h; injection h with hx h; subst hx h
    have a1 := hf 3 _ _ _ h1
    (try simp only [mBin, mUn, mKids, mLit, mCol, zExpr, cnExpr_mk, cnItem_mk, cnSource_mk, cnSortKey_mk, cnQuery_mk, cnL, cnL_app, adv_a, fl_a] at *); omega
  ·exact hf 4 _ _ _ h
 split at h
 ·exact Wt.cmp hf hq _ _ _ h
 split at h
 ·split at h
  ·split at h
   ·cases h
   ·rename_i y s1 h1
    injection h with h; injection h with hx h; subst hx h
    have a1 := hf 8 _ _ _ h1
    (try simp only [mBin, mUn, mKids, mLit, mCol, zExpr, cnExpr_mk, cnItem_mk, cnSource_mk, cnSortKey_mk, cnQuery_mk, cnL, cnL_app, adv_a, fl_a] at *); omega
  ·exact hf 9 _ _ _ h
 split at h
 ·exact Wt.prim hf hq _ _ _ h
 ·split at h
  ·cases h
  ·rename_i y s1 h1
   have a1 := hf _ _ _ _ h1
   have a2 := Wt.chain (hf _) lv _ _ _ _ _ h
   omega
theorem Wt.item (hf : ∀ lv, Wt (f lv) cnExpr 8) : Wt (itemM L f) cnItem 11 := fun s x s' h => by
 unfold itemM at h
 split at h
 ·injection h with h; injection h with hx h; subst hx h; (try simp only [mBin, mUn, mKids, mLit, mCol, zExpr, cnExpr_mk, cnItem_mk, cnSource_mk, cnSortKey_mk, cnQuery_mk, cnL, cnL_app, adv_a, fl_a] at *); omega
 split at h
 ·injection h with h; injection h with hx h; subst hx h; (try simp only [mBin, mUn, mKids, mLit, mCol, zExpr, cnExpr_mk, cnItem_mk, cnSource_mk, cnSortKey_mk, cnQuery_mk, cnL, cnL_app, adv_a, fl_a] at *); omega
 split at h
 ·cases h
 ·rename_i y s1 h1
  injection h with h; injection h with hx h; subst hx h
  have a1 := hf 1 _ _ _ h1
  have m1 := asM_a (L := L) s1
  have e : cnItem (.mk false z0 y (asM L s1).1) = 3 + cnExpr y := by
   obtain ⟨a, b, c, d, e, f, g, h⟩ := y
   simp only [cnItem_mk, cnExpr_mk]; omega
  rw [e]
  omega
theorem Wt.sources (hf : ∀ lv, Wt (f lv) cnExpr 8) : ∀ (n : Nat) (l : List Source) (s : PS) (x : List Source) (s' : PS), sourcesM L f n l s = some (x, s') → cnL cnSource x + 64 * s.a ≤ cnL cnSource l + 64 * s'.a
 | 0, _, _, _, _, h => by cases h
 | n + 1, l, s, x, s', h => by
  rw [sourcesM] at h
  have m1 := sourceM_a (L := L) (adv s)
  have w1 := sourceM_w (L := L) (adv s)
  split at h
  ·have a2 := Wt.sources hf n _ _ _ _ h
   (try simp only [mBin, mUn, mKids, mLit, mCol, zExpr, cnExpr_mk, cnItem_mk, cnSource_mk, cnSortKey_mk, cnQuery_mk, cnL, cnL_app, adv_a, fl_a] at *); omega
  simp only at h
  split at h
  ·split at h
   ·cases h
   ·rename_i y s1 h1
    have a1 := hf 1 _ _ _ h1
    have m2 := must_a (isKey L (sourceM L (adv s)).2 5) (sourceM L (adv s)).2
    have a2 := Wt.sources hf n _ _ _ _ h
    have w2 := withOn_w _ w1 y
    (try simp only [mBin, mUn, mKids, mLit, mCol, zExpr, cnExpr_mk, cnItem_mk, cnSource_mk, cnSortKey_mk, cnQuery_mk, cnL, cnL_app, adv_a, fl_a] at *); omega
  ·injection h with h; injection h with hx h; subst hx h; exact Nat.le_refl _
theorem Wt.wher (hf : ∀ lv, Wt (f lv) cnExpr 8) : Wt (whereM L f) (cnL cnExpr) 0 := fun s x s' h => by
 unfold whereM at h
 split at h
 ·split at h
  ·cases h
  ·rename_i y s1 h1
   injection h with h; injection h with hx h; subst hx h
   have a1 := hf 1 _ _ _ h1
   (try simp only [mBin, mUn, mKids, mLit, mCol, zExpr, cnExpr_mk, cnItem_mk, cnSource_mk, cnSortKey_mk, cnQuery_mk, cnL, cnL_app, adv_a, fl_a] at *); omega
 ·injection h with h; injection h with hx h; subst hx h; (try simp only [mBin, mUn, mKids, mLit, mCol, zExpr, cnExpr_mk, cnItem_mk, cnSource_mk, cnSortKey_mk, cnQuery_mk, cnL, cnL_app, adv_a, fl_a] at *); omega
theorem cnSort_eq (e : Expr) (d : Bool) : cnSortKey (.mk e d) = 1 + cnExpr e := by
 obtain ⟨a, b, c, d, e, f, g, h⟩ := e
 simp only [cnSortKey_mk, cnExpr_mk]; omega
theorem Wt.sort (hf : ∀ lv, Wt (f lv) cnExpr 8) : Wt (sortM L f) cnSortKey 9 := fun s x s' h => by
 unfold sortM at h
 split at h
 ·cases h
 ·rename_i y s1 h1
  have a1 := hf 1 _ _ _ h1
  split at h
  ·injection h with h; injection h with hx h; subst hx h
   rw [cnSort_eq, adv_a]
   omega
  ·injection h with h; injection h with hx h; subst hx h
   have m1 := tkIf_a (isKey L s1 10) s1
   rw [cnSort_eq]
   omega
theorem Wt.order (hf : ∀ lv, Wt (f lv) cnExpr 8) : Wt (orderM L f) (cnL cnSortKey) 0 := fun s x s' h => by
 unfold orderM at h
 simp only at h
 split at h
 ·split at h
  ·cases h
  ·rename_i y s1 h1
   have m1 := must_a (isKey L (adv s) 8) (adv s)
   have a1 := Wt.sort hf _ _ _ h1
   have a2 := Wt.sep (by omega) (Wt.sort hf) _ _ _ _ _ h
   (try simp only [mBin, mUn, mKids, mLit, mCol, zExpr, cnExpr_mk, cnItem_mk, cnSource_mk, cnSortKey_mk, cnQuery_mk, cnL, cnL_app, adv_a, fl_a] at *); omega
 ·injection h with h; injection h with hx h; subst hx h; (try simp only [mBin, mUn, mKids, mLit, mCol, zExpr, cnExpr_mk, cnItem_mk, cnSource_mk, cnSortKey_mk, cnQuery_mk, cnL, cnL_app, adv_a, fl_a] at *); omega
theorem Wt.items (hf : ∀ lv, Wt (f lv) cnExpr 8) : Wt (itemsM L f) (cnL cnItem) 11 := fun s x s' h => by
 unfold itemsM at h
 split at h
 ·cases h
 ·rename_i y s1 h1
  have a1 := Wt.item hf _ _ _ h1
  have a2 := Wt.sep (by omega) (Wt.item hf) _ _ _ _ _ h
  (try simp only [mBin, mUn, mKids, mLit, mCol, zExpr, cnExpr_mk, cnItem_mk, cnSource_mk, cnSortKey_mk, cnQuery_mk, cnL, cnL_app, adv_a, fl_a] at *); omega
theorem Wt.stepQ (hf : ∀ lv, Wt (f lv) cnExpr 8) : Wt (stepQ L f) cnQuery 15 := fun s x s' h => by
 unfold Go.Proofs.YteffjmaadkkmeaaGreatDoor.stepQ at h
 simp only at h
 split at h
 ·cases h
 rename_i its s2 h1
 split at h
 ·cases h
 rename_i frs s4 h2
 split at h
 ·cases h
 rename_i wh s5 h3
 split at h
 ·cases h
 rename_i od s6 h4
 injection h with h; injection h with hx h; subst hx h
 have m1 := must_a (isKey L s 1) s
 have m2 := tkIf_a (isKey L (must (isKey L s 1) s) 2) (must (isKey L s 1) s)
 have a1 := Wt.items hf _ _ _ h1
 have m3 := must_a (isKey L s2 3) s2
 have m4 := sourceM_a (L := L) (must (isKey L s2 3) s2)
 have w1 := sourceM_w (L := L) (must (isKey L s2 3) s2)
 have a2 := Wt.sources hf _ _ _ _ _ h2
 have a3 := Wt.wher hf _ _ _ h3
 have a4 := Wt.order hf _ _ _ h4
 have m5 := limitM_a (L := L) s6
 (try simp only [mBin, mUn, mKids, mLit, mCol, zExpr, cnExpr_mk, cnItem_mk, cnSource_mk, cnSortKey_mk, cnQuery_mk, cnL, cnL_app, adv_a, fl_a] at *); omega
theorem pP_wt : ∀ k, (∀ lv, Wt ((pP L k).1 lv) cnExpr 8) ∧ Wt (pP L k).2 cnQuery 15
 | 0 => ⟨fun _ _ _ _ h => (by cases h), fun _ _ _ h => (by cases h)⟩
 | k + 1 => ⟨fun lv => Wt.stepE (pP_wt k).1 (pP_wt k).2 lv, Wt.stepQ (pP_wt k).1⟩
theorem takeE_cn (hL : L.length ≤ 1048576) : cnExpr (takeE L).1 ≤ 100000000 := by
 unfold takeE
 cases h : pExpr L 1 s0 with
 | none => exact (by decide : cnExpr zExpr ≤ 100000000)
 | some p =>
  obtain ⟨x, s⟩ := p
  have h1 := (pP_wt (L := L) (pD L)).1 1 _ _ _ h
  have h2 := (pExpr_ok (L := L) 1 _ _ _ h).2.1 (Nat.zero_le _)
  unfold takeM
  simp only
  split
  ·exact (by decide : cnExpr zExpr ≤ 100000000)
  ·show cnExpr x ≤ _
   omega
end
end Go.Proofs.YteffjmaadkkmeaaGreatDoor
set_option maxRecDepth 8000
namespace Go.Proofs.YteffjmaadkkmeaaGreatDoor
open Go Go.Dv
open Go.Vc (D shrI xorI andI and255)
open Go.Cv
open Go.Vc (CellF ValsF callable)
def HdC {α : Type} (fn : FuncId) (row : α → List D) (f : Int → α → α) (c : α → Nat) (es : List α) : Prop :=
 ∀ k : Int, 0 ≤ k → k + cnL c es ≤ 4611686018427387904 → Cl Tryz.prog fn [.c (.sl es.length ((mkL f c k es).flatMap row) none), vi k] [] fun r _ => r = vi (k + cnL c es)
def HdExpr : Expr → Prop
 | .mk _ _ _ _ _ _ kids sub => HdC 51 Expr.row mkExpr cnExpr kids ∧ HdC 52 Query.row mkQuery cnQuery sub
def HdItem : Item → Prop
 | .mk _ _ e _ => HdExpr e
def HdSource : Source → Prop
 | .mk _ _ on => HdC 51 Expr.row mkExpr cnExpr on
def HdSortKey : SortKey → Prop
 | .mk e _ => HdExpr e
def HdQuery : Query → Prop
 | .mk _ items from_ where_ order _ => HdC 61 Item.row mkItem cnItem items ∧ HdC 62 Source.row mkSource cnSource from_ ∧ HdC 51 Expr.row mkExpr cnExpr where_ ∧ HdC 63 SortKey.row mkSortKey cnSortKey order
set_option maxHeartbeats 8000000 in
theorem heldExprs_step (es : List Expr) (hx : ∀ e ∈ es, HdExpr e) : HdC 51 Expr.row mkExpr cnExpr es := by
 intro k h0 hk
 obtain ⟨ms, hms⟩ : ∃ ms, ms = mkL mkExpr cnExpr k es := ⟨_, rfl⟩
 have hml : es.length = ms.length := by rw [hms, mkL_len]
 rw [← hms, hml]
 refine cl_of_d follows_mixed false Tryz.func51 rfl (by kernel_rfl) ?_
 simp only [Tryz.f51, tt, seval]
 refine dLoop.intro (fun f L p => ∃ i : Nat, f 5 = vi i ∧ f 1 = vi (k + cnL cnExpr (es.take i)) ∧ i ≤ ms.length ∧ L = [] ∧ p = none) (fun f _ _ => (ms.length - ixS (f 5)).toNat) [] none ⟨SubO.nil _, PoSub.none _, ?_⟩ ?_
 ·simp only [tt, seval]
  exact ⟨0, rfl, viE (by simp [cnL]), by omega⟩
 ·rintro g L p ⟨i, h5, h1, hi, rfl, rfl⟩
  simp only [tt, seval] at h5 h1
  simp only [tt, seval, h5, h1, Int.ofNat_lt]
  refine fun _ => And.intro (fun hlt => ?_) (fun hge => ?_)
  ·have hlt : i < ms.length := by omega
   have hlt' : i < es.length := by omega
   have hks := cnL_take_succ cnExpr es i hlt'
   have hkl := cnL_take_le cnExpr es (i + 1)
   have hx' : ms[i]? = some (mkExpr (k + cnL cnExpr (es.take i)) es[i]) := by rw [hms]; exact mkL_get _ _ _ _ _ hlt'
   generalize hk0 : k + (cnL cnExpr (es.take i) : Int) = k0 at *
   have hxe := hx _ (List.getElem_mem hlt')
   obtain ⟨e, he⟩ : ∃ e, es[i] = e := ⟨_, rfl⟩
   rw [he] at hx' hks hxe
   obtain ⟨kind, op, not, val, qual, name, kids, sub⟩ := e
   obtain ⟨Hkids, Hsub⟩ := hxe
   rw [cnExpr_mk] at hks
   rw [mkExpr_mk] at hx'
   have i0 : ((0 : Int) ≤ (i : Int)) = True := eq_true (by omega)
   have iL : ((i : Int) < (ms.length : Int)) = True := eq_true (by omega)
   have iT : (i < ms.length) = True := eq_true hlt
   simp only [tt, seval, h5, h1, idxAt hx' Expr.row_len, i0, iL, iT, mkL_len, Expr.row_mk, Val.row, lc, List.append_assoc]
   rw [wrap_id (n := k0 + 1) (by omega) (by omega)]
   generalize hk1 : k0 + 1 = k1 at *
   try simp only [tt, seval, h5, h1, idxAt hx' Expr.row_len, i0, iL, iT, mkL_len, Expr.row_mk, Val.row, lc, List.append_assoc]
   rw [wrap_id (n := k1 + 1) (by omega) (by omega)]
   generalize hk2 : k1 + 1 = k2 at *
   try simp only [tt, seval, h5, h1, idxAt hx' Expr.row_len, i0, iL, iT, mkL_len, Expr.row_mk, Val.row, lc, List.append_assoc]
   rw [wrap_id (n := k2 + 1) (by omega) (by omega)]
   generalize hk3 : k2 + 1 = k3 at *
   try simp only [tt, seval, h5, h1, idxAt hx' Expr.row_len, i0, iL, iT, mkL_len, Expr.row_mk, Val.row, lc, List.append_assoc]
   rw [wrap_id (n := k3 + 1) (by omega) (by omega)]
   generalize hk4 : k3 + 1 = k4 at *
   try simp only [tt, seval, h5, h1, idxAt hx' Expr.row_len, i0, iL, iT, mkL_len, Expr.row_mk, Val.row, lc, List.append_assoc]
   rw [wrap_id (n := k4 + 1) (by omega) (by omega)]
   generalize hk5 : k4 + 1 = k5 at *
   try simp only [tt, seval, h5, h1, idxAt hx' Expr.row_len, i0, iL, iT, mkL_len, Expr.row_mk, Val.row, lc, List.append_assoc]
   refine dDrawn.intro [] (pln [0, 2, 4, 6, 8, 10, 12, 15, 16]) (by kernel_rfl) ?_
   simp only [tt, seval]
   all_goals try simp only [tt, seval, h5, h1, idxAt hx' Expr.row_len, i0, iL, iT, mkL_len, Expr.row_mk, Val.row, lc, List.append_assoc]
   refine call0 (markText_d (k5) (by omega)) ?_ ?_ ?_
   ·decide
   ·simp only [tt, seval, h5, h1, idxAt hx' Expr.row_len, i0, iL, iT, mkL_len, Expr.row_mk, Val.row, lc, List.append_assoc]
   rintro r rfl
   simp only [tt, seval, h5, h1, idxAt hx' Expr.row_len, i0, iL, iT, mkL_len, Expr.row_mk, Val.row, lc, List.append_assoc]
   rw [wrap_id (n := k5 + 1) (by omega) (by omega)]
   generalize hk6 : k5 + 1 = k6 at *
   try simp only [tt, seval, h5, h1, idxAt hx' Expr.row_len, i0, iL, iT, mkL_len, Expr.row_mk, Val.row, lc, List.append_assoc]
   refine dDrawn.intro [] (pln [0, 2, 4, 6, 8, 10, 13, 14]) (by kernel_rfl) ?_
   simp only [tt, seval]
   all_goals try simp only [tt, seval, h5, h1, idxAt hx' Expr.row_len, i0, iL, iT, mkL_len, Expr.row_mk, Val.row, lc, List.append_assoc]
   refine call0 (markText_d (k6) (by omega)) ?_ ?_ ?_
   ·decide
   ·simp only [tt, seval, h5, h1, idxAt hx' Expr.row_len, i0, iL, iT, mkL_len, Expr.row_mk, Val.row, lc, List.append_assoc]
   rintro r rfl
   simp only [tt, seval, h5, h1, idxAt hx' Expr.row_len, i0, iL, iT, mkL_len, Expr.row_mk, Val.row, lc, List.append_assoc]
   rw [wrap_id (n := k6 + 1) (by omega) (by omega)]
   generalize hk7 : k6 + 1 = k7 at *
   try simp only [tt, seval, h5, h1, idxAt hx' Expr.row_len, i0, iL, iT, mkL_len, Expr.row_mk, Val.row, lc, List.append_assoc]
   refine dDrawn.intro [] (pln [0, 2, 4, 6, 8, 10, 13, 14]) (by kernel_rfl) ?_
   simp only [tt, seval]
   all_goals try simp only [tt, seval, h5, h1, idxAt hx' Expr.row_len, i0, iL, iT, mkL_len, Expr.row_mk, Val.row, lc, List.append_assoc]
   refine call0 (markText_d (k7) (by omega)) ?_ ?_ ?_
   ·decide
   ·simp only [tt, seval, h5, h1, idxAt hx' Expr.row_len, i0, iL, iT, mkL_len, Expr.row_mk, Val.row, lc, List.append_assoc]
   rintro r rfl
   simp only [tt, seval, h5, h1, idxAt hx' Expr.row_len, i0, iL, iT, mkL_len, Expr.row_mk, Val.row, lc, List.append_assoc]
   rw [wrap_id (n := k7 + 1) (by omega) (by omega)]
   generalize hk8 : k7 + 1 = k8 at *
   try simp only [tt, seval, h5, h1, idxAt hx' Expr.row_len, i0, iL, iT, mkL_len, Expr.row_mk, Val.row, lc, List.append_assoc]
   refine call0 (Hkids (k8) (by omega) (by omega)) ?_ ?_ ?_
   ·decide
   ·simp only [tt, seval, h5, h1, idxAt hx' Expr.row_len, i0, iL, iT, mkL_len, Expr.row_mk, Val.row, lc, List.append_assoc]
   rintro r rfl
   simp only [tt, seval, h5, h1, idxAt hx' Expr.row_len, i0, iL, iT, mkL_len, Expr.row_mk, Val.row, lc, List.append_assoc]
   have ng8 : decide (k8 + (cnL cnExpr kids : Int) < 0) = false := decide_eq_false (by omega)
   have np8 : (k8 + (cnL cnExpr kids : Int) < 0) = False := eq_false (by omega)
   try simp only [tt, seval, ng8, np8, h5, h1, idxAt hx' Expr.row_len, i0, iL, iT, mkL_len, Expr.row_mk, Val.row, lc, List.append_assoc]
   generalize hk9 : k8 + (cnL cnExpr kids : Int) = k9 at *
   refine call0 (Hsub (k9) (by omega) (by omega)) ?_ ?_ ?_
   ·decide
   ·simp only [tt, seval, h5, h1, idxAt hx' Expr.row_len, i0, iL, iT, mkL_len, Expr.row_mk, Val.row, lc, List.append_assoc]
   rintro r rfl
   simp only [tt, seval, h5, h1, idxAt hx' Expr.row_len, i0, iL, iT, mkL_len, Expr.row_mk, Val.row, lc, List.append_assoc]
   have ng9 : decide (k9 + (cnL cnQuery sub : Int) < 0) = false := decide_eq_false (by omega)
   have np9 : (k9 + (cnL cnQuery sub : Int) < 0) = False := eq_false (by omega)
   try simp only [tt, seval, ng9, np9, h5, h1, idxAt hx' Expr.row_len, i0, iL, iT, mkL_len, Expr.row_mk, Val.row, lc, List.append_assoc]
   generalize hk10 : k9 + (cnL cnQuery sub : Int) = k10 at *
   rw [wrS i (by omega)]
   exact ⟨[], none, SubO.nil _, PoSub.none _, ⟨i + 1, rfl, viE (by rw [hks]; omega), by omega, rfl, rfl⟩, by simp only [ixS]; omega⟩
  ·have : i = es.length := by omega
   subst this
   rw [List.take_length] at h1
   refine ⟨_, _, ?_, end0 rfl⟩
   first | rfl | (rw [List.take_length]) | simp only [List.take_length]
set_option maxHeartbeats 8000000 in
theorem heldItems_step (es : List Item) (hx : ∀ e ∈ es, HdItem e) : HdC 61 Item.row mkItem cnItem es := by
 intro k h0 hk
 obtain ⟨ms, hms⟩ : ∃ ms, ms = mkL mkItem cnItem k es := ⟨_, rfl⟩
 have hml : es.length = ms.length := by rw [hms, mkL_len]
 rw [← hms, hml]
 refine cl_of_d follows_mixed false Tryz.func61 rfl (by kernel_rfl) ?_
 simp only [Tryz.f61, tt, seval]
 refine dLoop.intro (fun f L p => ∃ i : Nat, f 5 = vi i ∧ f 1 = vi (k + cnL cnItem (es.take i)) ∧ i ≤ ms.length ∧ L = [] ∧ p = none) (fun f _ _ => (ms.length - ixS (f 5)).toNat) [] none ⟨SubO.nil _, PoSub.none _, ?_⟩ ?_
 ·simp only [tt, seval]
  exact ⟨0, rfl, viE (by simp [cnL]), by omega⟩
 ·rintro g L p ⟨i, h5, h1, hi, rfl, rfl⟩
  simp only [tt, seval] at h5 h1
  simp only [tt, seval, h5, h1, Int.ofNat_lt]
  refine fun _ => And.intro (fun hlt => ?_) (fun hge => ?_)
  ·have hlt : i < ms.length := by omega
   have hlt' : i < es.length := by omega
   have hks := cnL_take_succ cnItem es i hlt'
   have hkl := cnL_take_le cnItem es (i + 1)
   have hx' : ms[i]? = some (mkItem (k + cnL cnItem (es.take i)) es[i]) := by rw [hms]; exact mkL_get _ _ _ _ _ hlt'
   generalize hk0 : k + (cnL cnItem (es.take i) : Int) = k0 at *
   have hxe := hx _ (List.getElem_mem hlt')
   obtain ⟨e, he⟩ : ∃ e, es[i] = e := ⟨_, rfl⟩
   rw [he] at hx' hks hxe
   obtain ⟨star, qual, ⟨e_kind, e_op, e_not, e_val, e_qual, e_name, e_kids, e_sub⟩, as_⟩ := e
   obtain ⟨He_kids, He_sub⟩ := hxe
   rw [cnItem_mk] at hks
   rw [mkItem_mk] at hx'
   have i0 : ((0 : Int) ≤ (i : Int)) = True := eq_true (by omega)
   have iL : ((i : Int) < (ms.length : Int)) = True := eq_true (by omega)
   have iT : (i < ms.length) = True := eq_true hlt
   simp only [tt, seval, h5, h1, idxAt hx' Item.row_len, i0, iL, iT, mkL_len, Item.row_mk, Expr.row_mk, Val.row, lc, List.append_assoc]
   rw [wrap_id (n := k0 + 1) (by omega) (by omega)]
   generalize hk1 : k0 + 1 = k1 at *
   try simp only [tt, seval, h5, h1, idxAt hx' Item.row_len, i0, iL, iT, mkL_len, Item.row_mk, Expr.row_mk, Val.row, lc, List.append_assoc]
   refine dDrawn.intro [] (pln [0, 2, 4, 6, 8, 10, 13, 14]) (by kernel_rfl) ?_
   simp only [tt, seval]
   all_goals try simp only [tt, seval, h5, h1, idxAt hx' Item.row_len, i0, iL, iT, mkL_len, Item.row_mk, Expr.row_mk, Val.row, lc, List.append_assoc]
   refine call0 (markText_d (k1) (by omega)) ?_ ?_ ?_
   ·decide
   ·simp only [tt, seval, h5, h1, idxAt hx' Item.row_len, i0, iL, iT, mkL_len, Item.row_mk, Expr.row_mk, Val.row, lc, List.append_assoc]
   rintro r rfl
   simp only [tt, seval, h5, h1, idxAt hx' Item.row_len, i0, iL, iT, mkL_len, Item.row_mk, Expr.row_mk, Val.row, lc, List.append_assoc]
   rw [wrap_id (n := k1 + 1) (by omega) (by omega)]
   generalize hk2 : k1 + 1 = k2 at *
   try simp only [tt, seval, h5, h1, idxAt hx' Item.row_len, i0, iL, iT, mkL_len, Item.row_mk, Expr.row_mk, Val.row, lc, List.append_assoc]
   rw [wrap_id (n := k2 + 1) (by omega) (by omega)]
   generalize hk3 : k2 + 1 = k3 at *
   try simp only [tt, seval, h5, h1, idxAt hx' Item.row_len, i0, iL, iT, mkL_len, Item.row_mk, Expr.row_mk, Val.row, lc, List.append_assoc]
   rw [wrap_id (n := k3 + 1) (by omega) (by omega)]
   generalize hk4 : k3 + 1 = k4 at *
   try simp only [tt, seval, h5, h1, idxAt hx' Item.row_len, i0, iL, iT, mkL_len, Item.row_mk, Expr.row_mk, Val.row, lc, List.append_assoc]
   rw [wrap_id (n := k4 + 1) (by omega) (by omega)]
   generalize hk5 : k4 + 1 = k5 at *
   try simp only [tt, seval, h5, h1, idxAt hx' Item.row_len, i0, iL, iT, mkL_len, Item.row_mk, Expr.row_mk, Val.row, lc, List.append_assoc]
   rw [wrap_id (n := k5 + 1) (by omega) (by omega)]
   generalize hk6 : k5 + 1 = k6 at *
   try simp only [tt, seval, h5, h1, idxAt hx' Item.row_len, i0, iL, iT, mkL_len, Item.row_mk, Expr.row_mk, Val.row, lc, List.append_assoc]
   rw [wrap_id (n := k6 + 1) (by omega) (by omega)]
   generalize hk7 : k6 + 1 = k7 at *
   try simp only [tt, seval, h5, h1, idxAt hx' Item.row_len, i0, iL, iT, mkL_len, Item.row_mk, Expr.row_mk, Val.row, lc, List.append_assoc]
   refine dDrawn.intro [] (pln [0, 2, 4, 6, 8, 10, 12, 14, 17, 18]) (by kernel_rfl) ?_
   simp only [tt, seval]
   all_goals try simp only [tt, seval, h5, h1, idxAt hx' Item.row_len, i0, iL, iT, mkL_len, Item.row_mk, Expr.row_mk, Val.row, lc, List.append_assoc]
   refine call0 (markText_d (k7) (by omega)) ?_ ?_ ?_
   ·decide
   ·simp only [tt, seval, h5, h1, idxAt hx' Item.row_len, i0, iL, iT, mkL_len, Item.row_mk, Expr.row_mk, Val.row, lc, List.append_assoc]
   rintro r rfl
   simp only [tt, seval, h5, h1, idxAt hx' Item.row_len, i0, iL, iT, mkL_len, Item.row_mk, Expr.row_mk, Val.row, lc, List.append_assoc]
   rw [wrap_id (n := k7 + 1) (by omega) (by omega)]
   generalize hk8 : k7 + 1 = k8 at *
   try simp only [tt, seval, h5, h1, idxAt hx' Item.row_len, i0, iL, iT, mkL_len, Item.row_mk, Expr.row_mk, Val.row, lc, List.append_assoc]
   refine dDrawn.intro [] (pln [0, 2, 4, 6, 8, 10, 12, 15, 16]) (by kernel_rfl) ?_
   simp only [tt, seval]
   all_goals try simp only [tt, seval, h5, h1, idxAt hx' Item.row_len, i0, iL, iT, mkL_len, Item.row_mk, Expr.row_mk, Val.row, lc, List.append_assoc]
   refine call0 (markText_d (k8) (by omega)) ?_ ?_ ?_
   ·decide
   ·simp only [tt, seval, h5, h1, idxAt hx' Item.row_len, i0, iL, iT, mkL_len, Item.row_mk, Expr.row_mk, Val.row, lc, List.append_assoc]
   rintro r rfl
   simp only [tt, seval, h5, h1, idxAt hx' Item.row_len, i0, iL, iT, mkL_len, Item.row_mk, Expr.row_mk, Val.row, lc, List.append_assoc]
   rw [wrap_id (n := k8 + 1) (by omega) (by omega)]
   generalize hk9 : k8 + 1 = k9 at *
   try simp only [tt, seval, h5, h1, idxAt hx' Item.row_len, i0, iL, iT, mkL_len, Item.row_mk, Expr.row_mk, Val.row, lc, List.append_assoc]
   refine dDrawn.intro [] (pln [0, 2, 4, 6, 8, 10, 12, 15, 16]) (by kernel_rfl) ?_
   simp only [tt, seval]
   all_goals try simp only [tt, seval, h5, h1, idxAt hx' Item.row_len, i0, iL, iT, mkL_len, Item.row_mk, Expr.row_mk, Val.row, lc, List.append_assoc]
   refine call0 (markText_d (k9) (by omega)) ?_ ?_ ?_
   ·decide
   ·simp only [tt, seval, h5, h1, idxAt hx' Item.row_len, i0, iL, iT, mkL_len, Item.row_mk, Expr.row_mk, Val.row, lc, List.append_assoc]
   rintro r rfl
   simp only [tt, seval, h5, h1, idxAt hx' Item.row_len, i0, iL, iT, mkL_len, Item.row_mk, Expr.row_mk, Val.row, lc, List.append_assoc]
   rw [wrap_id (n := k9 + 1) (by omega) (by omega)]
   generalize hk10 : k9 + 1 = k10 at *
   try simp only [tt, seval, h5, h1, idxAt hx' Item.row_len, i0, iL, iT, mkL_len, Item.row_mk, Expr.row_mk, Val.row, lc, List.append_assoc]
   refine call0 (He_kids (k10) (by omega) (by omega)) ?_ ?_ ?_
   ·decide
   ·simp only [tt, seval, h5, h1, idxAt hx' Item.row_len, i0, iL, iT, mkL_len, Item.row_mk, Expr.row_mk, Val.row, lc, List.append_assoc]
   rintro r rfl
   simp only [tt, seval, h5, h1, idxAt hx' Item.row_len, i0, iL, iT, mkL_len, Item.row_mk, Expr.row_mk, Val.row, lc, List.append_assoc]
   have ng10 : decide (k10 + (cnL cnExpr e_kids : Int) < 0) = false := decide_eq_false (by omega)
   have np10 : (k10 + (cnL cnExpr e_kids : Int) < 0) = False := eq_false (by omega)
   try simp only [tt, seval, ng10, np10, h5, h1, idxAt hx' Item.row_len, i0, iL, iT, mkL_len, Item.row_mk, Expr.row_mk, Val.row, lc, List.append_assoc]
   generalize hk11 : k10 + (cnL cnExpr e_kids : Int) = k11 at *
   refine call0 (He_sub (k11) (by omega) (by omega)) ?_ ?_ ?_
   ·decide
   ·simp only [tt, seval, h5, h1, idxAt hx' Item.row_len, i0, iL, iT, mkL_len, Item.row_mk, Expr.row_mk, Val.row, lc, List.append_assoc]
   rintro r rfl
   simp only [tt, seval, h5, h1, idxAt hx' Item.row_len, i0, iL, iT, mkL_len, Item.row_mk, Expr.row_mk, Val.row, lc, List.append_assoc]
   have ng11 : decide (k11 + (cnL cnQuery e_sub : Int) < 0) = false := decide_eq_false (by omega)
   have np11 : (k11 + (cnL cnQuery e_sub : Int) < 0) = False := eq_false (by omega)
   try simp only [tt, seval, ng11, np11, h5, h1, idxAt hx' Item.row_len, i0, iL, iT, mkL_len, Item.row_mk, Expr.row_mk, Val.row, lc, List.append_assoc]
   generalize hk12 : k11 + (cnL cnQuery e_sub : Int) = k12 at *
   refine dDrawn.intro [] (pln [0, 2, 4, 6, 8, 10, 13, 14]) (by kernel_rfl) ?_
   simp only [tt, seval]
   all_goals try simp only [tt, seval, h5, h1, idxAt hx' Item.row_len, i0, iL, iT, mkL_len, Item.row_mk, Expr.row_mk, Val.row, lc, List.append_assoc]
   refine call0 (markText_d (k12) (by omega)) ?_ ?_ ?_
   ·decide
   ·simp only [tt, seval, h5, h1, idxAt hx' Item.row_len, i0, iL, iT, mkL_len, Item.row_mk, Expr.row_mk, Val.row, lc, List.append_assoc]
   rintro r rfl
   simp only [tt, seval, h5, h1, idxAt hx' Item.row_len, i0, iL, iT, mkL_len, Item.row_mk, Expr.row_mk, Val.row, lc, List.append_assoc]
   rw [wrap_id (n := k12 + 1) (by omega) (by omega)]
   generalize hk13 : k12 + 1 = k13 at *
   try simp only [tt, seval, h5, h1, idxAt hx' Item.row_len, i0, iL, iT, mkL_len, Item.row_mk, Expr.row_mk, Val.row, lc, List.append_assoc]
   rw [wrS i (by omega)]
   exact ⟨[], none, SubO.nil _, PoSub.none _, ⟨i + 1, rfl, viE (by rw [hks]; omega), by omega, rfl, rfl⟩, by simp only [ixS]; omega⟩
  ·have : i = es.length := by omega
   subst this
   rw [List.take_length] at h1
   refine ⟨_, _, ?_, end0 rfl⟩
   first | rfl | (rw [List.take_length]) | simp only [List.take_length]
set_option maxHeartbeats 8000000 in
theorem heldQuerys_step (es : List Query) (hx : ∀ e ∈ es, HdQuery e) : HdC 52 Query.row mkQuery cnQuery es := by
 intro k h0 hk
 obtain ⟨ms, hms⟩ : ∃ ms, ms = mkL mkQuery cnQuery k es := ⟨_, rfl⟩
 have hml : es.length = ms.length := by rw [hms, mkL_len]
 rw [← hms, hml]
 refine cl_of_d follows_mixed false Tryz.func52 rfl (by kernel_rfl) ?_
 simp only [Tryz.f52, tt, seval]
 refine dLoop.intro (fun f L p => ∃ i : Nat, f 5 = vi i ∧ f 1 = vi (k + cnL cnQuery (es.take i)) ∧ i ≤ ms.length ∧ L = [] ∧ p = none) (fun f _ _ => (ms.length - ixS (f 5)).toNat) [] none ⟨SubO.nil _, PoSub.none _, ?_⟩ ?_
 ·simp only [tt, seval]
  exact ⟨0, rfl, viE (by simp [cnL]), by omega⟩
 ·rintro g L p ⟨i, h5, h1, hi, rfl, rfl⟩
  simp only [tt, seval] at h5 h1
  simp only [tt, seval, h5, h1, Int.ofNat_lt]
  refine fun _ => And.intro (fun hlt => ?_) (fun hge => ?_)
  ·have hlt : i < ms.length := by omega
   have hlt' : i < es.length := by omega
   have hks := cnL_take_succ cnQuery es i hlt'
   have hkl := cnL_take_le cnQuery es (i + 1)
   have hx' : ms[i]? = some (mkQuery (k + cnL cnQuery (es.take i)) es[i]) := by rw [hms]; exact mkL_get _ _ _ _ _ hlt'
   generalize hk0 : k + (cnL cnQuery (es.take i) : Int) = k0 at *
   have hxe := hx _ (List.getElem_mem hlt')
   obtain ⟨e, he⟩ : ∃ e, es[i] = e := ⟨_, rfl⟩
   rw [he] at hx' hks hxe
   obtain ⟨distinct, items, from_, where_, order, limit⟩ := e
   obtain ⟨Hitems, Hfrom_, Hwhere_, Horder⟩ := hxe
   rw [cnQuery_mk] at hks
   rw [mkQuery_mk] at hx'
   have i0 : ((0 : Int) ≤ (i : Int)) = True := eq_true (by omega)
   have iL : ((i : Int) < (ms.length : Int)) = True := eq_true (by omega)
   have iT : (i < ms.length) = True := eq_true hlt
   simp only [tt, seval, h5, h1, idxAt hx' Query.row_len, i0, iL, iT, mkL_len, Query.row_mk, Val.row, lc, List.append_assoc]
   rw [wrap_id (n := k0 + 1) (by omega) (by omega)]
   generalize hk1 : k0 + 1 = k1 at *
   try simp only [tt, seval, h5, h1, idxAt hx' Query.row_len, i0, iL, iT, mkL_len, Query.row_mk, Val.row, lc, List.append_assoc]
   refine call0 (Hitems (k1) (by omega) (by omega)) ?_ ?_ ?_
   ·decide
   ·simp only [tt, seval, h5, h1, idxAt hx' Query.row_len, i0, iL, iT, mkL_len, Query.row_mk, Val.row, lc, List.append_assoc]
   rintro r rfl
   simp only [tt, seval, h5, h1, idxAt hx' Query.row_len, i0, iL, iT, mkL_len, Query.row_mk, Val.row, lc, List.append_assoc]
   have ng1 : decide (k1 + (cnL cnItem items : Int) < 0) = false := decide_eq_false (by omega)
   have np1 : (k1 + (cnL cnItem items : Int) < 0) = False := eq_false (by omega)
   try simp only [tt, seval, ng1, np1, h5, h1, idxAt hx' Query.row_len, i0, iL, iT, mkL_len, Query.row_mk, Val.row, lc, List.append_assoc]
   generalize hk2 : k1 + (cnL cnItem items : Int) = k2 at *
   refine call0 (Hfrom_ (k2) (by omega) (by omega)) ?_ ?_ ?_
   ·decide
   ·simp only [tt, seval, h5, h1, idxAt hx' Query.row_len, i0, iL, iT, mkL_len, Query.row_mk, Val.row, lc, List.append_assoc]
   rintro r rfl
   simp only [tt, seval, h5, h1, idxAt hx' Query.row_len, i0, iL, iT, mkL_len, Query.row_mk, Val.row, lc, List.append_assoc]
   have ng2 : decide (k2 + (cnL cnSource from_ : Int) < 0) = false := decide_eq_false (by omega)
   have np2 : (k2 + (cnL cnSource from_ : Int) < 0) = False := eq_false (by omega)
   try simp only [tt, seval, ng2, np2, h5, h1, idxAt hx' Query.row_len, i0, iL, iT, mkL_len, Query.row_mk, Val.row, lc, List.append_assoc]
   generalize hk3 : k2 + (cnL cnSource from_ : Int) = k3 at *
   refine call0 (Hwhere_ (k3) (by omega) (by omega)) ?_ ?_ ?_
   ·decide
   ·simp only [tt, seval, h5, h1, idxAt hx' Query.row_len, i0, iL, iT, mkL_len, Query.row_mk, Val.row, lc, List.append_assoc]
   rintro r rfl
   simp only [tt, seval, h5, h1, idxAt hx' Query.row_len, i0, iL, iT, mkL_len, Query.row_mk, Val.row, lc, List.append_assoc]
   have ng3 : decide (k3 + (cnL cnExpr where_ : Int) < 0) = false := decide_eq_false (by omega)
   have np3 : (k3 + (cnL cnExpr where_ : Int) < 0) = False := eq_false (by omega)
   try simp only [tt, seval, ng3, np3, h5, h1, idxAt hx' Query.row_len, i0, iL, iT, mkL_len, Query.row_mk, Val.row, lc, List.append_assoc]
   generalize hk4 : k3 + (cnL cnExpr where_ : Int) = k4 at *
   refine call0 (Horder (k4) (by omega) (by omega)) ?_ ?_ ?_
   ·decide
   ·simp only [tt, seval, h5, h1, idxAt hx' Query.row_len, i0, iL, iT, mkL_len, Query.row_mk, Val.row, lc, List.append_assoc]
   rintro r rfl
   simp only [tt, seval, h5, h1, idxAt hx' Query.row_len, i0, iL, iT, mkL_len, Query.row_mk, Val.row, lc, List.append_assoc]
   have ng4 : decide (k4 + (cnL cnSortKey order : Int) < 0) = false := decide_eq_false (by omega)
   have np4 : (k4 + (cnL cnSortKey order : Int) < 0) = False := eq_false (by omega)
   try simp only [tt, seval, ng4, np4, h5, h1, idxAt hx' Query.row_len, i0, iL, iT, mkL_len, Query.row_mk, Val.row, lc, List.append_assoc]
   generalize hk5 : k4 + (cnL cnSortKey order : Int) = k5 at *
   rw [wrap_id (n := k5 + 1) (by omega) (by omega)]
   generalize hk6 : k5 + 1 = k6 at *
   try simp only [tt, seval, h5, h1, idxAt hx' Query.row_len, i0, iL, iT, mkL_len, Query.row_mk, Val.row, lc, List.append_assoc]
   rw [wrS i (by omega)]
   exact ⟨[], none, SubO.nil _, PoSub.none _, ⟨i + 1, rfl, viE (by rw [hks]; omega), by omega, rfl, rfl⟩, by simp only [ixS]; omega⟩
  ·have : i = es.length := by omega
   subst this
   rw [List.take_length] at h1
   refine ⟨_, _, ?_, end0 rfl⟩
   first | rfl | (rw [List.take_length]) | simp only [List.take_length]
set_option maxHeartbeats 8000000 in
theorem heldSortKeys_step (es : List SortKey) (hx : ∀ e ∈ es, HdSortKey e) : HdC 63 SortKey.row mkSortKey cnSortKey es := by
 intro k h0 hk
 obtain ⟨ms, hms⟩ : ∃ ms, ms = mkL mkSortKey cnSortKey k es := ⟨_, rfl⟩
 have hml : es.length = ms.length := by rw [hms, mkL_len]
 rw [← hms, hml]
 refine cl_of_d follows_mixed false Tryz.func63 rfl (by kernel_rfl) ?_
 simp only [Tryz.f63, tt, seval]
 refine dLoop.intro (fun f L p => ∃ i : Nat, f 5 = vi i ∧ f 1 = vi (k + cnL cnSortKey (es.take i)) ∧ i ≤ ms.length ∧ L = [] ∧ p = none) (fun f _ _ => (ms.length - ixS (f 5)).toNat) [] none ⟨SubO.nil _, PoSub.none _, ?_⟩ ?_
 ·simp only [tt, seval]
  exact ⟨0, rfl, viE (by simp [cnL]), by omega⟩
 ·rintro g L p ⟨i, h5, h1, hi, rfl, rfl⟩
  simp only [tt, seval] at h5 h1
  simp only [tt, seval, h5, h1, Int.ofNat_lt]
  refine fun _ => And.intro (fun hlt => ?_) (fun hge => ?_)
  ·have hlt : i < ms.length := by omega
   have hlt' : i < es.length := by omega
   have hks := cnL_take_succ cnSortKey es i hlt'
   have hkl := cnL_take_le cnSortKey es (i + 1)
   have hx' : ms[i]? = some (mkSortKey (k + cnL cnSortKey (es.take i)) es[i]) := by rw [hms]; exact mkL_get _ _ _ _ _ hlt'
   generalize hk0 : k + (cnL cnSortKey (es.take i) : Int) = k0 at *
   have hxe := hx _ (List.getElem_mem hlt')
   obtain ⟨e, he⟩ : ∃ e, es[i] = e := ⟨_, rfl⟩
   rw [he] at hx' hks hxe
   obtain ⟨⟨e_kind, e_op, e_not, e_val, e_qual, e_name, e_kids, e_sub⟩, desc⟩ := e
   obtain ⟨He_kids, He_sub⟩ := hxe
   rw [cnSortKey_mk] at hks
   rw [mkSortKey_mk] at hx'
   have i0 : ((0 : Int) ≤ (i : Int)) = True := eq_true (by omega)
   have iL : ((i : Int) < (ms.length : Int)) = True := eq_true (by omega)
   have iT : (i < ms.length) = True := eq_true hlt
   simp only [tt, seval, h5, h1, idxAt hx' SortKey.row_len, i0, iL, iT, mkL_len, SortKey.row_mk, Expr.row_mk, Val.row, lc, List.append_assoc]
   rw [wrap_id (n := k0 + 1) (by omega) (by omega)]
   generalize hk1 : k0 + 1 = k1 at *
   try simp only [tt, seval, h5, h1, idxAt hx' SortKey.row_len, i0, iL, iT, mkL_len, SortKey.row_mk, Expr.row_mk, Val.row, lc, List.append_assoc]
   rw [wrap_id (n := k1 + 1) (by omega) (by omega)]
   generalize hk2 : k1 + 1 = k2 at *
   try simp only [tt, seval, h5, h1, idxAt hx' SortKey.row_len, i0, iL, iT, mkL_len, SortKey.row_mk, Expr.row_mk, Val.row, lc, List.append_assoc]
   rw [wrap_id (n := k2 + 1) (by omega) (by omega)]
   generalize hk3 : k2 + 1 = k3 at *
   try simp only [tt, seval, h5, h1, idxAt hx' SortKey.row_len, i0, iL, iT, mkL_len, SortKey.row_mk, Expr.row_mk, Val.row, lc, List.append_assoc]
   rw [wrap_id (n := k3 + 1) (by omega) (by omega)]
   generalize hk4 : k3 + 1 = k4 at *
   try simp only [tt, seval, h5, h1, idxAt hx' SortKey.row_len, i0, iL, iT, mkL_len, SortKey.row_mk, Expr.row_mk, Val.row, lc, List.append_assoc]
   rw [wrap_id (n := k4 + 1) (by omega) (by omega)]
   generalize hk5 : k4 + 1 = k5 at *
   try simp only [tt, seval, h5, h1, idxAt hx' SortKey.row_len, i0, iL, iT, mkL_len, SortKey.row_mk, Expr.row_mk, Val.row, lc, List.append_assoc]
   refine dDrawn.intro [] (pln [0, 2, 4, 6, 8, 10, 12, 14, 17, 18]) (by kernel_rfl) ?_
   simp only [tt, seval]
   all_goals try simp only [tt, seval, h5, h1, idxAt hx' SortKey.row_len, i0, iL, iT, mkL_len, SortKey.row_mk, Expr.row_mk, Val.row, lc, List.append_assoc]
   refine call0 (markText_d (k5) (by omega)) ?_ ?_ ?_
   ·decide
   ·simp only [tt, seval, h5, h1, idxAt hx' SortKey.row_len, i0, iL, iT, mkL_len, SortKey.row_mk, Expr.row_mk, Val.row, lc, List.append_assoc]
   rintro r rfl
   simp only [tt, seval, h5, h1, idxAt hx' SortKey.row_len, i0, iL, iT, mkL_len, SortKey.row_mk, Expr.row_mk, Val.row, lc, List.append_assoc]
   rw [wrap_id (n := k5 + 1) (by omega) (by omega)]
   generalize hk6 : k5 + 1 = k6 at *
   try simp only [tt, seval, h5, h1, idxAt hx' SortKey.row_len, i0, iL, iT, mkL_len, SortKey.row_mk, Expr.row_mk, Val.row, lc, List.append_assoc]
   refine dDrawn.intro [] (pln [0, 2, 4, 6, 8, 10, 12, 15, 16]) (by kernel_rfl) ?_
   simp only [tt, seval]
   all_goals try simp only [tt, seval, h5, h1, idxAt hx' SortKey.row_len, i0, iL, iT, mkL_len, SortKey.row_mk, Expr.row_mk, Val.row, lc, List.append_assoc]
   refine call0 (markText_d (k6) (by omega)) ?_ ?_ ?_
   ·decide
   ·simp only [tt, seval, h5, h1, idxAt hx' SortKey.row_len, i0, iL, iT, mkL_len, SortKey.row_mk, Expr.row_mk, Val.row, lc, List.append_assoc]
   rintro r rfl
   simp only [tt, seval, h5, h1, idxAt hx' SortKey.row_len, i0, iL, iT, mkL_len, SortKey.row_mk, Expr.row_mk, Val.row, lc, List.append_assoc]
   rw [wrap_id (n := k6 + 1) (by omega) (by omega)]
   generalize hk7 : k6 + 1 = k7 at *
   try simp only [tt, seval, h5, h1, idxAt hx' SortKey.row_len, i0, iL, iT, mkL_len, SortKey.row_mk, Expr.row_mk, Val.row, lc, List.append_assoc]
   refine dDrawn.intro [] (pln [0, 2, 4, 6, 8, 10, 12, 15, 16]) (by kernel_rfl) ?_
   simp only [tt, seval]
   all_goals try simp only [tt, seval, h5, h1, idxAt hx' SortKey.row_len, i0, iL, iT, mkL_len, SortKey.row_mk, Expr.row_mk, Val.row, lc, List.append_assoc]
   refine call0 (markText_d (k7) (by omega)) ?_ ?_ ?_
   ·decide
   ·simp only [tt, seval, h5, h1, idxAt hx' SortKey.row_len, i0, iL, iT, mkL_len, SortKey.row_mk, Expr.row_mk, Val.row, lc, List.append_assoc]
   rintro r rfl
   simp only [tt, seval, h5, h1, idxAt hx' SortKey.row_len, i0, iL, iT, mkL_len, SortKey.row_mk, Expr.row_mk, Val.row, lc, List.append_assoc]
   rw [wrap_id (n := k7 + 1) (by omega) (by omega)]
   generalize hk8 : k7 + 1 = k8 at *
   try simp only [tt, seval, h5, h1, idxAt hx' SortKey.row_len, i0, iL, iT, mkL_len, SortKey.row_mk, Expr.row_mk, Val.row, lc, List.append_assoc]
   refine call0 (He_kids (k8) (by omega) (by omega)) ?_ ?_ ?_
   ·decide
   ·simp only [tt, seval, h5, h1, idxAt hx' SortKey.row_len, i0, iL, iT, mkL_len, SortKey.row_mk, Expr.row_mk, Val.row, lc, List.append_assoc]
   rintro r rfl
   simp only [tt, seval, h5, h1, idxAt hx' SortKey.row_len, i0, iL, iT, mkL_len, SortKey.row_mk, Expr.row_mk, Val.row, lc, List.append_assoc]
   have ng8 : decide (k8 + (cnL cnExpr e_kids : Int) < 0) = false := decide_eq_false (by omega)
   have np8 : (k8 + (cnL cnExpr e_kids : Int) < 0) = False := eq_false (by omega)
   try simp only [tt, seval, ng8, np8, h5, h1, idxAt hx' SortKey.row_len, i0, iL, iT, mkL_len, SortKey.row_mk, Expr.row_mk, Val.row, lc, List.append_assoc]
   generalize hk9 : k8 + (cnL cnExpr e_kids : Int) = k9 at *
   refine call0 (He_sub (k9) (by omega) (by omega)) ?_ ?_ ?_
   ·decide
   ·simp only [tt, seval, h5, h1, idxAt hx' SortKey.row_len, i0, iL, iT, mkL_len, SortKey.row_mk, Expr.row_mk, Val.row, lc, List.append_assoc]
   rintro r rfl
   simp only [tt, seval, h5, h1, idxAt hx' SortKey.row_len, i0, iL, iT, mkL_len, SortKey.row_mk, Expr.row_mk, Val.row, lc, List.append_assoc]
   have ng9 : decide (k9 + (cnL cnQuery e_sub : Int) < 0) = false := decide_eq_false (by omega)
   have np9 : (k9 + (cnL cnQuery e_sub : Int) < 0) = False := eq_false (by omega)
   try simp only [tt, seval, ng9, np9, h5, h1, idxAt hx' SortKey.row_len, i0, iL, iT, mkL_len, SortKey.row_mk, Expr.row_mk, Val.row, lc, List.append_assoc]
   generalize hk10 : k9 + (cnL cnQuery e_sub : Int) = k10 at *
   rw [wrap_id (n := k10 + 1) (by omega) (by omega)]
   generalize hk11 : k10 + 1 = k11 at *
   try simp only [tt, seval, h5, h1, idxAt hx' SortKey.row_len, i0, iL, iT, mkL_len, SortKey.row_mk, Expr.row_mk, Val.row, lc, List.append_assoc]
   rw [wrS i (by omega)]
   exact ⟨[], none, SubO.nil _, PoSub.none _, ⟨i + 1, rfl, viE (by rw [hks]; omega), by omega, rfl, rfl⟩, by simp only [ixS]; omega⟩
  ·have : i = es.length := by omega
   subst this
   rw [List.take_length] at h1
   refine ⟨_, _, ?_, end0 rfl⟩
   first | rfl | (rw [List.take_length]) | simp only [List.take_length]
set_option maxHeartbeats 8000000 in
theorem heldSources_step (es : List Source) (hx : ∀ e ∈ es, HdSource e) : HdC 62 Source.row mkSource cnSource es := by
 intro k h0 hk
 obtain ⟨ms, hms⟩ : ∃ ms, ms = mkL mkSource cnSource k es := ⟨_, rfl⟩
 have hml : es.length = ms.length := by rw [hms, mkL_len]
 rw [← hms, hml]
 refine cl_of_d follows_mixed false Tryz.func62 rfl (by kernel_rfl) ?_
 simp only [Tryz.f62, tt, seval]
 refine dLoop.intro (fun f L p => ∃ i : Nat, f 5 = vi i ∧ f 1 = vi (k + cnL cnSource (es.take i)) ∧ i ≤ ms.length ∧ L = [] ∧ p = none) (fun f _ _ => (ms.length - ixS (f 5)).toNat) [] none ⟨SubO.nil _, PoSub.none _, ?_⟩ ?_
 ·simp only [tt, seval]
  exact ⟨0, rfl, viE (by simp [cnL]), by omega⟩
 ·rintro g L p ⟨i, h5, h1, hi, rfl, rfl⟩
  simp only [tt, seval] at h5 h1
  simp only [tt, seval, h5, h1, Int.ofNat_lt]
  refine fun _ => And.intro (fun hlt => ?_) (fun hge => ?_)
  ·have hlt : i < ms.length := by omega
   have hlt' : i < es.length := by omega
   have hks := cnL_take_succ cnSource es i hlt'
   have hkl := cnL_take_le cnSource es (i + 1)
   have hx' : ms[i]? = some (mkSource (k + cnL cnSource (es.take i)) es[i]) := by rw [hms]; exact mkL_get _ _ _ _ _ hlt'
   generalize hk0 : k + (cnL cnSource (es.take i) : Int) = k0 at *
   have hxe := hx _ (List.getElem_mem hlt')
   obtain ⟨e, he⟩ : ∃ e, es[i] = e := ⟨_, rfl⟩
   rw [he] at hx' hks hxe
   obtain ⟨table, as_, on⟩ := e
   have Hon := hxe
   rw [cnSource_mk] at hks
   rw [mkSource_mk] at hx'
   have i0 : ((0 : Int) ≤ (i : Int)) = True := eq_true (by omega)
   have iL : ((i : Int) < (ms.length : Int)) = True := eq_true (by omega)
   have iT : (i < ms.length) = True := eq_true hlt
   simp only [tt, seval, h5, h1, idxAt hx' Source.row_len, i0, iL, iT, mkL_len, Source.row_mk, Val.row, lc, List.append_assoc]
   refine dDrawn.intro [] (pln [0, 2, 4, 6, 8, 10, 13, 14]) (by kernel_rfl) ?_
   simp only [tt, seval]
   all_goals try simp only [tt, seval, h5, h1, idxAt hx' Source.row_len, i0, iL, iT, mkL_len, Source.row_mk, Val.row, lc, List.append_assoc]
   refine call0 (markText_d (k0) (by omega)) ?_ ?_ ?_
   ·decide
   ·simp only [tt, seval, h5, h1, idxAt hx' Source.row_len, i0, iL, iT, mkL_len, Source.row_mk, Val.row, lc, List.append_assoc]
   rintro r rfl
   simp only [tt, seval, h5, h1, idxAt hx' Source.row_len, i0, iL, iT, mkL_len, Source.row_mk, Val.row, lc, List.append_assoc]
   rw [wrap_id (n := k0 + 1) (by omega) (by omega)]
   generalize hk1 : k0 + 1 = k1 at *
   try simp only [tt, seval, h5, h1, idxAt hx' Source.row_len, i0, iL, iT, mkL_len, Source.row_mk, Val.row, lc, List.append_assoc]
   refine dDrawn.intro [] (pln [0, 2, 4, 6, 8, 10, 13, 14]) (by kernel_rfl) ?_
   simp only [tt, seval]
   all_goals try simp only [tt, seval, h5, h1, idxAt hx' Source.row_len, i0, iL, iT, mkL_len, Source.row_mk, Val.row, lc, List.append_assoc]
   refine call0 (markText_d (k1) (by omega)) ?_ ?_ ?_
   ·decide
   ·simp only [tt, seval, h5, h1, idxAt hx' Source.row_len, i0, iL, iT, mkL_len, Source.row_mk, Val.row, lc, List.append_assoc]
   rintro r rfl
   simp only [tt, seval, h5, h1, idxAt hx' Source.row_len, i0, iL, iT, mkL_len, Source.row_mk, Val.row, lc, List.append_assoc]
   rw [wrap_id (n := k1 + 1) (by omega) (by omega)]
   generalize hk2 : k1 + 1 = k2 at *
   try simp only [tt, seval, h5, h1, idxAt hx' Source.row_len, i0, iL, iT, mkL_len, Source.row_mk, Val.row, lc, List.append_assoc]
   refine call0 (Hon (k2) (by omega) (by omega)) ?_ ?_ ?_
   ·decide
   ·simp only [tt, seval, h5, h1, idxAt hx' Source.row_len, i0, iL, iT, mkL_len, Source.row_mk, Val.row, lc, List.append_assoc]
   rintro r rfl
   simp only [tt, seval, h5, h1, idxAt hx' Source.row_len, i0, iL, iT, mkL_len, Source.row_mk, Val.row, lc, List.append_assoc]
   have ng2 : decide (k2 + (cnL cnExpr on : Int) < 0) = false := decide_eq_false (by omega)
   have np2 : (k2 + (cnL cnExpr on : Int) < 0) = False := eq_false (by omega)
   try simp only [tt, seval, ng2, np2, h5, h1, idxAt hx' Source.row_len, i0, iL, iT, mkL_len, Source.row_mk, Val.row, lc, List.append_assoc]
   generalize hk3 : k2 + (cnL cnExpr on : Int) = k3 at *
   rw [wrS i (by omega)]
   exact ⟨[], none, SubO.nil _, PoSub.none _, ⟨i + 1, rfl, viE (by rw [hks]; omega), by omega, rfl, rfl⟩, by simp only [ixS]; omega⟩
  ·have : i = es.length := by omega
   subst this
   rw [List.take_length] at h1
   refine ⟨_, _, ?_, end0 rfl⟩
   first | rfl | (rw [List.take_length]) | simp only [List.take_length]
theorem hdExpr_all : (∀ a : Expr, HdExpr a) ∧ (∀ a : Item, HdItem a) ∧ (∀ a : Source, HdSource a) ∧ (∀ a : SortKey, HdSortKey a) ∧ (∀ a : Query, HdQuery a) := by
 refine Expr.ind ?_ ?_ ?_ ?_ ?_
 ·intro kind op not val qual name kids sub hkids hsub
  exact ⟨heldExprs_step _ hkids, heldQuerys_step _ hsub⟩
 ·intro star qual e as_ he
  exact he
 ·intro table as_ on hon
  exact heldExprs_step _ hon
 ·intro e desc he
  exact he
 ·intro distinct items from_ where_ order limit hitems hfrom_ hwhere_ horder
  exact ⟨heldItems_step _ hitems, heldSources_step _ hfrom_, heldExprs_step _ hwhere_, heldSortKeys_step _ horder⟩
theorem heldExprs_d (es : List Expr) : HdC 51 Expr.row mkExpr cnExpr es := heldExprs_step es (fun e _ => hdExpr_all.1 e)
theorem heldQuerys_d (es : List Query) : HdC 52 Query.row mkQuery cnQuery es := heldQuerys_step es (fun e _ => hdExpr_all.2.2.2.2 e)
theorem heldExpr_d (kind : Int) (op : Int) (not : Bool) (val : Val) (qual : ByteArray) (name : ByteArray) (kids : List Expr) (sub : List Query) (q : Int) (h0 : 0 ≤ q) (h1 : q + (cnL cnExpr kids : Int) + (cnL cnQuery sub : Int) ≤ 4611686018427387904) : Cl Tryz.prog 18 [.ag (csOf (Expr.mk kind op not val qual name (mkL mkExpr cnExpr (q) kids) (mkL mkQuery cnQuery (q + (cnL cnExpr kids : Int)) sub)).row), vi q] [] fun r _ => r = vi (q + (cnL cnExpr kids : Int) + (cnL cnQuery sub : Int)) := by
 simp only [Expr.row_mk, lc, Val.row, mkL_len]
 refine cl_of_d follows_mixed false Tryz.func18 rfl (by kernel_rfl) ?_
 simp only [Tryz.f18, tt, seval]
 refine call0 (heldExprs_d kids (q) (by omega) (by omega)) ?_ ?_ ?_
 ·decide
 ·simp only [tt, seval, Expr.row_mk, lc, Val.row, mkL_len]
 rintro r rfl
 simp only [tt, seval, Expr.row_mk, lc, Val.row, mkL_len]
 have ng0 : decide (q + (cnL cnExpr kids : Int) < 0) = false := decide_eq_false (by omega)
 have np0 : (q + (cnL cnExpr kids : Int) < 0) = False := eq_false (by omega)
 try simp only [tt, seval, ng0, np0, Expr.row_mk, lc, Val.row, mkL_len]
 refine call0 (heldQuerys_d sub (q + (cnL cnExpr kids : Int)) (by omega) (by omega)) ?_ ?_ ?_
 ·decide
 ·simp only [tt, seval, Expr.row_mk, lc, Val.row, mkL_len]
 rintro r rfl
 simp only [tt, seval, Expr.row_mk, lc, Val.row, mkL_len]
 have ng1 : decide (q + (cnL cnExpr kids : Int) + (cnL cnQuery sub : Int) < 0) = false := decide_eq_false (by omega)
 have np1 : (q + (cnL cnExpr kids : Int) + (cnL cnQuery sub : Int) < 0) = False := eq_false (by omega)
 try simp only [tt, seval, ng1, np1, Expr.row_mk, lc, Val.row, mkL_len]
 exact ⟨_, _, rfl, end0 rfl⟩
end Go.Proofs.YteffjmaadkkmeaaGreatDoor
