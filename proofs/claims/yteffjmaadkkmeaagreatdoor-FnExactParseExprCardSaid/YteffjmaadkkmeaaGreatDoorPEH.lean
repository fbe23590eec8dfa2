/-
  Parsing sources; what the rows read.
  Conditions: none.
-/
import Derived.Test.YteffjmaadkkmeaaGreatDoorPED
import Derived.Test.YteffjmaadkkmeaaGreatDoorPEE
import Derived.Test.YteffjmaadkkmeaaGreatDoorPEG
import Derived.Test.YteffjmaadkkmeaaGreatDoorRows
import Derived.Test.YteffjmaadkkmeaaGreatDoorTie
import Derived.Test.YteffjmaadkkmeaaGreatDoorCards
import Derived.ProofKit
import Derived.OpenShut
import Derived.Lib.LaidTab
import Derived.Stop.LaidErr
import Derived.MakeChecks
import Derived.Lay
import Derived.SevenTiedAt
import Derived.RowKitTokens
set_option linter.unusedVariables false
set_option linter.unusedSimpArgs false
set_option linter.unusedSectionVars false
set_option maxRecDepth 8000
namespace Go.Proofs.YteffjmaadkkmeaaGreatDoor
open Go Go.Dv
open Go.Vc (D shrI xorI andI and255)
open Go.Cv
open Go.Vc (CellF ValsF callable Cells)
theorem relS_ag {P : Program} {w : World} {ds : List D} {vs : List Value} {F : List Nat} (h : ValsF w ds vs F) : RelS P w (fun _ => none) (fun _ => True) (.ag (csOf ds)) (.agg vs.toArray) := ⟨vs, rfl, csOf_rel h fun _ _ => trivial⟩
theorem plain_agi (ds : List D) (k : Int) : plainL ([S.ag (csOf ds), vi k].flatMap cellsS) = true := by
 simp only [List.flatMap_cons, List.flatMap_nil, List.append_nil, plainL_append, cellsS, plainL_csOf, Bool.true_and]; rfl
theorem box_at {w : World} {b : Nat} {vs : List Value} {t : TypeId} (hb : w.heap[b]? = some (.cells vs.toArray t (0, 0))) : Cells w b 0 vs := fun j v hj => by
 rw [Nat.zero_add]; exact box_cell hb (by simpa using hj)
theorem _root_.Go.Cv.Gr.box {w w' : World} {b : Nat} {o : Obj} (g : Gr w w') (hb : w.heap[b]? = some o) : w'.heap[b]? = some o := (g.keep b (Array.getElem?_eq_some_iff.1 hb).1).trans hb
theorem _root_.Go.Cv.ChL.box {F : List Nat} {w w' : World} {b : Nat} {o : Obj} (g : ChL F w w') (hb : w.heap[b]? = some o) (hn : b ∉ F) : w'.heap[b]? = some o := (g.keep b (Array.getElem?_eq_some_iff.1 hb).1 hn).trans hb
theorem obj_lt {w : World} {b : Nat} {o : Obj} (hb : w.heap[b]? = some o) : b < w.heap.size := (Array.getElem?_eq_some_iff.1 hb).1
theorem glw_lt {w : World} (hg : GlW w (fun _ => False)) : ∀ t ∈ libVars, t.1 < w.heap.size := fun t ht => by
 obtain ⟨_, cs, ty, lh, h, _⟩ := hg t ht
 exact obj_lt h
theorem one' {w : World} {ds : List D} {vs : List Value} {F : List Nat} (h : ValsF w ds vs F) : ∀ v ∈ vs, v.oneCell' = true := fun v hv => by
 have := h.oneCell v hv
 revert this
 cases v <;> simp [Go.Vc.oneCell, Value.oneCell']
theorem fpL_app : ∀ a b : List C, fpL (a ++ b) = fpL a ++ fpL b
 | [], _ => rfl
 | x :: r, b => by simp [fpL, fpL_app r b]
theorem plain_agag (a b : List D) : plainL ([S.ag (csOf a), S.ag (csOf b)].flatMap cellsS) = true := by
 simp only [List.flatMap_cons, List.flatMap_nil, List.append_nil, plainL_append, cellsS, plainL_csOf, Bool.true_and]
end Go.Proofs.YteffjmaadkkmeaaGreatDoor
set_option maxRecDepth 8000
namespace Go.Dv
open Go Go.ChangeShapes Go.WideShapes
theorem returnsInHanded_both {H : Type} {enc : TypeId × Value → H} {a : Assume} {C : Checked} {os : Os} {f : FuncId} {fn : Func} {s : ChangeSpec} {conds : List PathCond} {apart fresh handsOn again : Bool} {X : World → Array Value → Prop}
 (hX : ∀ (w w' : World) (args : Array Value), w.heap = w'.heap → X w args → X w' args)
 (own : ownKnob C.prog.godebug = none) (started : os.Started) (noInit : C.prog.inits.idxOf? f = none) (hfn : C.prog.funcs[f]? = some fn)
 (witness : ∃ (w : World) (tape : Tape) (i : Input), w.os = os ∧ (w.forCall tape i).Shaped C.prog ∧ i.vars = [] ∧ Input.okWide C.prog (w.forCall tape i) .any w.heap.size f i ∧
   ((s.pre enc C.prog fn conds apart (w.forCall tape i).memory i.args ∧ X (w.forCall tape i).memory i.args) ∧ sizedMet enc C.prog fn (OpenSpec.ofChange s) apart (w.forCall tape i).memory i.args) ∧ a.holds C.prog (lone (Frame.enter C.prog f i.args .normal) [] (w.forCall tape i)))
 (contract : ∀ (W : World) (base : Nat) (args : Array Value) (ds gs : List (DataW H)) (before : List MemPlace),
   (∀ (j : Nat) t v, fn.params[j]? = some t → args[j]? = some v → Value.okWide C.prog W .any base t v) →
   DataW.Whole enc C.prog fn.params.toList s.vars apart W args.toList ds gs before →
   conds.all (PathCond.test C.prog ⟨fn.params.toList, ds, s.plain.varTypes C.prog, gs⟩) = true →
   X W args → W.ShapedOpen C.prog →
   Calls C.prog f args W fun e W' => ∃ v, e = .returned v ∧ s.post enc C.prog fn apart fresh handsOn again W args v W') :
 ReturnsInHanded a C os f .any (fun w args => (s.pre enc C.prog fn conds apart w args ∧ X w args) ∧ sizedMet enc C.prog fn (OpenSpec.ofChange s) apart w args) (s.post enc C.prog fn apart fresh handsOn again) := by
 refine returnsInHanded_of_calls own started noInit witness ?_
 intro w tape i _ hsh _ hok hpre hholds
 obtain ⟨_, _, _, fn', hfn', _, _, _, _, hval⟩ := hok
 have e : fn' = fn := Option.some.inj (hfn'.symm.trans hfn)
 subst e
 obtain ⟨⟨⟨ds, gs, before, hw, hc⟩, hx⟩, _⟩ := hpre
 have hw' := DataW.Whole.of_heap (w' := w.forCall tape i) (by rfl) hw
 refine (contract (w.forCall tape i) w.heap.size i.args ds gs before hval hw' hc (hX _ _ _ (by rfl) hx) hsh).mono fun e W' ⟨v, he, hp⟩ => ?_
 subst he
 exact ChangeSpec.post_blind hp
theorem post_old {H : Type} {enc : TypeId × Value → H} {P : Program} {f : Func} {s : ChangeSpec} {apart fresh handsOn again : Bool} {W W' : World} {args : Array Value} {v : Value} {ds gs : List (DataW H)} {before pa pv : List MemPlace}
 (hW : DataW.Whole enc P f.params.toList s.vars apart W args.toList ds gs before)
 (hres : ∀ (b : Nat) (sp : Nat → Bool) (hd : Bool), DataW.TrodAll enc P W' b sp hd f.resultTypes.toList (v.resultList f.resultTypes.size) (s.fn H (ds ++ gs)).results [])
 (hargs : ∀ sp : Nat → Bool, (∀ p ∈ before, sp p.block = true) → DataW.TrodAll enc P W' 0 sp true f.params.toList args.toList (s.fn H (ds ++ gs)).args pa)
 (hvars : ∀ sp : Nat → Bool, (∀ p ∈ before, sp p.block = true) → DataW.TrodVars enc P W' sp s.vars (s.fn H (ds ++ gs)).vars pv)
 (hps : before = pa ++ pv) (hk : W.keptBut W' (· ∈ before)) (hfz : ∀ a : Addr, a.block < W.heap.size → W'.frozen? a = W.frozen? a)
 (hok : ∀ (j : Nat) (t : TypeId) (r : Value), f.resultTypes[j]? = some t → (v.resultList f.resultTypes.size)[j]? = some r → Value.okWide P W' .any 0 t r) :
 s.post enc P f apart fresh handsOn again W args v W' := by
 have hold : ∀ p ∈ before, (fun b => decide (b < W.heap.size)) p.block = true := fun p hp => by simpa using hW.lt p hp
 have hlt : ∀ p ∈ before, p.block < W.heap.size := fun p hp => hW.lt p hp
 refine ⟨ds, gs, before, [], pa, pv, hW, hres _ _ _, hargs _ hold, hvars _ hold, World.keptBut_mono (fun p hp => ⟨hp, ?_⟩) hk, fun _ => ?_⟩
 ·rw [hps, List.mem_append] at hp
  exact Or.inr hp
 ·obtain ⟨_, _, _, _, _, hz, hn⟩ := hW
  refine ⟨hok, _, _, ([] ++ pa) ++ pv, ⟨[] ++ pa, pv, trodAll_append (hargs _ (fun _ _ => rfl)) (hres _ _ _), hvars _ (fun _ _ => rfl), rfl, ?_, ?_⟩, ?_⟩
  ·intro b off hp
   have hp' : MemPlace.cell b off ∈ before := by rw [hps]; simpa using hp
   rw [hfz ⟨b, off, none⟩ (hlt _ hp')]
   exact hz b off hp'
  ·intro ha
   have := hn ha
   rw [hps] at this
   simpa using this
  ·intro p hp _
   rw [hps]
   simpa using hp
theorem glw_of {P : Program} {W : World} {t tp4 tp5 : TypeId} {zero : Array Value} {n1 n4 n5 : String} {a4 a5 : Value} (h1 : P.globalNamed n1 = some 3) (ht : Lib.TabIs P W n1 .u64 Lib.pow10Tab)
 (h : W.ShapedOpen P) (hg : 0 < P.globals.size) (hr : ((begin P (fun _ _ => 0) default).world.heap[0]?).bind Obj.row? = some (zero, t)) (hz : zero.size = 1)
 (hb : P.buildable t = true) (hc : P.cellTypes P.depth t = some [t]) (hu : P.underlying t = some (.int .i64))
 (g4 : P.globalNamed n4 = some 1) (v4 : W.var? P n4 = some #[.iface tp4 a4]) (g5 : P.globalNamed n5 = some 2) (v5 : W.var? P n5 = some #[.iface tp5 a5]) : GlW W (fun _ => False) := by
 intro x hx
 simp only [libVars, List.mem_cons, List.not_mem_nil, or_false] at hx
 rcases hx with rfl | rfl | rfl | rfl
 ·refine ⟨id, ?_⟩
  unfold Lib.TabIs World.var? at ht
  rw [h1, Option.bind_some] at ht
  split at ht
  ·rename_i cs ty lh hh
   exact ⟨cs, ty, lh, hh, Option.some.inj ht⟩
  ·cases ht
 ·refine ⟨id, ?_⟩
  obtain ⟨m, hm⟩ := Go.Proofs.cell_of_shapedOpen_int h hg hr hz hb hc hu
  unfold World.cell? at hm
  simp only at hm
  split at hm
  ·rename_i cs ty lh hh
   exact ⟨cs, ty, lh, hh, m, hm⟩
  ·cases hm
 ·refine ⟨id, ?_⟩
  unfold World.var? at v4
  rw [g4, Option.bind_some] at v4
  split at v4
  ·rename_i cs ty lh hh
   obtain rfl := Option.some.inj v4
   exact ⟨_, ty, lh, hh, _, rfl, .inr ⟨_, _, rfl⟩⟩
  ·cases v4
 ·refine ⟨id, ?_⟩
  unfold World.var? at v5
  rw [g5, Option.bind_some] at v5
  split at v5
  ·rename_i cs ty lh hh
   obtain rfl := Option.some.inj v5
   exact ⟨_, ty, lh, hh, _, rfl, .inr ⟨_, _, rfl⟩⟩
  ·cases v5
end Go.Dv
namespace Go.Proofs.YteffjmaadkkmeaaGreatDoor
open Go Go.Dv Go.ChangeShapes Go.WideShapes Go.ChangeAt Go.RowKit
open Go.Vc (D CellF ValsF read_slice list_cons list_one)
section
variable {H : Type} {enc : TypeId × Value → H} {W : World} {base : Nat} {sp : Nat → Bool} {held : Bool}
theorem cells9 : Tryz.prog.cellsOf 9 = 1 := by kernel_rfl
end
theorem own : ownKnob Tryz.prog.godebug = none := by kernel_rfl
theorem laidOut : laidOutB Tryz.prog = true := by kernel_rfl
theorem star : "*" ++ "errors.errorString" = "*errors.errorString" := by decide
theorem row273 (u : TypeId) (h : Tryz.prog.typeName? 3 u = some "*errors.errorString") : u = 273 :=
 typeName_ptr_named (nm := "errors.errorString") (by rw [star]; kernel_rfl) (by kernel_rfl) (by decide) u (by rw [star]; exact h)
theorem cells275 : Tryz.prog.cellsOf 275 = 1 := by kernel_rfl
theorem gr_frozen {W W' : World} (g : Go.Cv.Gr W W') : ∀ a : Addr, a.block < W.heap.size → W'.frozen? a = W.frozen? a := fun a ha => by
 unfold World.frozen?
 rw [g.keep a.block ha]
end Go.Proofs.YteffjmaadkkmeaaGreatDoor
set_option maxRecDepth 8000
namespace Go.Proofs.YteffjmaadkkmeaaGreatDoor
open Go Go.Dv
open Go.Vc (D shrI xorI andI and255)
section
variable {L : List Tok}
def sz1 {α : Type} (f : α → Nat) (x : α) : Nat := f x + 1
theorem sum_cn {α : Type} (f : α → Nat) : ∀ l : List α, l.length + (l.map f).sum = cnL (sz1 f) l
 | [] => rfl
 | x :: r => by
  have := sum_cn f r
  simp only [List.length_cons, List.map_cons, List.sum_cons, cnL, sz1] at *
  omega
theorem szEs_cn (l : List Expr) : szExprs l = cnL (sz1 szExpr) l := by rw [szExprs_eq]; exact sum_cn _ l
theorem szQs_cn (l : List Query) : szQuerys l = cnL (sz1 szQuery) l := by rw [szQuerys_eq]; exact sum_cn _ l
theorem szE_cn (k o : Int) (n : Bool) (v : Val) (ql nm : ByteArray) (ks : List Expr) (ss : List Query) : szExpr (.mk k o n v ql nm ks ss) = v.text.size + ql.size + nm.size + cnL (sz1 szExpr) ks + cnL (sz1 szQuery) ss := by
 rw [szExpr_mk, szEs_cn, szQs_cn]
 show v.text.size + _ = _
 omega
theorem szI_cn (b : Bool) (ql : ByteArray) (e : Expr) (a : ByteArray) : szItem (.mk b ql e a) = ql.size + szExpr e + a.size := by rw [szItem_mk]; omega
theorem szSo_cn (tb a : ByteArray) (on : List Expr) : szSource (.mk tb a on) = tb.size + a.size + cnL (sz1 szExpr) on := by rw [szSource_mk, szEs_cn]; omega
theorem szQ_cn (d : Bool) (it : List Item) (fr : List Source) (wh : List Expr) (od : List SortKey) (li : Int) : szQuery (.mk d it fr wh od li) = cnL (sz1 szItem) it + cnL (sz1 szSource) fr + cnL (sz1 szExpr) wh + cnL (sz1 szSortKey) od := by
 rw [szQuery_mk, szEs_cn, szItems_eq, sum_cn, szSources_eq, sum_cn, szSortKeys_eq, sum_cn]; omega
theorem zb_size : (⟨#[]⟩ : ByteArray).size = 0 := rfl
theorem text40 (h40 : ∀ t ∈ L, t.text.size ≤ 40) (s : PS) : (textAt L s).size ≤ 40 := by
 unfold textAt
 cases h : tkAt L s 0 with
 | none => exact Nat.zero_le _
 | some t =>
  unfold tkAt at h
  split at h
  ·cases h
  ·exact h40 t (List.mem_of_getElem? h)
theorem mText40 (h40 : ∀ t ∈ L, t.text.size ≤ 40) (k : Int) (s : PS) : (mText L k s).1.size ≤ 40 ∧ (mText L k s).1.size + 64 * s.a ≤ 64 * (mText L k s).2.a := by
 have := text40 h40 s
 unfold mText
 split
 ·exact ⟨this, by simp only [adv]; omega⟩
 ·exact ⟨Nat.zero_le _, by show (0 : Nat) + _ ≤ _; simp [fl]⟩
theorem asM40 (h40 : ∀ t ∈ L, t.text.size ≤ 40) (s : PS) : (asM L s).1.size + 64 * s.a ≤ 64 * (asM L s).2.a := by
 unfold asM
 split
 ·have := (mText40 h40 2 (adv s)).2; rw [adv_a] at this; omega
 ·show (0 : Nat) + 64 * s.a ≤ 64 * s.a; omega
theorem source40 (h40 : ∀ t ∈ L, t.text.size ≤ 40) (s : PS) : szSource (sourceM L s).1 + 64 * s.a ≤ 64 * (sourceM L s).2.a := by
 have h1 := (mText40 h40 2 s).2
 have h2 := asM40 h40 (mText L 2 s).2
 unfold sourceM
 rw [szSo_cn]
 simp only [cnL]
 omega
theorem withOn_sz (x : Source) (e : Expr) (h : ∃ a b, x = .mk a b []) : szSource (x.withOn [e]) = szSource x + szExpr e + 1 := by
 obtain ⟨a, b, rfl⟩ := h
 simp only [Source.withOn, szSo_cn, cnL, sz1]
 omega
theorem Wt.up {α : Type} {m : PM α} {w : α → Nat} {c : Nat} (h : Wt m w c) : Wt m (sz1 w) (c + 1) := fun s x s' hx => by
 have := h _ _ _ hx
 show w x + 1 + _ ≤ _
 omega
variable {f : Nat → PM Expr} {q : PM Query}
theorem Wz.chain {g : PM Expr} (hg : Wt g szExpr 8) (lv : Nat) : ∀ (n : Nat) (e : Expr) (s : PS) (x : Expr) (s' : PS), chainM L g lv n e s = some (x, s') → szExpr x + 64 * s.a ≤ szExpr e + 64 * s'.a
 | 0, _, _, _, _, h => by cases h
 | n + 1, e, s, x, s', h => by
  rw [chainM] at h
  split at h
  ·injection h with h; injection h with hx h; subst hx h; exact Nat.le_refl _
  ·split at h
   ·cases h
   ·rename_i y s1 h1
    have a1 := hg _ _ _ h1
    have a2 := Wz.chain hg lv n _ _ _ _ h
    (try simp only [mBin, mUn, mKids, mLit, mCol, zExpr, szE_cn, szI_cn, szSo_cn, szSortKey_mk, szQ_cn, cnL, cnL_app, sz1, adv_a, fl_a, zVal, z0, zb_size] at *); omega
theorem Wz.sep {α : Type} {g : PM α} {w : α → Nat} {c : Nat} (hc : c ≤ 64) (hg : Wt g w c) : ∀ (n : Nat) (l : List α) (s : PS) (x : List α) (s' : PS), sepM L g n l s = some (x, s') → cnL w x + 64 * s.a ≤ cnL w l + 64 * s'.a
 | 0, _, _, _, _, h => by cases h
 | n + 1, l, s, x, s', h => by
  rw [sepM] at h
  split at h
  ·split at h
   ·cases h
   ·rename_i y s1 h1
    have a1 := hg _ _ _ h1
    have a2 := Wz.sep hc hg n _ _ _ _ h
    (try simp only [mBin, mUn, mKids, mLit, mCol, zExpr, szE_cn, szI_cn, szSo_cn, szSortKey_mk, szQ_cn, cnL, cnL_app, sz1, adv_a, fl_a, zVal, z0, zb_size] at *); omega
  ·injection h with h; injection h with hx h; subst hx h; exact Nat.le_refl _
theorem Wz.ors (hf : ∀ lv, Wt (f lv) szExpr 8) : Wt (orsM L f) (cnL (sz1 szExpr)) 9 := fun s x s' h => by
 unfold orsM at h
 split at h
 ·cases h
 ·rename_i y s1 h1
  have a1 := hf 1 _ _ _ h1
  have a2 := Wz.sep (by omega) (Wt.up (hf 1)) _ _ _ _ _ h
  (try simp only [mBin, mUn, mKids, mLit, mCol, zExpr, szE_cn, szI_cn, szSo_cn, szSortKey_mk, szQ_cn, cnL, cnL_app, sz1, adv_a, fl_a, zVal, z0, zb_size] at *); omega
theorem Wz.inn (hf : ∀ lv, Wt (f lv) szExpr 8) (hq : Wt q szQuery 15) (e : Expr) (n : Bool) (s : PS) (x : Expr) (s' : PS) (h : inM L f q e n s = some (x, s')) : szExpr x + 64 * s.a ≤ szExpr e + 40 + 64 * s'.a := by
 unfold inM at h
 simp only at h
 have m1 := must_a (isSg L s 40) s
 split at h
 ·split at h
  ·cases h
  ·rename_i y s1 h1
   injection h with h; injection h with hx h; subst hx h
   have a1 := hq _ _ _ h1
   have m2 := must_a (isSg L s1 41) s1
   (try simp only [mBin, mUn, mKids, mLit, mCol, zExpr, szE_cn, szI_cn, szSo_cn, szSortKey_mk, szQ_cn, cnL, cnL_app, sz1, adv_a, fl_a, zVal, z0, zb_size] at *); omega
 ·split at h
  ·cases h
  ·rename_i y s1 h1
   injection h with h; injection h with hx h; subst hx h
   have a1 := Wz.ors hf _ _ _ h1
   have m2 := must_a (isSg L s1 41) s1
   (try simp only [mBin, mUn, mKids, mLit, mCol, zExpr, szE_cn, szI_cn, szSo_cn, szSortKey_mk, szQ_cn, cnL, cnL_app, sz1, adv_a, fl_a, zVal, z0, zb_size] at *); omega
theorem Wz.cmpT (hf : ∀ lv, Wt (f lv) szExpr 8) (hq : Wt q szQuery 15) (e : Expr) (s : PS) (x : Expr) (s' : PS) (h : cmpT L f q e s = some (x, s')) : szExpr x + 64 * s.a ≤ szExpr e + 64 * s'.a := by
 unfold Go.Proofs.YteffjmaadkkmeaaGreatDoor.cmpT at h
 simp only at h
 split at h
 ·injection h with h; injection h with hx h; subst hx h
  have m1 := tkIf_a (isKey L (adv s) 15) (adv s)
  have m2 := must_a (isKey L (tkIf (isKey L (adv s) 15) (adv s)) 20) (tkIf (isKey L (adv s) 15) (adv s))
  (try simp only [mBin, mUn, mKids, mLit, mCol, zExpr, szE_cn, szI_cn, szSo_cn, szSortKey_mk, szQ_cn, cnL, cnL_app, sz1, adv_a, fl_a, zVal, z0, zb_size] at *); omega
 ·have m0 := tkIf_a (isKey L s 15) s
  split at h
  ·split at h
   ·cases h
   ·rename_i y s1 h1
    split at h
    ·cases h
    ·rename_i z s2 h2
     injection h with h; injection h with hx h; subst hx h
     have a1 := hf 5 _ _ _ h1
     have a2 := hf 5 _ _ _ h2
     have m2 := must_a (isKey L s1 13) s1
     (try simp only [mBin, mUn, mKids, mLit, mCol, zExpr, szE_cn, szI_cn, szSo_cn, szSortKey_mk, szQ_cn, cnL, cnL_app, sz1, adv_a, fl_a, zVal, z0, zb_size] at *); omega
  ·split at h
   ·have a1 := Wz.inn hf hq e _ _ _ _ h
    (try simp only [mBin, mUn, mKids, mLit, mCol, zExpr, szE_cn, szI_cn, szSo_cn, szSortKey_mk, szQ_cn, cnL, cnL_app, sz1, adv_a, fl_a, zVal, z0, zb_size] at *); omega
   ·injection h with h; injection h with hx h; subst hx h
    show szExpr e + 64 * s.a ≤ szExpr e + 64 * (tkIf (isKey L s 15) s).a
    omega
theorem Wz.cmp (hf : ∀ lv, Wt (f lv) szExpr 8) (hq : Wt q szQuery 15) : Wt (cmpM L f q) szExpr 8 := fun s x s' h => by
 unfold cmpM at h
 split at h
 ·cases h
 ·rename_i y s1 h1
  have a1 := hf 5 _ _ _ h1
  split at h
  ·have a2 := Wz.cmpT hf hq _ _ _ _ h
   omega
  ·split at h
   ·cases h
   ·rename_i z s2 h2
    injection h with h; injection h with hx h; subst hx h
    have a2 := hf 5 _ _ _ h2
    (try simp only [mBin, mUn, mKids, mLit, mCol, zExpr, szE_cn, szI_cn, szSo_cn, szSortKey_mk, szQ_cn, cnL, cnL_app, sz1, adv_a, fl_a, zVal, z0, zb_size] at *); omega
theorem Wz.prim (h40 : ∀ t ∈ L, t.text.size ≤ 40) (hf : ∀ lv, Wt (f lv) szExpr 8) (hq : Wt q szQuery 15) : Wt (primM L f q) szExpr 8 := fun s x s' h => by
 have x40 := text40 h40 s
 unfold primM at h
 simp only at h
 split at h
 ·injection h with h; injection h with hx h; subst hx h; (try simp only [mBin, mUn, mKids, mLit, mCol, zExpr, szE_cn, szI_cn, szSo_cn, szSortKey_mk, szQ_cn, cnL, cnL_app, sz1, adv_a, fl_a, zVal, z0, zb_size] at *); omega
 split at h
 ·injection h with h; injection h with hx h; subst hx h; (try simp only [mBin, mUn, mKids, mLit, mCol, zExpr, szE_cn, szI_cn, szSo_cn, szSortKey_mk, szQ_cn, cnL, cnL_app, sz1, adv_a, fl_a, zVal, z0, zb_size] at *); omega
 split at h
 ·injection h with h; injection h with hx h; subst hx h; (try simp only [mBin, mUn, mKids, mLit, mCol, zExpr, szE_cn, szI_cn, szSo_cn, szSortKey_mk, szQ_cn, cnL, cnL_app, sz1, adv_a, fl_a, zVal, z0, zb_size] at *); omega
 split at h
 ·injection h with h; injection h with hx h; subst hx h; (try simp only [mBin, mUn, mKids, mLit, mCol, zExpr, szE_cn, szI_cn, szSo_cn, szSortKey_mk, szQ_cn, cnL, cnL_app, sz1, adv_a, fl_a, zVal, z0, zb_size] at *); omega
 split at h
 ·injection h with h; injection h with hx h; subst hx h; (try simp only [mBin, mUn, mKids, mLit, mCol, zExpr, szE_cn, szI_cn, szSo_cn, szSortKey_mk, szQ_cn, cnL, cnL_app, sz1, adv_a, fl_a, zVal, z0, zb_size] at *); omega
 split at h
 ·split at h
  ·injection h with h; injection h with hx h; subst hx h
   have m1 := (mText40 h40 2 (adv (adv s))).2
   (try simp only [mBin, mUn, mKids, mLit, mCol, zExpr, szE_cn, szI_cn, szSo_cn, szSortKey_mk, szQ_cn, cnL, cnL_app, sz1, adv_a, fl_a, zVal, z0, zb_size] at *); omega
  ·injection h with h; injection h with hx h; subst hx h; (try simp only [mBin, mUn, mKids, mLit, mCol, zExpr, szE_cn, szI_cn, szSo_cn, szSortKey_mk, szQ_cn, cnL, cnL_app, sz1, adv_a, fl_a, zVal, z0, zb_size] at *); omega
 split at h
 ·split at h
  ·cases h
  ·rename_i y s1 h1
   injection h with h; injection h with hx h; subst hx h
   have a1 := hf 1 _ _ _ h1
   have m1 := must_a (isSg L s1 41) s1
   (try simp only [mBin, mUn, mKids, mLit, mCol, zExpr, szE_cn, szI_cn, szSo_cn, szSortKey_mk, szQ_cn, cnL, cnL_app, sz1, adv_a, fl_a, zVal, z0, zb_size] at *); omega
 split at h
 ·split at h
  ·cases h
  ·rename_i y s1 h1
   injection h with h; injection h with hx h; subst hx h
   have a1 := hq _ _ _ h1
   have m1 := must_a (isSg L (adv s) 40) (adv s)
   have m2 := must_a (isSg L s1 41) s1
   (try simp only [mBin, mUn, mKids, mLit, mCol, zExpr, szE_cn, szI_cn, szSo_cn, szSortKey_mk, szQ_cn, cnL, cnL_app, sz1, adv_a, fl_a, zVal, z0, zb_size] at *); omega
 ·injection h with h; injection h with hx h; subst hx h; (try simp only [mBin, mUn, mKids, mLit, mCol, zExpr, szE_cn, szI_cn, szSo_cn, szSortKey_mk, szQ_cn, cnL, cnL_app, sz1, adv_a, fl_a, zVal, z0, zb_size] at *); omega
theorem Wz.stepE (h40 : ∀ t ∈ L, t.text.size ≤ 40) (hf : ∀ lv, Wt (f lv) szExpr 8) (hq : Wt q szQuery 15) (lv : Nat) : Wt (stepE L f q lv) szExpr 8 := fun s x s' h => by
 unfold Go.Proofs.YteffjmaadkkmeaaGreatDoor.stepE at h
 split at h
 ·split at h
  ·split at h
   ·cases h
   ·rename_i y s1 h1
    injection h with h; injection h with hx h; subst hx h
    have a1 := hf 3 _ _ _ h1
    (try simp only [mBin, mUn, mKids, mLit, mCol, zExpr, szE_cn, szI_cn, szSo_cn, szSortKey_mk, szQ_cn, cnL, cnL_app, sz1, adv_a, fl_a, zVal, z0, zb_size] at *); omega
  ·exact hf 4 _ _ _ h
 split at h
 ·exact Wz.cmp hf hq _ _ _ h
 split at h
 ·split at h
  ·split at h
   ·cases h
   ·rename_i y s1 h1
    injection h with h; injection h with hx h; subst hx h
    have a1 := hf 8 _ _ _ h1
    (try simp only [mBin, mUn, mKids, mLit, mCol, zExpr, szE_cn, szI_cn, szSo_cn, szSortKey_mk, szQ_cn, cnL, cnL_app, sz1, adv_a, fl_a, zVal, z0, zb_size] at *); omega
  ·exact hf 9 _ _ _ h
 split at h
 ·exact Wz.prim h40 hf hq _ _ _ h
 ·split at h
  ·cases h
  ·rename_i y s1 h1
   have a1 := hf _ _ _ _ h1
   have a2 := Wz.chain (hf _) lv _ _ _ _ _ h
   omega
theorem Wz.item (h40 : ∀ t ∈ L, t.text.size ≤ 40) (hf : ∀ lv, Wt (f lv) szExpr 8) : Wt (itemM L f) szItem 11 := fun s x s' h => by
 have x40 := text40 h40 s
 unfold itemM at h
 split at h
 ·injection h with h; injection h with hx h; subst hx h
  (try simp only [mBin, mUn, mKids, mLit, mCol, zExpr, szE_cn, szI_cn, szSo_cn, szSortKey_mk, szQ_cn, cnL, cnL_app, sz1, adv_a, fl_a, zVal, z0, zb_size] at *); omega
 split at h
 ·injection h with h; injection h with hx h; subst hx h
  (try simp only [mBin, mUn, mKids, mLit, mCol, zExpr, szE_cn, szI_cn, szSo_cn, szSortKey_mk, szQ_cn, cnL, cnL_app, sz1, adv_a, fl_a, zVal, z0, zb_size] at *); omega
 split at h
 ·cases h
 ·rename_i y s1' h1
  injection h with h; injection h with hx h; subst hx h
  have a1 := hf 1 _ _ _ h1
  have m1 := asM40 h40 s1'
  rw [szI_cn]
  show (0 : Nat) + _ + _ + _ ≤ _
  omega
theorem Wz.sources (h40 : ∀ t ∈ L, t.text.size ≤ 40) (hf : ∀ lv, Wt (f lv) szExpr 8) : ∀ (n : Nat) (l : List Source) (s : PS) (x : List Source) (s' : PS), sourcesM L f n l s = some (x, s') → cnL (sz1 szSource) x + 64 * s.a ≤ cnL (sz1 szSource) l + 64 * s'.a
 | 0, _, _, _, _, h => by cases h
 | n + 1, l, s, x, s', h => by
  rw [sourcesM] at h
  have m1 := source40 h40 (adv s)
  split at h
  ·have a2 := Wz.sources h40 hf n _ _ _ _ h
   (try simp only [mBin, mUn, mKids, mLit, mCol, zExpr, szE_cn, szI_cn, szSo_cn, szSortKey_mk, szQ_cn, cnL, cnL_app, sz1, adv_a, fl_a, zVal, z0, zb_size] at *); omega
  simp only at h
  split at h
  ·split at h
   ·cases h
   ·rename_i y s1 h1
    have a1 := hf 1 _ _ _ h1
    have m2 := must_a (isKey L (sourceM L (adv s)).2 5) (sourceM L (adv s)).2
    have a2 := Wz.sources h40 hf n _ _ _ _ h
    have w2 := withOn_sz (sourceM L (adv s)).1 y ⟨_, _, rfl⟩
    (try simp only [mBin, mUn, mKids, mLit, mCol, zExpr, szE_cn, szI_cn, szSo_cn, szSortKey_mk, szQ_cn, cnL, cnL_app, sz1, adv_a, fl_a, zVal, z0, zb_size] at *); omega
  ·injection h with h; injection h with hx h; subst hx h; exact Nat.le_refl _
theorem Wz.wher (hf : ∀ lv, Wt (f lv) szExpr 8) : Wt (whereM L f) (cnL (sz1 szExpr)) 0 := fun s x s' h => by
 unfold whereM at h
 split at h
 ·split at h
  ·cases h
  ·rename_i y s1 h1
   injection h with h; injection h with hx h; subst hx h
   have a1 := hf 1 _ _ _ h1
   (try simp only [mBin, mUn, mKids, mLit, mCol, zExpr, szE_cn, szI_cn, szSo_cn, szSortKey_mk, szQ_cn, cnL, cnL_app, sz1, adv_a, fl_a, zVal, z0, zb_size] at *); omega
 ·injection h with h; injection h with hx h; subst hx h; (try simp only [mBin, mUn, mKids, mLit, mCol, zExpr, szE_cn, szI_cn, szSo_cn, szSortKey_mk, szQ_cn, cnL, cnL_app, sz1, adv_a, fl_a, zVal, z0, zb_size] at *); omega
theorem szSort_eq (e : Expr) (d : Bool) : szSortKey (.mk e d) = szExpr e := szSortKey_mk e d
theorem Wz.sort (hf : ∀ lv, Wt (f lv) szExpr 8) : Wt (sortM L f) szSortKey 9 := fun s x s' h => by
 unfold sortM at h
 split at h
 ·cases h
 ·rename_i y s1 h1
  have a1 := hf 1 _ _ _ h1
  split at h
  ·injection h with h; injection h with hx h; subst hx h
   rw [szSort_eq, adv_a]
   omega
  ·injection h with h; injection h with hx h; subst hx h
   have m1 := tkIf_a (isKey L s1 10) s1
   rw [szSort_eq]
   omega
theorem Wz.order (hf : ∀ lv, Wt (f lv) szExpr 8) : Wt (orderM L f) (cnL (sz1 szSortKey)) 0 := fun s x s' h => by
 unfold orderM at h
 simp only at h
 split at h
 ·split at h
  ·cases h
  ·rename_i y s1 h1
   have m1 := must_a (isKey L (adv s) 8) (adv s)
   have a1 := Wz.sort hf _ _ _ h1
   have a2 := Wz.sep (by omega) (Wt.up (Wz.sort hf)) _ _ _ _ _ h
   (try simp only [mBin, mUn, mKids, mLit, mCol, zExpr, szE_cn, szI_cn, szSo_cn, szSortKey_mk, szQ_cn, cnL, cnL_app, sz1, adv_a, fl_a, zVal, z0, zb_size] at *); omega
 ·injection h with h; injection h with hx h; subst hx h; (try simp only [mBin, mUn, mKids, mLit, mCol, zExpr, szE_cn, szI_cn, szSo_cn, szSortKey_mk, szQ_cn, cnL, cnL_app, sz1, adv_a, fl_a, zVal, z0, zb_size] at *); omega
theorem Wz.items (h40 : ∀ t ∈ L, t.text.size ≤ 40) (hf : ∀ lv, Wt (f lv) szExpr 8) : Wt (itemsM L f) (cnL (sz1 szItem)) 12 := fun s x s' h => by
 unfold itemsM at h
 split at h
 ·cases h
 ·rename_i y s1 h1
  have a1 := Wz.item h40 hf _ _ _ h1
  have a2 := Wz.sep (by omega) (Wt.up (Wz.item h40 hf)) _ _ _ _ _ h
  (try simp only [mBin, mUn, mKids, mLit, mCol, zExpr, szE_cn, szI_cn, szSo_cn, szSortKey_mk, szQ_cn, cnL, cnL_app, sz1, adv_a, fl_a, zVal, z0, zb_size] at *); omega
theorem Wz.stepQ (h40 : ∀ t ∈ L, t.text.size ≤ 40) (hf : ∀ lv, Wt (f lv) szExpr 8) : Wt (stepQ L f) szQuery 15 := fun s x s' h => by
 unfold Go.Proofs.YteffjmaadkkmeaaGreatDoor.stepQ at h
 simp only at h
 split at h
 ·cases h
 rename_i its s2 h1
 split at h
 ·cases h
 rename_i frs s4 h2
 split at h
 ·cases h
 rename_i wh s5 h3
 split at h
 ·cases h
 rename_i od s6 h4
 injection h with h; injection h with hx h; subst hx h
 have m1 := must_a (isKey L s 1) s
 have m2 := tkIf_a (isKey L (must (isKey L s 1) s) 2) (must (isKey L s 1) s)
 have a1 := Wz.items h40 hf _ _ _ h1
 have m3 := must_a (isKey L s2 3) s2
 have m4 := source40 h40 (must (isKey L s2 3) s2)
 have a2 := Wz.sources h40 hf _ _ _ _ _ h2
 have a3 := Wz.wher hf _ _ _ h3
 have a4 := Wz.order hf _ _ _ h4
 have m5 := limitM_a (L := L) s6
 (try simp only [mBin, mUn, mKids, mLit, mCol, zExpr, szE_cn, szI_cn, szSo_cn, szSortKey_mk, szQ_cn, cnL, cnL_app, sz1, adv_a, fl_a, zVal, z0, zb_size] at *); omega
theorem pP_wz (h40 : ∀ t ∈ L, t.text.size ≤ 40) : ∀ k, (∀ lv, Wt ((pP L k).1 lv) szExpr 8) ∧ Wt (pP L k).2 szQuery 15
 | 0 => ⟨fun _ _ _ _ h => (by cases h), fun _ _ _ h => (by cases h)⟩
 | k + 1 => ⟨fun lv => Wz.stepE h40 (pP_wz h40 k).1 (pP_wz h40 k).2 lv, Wz.stepQ h40 (pP_wz h40 k).1⟩
theorem takeE_sz (h40 : ∀ t ∈ L, t.text.size ≤ 40) (hL : L.length ≤ 2000) : szExpr (takeE L).1 ≤ 200000 := by
 have hz : szExpr zExpr ≤ 200000 := by rw [zExpr, szE_cn]; exact (by decide : 0 + 0 + 0 + 0 + 0 ≤ 200000)
 unfold takeE
 cases h : pExpr L 1 s0 with
 | none => exact hz
 | some p =>
  obtain ⟨x, s⟩ := p
  have h1 := (pP_wz h40 (pD L)).1 1 _ _ _ h
  have h2 := (pExpr_ok (L := L) 1 _ _ _ h).2.1 (Nat.zero_le _)
  unfold takeM
  simp only
  split
  ·exact hz
  ·show szExpr x ≤ _
   omega
end
theorem tok40 {t : Tok} (h : okTok t = true) : t.text.size ≤ 40 := by
 unfold okTok at h
 split at h
 ·simp only [Bool.and_eq_true, decide_eq_true_eq] at h
  have : ¬ 8 < t.text.size := fun hl => h.1 (key_long hl)
  omega
 split at h
 ·have := of_decide_eq_true h; omega
 split at h
 ·unfold numOk at h
  obtain ⟨m, hm⟩ := Option.isSome_iff_exists.1 h
  obtain ⟨h1, h2⟩ := numN_some.1 hm
  have := decDigits_len m 18 (by omega)
  rw [h2, size_toList] at this
  omega
 split at h
 ·exact of_decide_eq_true h
 split at h
 ·unfold signB at h
  rw [List.any_eq_true] at h
  obtain ⟨x, hx, he⟩ := h
  rw [of_decide_eq_true he]
  exact Nat.le_trans ((by decide : ∀ s ∈ signs, s.size ≤ 2) x hx) (by omega)
 ·cases h
theorem lex_toks {s : ByteArray} {L : List Tok} (h : lexR s = .inl L) : L.length ≤ 2000 ∧ ∀ t ∈ L, okTok t = true := by
 unfold lexR at h
 split at h
 ·cases h
 ·obtain ⟨rr, hrr⟩ := lxGo_df (B := s.data.toList) (s.data.toList.length + 1) 0 [] (by omega) (by omega)
  rw [hrr] at h
  have h : rr = .inl L := h
  subst h
  have := lxGo_toks (by omega) hrr (fun t ht => by cases ht)
  rw [size_toList] at this
  simp only [List.length_nil] at this
  exact ⟨by omega, this.1⟩
def fltA (L : List Tok) (n : Nat) (i : Int) : Int := if i < L.length then (L.getD i.toNat ⟨0, z0, 0⟩).at_ else n
def flt (L : List Tok) (n : Nat) (i : Int) (ok : Bool) : Int × Int := if 0 ≤ i then (2, fltA L n i) else if ok = true then (0, 0) else (3, 0)
def parseR {α : Type} (z : α) (take : List Tok → α × Int) (ok : α → Bool) (s : ByteArray) : α × (Int × Int) := match lexR s with
 | .inr p => (z, (1, p))
 | .inl L => (if 0 ≤ (take L).2 then z else if ok (take L).1 = true then (take L).1 else z, flt L s.size (take L).2 (ok (take L).1))
def fcs (f : Int × Int) : List C := [.v (.int .i64 f.1), .v (.int .i64 f.2)]
theorem l12Fault_d (L : List Tok) (hL : L.length ≤ 1048576) (hT : ∀ t ∈ L, t.text.size ≤ 1048576) (i : Int) (h0 : 0 ≤ i) (s : ByteArray) : Cl Tryz.prog 73 [.c (.sl L.length (L.flatMap Tok.row) none), vi i, vs s] [] fun r _ => r = .ag (fcs (2, fltA L s.size i)) := by
 obtain ⟨j, rfl⟩ : ∃ j : Nat, i = j := ⟨i.toNat, by omega⟩
 refine cl_of_d follows_mixed false Tryz.func73 rfl (by kernel_rfl) ?_
 simp only [Tryz.f73, tt, seval]
 refine fun _ => And.intro (fun hlt => ?_) (fun hge => ?_)
 ·have hl : j < L.length := by omega
  have hx : L[j]? = some L[j] := List.getElem?_eq_getElem hl
  have e : fltA L s.size j = (L[j]).at_ := by
   unfold fltA
   rw [if_pos hlt, Int.toNat_natCast, List.getD_eq_getElem?_getD, hx]; rfl
  have i0 : ((0 : Int) ≤ (j : Int)) = True := eq_true (by omega)
  have iL : ((j : Int) < (L.length : Int)) = True := eq_true hlt
  have iT : (j < L.length) = True := eq_true hl
  rw [e]
  generalize L[j] = tk at *
  simp only [tt, seval, idxAt hx Tok.row_len, i0, iL, iT, Tok.row]
  refine ⟨.ag (fcs (2, tk.at_)), [], rfl, endOk ?_⟩
  simp only [tt, seval, fcs]
 ·have e : fltA L s.size j = s.size := by unfold fltA; rw [if_neg hge]
  rw [e]
  refine fun _ => ?_
  refine ⟨.ag (fcs (2, (s.size : Nat))), [], rfl, endOk ?_⟩
  simp only [tt, seval, fcs]
noncomputable def parseExpr : ByteArray → Expr × (Int × Int) := parseR zExpr takeE okE
set_option maxHeartbeats 2000000 in
theorem ParseExpr_d (s : ByteArray) (hs : s.size ≤ 1048576) : Cl Tryz.prog 29 [vs s] [] fun r _ => r = .tu [(csOf (parseExpr s).1.row, false), (fcs (parseExpr s).2, false)] := by
 have cl := Lex_d s hs
 refine cl_of_d follows_mixed false Tryz.func29 rfl (by kernel_rfl) ?_
 simp only [Tryz.f29, tt, seval]
 cases hlx : lexR s with
 | inr p =>
  have e : parseExpr s = (zExpr, (1, (p : Int))) := by unfold parseExpr parseR; rw [hlx]
  rw [hlx] at cl
  rw [e]
  have h0 : (0 ≤ (p : Int)) = True := eq_true (by omega)
  refine call0 (cl) ?_ ?_ ?_
  ·decide
  ·simp only [tt, seval, lexV]
  rintro r rfl
  simp only [tt, seval, lexV]
  simp only [tt, seval, h0, true_implies, not_true_eq_false, false_implies, and_true]
  refine ⟨.tu [(csOf (zExpr).row, false), (fcs (1, (p : Int)), false)], [], rfl, endOk ?_⟩
  simp only [tt, seval, fcs, Stmt.row_mk, Query.row_mk, zQuery, ERow.row_mk, rW, Val.row, lcC, zExpr, zStmt, List.flatMap_nil, List.length_nil]
 | inl L =>
  obtain ⟨hL2, hok⟩ := lex_toks hlx
  have hL : L.length ≤ 1048576 := by omega
  have h40 : ∀ t ∈ L, t.text.size ≤ 40 := fun t ht => tok40 (hok t ht)
  have hT : ∀ t ∈ L, t.text.size ≤ 1048576 := fun t ht => Nat.le_trans (h40 t ht) (by omega)
  have e : parseExpr s = (if 0 ≤ (takeE L).2 then zExpr else if okE (takeE L).1 = true then (takeE L).1 else zExpr, flt L s.size (takeE L).2 (okE (takeE L).1)) := by unfold parseExpr parseR; rw [hlx]
  have hsz := takeE_sz h40 hL2
  have ct := TakeExpr_d L hL hT
  rw [hlx] at cl
  rw [e]
  generalize (takeE L).2 = i at *
  generalize (takeE L).1 = x at *
  have ck := ExprOk_d x (by omega)
  obtain ⟨k1, p1, n1, v1, q1, m1, ks1, ss1⟩ := x
  simp only [Stmt.row_mk, Query.row_mk, zQuery, ERow.row_mk, rW, Val.row, lcC] at ct ck
  refine call0 (cl) ?_ ?_ ?_
  ·decide
  ·simp only [tt, seval, lexV]
  rintro r rfl
  simp only [tt, seval, lexV]
  try simp only [tt, seval, not_false_eq_true, true_implies, false_implies, true_and]
  refine call0 (ct) ?_ ?_ ?_
  ·decide
  ·simp only [tt, seval]
  rintro r rfl
  simp only [tt, seval]
  by_cases hi : 0 ≤ i
  ·have h0 : (0 ≤ i) = True := eq_true hi
   simp only [tt, seval, h0, true_implies, not_true_eq_false, false_implies, and_true]
   have cf := l12Fault_d L hL hT i hi s
   have ef : flt L s.size i (okE (Expr.mk k1 p1 n1 v1 q1 m1 ks1 ss1)) = (2, fltA L s.size i) := if_pos hi
   rw [ef]
   refine call0 (cf) ?_ ?_ ?_
   ·decide
   ·simp only [tt, seval, fcs]
   rintro r rfl
   simp only [tt, seval, fcs]
   refine ⟨.tu [(csOf (zExpr).row, false), (fcs (2, fltA L s.size i), false)], [], rfl, endOk ?_⟩
   simp only [tt, seval, fcs, Stmt.row_mk, Query.row_mk, zQuery, ERow.row_mk, rW, Val.row, lcC, zExpr, zStmt, List.flatMap_nil, List.length_nil]
  ·have h0 : (0 ≤ i) = False := eq_false hi
   simp only [tt, seval, h0, not_false_eq_true, true_implies, false_implies, true_and]
   refine call0 (ck) ?_ ?_ ?_
   ·decide
   ·simp only [tt, seval]
   rintro r rfl
   simp only [tt, seval]
   cases ho : okE (Expr.mk k1 p1 n1 v1 q1 m1 ks1 ss1) with
   | true =>
    have ef : flt L s.size i true = (0, 0) := by unfold flt; rw [if_neg hi, if_pos rfl]
    rw [ef]
    simp only [tt, seval, ho, Bool.not_true, Bool.false_eq_true]
    refine ⟨.tu [(csOf (Expr.mk k1 p1 n1 v1 q1 m1 ks1 ss1).row, false), (fcs (0, 0), false)], [], rfl, endOk ?_⟩
    simp only [tt, seval, fcs, Stmt.row_mk, Query.row_mk, zQuery, ERow.row_mk, rW, Val.row, lcC, zExpr, zStmt, List.flatMap_nil, List.length_nil]
   | false =>
    have ef : flt L s.size i false = (3, 0) := by unfold flt; rw [if_neg hi, if_neg (by simp)]
    rw [ef]
    simp only [tt, seval, ho, Bool.not_false]
    refine ⟨.tu [(csOf (zExpr).row, false), (fcs (3, 0), false)], [], rfl, endOk ?_⟩
    simp only [tt, seval, fcs, Stmt.row_mk, Query.row_mk, zQuery, ERow.row_mk, rW, Val.row, lcC, zExpr, zStmt, List.flatMap_nil, List.length_nil]
end Go.Proofs.YteffjmaadkkmeaaGreatDoor
set_option maxRecDepth 8000
namespace Go.Proofs.YteffjmaadkkmeaaGreatDoor
open Go Go.Dv Go.Cv
open Go.Vc (D shrI xorI andI and255)
theorem takeM_at {L : List Tok} {α : Type} (z x : α) (s : PS) (ha : s.a ≤ L.length) : ((takeM L z (some (x, s))).2 = -1 ∨ 0 ≤ (takeM L z (some (x, s))).2) ∧ (takeM L z (some (x, s))).2 ≤ L.length := by
 unfold takeM
 simp only
 split
 ·rename_i h
  refine ⟨.inr h, ?_⟩
  show endM L s ≤ _
  unfold endM
  split <;> omega
 ·exact ⟨.inl rfl, by show (-1 : Int) ≤ _; omega⟩
theorem takeE_at {L : List Tok} : ((takeE L).2 = -1 ∨ 0 ≤ (takeE L).2) ∧ (takeE L).2 ≤ L.length := by
 obtain ⟨x, s, h⟩ := pExpr_df (L := L) 1 (by omega) (by omega) s0
 have ha := (pExpr_ok (L := L) 1 _ _ _ h).2.1 (Nat.zero_le _)
 unfold takeE
 rw [h]; exact takeM_at _ _ _ ha
set_option maxHeartbeats 2000000 in
theorem ParseExpr_c (L : List Tok) (hL : L.length ≤ 1048576) (hT : ∀ t ∈ L, t.text.size ≤ 1048576) (h40 : ∀ t ∈ L, t.text.size ≤ 40) (hL2 : L.length ≤ 2000) : Cl Tryz.prog 76 [.c (.sl L.length (L.flatMap Tok.row) none), .c (.p 9000 0)] [[.v (.int .i64 0), .v (.int .i64 0), .v (.bool false), .v (.int .i64 0), .v (.int .i64 0), .v (.string ByteArray.empty), .v (.string ByteArray.empty), .v (.string ByteArray.empty), .v (.slice none 0 0), .v (.slice none 0 0)]] fun r os => r = .tu [([.v (.int .i64 (takeE L).2)], true), ([.v (.bool (okE (takeE L).1))], true)] ∧ ∃ Fk Fs, os = [told (takeE L).1.row [Fk, Fs]] := by
 have hsz := takeE_sz h40 hL2
 have ct := iTakeExpr_d L hL hT
 generalize (takeE L).2 = i at *
 generalize (takeE L).1 = x at *
 have ck := iExprOk_d x (by omega)
 obtain ⟨k1, p1, n1, v1, q1, m1, ks1, ss1⟩ := x
 simp only [Stmt.row_mk, Query.row_mk, zQuery, ERow.row_mk, rW, Val.row, lcC, told, Val.row, lcC] at ct ck ⊢
 refine cl_of_d follows_mixed true Tryz.func76 rfl (by kernel_rfl) ?_
 simp only [Tryz.f76, tt, seval]
 refine call0 (ct) ?_ ?_ ?_
 ·decide
 ·simp only [tt, seval, told, Val.row, lcC]
 rintro r ⟨Fk, Fs, rfl⟩
 simp only [tt, seval, told, Val.row, lcC]
 refine call0 (ck) ?_ ?_ ?_
 ·decide
 ·simp only [tt, seval, told, Val.row, lcC]
 rintro r rfl
 simp only [tt, seval, told, Val.row, lcC]
 refine ⟨.tu [([.v (.int .i64 i)], true), ([.v (.bool (okE (Expr.mk k1 p1 n1 v1 q1 m1 ks1 ss1)))], true)], [told (Expr.mk k1 p1 n1 v1 q1 m1 ks1 ss1).row [Fk, Fs]], ⟨rfl, Fk, Fs, by first | rfl | simp only [Stmt.row_mk, Query.row_mk, zStmt, zQuery, ERow.row_mk, srow, rW, told, Val.row, lcC]⟩, endOk ?_⟩
 simp only [tt, seval, Stmt.row_mk, Query.row_mk, zStmt, zQuery, ERow.row_mk, srow, rW, told, Val.row, lcC]
 first | done | exact pool_ok fun x => by simp only [fbC]; omega | exact ⟨by omega, Sb.refl _⟩ | exact ⟨by omega, pool_ok fun x => by simp only [fbC]; omega⟩
theorem parsedExpr_r (s : ByteArray) (hs : s.size ≤ 1048576) (p : Nat) (hlx : lexR s = .inr p) : Cl Tryz.prog 75 [vs s, .c (.fn 76 [] [9000])] [[.v (.int .i64 0), .v (.int .i64 0), .v (.bool false), .v (.int .i64 0), .v (.int .i64 0), .v (.string ByteArray.empty), .v (.string ByteArray.empty), .v (.string ByteArray.empty), .v (.slice none 0 0), .v (.slice none 0 0)]] fun r os => r = .ag (fcs (1, (p : Int))) ∧ os = [[.v (.int .i64 0), .v (.int .i64 0), .v (.bool false), .v (.int .i64 0), .v (.int .i64 0), .v (.string ByteArray.empty), .v (.string ByteArray.empty), .v (.string ByteArray.empty), .v (.slice none 0 0), .v (.slice none 0 0)]] := by
 have cl := iLex_d s hs
 rw [hlx] at cl
 have h0 : (0 ≤ (p : Int)) = True := eq_true (by omega)
 refine cl_of_d follows_mixed true Tryz.func75 rfl (by kernel_rfl) ?_
 simp only [Tryz.f75, tt, seval]
 refine call0 (cl) ?_ ?_ ?_
 ·decide
 ·simp only [tt, seval, lexV]
 rintro r rfl
 simp only [tt, seval, lexV]
 try simp only [tt, seval, h0, true_implies, not_true_eq_false, false_implies, and_true]
 refine ⟨.ag (fcs (1, (p : Int))), [[.v (.int .i64 0), .v (.int .i64 0), .v (.bool false), .v (.int .i64 0), .v (.int .i64 0), .v (.string ByteArray.empty), .v (.string ByteArray.empty), .v (.string ByteArray.empty), .v (.slice none 0 0), .v (.slice none 0 0)]], ⟨rfl, rfl⟩, endOk ?_⟩
 simp only [tt, seval, fcs]
 first | done | exact Sb.refl _ | exact pool_ok fun x => by simp only [fbC]; omega | exact ⟨by omega, Sb.refl _⟩ | exact ⟨by omega, pool_ok fun x => by simp only [fbC]; omega⟩
set_option maxHeartbeats 4000000 in
theorem parsedExpr_l (s : ByteArray) (hs : s.size ≤ 1048576) (L : List Tok) (hlx : lexR s = .inl L) : Cl Tryz.prog 75 [vs s, .c (.fn 76 [] [9000])] [[.v (.int .i64 0), .v (.int .i64 0), .v (.bool false), .v (.int .i64 0), .v (.int .i64 0), .v (.string ByteArray.empty), .v (.string ByteArray.empty), .v (.string ByteArray.empty), .v (.slice none 0 0), .v (.slice none 0 0)]] fun r os => r = .ag (fcs (flt L s.size (takeE L).2 (okE (takeE L).1))) ∧ ∃ Fk Fs, os = [told (takeE L).1.row [Fk, Fs]] := by
 have cl := iLex_d s hs
 obtain ⟨hL2, hok⟩ := lex_toks hlx
 have hL : L.length ≤ 1048576 := by omega
 have h40 : ∀ t ∈ L, t.text.size ≤ 40 := fun t ht => tok40 (hok t ht)
 have hT : ∀ t ∈ L, t.text.size ≤ 1048576 := fun t ht => Nat.le_trans (h40 t ht) (by omega)
 have ct := ParseExpr_c L hL hT h40 hL2
 have hb : ((takeE L).2 = -1 ∨ 0 ≤ (takeE L).2) ∧ (takeE L).2 ≤ L.length := takeE_at
 rw [hlx] at cl
 generalize (takeE L).2 = i at *
 generalize (takeE L).1 = x at *
 obtain ⟨k1, p1, n1, v1, q1, m1, ks1, ss1⟩ := x
 simp only [Stmt.row_mk, Query.row_mk, zQuery, ERow.row_mk, rW, Val.row, lcC, told, Val.row, lcC] at ct ⊢
 refine cl_of_d follows_mixed true Tryz.func75 rfl (by kernel_rfl) ?_
 simp only [Tryz.f75, tt, seval]
 refine call0 (cl) ?_ ?_ ?_
 ·decide
 ·simp only [tt, seval, lexV]
 rintro r rfl
 simp only [tt, seval, lexV]
 try simp only [tt, seval, not_false_eq_true, true_implies, false_implies, true_and]
 refine CallQ.intro (ct) ?_ ?_ ?_
 ·decide
 ·simp only [tt, seval, told, Val.row, lcC]
 rintro r os ⟨rfl, Fk, Fs, rfl⟩ hos
 simp only [tt, seval, told, Val.row, lcC]
 refine fun _ => ?_
 by_cases hi : i = L.length
 ·have h0 : (i = (L.length : Int)) = True := eq_true hi
  have ef : flt L s.size i (okE (Expr.mk k1 p1 n1 v1 q1 m1 ks1 ss1)) = (2, (s.size : Int)) := by
   unfold flt fltA
   rw [if_pos (by omega), if_neg (by omega)]
  rw [ef]
  simp only [tt, seval, h0, true_implies, not_true_eq_false, false_implies, and_true]
  refine fun _ => ?_
  refine ⟨.ag (fcs (2, (s.size : Int))), [told (Expr.mk k1 p1 n1 v1 q1 m1 ks1 ss1).row [Fk, Fs]], ⟨rfl, Fk, Fs, by first | rfl | simp only [Stmt.row_mk, Query.row_mk, zStmt, zQuery, ERow.row_mk, srow, rW, told, Val.row, lcC]⟩, endOk ?_⟩
  simp only [tt, seval, fcs, Stmt.row_mk, Query.row_mk, zStmt, zQuery, ERow.row_mk, srow, rW, told, Val.row, lcC]
  first | done | exact pool_ok fun x => by simp only [fbC]; omega | exact ⟨by omega, Sb.refl _⟩ | exact ⟨by omega, pool_ok fun x => by simp only [fbC]; omega⟩
 ·have h0 : (i = (L.length : Int)) = False := eq_false hi
  simp only [tt, seval, h0, not_false_eq_true, true_implies, false_implies, true_and]
  by_cases h1 : 0 ≤ i
  ·have h1' : (0 ≤ i) = True := eq_true h1
   obtain ⟨j, rfl⟩ : ∃ j : Nat, i = j := ⟨i.toNat, by omega⟩
   have hl : j < L.length := by omega
   have hx : L[j]? = some L[j] := List.getElem?_eq_getElem hl
   have ef : flt L s.size (j : Int) (okE (Expr.mk k1 p1 n1 v1 q1 m1 ks1 ss1)) = (2, (L[j]).at_) := by
    unfold flt fltA
    rw [if_pos h1, if_pos (by omega), Int.toNat_natCast, List.getD_eq_getElem?_getD, hx]; rfl
   have i0 : ((0 : Int) ≤ (j : Int)) = True := eq_true (by omega)
   have iL : ((j : Int) < (L.length : Int)) = True := eq_true (by omega)
   have iT : (j < L.length) = True := eq_true hl
   rw [ef]
   generalize L[j] = tk at *
   simp only [tt, seval, h1', idxAt hx Tok.row_len, i0, iL, iT, Tok.row, true_implies, not_true_eq_false, false_implies, and_true]
   refine ⟨.ag (fcs (2, tk.at_)), [told (Expr.mk k1 p1 n1 v1 q1 m1 ks1 ss1).row [Fk, Fs]], ⟨rfl, Fk, Fs, by first | rfl | simp only [Stmt.row_mk, Query.row_mk, zStmt, zQuery, ERow.row_mk, srow, rW, told, Val.row, lcC]⟩, endOk ?_⟩
   simp only [tt, seval, fcs, Stmt.row_mk, Query.row_mk, zStmt, zQuery, ERow.row_mk, srow, rW, told, Val.row, lcC]
   first | done | exact pool_ok fun x => by simp only [fbC]; omega | exact ⟨by omega, Sb.refl _⟩ | exact ⟨by omega, pool_ok fun x => by simp only [fbC]; omega⟩
  ·have h1' : (0 ≤ i) = False := eq_false h1
   simp only [tt, seval, h1', not_false_eq_true, true_implies, false_implies, true_and]
   cases ho : okE (Expr.mk k1 p1 n1 v1 q1 m1 ks1 ss1) with
   | true =>
    have ef : flt L s.size i true = (0, 0) := by unfold flt; rw [if_neg h1, if_pos rfl]
    rw [ef]
    simp only [tt, seval, ho, Bool.not_true, Bool.false_eq_true]
    refine ⟨.ag (fcs (0, 0)), [told (Expr.mk k1 p1 n1 v1 q1 m1 ks1 ss1).row [Fk, Fs]], ⟨rfl, Fk, Fs, by first | rfl | simp only [Stmt.row_mk, Query.row_mk, zStmt, zQuery, ERow.row_mk, srow, rW, told, Val.row, lcC]⟩, endOk ?_⟩
    simp only [tt, seval, fcs, Stmt.row_mk, Query.row_mk, zStmt, zQuery, ERow.row_mk, srow, rW, told, Val.row, lcC]
    first | done | exact pool_ok fun x => by simp only [fbC]; omega | exact ⟨by omega, Sb.refl _⟩ | exact ⟨by omega, pool_ok fun x => by simp only [fbC]; omega⟩
   | false =>
    have ef : flt L s.size i false = (3, 0) := by unfold flt; rw [if_neg h1, if_neg (by simp)]
    rw [ef]
    simp only [tt, seval, ho, Bool.not_false]
    refine ⟨.ag (fcs (3, 0)), [told (Expr.mk k1 p1 n1 v1 q1 m1 ks1 ss1).row [Fk, Fs]], ⟨rfl, Fk, Fs, by first | rfl | simp only [Stmt.row_mk, Query.row_mk, zStmt, zQuery, ERow.row_mk, srow, rW, told, Val.row, lcC]⟩, endOk ?_⟩
    simp only [tt, seval, fcs, Stmt.row_mk, Query.row_mk, zStmt, zQuery, ERow.row_mk, srow, rW, told, Val.row, lcC]
    first | done | exact pool_ok fun x => by simp only [fbC]; omega | exact ⟨by omega, Sb.refl _⟩ | exact ⟨by omega, pool_ok fun x => by simp only [fbC]; omega⟩
set_option maxHeartbeats 4000000 in
theorem iParseExpr_d (s : ByteArray) (hs : s.size ≤ 1048576) : Cl Tryz.prog 30 [vs s] [] fun r _ => ∃ Fk Fs, r = .tu [(told (parseExpr s).1.row [Fk, Fs], false), (fcs (parseExpr s).2, false)] := by
 cases hlx : lexR s with
 | inr p =>
  have e : parseExpr s = (zExpr, (1, (p : Int))) := by unfold parseExpr parseR; rw [hlx]
  have cp := parsedExpr_r s hs p hlx
  rw [e]
  refine cl_of_d follows_mixed true Tryz.func30 rfl (by kernel_rfl) ?_
  simp only [Tryz.f30, tt, seval]
  refine CallQ.intro (cp) ?_ ?_ ?_
  ·decide
  ·simp only [tt, seval, fcs]
  rintro r os ⟨rfl, rfl⟩ hos
  simp only [tt, seval, fcs]
  refine dDrawn.intro [] (.take 0 (.br 1 (.br 2 (.br 3 .done .nobr) .nobr) (.br 2 (.take 1 (.br 3 .done .nobr)) .nobr))) (by kernel_rfl) ?_
  simp only [tt, seval]
  all_goals
   repeat' with_reducible refine And.intro ?_ ?_
   all_goals
    refine ⟨.tu [(told (zExpr).row [[], []], false), (fcs (1, (p : Int)), false)], [], ⟨[], [], by first | rfl | simp only [fcs, Stmt.row_mk, Query.row_mk, zStmt, zQuery, ERow.row_mk, srow, rW, told, Val.row, lcC]⟩, endOk ?_⟩
    simp only [tt, seval, fcs, Stmt.row_mk, Query.row_mk, zStmt, zQuery, ERow.row_mk, srow, rW, told, Val.row, lcC]
    first | done | exact Sb.refl _ | exact pool_ok fun x => by simp only [fbC]; omega | exact ⟨by omega, Sb.refl _⟩ | exact ⟨by omega, pool_ok fun x => by simp only [fbC]; omega⟩
 | inl L =>
  have e : parseExpr s = (if 0 ≤ (takeE L).2 then zExpr else if okE (takeE L).1 = true then (takeE L).1 else zExpr, flt L s.size (takeE L).2 (okE (takeE L).1)) := by unfold parseExpr parseR; rw [hlx]
  have cp := parsedExpr_l s hs L hlx
  rw [e]
  generalize (takeE L).2 = i at *
  generalize (takeE L).1 = x at *
  obtain ⟨k1, p1, n1, v1, q1, m1, ks1, ss1⟩ := x
  simp only [Expr.row_mk, told, Val.row, lcC] at cp
  by_cases hi : 0 ≤ i
  ·have ef : flt L s.size i (okE (Expr.mk k1 p1 n1 v1 q1 m1 ks1 ss1)) = (2, fltA L s.size i) := if_pos hi
   rw [if_pos hi, ef]
   rw [ef] at cp
   refine cl_of_d follows_mixed true Tryz.func30 rfl (by kernel_rfl) ?_
   simp only [Tryz.f30, tt, seval]
   refine CallQ.intro (cp) ?_ ?_ ?_
   ·decide
   ·simp only [tt, seval, fcs, Expr.row_mk, told, Val.row, lcC]
   rintro r os ⟨rfl, Fk, Fs, rfl⟩ hos
   simp only [tt, seval, fcs, Expr.row_mk, told, Val.row, lcC]
   refine dDrawn.intro [] (.take 0 (.br 1 (.br 2 (.br 3 .done .nobr) .nobr) (.br 2 (.take 1 (.br 3 .done .nobr)) .nobr))) (by kernel_rfl) ?_
   simp only [tt, seval]
   all_goals
    repeat' with_reducible refine And.intro ?_ ?_
    all_goals
     refine ⟨.tu [(told (zExpr).row [[], []], false), (fcs (2, fltA L s.size i), false)], [], ⟨[], [], by first | rfl | simp only [fcs, Stmt.row_mk, Query.row_mk, zStmt, zQuery, ERow.row_mk, srow, rW, told, Val.row, lcC]⟩, endOk ?_⟩
     simp only [tt, seval, fcs, Stmt.row_mk, Query.row_mk, zStmt, zQuery, ERow.row_mk, srow, rW, told, Val.row, lcC]
     first | done | exact Sb.refl _ | exact pool_ok fun x => by simp only [fbC]; omega | exact ⟨by omega, Sb.refl _⟩ | exact ⟨by omega, pool_ok fun x => by simp only [fbC]; omega⟩
  ·rw [if_neg hi]
   cases ho : okE (Expr.mk k1 p1 n1 v1 q1 m1 ks1 ss1) with
   | true =>
    have ef : flt L s.size i true = (0, 0) := by unfold flt; rw [if_neg hi, if_pos rfl]
    rw [if_pos rfl, ef]
    rw [ho] at cp
    rw [ef] at cp
    refine cl_of_d follows_mixed true Tryz.func30 rfl (by kernel_rfl) ?_
    simp only [Tryz.f30, tt, seval]
    refine CallQ.intro (cp) ?_ ?_ ?_
    ·decide
    ·simp only [tt, seval, fcs, Expr.row_mk, told, Val.row, lcC]
    rintro r os ⟨rfl, Fk, Fs, rfl⟩ hos
    simp only [tt, seval, fcs, Expr.row_mk, told, Val.row, lcC]
    refine dDrawn.intro [] (.take 0 (.br 1 (.br 2 (.br 3 .done .nobr) .nobr) (.br 2 (.take 1 (.br 3 .done .nobr)) .nobr))) (by kernel_rfl) ?_
    simp only [tt, seval]
    all_goals
     repeat' with_reducible refine And.intro ?_ ?_
     all_goals
      refine ⟨.tu [(told ((Expr.mk k1 p1 n1 v1 q1 m1 ks1 ss1)).row [Fk, Fs], false), (fcs (0, 0), false)], [], ⟨Fk, Fs, by first | rfl | simp only [fcs, Stmt.row_mk, Query.row_mk, zStmt, zQuery, ERow.row_mk, srow, rW, told, Val.row, lcC]⟩, endOk ?_⟩
      simp only [tt, seval, fcs, Stmt.row_mk, Query.row_mk, zStmt, zQuery, ERow.row_mk, srow, rW, told, Val.row, lcC]
      first | done | exact Sb.refl _ | exact pool_ok fun x => by simp only [fbC]; omega | exact ⟨by omega, Sb.refl _⟩ | exact ⟨by omega, pool_ok fun x => by simp only [fbC]; omega⟩
   | false =>
    have ef : flt L s.size i false = (3, 0) := by unfold flt; rw [if_neg hi, if_neg (by simp)]
    rw [if_neg (by simp), ef]
    rw [ho] at cp
    rw [ef] at cp
    refine cl_of_d follows_mixed true Tryz.func30 rfl (by kernel_rfl) ?_
    simp only [Tryz.f30, tt, seval]
    refine CallQ.intro (cp) ?_ ?_ ?_
    ·decide
    ·simp only [tt, seval, fcs, Expr.row_mk, told, Val.row, lcC]
    rintro r os ⟨rfl, Fk, Fs, rfl⟩ hos
    simp only [tt, seval, fcs, Expr.row_mk, told, Val.row, lcC]
    refine dDrawn.intro [] (.take 0 (.br 1 (.br 2 (.br 3 .done .nobr) .nobr) (.br 2 (.take 1 (.br 3 .done .nobr)) .nobr))) (by kernel_rfl) ?_
    simp only [tt, seval]
    all_goals
     repeat' with_reducible refine And.intro ?_ ?_
     all_goals
      refine ⟨.tu [(told (zExpr).row [[], []], false), (fcs (3, 0), false)], [], ⟨[], [], by first | rfl | simp only [fcs, Stmt.row_mk, Query.row_mk, zStmt, zQuery, ERow.row_mk, srow, rW, told, Val.row, lcC]⟩, endOk ?_⟩
      simp only [tt, seval, fcs, Stmt.row_mk, Query.row_mk, zStmt, zQuery, ERow.row_mk, srow, rW, told, Val.row, lcC]
      first | done | exact Sb.refl _ | exact pool_ok fun x => by simp only [fbC]; omega | exact ⟨by omega, Sb.refl _⟩ | exact ⟨by omega, pool_ok fun x => by simp only [fbC]; omega⟩
end Go.Proofs.YteffjmaadkkmeaaGreatDoor
set_option maxRecDepth 8000
namespace Go.Proofs.YteffjmaadkkmeaaGreatDoor
open Go Go.Dv
open Go.Vc (D shrI xorI andI and255)
open Go.Cv
open Go.Vc (CellF ValsF callable Cells)
theorem res_tuT2 {P : Program} {w w' : World} {cs : List C} {ds es : List D} {F : List (List Nat)} {v : Value} (ht : Td cs ds F) (hp : fpL (csOf es) = []) (h : Go.Cv.Res P w w' (.tu [(cs, false), (csOf es, false)]) v) : ∃ vs us G H, v = .tuple #[.agg (vs : List Value).toArray, .agg (us : List Value).toArray] ∧ ValsF w' ds vs G ∧ New w w' G ∧ ValsF w' es us H := by
 obtain ⟨β, ok, h, hno, hobj, hnew, hnd, hfr⟩ := h
 simp only [expS, expT, ht.exp, expC_csOf] at h
 obtain ⟨ys, rfl, h⟩ := h
 have hf : fps (.tu [(cs, false), (csOf es, false)]) [] = F := by simp [fps, cellsS, fpL_app, ht.fp, hp, fpB]
 rw [hf] at hnd hfr
 match ys, h with
 | [y, z], h =>
  obtain ⟨h1, h2, _⟩ := h
  obtain ⟨vs, rfl, h1⟩ : ∃ vs : List Value, y = .agg vs.toArray ∧ _ := h1
  obtain ⟨us, rfl, h2⟩ : ∃ us : List Value, z = .agg us.toArray ∧ _ := h2
  obtain ⟨G, hG, hok, hs⟩ := dsOf_rel ht.dat h1
  obtain ⟨H, hH⟩ := csOf_vals (fun _ _ _ _ => trivial) h2
  exact ⟨vs, us, G, H, rfl, hG, ⟨(hs _ rfl).nodup hnd, fun b hb => (hfr b ((hs _ rfl).mem hb)).1, fun b hb => (hfr b ((hs _ rfl).mem hb)).2⟩, hH⟩
 | [], h => exact h.elim
 | [_], h => exact h.2.elim
 | _ :: _ :: _ :: _, h => exact h.2.2.elim
theorem res_tu2 {P : Program} {w w' : World} {ds es : List D} {v : Value} (h : Go.Cv.Res P w w' (.tu [(csOf ds, false), (csOf es, false)]) v) : ∃ vs us G H, v = .tuple #[.agg (vs : List Value).toArray, .agg (us : List Value).toArray] ∧ ValsF w' ds vs G ∧ ValsF w' es us H := by
 obtain ⟨β, ok, h, _⟩ := h
 simp only [expS, expT, expC_csOf] at h
 obtain ⟨ys, rfl, h⟩ := h
 match ys, h with
 | [y, z], h =>
  obtain ⟨h1, h2, _⟩ := h
  obtain ⟨vs, rfl, h1⟩ : ∃ vs : List Value, y = .agg vs.toArray ∧ _ := h1
  obtain ⟨us, rfl, h2⟩ : ∃ us : List Value, z = .agg us.toArray ∧ _ := h2
  obtain ⟨G, hG⟩ := csOf_vals (fun _ _ _ _ => trivial) h1
  obtain ⟨H, hH⟩ := csOf_vals (fun _ _ _ _ => trivial) h2
  exact ⟨vs, us, G, H, rfl, hG, hH⟩
 | [], h => exact h.elim
 | [_], h => exact h.2.elim
 | _ :: _ :: _ :: _, h => exact h.2.2.elim
def fds (f : Int × Int) : List D := [int f.1, int f.2]
theorem fcs_eq (f : Int × Int) : fcs f = csOf (fds f) := rfl
theorem fds_len (f : Int × Int) : (fds f).length = 2 := rfl
theorem eqFault_d (f : Int × Int) : Cl Tryz.prog 31 [.ag (csOf (fds f)), .ag (csOf (fds f))] [] fun r _ => r = vb true := by
 refine cl_of_d follows_mixed false Tryz.func31 rfl (by kernel_rfl) ?_
 simp only [Tryz.f31, tt, seval]
 simp only [tt, seval, fds]
 exact ⟨_, _, rfl, end0 rfl⟩
theorem box_keep {w : World} {b b' : Nat} {o : Option Obj} {x : Array Value} (h : w.heap[b']? = o) (hne : b ≠ b') : (w.setRow b x).heap[b']? = o := by
 simp only [World.setRow, Array.getElem?_modify, if_neg hne]
 exact h
theorem box_fill2 {w w1 w2 w3 w4 : World} {b b' : Nat} {t t' : TypeId} {z vs z' us : List Value} (hb : b = w.heap.size) (h1 : w1 = w.alloc (.cells z.toArray t)) (hb' : b' = w1.heap.size) (h2 : w2 = w1.alloc (.cells z'.toArray t')) (h3 : w2.setRow b vs.toArray = w3) (h4 : w3.setRow b' us.toArray = w4) (hl : vs.length = z.length) (hl' : us.length = z'.length) : w4.heap[b]? = some (.cells vs.toArray t (0, 0)) ∧ w4.heap[b']? = some (.cells us.toArray t' (0, 0)) ∧ Gr w w4 := by
 obtain ⟨k1, g1⟩ := box_new hb h1
 obtain ⟨k2, g2⟩ := box_new hb' h2
 have hlt : b < w1.heap.size := obj_lt k1
 have hne : b ≠ b' := by omega
 have e1 : w3.heap[b]? = some (.cells vs.toArray t (0, 0)) := by rw [← h3]; exact setRow_heap w2 b _ _ t _ (g2.box k1)
 have e2 : w3.heap[b']? = some (.cells z'.toArray t' (0, 0)) := by
  rw [← h3]
  simp only [World.setRow, Array.getElem?_modify, if_neg hne]
  exact k2
 have f1 : w4.heap[b]? = some (.cells vs.toArray t (0, 0)) := by
  rw [← h4]
  simp only [World.setRow, Array.getElem?_modify, if_neg (Ne.symm hne)]
  exact e1
 refine ⟨f1, by rw [← h4]; exact setRow_heap w3 b' _ _ t' _ e2, ?_⟩
 subst h4 h3
 refine ⟨Nat.le_trans g1.size (Nat.le_trans g2.size (by simp [World.setRow])), fun x hx => ?_, by rw [← g1.os, ← g2.os]; rfl, by rw [← g1.tape, ← g2.tape]; rfl, by rw [← g1.output, ← g2.output]; rfl⟩
 rw [← g1.keep x hx, ← g2.keep x (Nat.lt_of_lt_of_le hx g1.size)]
 have n1 : b ≠ x := by omega
 have n2 : b' ≠ x := by have := g1.size; omega
 simp [World.setRow, Array.getElem?_modify, n1, n2]
end Go.Proofs.YteffjmaadkkmeaaGreatDoor
