/-
  The program and the reference print queries as the same tokens, for all arguments: FnExactQueryTokens holds.
  Conditions: none.
-/
import Derived.Test.YthhkmmcgjnecbaaGreatDoorQTextF
import Derived.Test.YthhkmmcgjnecbaaGreatDoorRows
import Derived.ProofKit
import Derived.OpenShut
import Derived.Lib.LaidTab
import Derived.Stop.LaidErr
import Derived.MakeChecks
import Derived.Lay
import Derived.Test.YthhkmmcgjnecbaaGreatDoorTie
import Derived.Test.YthhkmmcgjnecbaaGreatDoorCards
import Derived.SevenTiedAt
import Derived.RowKitTokens
set_option linter.unusedVariables false
set_option linter.unusedSimpArgs false
set_option maxRecDepth 8000
namespace Go.Proofs.YthhkmmcgjnecbaaGreatDoor
open Go Go.Dv
open Go.Vc (D shrI xorI andI and255)
open Go.Cv
theorem eqTok_step (kind : Int) (text : ByteArray) (at_ : Int)  : Cl Tryz.prog 32 [.ag (csOf (Tok.mk kind text at_).row), .ag (csOf (Tok.mk kind text at_).row)] [] fun r _ => r = vb true := by
  rw [Tok.row_mk]
  refine cl_of_d follows_mixed false Tryz.func32 rfl (by kernel_rfl) ?_
  simp only [Tryz.f32, tt, seval]
  exact ⟨_, _, rfl, end0 rfl⟩
theorem eqToks_step (a : List Tok) (hx : ∀ x ∈ a, Cl Tryz.prog 32 [.ag (csOf x.row), .ag (csOf x.row)] [] fun r _ => r = vb true) : Cl Tryz.prog 9 [.c (.sl a.length (a.flatMap Tok.row) none), .c (.sl a.length (a.flatMap Tok.row) none)] [] fun r _ => r = vb true := by
  refine cl_of_d follows_mixed false Tryz.func9 rfl (by kernel_rfl) ?_
  simp only [Tryz.f9, tt, seval]
  refine fun _ _ => ?_
  refine dLoop.intro (fun f L p => ∃ i : Nat, f 5 = vi i ∧ i ≤ a.length ∧ L = [] ∧ p = none) (fun f _ _ => (a.length - ixS (f 5)).toNat) [] none ⟨SubO.nil _, PoSub.none _, ?_⟩ ?_
  · simp only [tt, seval]
    exact ⟨0, rfl, by omega⟩
  · rintro g L p ⟨i, h5, hi, rfl, rfl⟩
    simp only [tt, seval] at h5
    simp only [tt, seval, h5, Int.ofNat_lt]
    refine fun _ => And.intro (fun hlt => ?_) (fun hge => ?_)
    · have hlt : i < a.length := by omega
      refine dDrawn.intro [] (pln [0, 2, 4, 6, 8, 10, 12, 14, 17, 18]) (by kernel_rfl) ?_
      simp only [tt, seval]
      simp only [tt, seval, h5]
      refine ⟨by omega, by omega, _, drop_row Tok.row_len (List.getElem?_eq_getElem hlt), Tok.ne _ _, ?_⟩
      simp only [tt, seval, h5, Tok.tk, Tok.row_len]
      refine ⟨by omega, by omega, _, drop_row Tok.row_len (List.getElem?_eq_getElem hlt), Tok.ne _ _, ?_⟩
      simp only [tt, seval, h5, Tok.tk, Tok.row_len]
      refine call0 (hx a[i] (List.getElem_mem hlt)) ?_ ?_ ?_
      · decide
      · simp only [tt, seval]
      rintro r rfl
      simp only [tt, seval, h5]
      rw [wrap_id (n := (i : Int) + 1) (by omega) (by omega)]
      exact ⟨[], none, SubO.nil _, PoSub.none _, ⟨i + 1, rfl, by omega, rfl, rfl⟩, by simp only [ixS]; omega⟩
    · exact ⟨_, _, rfl, end0 rfl⟩
theorem eqToks_d (a : List Tok) : Cl Tryz.prog 9 [.c (.sl a.length (a.flatMap Tok.row) none), .c (.sl a.length (a.flatMap Tok.row) none)] [] fun r _ => r = vb true := eqToks_step a fun x _ => by
  cases x; exact eqTok_step _ _ _
theorem heldToks_d (ms : List Tok) (k : Int) (h0 : 0 ≤ k) (hk : k + 3 * ms.length ≤ 4611686018427387904) (hm : ∀ i (h : i < ms.length), ms[i] = ⟨k + 3 * i, mtext (k + 3 * i + 1), k + 3 * i + 2⟩) : Cl Tryz.prog 13 [.c (.sl ms.length (ms.flatMap Tok.row) none), vi k] [] fun r _ => r = vi (k + 3 * ms.length) := by
  refine cl_of_d follows_mixed false Tryz.func13 rfl (by kernel_rfl) ?_
  simp only [Tryz.f13, tt, seval]
  refine dLoop.intro (fun f L p => ∃ i : Nat, f 5 = vi i ∧ f 1 = vi (k + 3 * i) ∧ i ≤ ms.length ∧ L = [] ∧ p = none) (fun f _ _ => (ms.length - ixS (f 5)).toNat) [] none ⟨SubO.nil _, PoSub.none _, ?_⟩ ?_
  · simp only [tt, seval]
    exact ⟨0, rfl, viE (by omega), by omega⟩
  · rintro g L p ⟨i, h5, h1, hi, rfl, rfl⟩
    simp only [tt, seval] at h5 h1
    simp only [tt, seval, h5, h1, Int.ofNat_lt]
    refine fun _ => And.intro (fun hlt => ?_) (fun hge => ?_)
    · have hlt : i < ms.length := by omega
      have hx := (List.getElem?_eq_getElem hlt).trans (congrArg some (hm i hlt))
      have i0 : ((0 : Int) ≤ (i : Int)) = True := eq_true (by omega)
      have iL : ((i : Int) < (ms.length : Int)) = True := eq_true (by omega)
      have iT : (i < ms.length) = True := eq_true hlt
      simp only [tt, seval, h5, h1, idxAt hx Tok.row_len, i0, iL, iT, Tok.row]
      rw [wrap_id (n := k + 3 * (i : Int) + 1) (by omega) (by omega)]
      refine dDrawn.intro [] (pln [0, 2, 4, 6, 8, 10, 13, 14]) (by kernel_rfl) ?_
      simp only [tt, seval]
      try simp only [tt, seval, h5, h1, idxAt hx Tok.row_len, i0, iL, iT, Tok.row]
      refine call0 (markText_d (k + 3 * i + 1) (by omega)) ?_ ?_ ?_
      · decide
      · simp only [tt, seval, h5, h1, idxAt hx Tok.row_len, i0, iL, iT, Tok.row]
      rintro r rfl
      simp only [tt, seval, h5, h1, idxAt hx Tok.row_len, i0, iL, iT, Tok.row]
      rw [wrap_id (n := k + 3 * (i : Int) + 1 + 1) (by omega) (by omega)]
      have e2 : k + 3 * (i : Int) + 1 + 1 = k + 3 * i + 2 := by omega
      rw [e2]
      try simp only [tt, seval, h5, h1, idxAt hx Tok.row_len, i0, iL, iT, Tok.row]
      rw [wrap_id (n := k + 3 * (i : Int) + 2 + 1) (by omega) (by omega), wrap_id (n := (i : Int) + 1) (by omega) (by omega)]
      exact ⟨[], none, SubO.nil _, PoSub.none _, ⟨i + 1, rfl, viE (by omega), by omega, rfl, rfl⟩, by simp only [ixS]; omega⟩
    · have : i = ms.length := by omega
      subst this
      exact ⟨_, _, rfl, end0 rfl⟩
end Go.Proofs.YthhkmmcgjnecbaaGreatDoor
set_option maxRecDepth 8000
namespace Go.Proofs.YthhkmmcgjnecbaaGreatDoor
open Go Go.Dv
open Go.Vc (D shrI xorI andI and255)
open Go.Cv
open Go.Vc (CellF ValsF callable Cells)
theorem relS_ag {P : Program} {w : World} {ds : List D} {vs : List Value} {F : List Nat} (h : ValsF w ds vs F) : RelS P w (fun _ => none) (fun _ => True) (.ag (csOf ds)) (.agg vs.toArray) := ⟨vs, rfl, csOf_rel h fun _ _ => trivial⟩
theorem relS_sl {P : Program} {w : World} {n : Nat} {ds : List D} {v : Value} {G : List Nat} (h : CellF w (.sl n ds) v G) : RelS P w (fun _ => none) (fun _ => True) (.c (.sl n ds none)) v := ⟨G, h, fun _ _ => trivial, fun _ h => by cases h⟩
theorem relS_q {P : Program} {w : World} {b : Nat} {ds : List D} {vs : List Value} {F : List Nat} {t : TypeId} (h : ValsF w ds vs F) (hb : w.heap[b]? = some (.cells vs.toArray t (0, 0))) : RelS P w (fun _ => none) (fun _ => True) (.c (.q ds)) (.pointer (some ⟨b, 0, none⟩)) :=
  ⟨b, 0, F, rfl, h.row fun j u hj => by rw [Nat.zero_add]; exact box_cell hb (by simpa using hj), ⟨_, hb, by simp [Go.Vc.hid]⟩, trivial, fun _ _ => trivial⟩
theorem plain_ag (ds : List D) : plainL ([S.ag (csOf ds)].flatMap cellsS) = true := by
  simp only [List.flatMap_cons, List.flatMap_nil, List.append_nil]; exact plainL_csOf _
theorem plain_agi (ds : List D) (k : Int) : plainL ([S.ag (csOf ds), vi k].flatMap cellsS) = true := by
  simp only [List.flatMap_cons, List.flatMap_nil, List.append_nil, plainL_append, cellsS, plainL_csOf, Bool.true_and]; rfl
theorem box_at {w : World} {b : Nat} {vs : List Value} {t : TypeId} (hb : w.heap[b]? = some (.cells vs.toArray t (0, 0))) : Cells w b 0 vs := fun j v hj => by
  rw [Nat.zero_add]; exact box_cell hb (by simpa using hj)
theorem _root_.Go.Cv.Gr.box {w w' : World} {b : Nat} {o : Obj} (g : Gr w w') (hb : w.heap[b]? = some o) : w'.heap[b]? = some o := (g.keep b (Array.getElem?_eq_some_iff.1 hb).1).trans hb
theorem _root_.Go.Cv.ChL.box {F : List Nat} {w w' : World} {b : Nat} {o : Obj} (g : ChL F w w') (hb : w.heap[b]? = some o) (hn : b ∉ F) : w'.heap[b]? = some o := (g.keep b (Array.getElem?_eq_some_iff.1 hb).1 hn).trans hb
theorem obj_lt {w : World} {b : Nat} {o : Obj} (hb : w.heap[b]? = some o) : b < w.heap.size := (Array.getElem?_eq_some_iff.1 hb).1
theorem glw_lt {w : World} (hg : GlW w (fun _ => False)) : ∀ t ∈ libVars, t.1 < w.heap.size := fun t ht => by
  obtain ⟨_, cs, ty, lh, h, _⟩ := hg t ht
  exact obj_lt h
theorem one' {w : World} {ds : List D} {vs : List Value} {F : List Nat} (h : ValsF w ds vs F) : ∀ v ∈ vs, v.oneCell' = true := fun v hv => by
  have := h.oneCell v hv
  revert this
  cases v <;> simp [Go.Vc.oneCell, Value.oneCell']
theorem box_fill {w w1 w2 : World} {b : Nat} {t : TypeId} {z vs : List Value} (hb : b = w.heap.size) (h1 : w1 = w.alloc (.cells z.toArray t)) (h2 : w1.setRow b vs.toArray = w2) (hl : vs.length = z.length) : w2.heap[b]? = some (.cells vs.toArray t (0, 0)) ∧ Gr w w2 := by
  obtain ⟨k1, k2⟩ := box_new hb h1
  subst h2
  refine ⟨setRow_heap w1 b _ _ t _ k1, Nat.le_trans k2.size (by simp), fun x hx => ?_, by rw [← k2.os]; rfl, by rw [← k2.tape]; rfl, by rw [← k2.output]; rfl⟩
  rw [← k2.keep x hx]
  have hne : x ≠ b := by omega
  simp [World.setRow, Array.getElem?_modify, Ne.symm hne]
theorem cnL_le {α : Type} {c s : α → Nat} {l : List α} (h : ∀ x ∈ l, c x ≤ 16 * s x + 16) : cnL c l ≤ 16 * (l.length + (l.map s).sum) := by
  induction l with
  | nil => exact Nat.zero_le _
  | cons x r ih =>
    have h1 := h x (by simp)
    have h2 := ih fun y hy => h y (by simp [hy])
    simp only [cnL, List.length_cons, List.map_cons, List.sum_cons]
    omega
theorem cn_all : (∀ a : Expr, cnExpr a ≤ 16 * szExpr a + 8) ∧ (∀ a : Item, cnItem a ≤ 16 * szItem a + 16) ∧ (∀ a : Source, cnSource a ≤ 16 * szSource a + 16) ∧ (∀ a : SortKey, cnSortKey a ≤ 16 * szSortKey a + 16) ∧ (∀ a : Query, cnQuery a ≤ 16 * szQuery a + 16) := by
  refine Expr.ind ?_ ?_ ?_ ?_ ?_
  · intro kind op not val qual name kids sub hkids hsub
    rw [cnExpr_mk, szExpr_mk]
    try rw [szExprs_eq]
    try rw [szQuerys_eq]
    have := cnL_le (s := szExpr) (l := kids) fun x hx => Nat.le_trans (hkids x hx) (by omega)
    have := cnL_le (s := szQuery) (l := sub) fun x hx => Nat.le_trans (hsub x hx) (by omega)
    omega
  · intro star qual e as_ he
    obtain ⟨e_kind, e_op, e_not, e_val, e_qual, e_name, e_kids, e_sub⟩ := e
    rw [cnExpr_mk] at he
    rw [cnItem_mk, szItem_mk]
    omega
  · intro table as_ on hon
    rw [cnSource_mk, szSource_mk]
    try rw [szExprs_eq]
    have := cnL_le (s := szExpr) (l := on) fun x hx => Nat.le_trans (hon x hx) (by omega)
    omega
  · intro e desc he
    obtain ⟨e_kind, e_op, e_not, e_val, e_qual, e_name, e_kids, e_sub⟩ := e
    rw [cnExpr_mk] at he
    rw [cnSortKey_mk, szSortKey_mk]
    omega
  · intro distinct items from_ where_ order limit hitems hfrom_ hwhere_ horder
    rw [cnQuery_mk, szQuery_mk]
    try rw [szItems_eq]
    try rw [szSources_eq]
    try rw [szExprs_eq]
    try rw [szSortKeys_eq]
    have := cnL_le (s := szItem) (l := items) fun x hx => Nat.le_trans (hitems x hx) (by omega)
    have := cnL_le (s := szSource) (l := from_) fun x hx => Nat.le_trans (hfrom_ x hx) (by omega)
    have := cnL_le (s := szExpr) (l := where_) fun x hx => Nat.le_trans (hwhere_ x hx) (by omega)
    have := cnL_le (s := szSortKey) (l := order) fun x hx => Nat.le_trans (horder x hx) (by omega)
    omega
theorem cnExpr_le (a : Expr) : cnExpr a ≤ 16 * szExpr a + 8 := cn_all.1 a
theorem cnItem_le (a : Item) : cnItem a ≤ 16 * szItem a + 16 := cn_all.2.1 a
theorem cnSource_le (a : Source) : cnSource a ≤ 16 * szSource a + 16 := cn_all.2.2.1 a
theorem cnSortKey_le (a : SortKey) : cnSortKey a ≤ 16 * szSortKey a + 16 := cn_all.2.2.2.1 a
theorem markQuery_q (a : Query) (q : Int) (w : World) (vs : List Value) (F : List Nat) (h : ValsF w a.row vs F) (hn : F.Nodup) (ho : OwnL w F) (hg : GlW w (fun _ => False)) (hlib : ∀ t ∈ libVars, t.1 ∉ F) (h0 : 0 ≤ q) (h1 : q ≤ 10) (hs : szQuery a ≤ 1048576) :
    callable Tryz.prog 11 = true ∧ Calls Tryz.prog 11 #[.agg vs.toArray, .int .i64 q] w fun e w' => ∃ r, e = .returned r ∧ (∃ m : Int, r = .int .i64 m ∧ 0 ≤ m ∧ m ≤ q + 16 * szQuery a + 16) ∧ ChL F w w' := by
  obtain ⟨distinct, items, from_, where_, order, limit⟩ := a
  rw [szQuery_mk] at hs ⊢
  have citems := cnL_le (s := szItem) (l := items) fun x _ => Nat.le_trans (cnItem_le x) (by omega)
  have cfrom_ := cnL_le (s := szSource) (l := from_) fun x _ => Nat.le_trans (cnSource_le x) (by omega)
  have cwhere_ := cnL_le (s := szExpr) (l := where_) fun x _ => Nat.le_trans (cnExpr_le x) (by omega)
  have corder := cnL_le (s := szSortKey) (l := order) fun x _ => Nat.le_trans (cnSortKey_le x) (by omega)
  have hs' := hs
  try simp only [szItems_eq, szSources_eq, szExprs_eq, szSortKeys_eq] at hs' ⊢
  obtain ⟨k1, k2⟩ := markQuery_c _ _ _ _ _ _ q w vs F h hn ho hg hlib h0 (by omega)
  refine ⟨k1, k2.mono ?_⟩
  rintro e w' ⟨r, h1, rfl, _, _, hc⟩
  exact ⟨_, h1, ⟨_, rfl, by omega, by omega⟩, hc⟩
set_option maxHeartbeats 4000000 in
theorem lawQT_c (a : Query) (es : List Tok) (hes : es.length ≤ 1000000)
    (hsp : szQuery a ≤ 1048576 → Cl Tryz.prog 6 [.ag (csOf a.row)] [] fun r _ => r = .c (.sl es.length (es.flatMap Tok.row) none))
    (him : szQuery a ≤ 1048576 → Cl Tryz.prog 8 [.ag (csOf a.row)] [] fun r _ => r = .c (.ow 72 es.length (es.flatMap Tok.row) none))
    (w : World) (vs : List Value) (F : List Nat) (hq : ValsF w a.row vs F) (hG : GlW w (fun _ => False)) :
    callable Tryz.prog 3 = true ∧ Calls Tryz.prog 3 #[.agg vs.toArray] w fun e w' => ∃ v, e = .returned v ∧ v = .bool true ∧ Gr w w' := by
  have hGw := hG
  refine ⟨by kernel_rfl, ?_⟩
  have hcc := fun R => @calls_of_c Tryz.prog w 3 Tryz.f3 _ [.agg vs.toArray] R Tryz.func3 rfl (Nat.le_of_ble_eq_true rfl)
  refine hcc _ ?_
  have hlen : vs.length = 6 := hq.length.trans (Query.row_len a)
  simp (maxSteps := 10000000) only [tt, c, cl, cg0, cg1, cOp, cCall, cLoad, cLoadA, cStore, cLoop, cEnd, cRet, argsV, regsV, Go.Vc.oneCell, Nat.add_zero, seval, cAlloc, cStoreA, cBox, Go.Vc.guardSlot, Tryz.f3]
  intro b1 w1 hb hw
  obtain ⟨hb1, g0⟩ := box_new hb hw
  have hF : ∀ x ∈ F, x < w.heap.size := fun x hx => Go.Cv.vis_lt (hq.vis x hx)
  have s1 : w.heap.size ≤ w1.heap.size := g0.size
  have sb1 : b1 < w1.heap.size := obj_lt hb1
  replace hq := hq.grow g0.grow
  replace hG := glw_gr g0 hG
  have gW := g0
  try simp only [List.toList_toArray, Array.toArray_toList] at hb1
  refine ⟨vs, hlen, box_at hb1, ?_⟩
  try simp (maxSteps := 10000000) only [tt, c, cl, cg0, cg1, cOp, cCall, cLoad, cLoadA, cStore, cLoop, cEnd, cRet, argsV, regsV, Go.Vc.oneCell, Nat.add_zero, seval, cAlloc, cStoreA, cBox, Go.Vc.guardSlot]
  obtain ⟨hc1, hk1⟩ := Go.Cv.Cl.at (P := Tryz.prog) (szQuery_d a 1048576 (by omega) (by omega)) (plain_agi _ _) (vs := [.agg vs.toArray, .int .i64 1048576]) (w := w1) (⟨relS_ag hq, ⟨rfl, trivial⟩, trivial⟩) hG
  refine ⟨hc1, _, hk1, ?_⟩
  rintro _ w2 ⟨_, rfl, g1, hres⟩
  replace hq := hq.grow g1.grow
  replace hb1 := g1.box hb1
  replace hG := glw_gr g1 hG
  replace gW := gW.trans g1
  obtain rfl := hres.val
  refine Stp.go ?_
  simp (maxSteps := 10000000) only [tt, c, cl, cg0, cg1, cOp, cCall, cLoad, cLoadA, cStore, cLoop, cEnd, cRet, argsV, regsV, Go.Vc.oneCell, Nat.add_zero, seval, cAlloc, cStoreA, cBox, Go.Vc.guardSlot]
  refine And.intro (fun hneg => ?_) (fun hpos => ?_)
  · first | exact gW | exact ⟨rfl, gW⟩
  have hsz : szQuery a ≤ 1048576 := by
    unfold subL at hpos
    split at hpos
    · omega
    · exact absurd hpos (by decide)
  refine ⟨vs, hlen, box_at hb1, ?_⟩
  try simp (maxSteps := 10000000) only [tt, c, cl, cg0, cg1, cOp, cCall, cLoad, cLoadA, cStore, cLoop, cEnd, cRet, argsV, regsV, Go.Vc.oneCell, Nat.add_zero, seval, cAlloc, cStoreA, cBox, Go.Vc.guardSlot]
  obtain ⟨hc2, hk2⟩ := Go.Cv.Cl.at (P := Tryz.prog) (toQuery_d a hsz) (plain_ag _) (vs := [.agg vs.toArray]) (w := w2) (⟨relS_ag hq, trivial⟩) hG
  refine ⟨hc2, _, hk2, ?_⟩
  rintro _ w3 ⟨_, rfl, g2, hres⟩
  replace hq := hq.grow g2.grow
  replace hb1 := g2.box hb1
  replace hG := glw_gr g2 hG
  replace gW := gW.trans g2
  obtain ⟨vs3, G3, rfl, hv⟩ := hres.ag
  refine Stp.go ?_
  simp (maxSteps := 10000000) only [tt, c, cl, cg0, cg1, cOp, cCall, cLoad, cLoadA, cStore, cLoop, cEnd, cRet, argsV, regsV, Go.Vc.oneCell, Nat.add_zero, seval, cAlloc, cStoreA, cBox, Go.Vc.guardSlot]
  obtain ⟨hc3, hk3⟩ := Go.Cv.Cl.at (P := Tryz.prog) (hsp hsz) (plain_ag _) (vs := [.agg vs3.toArray]) (w := w3) (⟨relS_ag hv, trivial⟩) hG
  refine ⟨hc3, _, hk3, ?_⟩
  rintro _ w4 ⟨_, rfl, g3, hres⟩
  replace hq := hq.grow g3.grow
  replace hb1 := g3.box hb1
  replace hG := glw_gr g3 hG
  replace gW := gW.trans g3
  replace hv := hv.grow g3.grow
  obtain ⟨G0, hw0⟩ := hres.sl
  refine Stp.go ?_
  simp (maxSteps := 10000000) only [tt, c, cl, cg0, cg1, cOp, cCall, cLoad, cLoadA, cStore, cLoop, cEnd, cRet, argsV, regsV, Go.Vc.oneCell, Nat.add_zero, seval, cAlloc, cStoreA, cBox, Go.Vc.guardSlot]
  refine ⟨vs, hlen, box_at hb1, ?_⟩
  try simp (maxSteps := 10000000) only [tt, c, cl, cg0, cg1, cOp, cCall, cLoad, cLoadA, cStore, cLoop, cEnd, cRet, argsV, regsV, Go.Vc.oneCell, Nat.add_zero, seval, cAlloc, cStoreA, cBox, Go.Vc.guardSlot]
  have hG0 : ∀ x ∈ G0, x < w4.heap.size := fun x hx => Go.Cv.vis_lt (hw0.vis _ x hx)
  have s2 : w1.heap.size ≤ w4.heap.size := Nat.le_trans (by omega) (Nat.le_trans g1.size (Nat.le_trans g2.size g3.size))
  obtain ⟨hc4, hk4⟩ := Go.Cv.Cl.at (P := Tryz.prog) (tda_ofQuery (ttQuery_d a) hsz) (plain_ag _) (vs := [.agg vs.toArray]) (w := w4) (⟨relS_ag hq, trivial⟩) hG
  refine ⟨hc4, _, hk4, ?_⟩
  rintro _ w5 ⟨_, ⟨cs, Fs, rfl, htd⟩, g4, hres⟩
  replace hq := hq.grow g4.grow
  replace hb1 := g4.box hb1
  replace hG := glw_gr g4 hG
  replace gW := gW.trans g4
  replace hw0 := hw0.grow g4.grow
  obtain ⟨vs5, G5, rfl, hx0, nw5⟩ := hres.td htd
  have o5 := nw5.own
  have n5 := nw5.nodup
  have l5 := nw5.new
  have u5 := nw5.lt
  have hlen5 : vs5.length = 6 := hx0.length.trans (Query.row_len a)
  refine Stp.go ?_
  simp (maxSteps := 10000000) only [tt, c, cl, cg0, cg1, cOp, cCall, cLoad, cLoadA, cStore, cLoop, cEnd, cRet, argsV, regsV, Go.Vc.oneCell, Nat.add_zero, seval, cAlloc, cStoreA, cBox, Go.Vc.guardSlot]
  have s4 : w4.heap.size ≤ w5.heap.size := g4.size
  intro b5 w6x hb hw
  simp (maxSteps := 10000000) only [tt, c, cl, cg0, cg1, cOp, cCall, cLoad, cLoadA, cStore, cLoop, cEnd, cRet, argsV, regsV, Go.Vc.oneCell, Nat.add_zero, seval, cAlloc, cStoreA, cBox, Go.Vc.guardSlot, hlen5]
  refine ⟨?_, ⟨_, _, _, (box_new hb hw).1, Lh.zero _, ?_⟩, one' hx0, _, rfl, ?_⟩
  · first | rfl | simp [hlen5]
  · simp [hlen5]
  obtain ⟨w6, hw6⟩ : ∃ w6, w6x.setRow b5 vs5.toArray = w6 := ⟨_, rfl⟩
  try rw [hw6]
  obtain ⟨hb5, g5⟩ := box_fill hb hw hw6 (by simp [hlen5])
  replace hq := hq.grow g5.grow
  replace hb1 := g5.box hb1
  replace hG := glw_gr g5 hG
  replace gW := gW.trans g5
  replace hw0 := hw0.grow g5.grow
  replace hx0 := hx0.grow g5.grow
  replace o5 := o5.grow g5.grow
  refine Stp.go ?_
  simp (maxSteps := 10000000) only [tt, c, cl, cg0, cg1, cOp, cCall, cLoad, cLoadA, cStore, cLoop, cEnd, cRet, argsV, regsV, Go.Vc.oneCell, Nat.add_zero, seval, cAlloc, cStoreA, cBox, Go.Vc.guardSlot]
  refine ⟨vs5, hlen5, box_at hb5, ?_⟩
  try simp (maxSteps := 10000000) only [tt, c, cl, cg0, cg1, cOp, cCall, cLoad, cLoadA, cStore, cLoop, cEnd, cRet, argsV, regsV, Go.Vc.oneCell, Nat.add_zero, seval, cAlloc, cStoreA, cBox, Go.Vc.guardSlot]
  have s3 : w5.heap.size ≤ w6.heap.size := g5.size
  obtain ⟨hc6, hk6⟩ := Go.Cv.Cl.at (P := Tryz.prog) (him hsz) (plain_ag _) (vs := [.agg vs5.toArray]) (w := w6) (⟨relS_ag hx0, trivial⟩) hG
  refine ⟨hc6, _, hk6, ?_⟩
  rintro _ w7 ⟨_, rfl, g6, hres⟩
  replace hq := hq.grow g6.grow
  replace hb1 := g6.box hb1
  replace hG := glw_gr g6 hG
  replace gW := gW.trans g6
  replace hw0 := hw0.grow g6.grow
  replace hx0 := hx0.grow g6.grow
  replace o5 := o5.grow g6.grow
  replace hb5 := g6.box hb5
  obtain ⟨G6, hg0, nw6⟩ := hres.owL (Tok.lits es)
  have o6 := nw6.own
  have n6 := nw6.nodup
  have l6 := nw6.new
  refine Stp.go ?_
  simp (maxSteps := 10000000) only [tt, c, cl, cg0, cg1, cOp, cCall, cLoad, cLoadA, cStore, cLoop, cEnd, cRet, argsV, regsV, Go.Vc.oneCell, Nat.add_zero, seval, cAlloc, cStoreA, cBox, Go.Vc.guardSlot]
  obtain ⟨hc7, hk7⟩ := Go.Cv.Cl.at (P := Tryz.prog) (eqToks_d es) (rfl) (vs := [_, _]) (w := w7) (⟨relS_sl hg0, relS_sl hw0, trivial⟩) hG
  refine ⟨hc7, _, hk7, ?_⟩
  rintro _ w8 ⟨_, rfl, g7, hres⟩
  replace hq := hq.grow g7.grow
  replace hb1 := g7.box hb1
  replace hG := glw_gr g7 hG
  replace gW := gW.trans g7
  replace hw0 := hw0.grow g7.grow
  replace hx0 := hx0.grow g7.grow
  replace o5 := o5.grow g7.grow
  replace hb5 := g7.box hb5
  replace hg0 := hg0.grow g7.grow
  replace o6 := o6.grow g7.grow
  obtain rfl := hres.val
  refine Stp.go ?_
  simp (maxSteps := 10000000) only [tt, c, cl, cg0, cg1, cOp, cCall, cLoad, cLoadA, cStore, cLoop, cEnd, cRet, argsV, regsV, Go.Vc.oneCell, Nat.add_zero, seval, cAlloc, cStoreA, cBox, Go.Vc.guardSlot, Bool.not_true]
  refine ⟨follows_mixed, by kernel_rfl, ?_⟩
  refine ⟨by decide, hG, (fun i => if i = 5 then .c (.q a.row) else if i = 1 then .c (.q a.row) else .c .dead), (fun e f' _ _ => e = .normal ∧ f' 31 = vb false), ?_, ?_, ?_⟩
  · intro i
    by_cases h5 : i = 5
    · subst h5
      simp (maxSteps := 10000000) only [tt, c, cl, cg0, cg1, cOp, cCall, cLoad, cLoadA, cStore, cLoop, cEnd, cRet, argsV, regsV, Go.Vc.oneCell, Nat.add_zero, seval, cAlloc, cStoreA, cBox, Go.Vc.guardSlot]
      intro y hy
      obtain rfl : y = _ := hy
      exact relS_q hx0 hb5
    by_cases h1 : i = 1
    · subst h1
      simp (maxSteps := 10000000) only [tt, c, cl, cg0, cg1, cOp, cCall, cLoad, cLoadA, cStore, cLoop, cEnd, cRet, argsV, regsV, Go.Vc.oneCell, Nat.add_zero, seval, cAlloc, cStoreA, cBox, Go.Vc.guardSlot]
      intro y hy
      obtain rfl : y = _ := hy
      exact relS_q hq hb1
    simp only [h5, h1, if_false]
    intro y hy
    trivial
  · have z2 := toQuery_d a hsz
    have z5 := eqQuery_d a
    obtain ⟨distinct, items, from_, where_, order, limit⟩ := a
    rw [Query.row_mk] at z2 z5 ⊢
    try simp only [tt, seval]
    refine dDrawn.intro [] (pln [0, 2, 5, 7, 8]) (by kernel_rfl) ?_
    simp only [tt, seval]
    all_goals try simp only [tt, seval]
    refine call0 (z2) ?_ ?_ ?_
    · decide
    · simp only [tt, seval]
    rintro r rfl
    simp only [tt, seval]
    refine call0 (z5) ?_ ?_ ?_
    · decide
    · simp only [tt, seval]
    rintro r rfl
    simp only [tt, seval]
    all_goals exact ⟨rfl, rfl⟩
  rintro e f' L' p' w9 ⟨rfl, h31⟩ g8
  replace hq := hq.grow g8.grow
  replace hb1 := g8.box hb1
  replace hG := glw_gr g8 hG
  replace gW := gW.trans g8
  replace hw0 := hw0.grow g8.grow
  replace hx0 := hx0.grow g8.grow
  replace o5 := o5.grow g8.grow
  replace hb5 := g8.box hb5
  replace hg0 := hg0.grow g8.grow
  replace o6 := o6.grow g8.grow
  simp (maxSteps := 10000000) only [tt, c, cl, cg0, cg1, cOp, cCall, cLoad, cLoadA, cStore, cLoop, cEnd, cRet, argsV, regsV, Go.Vc.oneCell, Nat.add_zero, seval, cAlloc, cStoreA, cBox, Go.Vc.guardSlot, h31, Go.Vc.inN]
  refine ⟨vs5, hlen5, box_at hb5, ?_⟩
  try simp (maxSteps := 10000000) only [tt, c, cl, cg0, cg1, cOp, cCall, cLoad, cLoadA, cStore, cLoop, cEnd, cRet, argsV, regsV, Go.Vc.oneCell, Nat.add_zero, seval, cAlloc, cStoreA, cBox, Go.Vc.guardSlot]
  have s5 : w6.heap.size ≤ w9.heap.size := Nat.le_trans g6.size (Nat.le_trans g7.size g8.size)
  have d5 : ∀ t, t < w4.heap.size → t ∉ G5 := fun t ht hm => by have := l5 t hm; omega
  have e6 : ∀ t ∈ G6, t ∉ G5 := fun t ht hm => by have := l6 t ht; have := u5 t hm; omega
  obtain ⟨hc9, hk9⟩ := markQuery_q a 1 w9 vs5 G5 hx0 n5 o5 hG (fun t ht => d5 _ (Nat.lt_of_lt_of_le (glw_lt hGw t ht) (by omega))) (by omega) (by omega) hsz
  refine ⟨hc9, _, hk9, ?_⟩
  rintro _ w10 ⟨⟨m, rfl, hm, _⟩, gc⟩
  have hm0 : ¬ m < 0 := by omega
  replace hq := hq.chg gc.chg fun x hx => d5 x (by have := hF x hx; omega)
  replace hb1 := gc.box hb1 (d5 _ (by omega))
  replace hG := glw_chl gc hG (fun t ht => d5 _ (Nat.lt_of_lt_of_le (glw_lt hGw t ht) (by omega)))
  replace gW := gW.chl_trans gc fun x hx => by have := l5 x hx; omega
  replace hw0 := hw0.chg gc.chg fun x hx => d5 x (hG0 x hx)
  replace hg0 := hg0.chg gc.chg e6
  replace o6 := o6.other gc e6
  clear hx0 o5 hb5
  refine Stp.go ?_
  simp (maxSteps := 10000000) only [tt, c, cl, cg0, cg1, cOp, cCall, cLoad, cLoadA, cStore, cLoop, cEnd, cRet, argsV, regsV, Go.Vc.oneCell, Nat.add_zero, seval, cAlloc, cStoreA, cBox, Go.Vc.guardSlot, decide_eq_false hm0]
  obtain ⟨hc10, hk10⟩ := Go.Cv.Cl.at (P := Tryz.prog) (eqToks_d es) (rfl) (vs := [_, _]) (w := w10) (⟨relS_sl hg0, relS_sl hw0, trivial⟩) hG
  refine ⟨hc10, _, hk10, ?_⟩
  rintro _ w11 ⟨_, rfl, g10, hres⟩
  replace hq := hq.grow g10.grow
  replace hb1 := g10.box hb1
  replace hG := glw_gr g10 hG
  replace gW := gW.trans g10
  replace hw0 := hw0.grow g10.grow
  replace hg0 := hg0.grow g10.grow
  replace o6 := o6.grow g10.grow
  obtain rfl := hres.val
  refine Stp.go ?_
  simp (maxSteps := 10000000) only [tt, c, cl, cg0, cg1, cOp, cCall, cLoad, cLoadA, cStore, cLoop, cEnd, cRet, argsV, regsV, Go.Vc.oneCell, Nat.add_zero, seval, cAlloc, cStoreA, cBox, Go.Vc.guardSlot, Bool.not_true]
  have d6 : ∀ t, t < w6.heap.size → t ∉ G6 := fun t ht hm => by have := l6 t hm; omega
  have cnt := cnTok_L es
  obtain ⟨hc11, hk11⟩ := markToks_step es w11 1 _ G6 hg0 n6 o6 hG (fun t ht => d6 _ (Nat.lt_of_lt_of_le (glw_lt hGw t ht) (by omega))) (by omega) (by omega)
  refine ⟨hc11, _, hk11, ?_⟩
  rintro _ w12 ⟨rfl, hg0, o6, gc⟩
  replace hq := hq.chg gc.chg fun x hx => d6 x (by have := hF x hx; omega)
  replace hb1 := gc.box hb1 (d6 _ (by omega))
  replace hG := glw_chl gc hG (fun t ht => d6 _ (Nat.lt_of_lt_of_le (glw_lt hGw t ht) (by omega)))
  replace gW := gW.chl_trans gc fun x hx => by have := l6 x hx; omega
  replace hw0 := hw0.chg gc.chg fun x hx => d6 x (by have := hG0 x hx; omega)
  rw [cnt]
  have e3 : ((3 * es.length : Nat) : Int) = 3 * (es.length : Int) := by omega
  rw [e3]
  have hml := mkL_len mkTok cnTok 1 es
  have held := heldToks_d (mkL mkTok cnTok 1 es) 1 (by omega) (by rw [hml]; omega) fun i hi => by
    have hi' : i < es.length := by omega
    have := mkTok_get 1 es i hi'
    rw [List.getElem?_eq_getElem hi] at this
    exact Option.some.inj this
  rw [hml] at held
  generalize mkL mkTok cnTok 1 es = ms at *
  have hneg : ¬ (1 + 3 * (es.length : Int) < 0) := by omega
  refine Stp.go ?_
  simp (maxSteps := 10000000) only [tt, c, cl, cg0, cg1, cOp, cCall, cLoad, cLoadA, cStore, cLoop, cEnd, cRet, argsV, regsV, Go.Vc.oneCell, Nat.add_zero, seval, cAlloc, cStoreA, cBox, Go.Vc.guardSlot]
  obtain ⟨hc12, hk12⟩ := Go.Cv.Cl.at (P := Tryz.prog) (held) (rfl) (vs := [_, .int .i64 1]) (w := w12) (⟨relS_sl hg0, ⟨rfl, trivial⟩, trivial⟩) hG
  refine ⟨hc12, _, hk12, ?_⟩
  rintro _ w13 ⟨_, rfl, g12, hres⟩
  replace hq := hq.grow g12.grow
  replace hb1 := g12.box hb1
  replace hG := glw_gr g12 hG
  replace gW := gW.trans g12
  replace hw0 := hw0.grow g12.grow
  replace hg0 := hg0.grow g12.grow
  replace o6 := o6.grow g12.grow
  obtain rfl := hres.val
  refine Stp.go ?_
  simp (maxSteps := 10000000) only [tt, c, cl, cg0, cg1, cOp, cCall, cLoad, cLoadA, cStore, cLoop, cEnd, cRet, argsV, regsV, Go.Vc.oneCell, Nat.add_zero, seval, cAlloc, cStoreA, cBox, Go.Vc.guardSlot, decide_eq_false hneg, decide_true, Bool.not_true, eq_self]
  refine ⟨vs, hlen, box_at hb1, ?_⟩
  try simp (maxSteps := 10000000) only [tt, c, cl, cg0, cg1, cOp, cCall, cLoad, cLoadA, cStore, cLoop, cEnd, cRet, argsV, regsV, Go.Vc.oneCell, Nat.add_zero, seval, cAlloc, cStoreA, cBox, Go.Vc.guardSlot]
  obtain ⟨hc13, hk13⟩ := Go.Cv.Cl.at (P := Tryz.prog) (toQuery_d a hsz) (plain_ag _) (vs := [.agg vs.toArray]) (w := w13) (⟨relS_ag hq, trivial⟩) hG
  refine ⟨hc13, _, hk13, ?_⟩
  rintro _ w14 ⟨_, rfl, g13, hres⟩
  replace hq := hq.grow g13.grow
  replace hb1 := g13.box hb1
  replace hG := glw_gr g13 hG
  replace gW := gW.trans g13
  replace hw0 := hw0.grow g13.grow
  replace hg0 := hg0.grow g13.grow
  replace o6 := o6.grow g13.grow
  obtain ⟨vs4, G4, rfl, hv⟩ := hres.ag
  refine Stp.go ?_
  simp (maxSteps := 10000000) only [tt, c, cl, cg0, cg1, cOp, cCall, cLoad, cLoadA, cStore, cLoop, cEnd, cRet, argsV, regsV, Go.Vc.oneCell, Nat.add_zero, seval, cAlloc, cStoreA, cBox, Go.Vc.guardSlot]
  obtain ⟨hc14, hk14⟩ := Go.Cv.Cl.at (P := Tryz.prog) (him hsz) (plain_ag _) (vs := [.agg vs4.toArray]) (w := w14) (⟨relS_ag hv, trivial⟩) hG
  refine ⟨hc14, _, hk14, ?_⟩
  rintro _ w15 ⟨_, rfl, g14, hres⟩
  replace hq := hq.grow g14.grow
  replace hb1 := g14.box hb1
  replace hG := glw_gr g14 hG
  replace gW := gW.trans g14
  replace hw0 := hw0.grow g14.grow
  replace hg0 := hg0.grow g14.grow
  replace o6 := o6.grow g14.grow
  replace hv := hv.grow g14.grow
  obtain ⟨G7, hh0, _⟩ := hres.owL (Tok.lits es)
  refine Stp.go ?_
  simp (maxSteps := 10000000) only [tt, c, cl, cg0, cg1, cOp, cCall, cLoad, cLoadA, cStore, cLoop, cEnd, cRet, argsV, regsV, Go.Vc.oneCell, Nat.add_zero, seval, cAlloc, cStoreA, cBox, Go.Vc.guardSlot]
  obtain ⟨hc15, hk15⟩ := Go.Cv.Cl.at (P := Tryz.prog) (eqToks_d es) (rfl) (vs := [_, _]) (w := w15) (⟨relS_sl hh0, relS_sl hw0, trivial⟩) hG
  refine ⟨hc15, _, hk15, ?_⟩
  rintro _ w16 ⟨_, rfl, g15, hres⟩
  replace hq := hq.grow g15.grow
  replace hb1 := g15.box hb1
  replace hG := glw_gr g15 hG
  replace gW := gW.trans g15
  replace hw0 := hw0.grow g15.grow
  replace hg0 := hg0.grow g15.grow
  replace o6 := o6.grow g15.grow
  replace hh0 := hh0.grow g15.grow
  obtain rfl := hres.val
  refine Stp.go ?_
  simp (maxSteps := 10000000) only [tt, c, cl, cg0, cg1, cOp, cCall, cLoad, cLoadA, cStore, cLoop, cEnd, cRet, argsV, regsV, Go.Vc.oneCell, Nat.add_zero, seval, cAlloc, cStoreA, cBox, Go.Vc.guardSlot, Bool.not_true]
  obtain ⟨hc16, hk16⟩ := Go.Cv.Cl.at (P := Tryz.prog) (held) (rfl) (vs := [_, .int .i64 1]) (w := w16) (⟨relS_sl hg0, ⟨rfl, trivial⟩, trivial⟩) hG
  refine ⟨hc16, _, hk16, ?_⟩
  rintro _ w17 ⟨_, rfl, g16, hres⟩
  replace hq := hq.grow g16.grow
  replace hb1 := g16.box hb1
  replace hG := glw_gr g16 hG
  replace gW := gW.trans g16
  replace hw0 := hw0.grow g16.grow
  replace hg0 := hg0.grow g16.grow
  replace o6 := o6.grow g16.grow
  replace hh0 := hh0.grow g16.grow
  obtain rfl := hres.val
  refine Stp.go ?_
  simp (maxSteps := 10000000) only [tt, c, cl, cg0, cg1, cOp, cCall, cLoad, cLoadA, cStore, cLoop, cEnd, cRet, argsV, regsV, Go.Vc.oneCell, Nat.add_zero, seval, cAlloc, cStoreA, cBox, Go.Vc.guardSlot, decide_eq_false hneg, decide_true, Bool.not_true, eq_self]
  first | exact gW | exact ⟨rfl, gW⟩
theorem quToks_len (q : Query) (hr : RgQ q) : (quToks q).length ≤ 1000000 := by
  unfold quToks
  split
  · rename_i h
    exact (qu_parts q hr h).2
  · simp
theorem lawQT (q : Query) (hr : RgQ q) (w : World) (vs : List Value) (F : List Nat) (hq : ValsF w q.row vs F) (hG : GlW w (fun _ => False)) : Calls Tryz.prog 3 #[.agg vs.toArray] w fun e w' => ∃ v, e = .returned v ∧ v = .bool true ∧ Gr w w' :=
  (lawQT_c q (quToks q) (quToks_len q hr) (QueryTokens_d q hr) (iQueryTokens_d q hr) w vs F hq hG).2
end Go.Proofs.YthhkmmcgjnecbaaGreatDoor
set_option maxRecDepth 8000
namespace Go.Proofs.YthhkmmcgjnecbaaGreatDoor
open Go Go.Dv
open Go.Vc (D shrI xorI andI and255)
open Go.Vc (D CellF ValsF read_slice list_cons list_one)
section
variable {W : World}
theorem vf_nil : ValsF W [] [] [] := rfl
theorem vf_lit {v : Value} {ds : List D} {vs : List Value} {F : List Nat} (h : ∃ G, CellF W (.lit v) v G ∧ G = []) (k : ValsF W ds vs F) : ValsF W (.lit v :: ds) (v :: vs) F := by
  obtain ⟨G, h, rfl⟩ := h
  exact ⟨[], F, h, k, rfl⟩
theorem vf_sl {n : Nat} {d : List D} {v : Value} {G : List Nat} {ds : List D} {vs : List Value} {F : List Nat} (h : CellF W (.sl n d) v G) (k : ValsF W ds vs F) : ValsF W (.sl n d :: ds) (v :: vs) (G ++ F) := ⟨G, F, h, k, rfl⟩
theorem vf_app : ∀ {a : List D} {u : List Value} {b : List D} {v : List Value} {F G : List Nat}, ValsF W a u F → ValsF W b v G → ValsF W (a ++ b) (u ++ v) (F ++ G)
  | [], [], b, v, F, G, h, k => by cases (show F = [] from h); exact k
  | d :: a, x :: u, b, v, F, G, ⟨F1, F2, h1, h2, h3⟩, k => by subst h3; exact ⟨F1, F2 ++ G, h1, vf_app h2 k, by rw [List.append_assoc]⟩
  | [], _ :: _, _, _, _, _, h, _ => h.elim
  | _ :: _, [], _, _, _, _, h, _ => h.elim
theorem cell_sub {α : Type} {R : α → Prop} {row : α → List D} {ys : List {x : α // R x}} {v : Value} {F : List Nat} (h : CellF W (.sl ys.length (ys.flatMap fun y => row y.1)) v F) : CellF W (.sl (ys.map Subtype.val).length ((ys.map Subtype.val).flatMap row)) v F := by
  rw [List.length_map, List.flatMap_map]; exact h
theorem sub_mem {α : Type} {R : α → Prop} {ys : List {x : α // R x}} : ∀ x ∈ ys.map Subtype.val, R x := fun x hx => by
  obtain ⟨y, _, rfl⟩ := List.mem_map.1 hx
  exact y.2
theorem wf64 {n : Int} (h : (Lit.int .i64 n).wf = true) : -9223372036854775808 ≤ n ∧ n ≤ 9223372036854775807 := by
  simp [Lit.wf, IntKind.min, IntKind.max, IntKind.bits, IntKind.signed] at h
  omega
end
section
variable {H : Type} {enc : TypeId × Value → H} {W : World} {base : Nat} {sp : Nat → Bool} {held : Bool}
theorem cells24 : Tryz.prog.cellsOf 24 = 1 := by kernel_rfl
theorem cells22 : Tryz.prog.cellsOf 22 = 1 := by kernel_rfl
theorem cells95 : Tryz.prog.cellsOf 95 = 1 := by kernel_rfl
theorem cells25 : Tryz.prog.cellsOf 25 = 1 := by kernel_rfl
theorem cells23 : Tryz.prog.cellsOf 23 = 1 := by kernel_rfl
theorem cells4 : Tryz.prog.cellsOf 4 = 1 := by kernel_rfl
theorem cells3 : Tryz.prog.cellsOf 3 = 1 := by kernel_rfl
theorem cells97 : Tryz.prog.cellsOf 97 = 10 := by kernel_rfl
theorem cells99 : Tryz.prog.cellsOf 99 = 13 := by kernel_rfl
theorem cells27 : Tryz.prog.cellsOf 27 = 6 := by kernel_rfl
theorem cells106 : Tryz.prog.cellsOf 106 = 11 := by kernel_rfl
theorem cells102 : Tryz.prog.cellsOf 102 = 3 := by kernel_rfl
theorem cells94 : Tryz.prog.cellsOf 94 = 3 := by kernel_rfl
theorem cells9 : Tryz.prog.cellsOf 9 = 1 := by kernel_rfl
def RExpr (e : Expr) : Prop := Rg e
def RItem (x : Item) : Prop := Rg x.e
def RSource (x : Source) : Prop := ∀ e ∈ x.on, Rg e
def RSortKey (x : SortKey) : Prop := Rg x.e
def RQuery (q : Query) : Prop := RgQ q
theorem read_val {n : Nat} {cs : List Value} {x : DataW H × List MemPlace} (h : DataW.trod enc Tryz.prog W base sp held n 94 cs = some x) : ∃ (y : Val), cs = [.int .i64 y.kind, .int .i64 y.num, .string y.text] ∧ y.text.size ≤ maxLen ∧ -9223372036854775808 ≤ y.num ∧ y.num ≤ 9223372036854775807 := by
  obtain ⟨xs, k, hk, _, hl, hlen, hf⟩ := DataW.trod_struct Tryz.underlying94 h
  rw [cells94] at hl
  obtain ⟨c0, r0, rfl, hl1⟩ := list_cons hl
  obtain ⟨c1, r1, rfl, hl2⟩ := list_cons hl1
  obtain ⟨c2, rfl⟩ := list_one hl2
  obtain ⟨x0, s0, rfl, hlen1⟩ := list_cons hlen
  obtain ⟨x1, s1, rfl, hlen2⟩ := list_cons hlen1
  obtain ⟨x2, rfl⟩ := list_one hlen2
  have h0 : DataW.trod enc Tryz.prog W base sp held k 3 (([c0, c1, c2].drop 0).take (Tryz.prog.cellsOf 3)) = some x0 := hf 0 _ rfl
  rw [cells3] at h0
  have h0 : DataW.trod enc Tryz.prog W base sp held k 3 [c0] = some x0 := h0
  have h1 : DataW.trod enc Tryz.prog W base sp held k 3 (([c0, c1, c2].drop 1).take (Tryz.prog.cellsOf 3)) = some x1 := hf 1 _ rfl
  rw [cells3] at h1
  have h1 : DataW.trod enc Tryz.prog W base sp held k 3 [c1] = some x1 := h1
  have h2 : DataW.trod enc Tryz.prog W base sp held k 9 (([c0, c1, c2].drop 2).take (Tryz.prog.cellsOf 9)) = some x2 := hf 2 _ rfl
  rw [cells9] at h2
  have h2 : DataW.trod enc Tryz.prog W base sp held k 9 [c2] = some x2 := h2
  obtain ⟨n0, e0, _, w0⟩ := DataW.trod_int Tryz.underlying3 h0
  obtain ⟨n1, e1, _, w1⟩ := DataW.trod_int Tryz.underlying3 h1
  obtain ⟨n2, e2, _, b2⟩ := DataW.trod_string Tryz.underlying9 h2
  simp only [List.cons.injEq, and_true] at e0 e1 e2
  subst e0 e1 e2
  exact ⟨⟨n0, n1, n2⟩, rfl, b2, wf64 w1⟩
theorem read_trees (n : Nat) : (∀ cs x, DataW.trod enc Tryz.prog W base sp held n 97 cs = some x → ∃ (e : {x : Expr // RExpr x}) (F : List Nat), ValsF W e.1.row cs F) ∧ (∀ cs x, DataW.trod enc Tryz.prog W base sp held n 99 cs = some x → ∃ (e : {x : Item // RItem x}) (F : List Nat), ValsF W e.1.row cs F) ∧ (∀ cs x, DataW.trod enc Tryz.prog W base sp held n 102 cs = some x → ∃ (e : {x : Source // RSource x}) (F : List Nat), ValsF W e.1.row cs F) ∧ (∀ cs x, DataW.trod enc Tryz.prog W base sp held n 106 cs = some x → ∃ (e : {x : SortKey // RSortKey x}) (F : List Nat), ValsF W e.1.row cs F) ∧ (∀ cs x, DataW.trod enc Tryz.prog W base sp held n 27 cs = some x → ∃ (e : {x : Query // RQuery x}) (F : List Nat), ValsF W e.1.row cs F) := by
  induction n using Nat.strongRecOn with
  | _ n ih =>
  refine ⟨fun cs x h => ?_, fun cs x h => ?_, fun cs x h => ?_, fun cs x h => ?_, fun cs x h => ?_⟩
  · skip
    obtain ⟨xs, k, hk, _, hl, hlen, hf⟩ := DataW.trod_struct Tryz.underlying97 h
    rw [cells97] at hl
    obtain ⟨c0, r0, rfl, hl1⟩ := list_cons hl
    obtain ⟨c1, r1, rfl, hl2⟩ := list_cons hl1
    obtain ⟨c2, r2, rfl, hl3⟩ := list_cons hl2
    obtain ⟨c3, r3, rfl, hl4⟩ := list_cons hl3
    obtain ⟨c4, r4, rfl, hl5⟩ := list_cons hl4
    obtain ⟨c5, r5, rfl, hl6⟩ := list_cons hl5
    obtain ⟨c6, r6, rfl, hl7⟩ := list_cons hl6
    obtain ⟨c7, r7, rfl, hl8⟩ := list_cons hl7
    obtain ⟨c8, r8, rfl, hl9⟩ := list_cons hl8
    obtain ⟨c9, rfl⟩ := list_one hl9
    obtain ⟨x0, s0, rfl, hlen1⟩ := list_cons hlen
    obtain ⟨x1, s1, rfl, hlen2⟩ := list_cons hlen1
    obtain ⟨x2, s2, rfl, hlen3⟩ := list_cons hlen2
    obtain ⟨x3, s3, rfl, hlen4⟩ := list_cons hlen3
    obtain ⟨x4, s4, rfl, hlen5⟩ := list_cons hlen4
    obtain ⟨x5, s5, rfl, hlen6⟩ := list_cons hlen5
    obtain ⟨x6, s6, rfl, hlen7⟩ := list_cons hlen6
    obtain ⟨x7, rfl⟩ := list_one hlen7
    have h0 : DataW.trod enc Tryz.prog W base sp held k 3 (([c0, c1, c2, c3, c4, c5, c6, c7, c8, c9].drop 0).take (Tryz.prog.cellsOf 3)) = some x0 := hf 0 _ rfl
    rw [cells3] at h0
    have h0 : DataW.trod enc Tryz.prog W base sp held k 3 [c0] = some x0 := h0
    have h1 : DataW.trod enc Tryz.prog W base sp held k 3 (([c0, c1, c2, c3, c4, c5, c6, c7, c8, c9].drop 1).take (Tryz.prog.cellsOf 3)) = some x1 := hf 1 _ rfl
    rw [cells3] at h1
    have h1 : DataW.trod enc Tryz.prog W base sp held k 3 [c1] = some x1 := h1
    have h2 : DataW.trod enc Tryz.prog W base sp held k 4 (([c0, c1, c2, c3, c4, c5, c6, c7, c8, c9].drop 2).take (Tryz.prog.cellsOf 4)) = some x2 := hf 2 _ rfl
    rw [cells4] at h2
    have h2 : DataW.trod enc Tryz.prog W base sp held k 4 [c2] = some x2 := h2
    have h3 : DataW.trod enc Tryz.prog W base sp held k 94 (([c0, c1, c2, c3, c4, c5, c6, c7, c8, c9].drop 3).take (Tryz.prog.cellsOf 94)) = some x3 := hf 3 _ rfl
    rw [cells94] at h3
    have h3 : DataW.trod enc Tryz.prog W base sp held k 94 [c3, c4, c5] = some x3 := h3
    have h4 : DataW.trod enc Tryz.prog W base sp held k 9 (([c0, c1, c2, c3, c4, c5, c6, c7, c8, c9].drop 6).take (Tryz.prog.cellsOf 9)) = some x4 := hf 4 _ rfl
    rw [cells9] at h4
    have h4 : DataW.trod enc Tryz.prog W base sp held k 9 [c6] = some x4 := h4
    have h5 : DataW.trod enc Tryz.prog W base sp held k 9 (([c0, c1, c2, c3, c4, c5, c6, c7, c8, c9].drop 7).take (Tryz.prog.cellsOf 9)) = some x5 := hf 5 _ rfl
    rw [cells9] at h5
    have h5 : DataW.trod enc Tryz.prog W base sp held k 9 [c7] = some x5 := h5
    have h6 : DataW.trod enc Tryz.prog W base sp held k 24 (([c0, c1, c2, c3, c4, c5, c6, c7, c8, c9].drop 8).take (Tryz.prog.cellsOf 24)) = some x6 := hf 6 _ rfl
    rw [cells24] at h6
    have h6 : DataW.trod enc Tryz.prog W base sp held k 24 [c8] = some x6 := h6
    have h7 : DataW.trod enc Tryz.prog W base sp held k 95 (([c0, c1, c2, c3, c4, c5, c6, c7, c8, c9].drop 9).take (Tryz.prog.cellsOf 95)) = some x7 := hf 7 _ rfl
    rw [cells95] at h7
    have h7 : DataW.trod enc Tryz.prog W base sp held k 95 [c9] = some x7 := h7
    obtain ⟨n0, e0, _, w0⟩ := DataW.trod_int Tryz.underlying3 h0
    obtain ⟨n1, e1, _, w1⟩ := DataW.trod_int Tryz.underlying3 h1
    obtain ⟨n2, e2, _⟩ := DataW.trod_bool Tryz.underlying4 h2
    obtain ⟨n3, e3, b3, w3⟩ := read_val h3
    obtain ⟨n4, e4, _, b4⟩ := DataW.trod_string Tryz.underlying9 h4
    obtain ⟨n5, e5, _, b5⟩ := DataW.trod_string Tryz.underlying9 h5
    obtain ⟨n6, v6, F6, e6, q6⟩ := read_slice (row := fun y : {x : Expr // RExpr x} => y.1.row) Tryz.underlying24 cells97 (by decide) (fun y => Expr.row_len y.1) (fun n' cs' x' hn h' => (ih n' (by omega)).1 _ _ h') h6
    obtain ⟨n7, v7, F7, e7, q7⟩ := read_slice (row := fun y : {x : Query // RQuery x} => y.1.row) Tryz.underlying95 cells27 (by decide) (fun y => Query.row_len y.1) (fun n' cs' x' hn h' => (ih n' (by omega)).2.2.2.2 _ _ h') h7
    simp only [List.cons.injEq, and_true] at e0 e1 e2 e3 e4 e5 e6 e7
    obtain ⟨e3, e3', e3''⟩ := e3
    subst e0 e1 e2 e3 e3' e3'' e4 e5 e6 e7
    refine ⟨⟨Expr.mk n0 n1 n2 n3 n4 n5 (n6.map Subtype.val) (n7.map Subtype.val), Rg.mk ⟨w3.1, w3.2⟩ sub_mem (fun q hq => (sub_mem q hq).1) (fun q hq => (sub_mem q hq).2)⟩, (F6 ++ (F7 ++ [])), ?_⟩
    rw [Expr.row_mk]
    exact (vf_lit ⟨_, ⟨rfl, rfl, trivial⟩, rfl⟩ (vf_lit ⟨_, ⟨rfl, rfl, trivial⟩, rfl⟩ (vf_lit ⟨_, ⟨rfl, rfl, trivial⟩, rfl⟩ (vf_lit ⟨_, ⟨rfl, rfl, trivial⟩, rfl⟩ (vf_lit ⟨_, ⟨rfl, rfl, trivial⟩, rfl⟩ (vf_lit ⟨_, ⟨rfl, rfl, b3⟩, rfl⟩ (vf_lit ⟨_, ⟨rfl, rfl, b4⟩, rfl⟩ (vf_lit ⟨_, ⟨rfl, rfl, b5⟩, rfl⟩ (vf_sl (cell_sub q6) (vf_sl (cell_sub q7) vf_nil))))))))))
  · skip
    obtain ⟨xs, k, hk, _, hl, hlen, hf⟩ := DataW.trod_struct Tryz.underlying99 h
    rw [cells99] at hl
    obtain ⟨c0, r0, rfl, hl1⟩ := list_cons hl
    obtain ⟨c1, r1, rfl, hl2⟩ := list_cons hl1
    obtain ⟨c2, r2, rfl, hl3⟩ := list_cons hl2
    obtain ⟨c3, r3, rfl, hl4⟩ := list_cons hl3
    obtain ⟨c4, r4, rfl, hl5⟩ := list_cons hl4
    obtain ⟨c5, r5, rfl, hl6⟩ := list_cons hl5
    obtain ⟨c6, r6, rfl, hl7⟩ := list_cons hl6
    obtain ⟨c7, r7, rfl, hl8⟩ := list_cons hl7
    obtain ⟨c8, r8, rfl, hl9⟩ := list_cons hl8
    obtain ⟨c9, r9, rfl, hl10⟩ := list_cons hl9
    obtain ⟨c10, r10, rfl, hl11⟩ := list_cons hl10
    obtain ⟨c11, r11, rfl, hl12⟩ := list_cons hl11
    obtain ⟨c12, rfl⟩ := list_one hl12
    obtain ⟨x0, s0, rfl, hlen1⟩ := list_cons hlen
    obtain ⟨x1, s1, rfl, hlen2⟩ := list_cons hlen1
    obtain ⟨x2, s2, rfl, hlen3⟩ := list_cons hlen2
    obtain ⟨x3, rfl⟩ := list_one hlen3
    have h0 : DataW.trod enc Tryz.prog W base sp held k 4 (([c0, c1, c2, c3, c4, c5, c6, c7, c8, c9, c10, c11, c12].drop 0).take (Tryz.prog.cellsOf 4)) = some x0 := hf 0 _ rfl
    rw [cells4] at h0
    have h0 : DataW.trod enc Tryz.prog W base sp held k 4 [c0] = some x0 := h0
    have h1 : DataW.trod enc Tryz.prog W base sp held k 9 (([c0, c1, c2, c3, c4, c5, c6, c7, c8, c9, c10, c11, c12].drop 1).take (Tryz.prog.cellsOf 9)) = some x1 := hf 1 _ rfl
    rw [cells9] at h1
    have h1 : DataW.trod enc Tryz.prog W base sp held k 9 [c1] = some x1 := h1
    have h2 : DataW.trod enc Tryz.prog W base sp held k 97 (([c0, c1, c2, c3, c4, c5, c6, c7, c8, c9, c10, c11, c12].drop 2).take (Tryz.prog.cellsOf 97)) = some x2 := hf 2 _ rfl
    rw [cells97] at h2
    have h2 : DataW.trod enc Tryz.prog W base sp held k 97 [c2, c3, c4, c5, c6, c7, c8, c9, c10, c11] = some x2 := h2
    have h3 : DataW.trod enc Tryz.prog W base sp held k 9 (([c0, c1, c2, c3, c4, c5, c6, c7, c8, c9, c10, c11, c12].drop 12).take (Tryz.prog.cellsOf 9)) = some x3 := hf 3 _ rfl
    rw [cells9] at h3
    have h3 : DataW.trod enc Tryz.prog W base sp held k 9 [c12] = some x3 := h3
    obtain ⟨n0, e0, _⟩ := DataW.trod_bool Tryz.underlying4 h0
    obtain ⟨n1, e1, _, b1⟩ := DataW.trod_string Tryz.underlying9 h1
    obtain ⟨n2, F2, e2⟩ := (ih k (by omega)).1 _ _ h2
    obtain ⟨n3, e3, _, b3⟩ := DataW.trod_string Tryz.underlying9 h3
    simp only [List.cons.injEq, and_true] at e0 e1 e3
    subst e0 e1 e3
    refine ⟨⟨Item.mk n0 n1 n2.1 n3, n2.2⟩, (F2 ++ []), ?_⟩
    rw [Item.row_mk]
    exact (vf_lit ⟨_, ⟨rfl, rfl, trivial⟩, rfl⟩ (vf_lit ⟨_, ⟨rfl, rfl, b1⟩, rfl⟩ (vf_app e2 (vf_lit ⟨_, ⟨rfl, rfl, b3⟩, rfl⟩ vf_nil))))
  · skip
    obtain ⟨xs, k, hk, _, hl, hlen, hf⟩ := DataW.trod_struct Tryz.underlying102 h
    rw [cells102] at hl
    obtain ⟨c0, r0, rfl, hl1⟩ := list_cons hl
    obtain ⟨c1, r1, rfl, hl2⟩ := list_cons hl1
    obtain ⟨c2, rfl⟩ := list_one hl2
    obtain ⟨x0, s0, rfl, hlen1⟩ := list_cons hlen
    obtain ⟨x1, s1, rfl, hlen2⟩ := list_cons hlen1
    obtain ⟨x2, rfl⟩ := list_one hlen2
    have h0 : DataW.trod enc Tryz.prog W base sp held k 9 (([c0, c1, c2].drop 0).take (Tryz.prog.cellsOf 9)) = some x0 := hf 0 _ rfl
    rw [cells9] at h0
    have h0 : DataW.trod enc Tryz.prog W base sp held k 9 [c0] = some x0 := h0
    have h1 : DataW.trod enc Tryz.prog W base sp held k 9 (([c0, c1, c2].drop 1).take (Tryz.prog.cellsOf 9)) = some x1 := hf 1 _ rfl
    rw [cells9] at h1
    have h1 : DataW.trod enc Tryz.prog W base sp held k 9 [c1] = some x1 := h1
    have h2 : DataW.trod enc Tryz.prog W base sp held k 24 (([c0, c1, c2].drop 2).take (Tryz.prog.cellsOf 24)) = some x2 := hf 2 _ rfl
    rw [cells24] at h2
    have h2 : DataW.trod enc Tryz.prog W base sp held k 24 [c2] = some x2 := h2
    obtain ⟨n0, e0, _, b0⟩ := DataW.trod_string Tryz.underlying9 h0
    obtain ⟨n1, e1, _, b1⟩ := DataW.trod_string Tryz.underlying9 h1
    obtain ⟨n2, v2, F2, e2, q2⟩ := read_slice (row := fun y : {x : Expr // RExpr x} => y.1.row) Tryz.underlying24 cells97 (by decide) (fun y => Expr.row_len y.1) (fun n' cs' x' hn h' => (ih n' (by omega)).1 _ _ h') h2
    simp only [List.cons.injEq, and_true] at e0 e1 e2
    subst e0 e1 e2
    refine ⟨⟨Source.mk n0 n1 (n2.map Subtype.val), fun e he => sub_mem (R := RExpr) e he⟩, (F2 ++ []), ?_⟩
    rw [Source.row_mk]
    exact (vf_lit ⟨_, ⟨rfl, rfl, b0⟩, rfl⟩ (vf_lit ⟨_, ⟨rfl, rfl, b1⟩, rfl⟩ (vf_sl (cell_sub q2) vf_nil)))
  · skip
    obtain ⟨xs, k, hk, _, hl, hlen, hf⟩ := DataW.trod_struct Tryz.underlying106 h
    rw [cells106] at hl
    obtain ⟨c0, r0, rfl, hl1⟩ := list_cons hl
    obtain ⟨c1, r1, rfl, hl2⟩ := list_cons hl1
    obtain ⟨c2, r2, rfl, hl3⟩ := list_cons hl2
    obtain ⟨c3, r3, rfl, hl4⟩ := list_cons hl3
    obtain ⟨c4, r4, rfl, hl5⟩ := list_cons hl4
    obtain ⟨c5, r5, rfl, hl6⟩ := list_cons hl5
    obtain ⟨c6, r6, rfl, hl7⟩ := list_cons hl6
    obtain ⟨c7, r7, rfl, hl8⟩ := list_cons hl7
    obtain ⟨c8, r8, rfl, hl9⟩ := list_cons hl8
    obtain ⟨c9, r9, rfl, hl10⟩ := list_cons hl9
    obtain ⟨c10, rfl⟩ := list_one hl10
    obtain ⟨x0, s0, rfl, hlen1⟩ := list_cons hlen
    obtain ⟨x1, rfl⟩ := list_one hlen1
    have h0 : DataW.trod enc Tryz.prog W base sp held k 97 (([c0, c1, c2, c3, c4, c5, c6, c7, c8, c9, c10].drop 0).take (Tryz.prog.cellsOf 97)) = some x0 := hf 0 _ rfl
    rw [cells97] at h0
    have h0 : DataW.trod enc Tryz.prog W base sp held k 97 [c0, c1, c2, c3, c4, c5, c6, c7, c8, c9] = some x0 := h0
    have h1 : DataW.trod enc Tryz.prog W base sp held k 4 (([c0, c1, c2, c3, c4, c5, c6, c7, c8, c9, c10].drop 10).take (Tryz.prog.cellsOf 4)) = some x1 := hf 1 _ rfl
    rw [cells4] at h1
    have h1 : DataW.trod enc Tryz.prog W base sp held k 4 [c10] = some x1 := h1
    obtain ⟨n0, F0, e0⟩ := (ih k (by omega)).1 _ _ h0
    obtain ⟨n1, e1, _⟩ := DataW.trod_bool Tryz.underlying4 h1
    simp only [List.cons.injEq, and_true] at e1
    subst e1
    refine ⟨⟨SortKey.mk n0.1 n1, n0.2⟩, (F0 ++ []), ?_⟩
    rw [SortKey.row_mk]
    exact (vf_app e0 (vf_lit ⟨_, ⟨rfl, rfl, trivial⟩, rfl⟩ vf_nil))
  · skip
    obtain ⟨xs, k, hk, _, hl, hlen, hf⟩ := DataW.trod_struct Tryz.underlying27 h
    rw [cells27] at hl
    obtain ⟨c0, r0, rfl, hl1⟩ := list_cons hl
    obtain ⟨c1, r1, rfl, hl2⟩ := list_cons hl1
    obtain ⟨c2, r2, rfl, hl3⟩ := list_cons hl2
    obtain ⟨c3, r3, rfl, hl4⟩ := list_cons hl3
    obtain ⟨c4, r4, rfl, hl5⟩ := list_cons hl4
    obtain ⟨c5, rfl⟩ := list_one hl5
    obtain ⟨x0, s0, rfl, hlen1⟩ := list_cons hlen
    obtain ⟨x1, s1, rfl, hlen2⟩ := list_cons hlen1
    obtain ⟨x2, s2, rfl, hlen3⟩ := list_cons hlen2
    obtain ⟨x3, s3, rfl, hlen4⟩ := list_cons hlen3
    obtain ⟨x4, s4, rfl, hlen5⟩ := list_cons hlen4
    obtain ⟨x5, rfl⟩ := list_one hlen5
    have h0 : DataW.trod enc Tryz.prog W base sp held k 4 (([c0, c1, c2, c3, c4, c5].drop 0).take (Tryz.prog.cellsOf 4)) = some x0 := hf 0 _ rfl
    rw [cells4] at h0
    have h0 : DataW.trod enc Tryz.prog W base sp held k 4 [c0] = some x0 := h0
    have h1 : DataW.trod enc Tryz.prog W base sp held k 22 (([c0, c1, c2, c3, c4, c5].drop 1).take (Tryz.prog.cellsOf 22)) = some x1 := hf 1 _ rfl
    rw [cells22] at h1
    have h1 : DataW.trod enc Tryz.prog W base sp held k 22 [c1] = some x1 := h1
    have h2 : DataW.trod enc Tryz.prog W base sp held k 23 (([c0, c1, c2, c3, c4, c5].drop 2).take (Tryz.prog.cellsOf 23)) = some x2 := hf 2 _ rfl
    rw [cells23] at h2
    have h2 : DataW.trod enc Tryz.prog W base sp held k 23 [c2] = some x2 := h2
    have h3 : DataW.trod enc Tryz.prog W base sp held k 24 (([c0, c1, c2, c3, c4, c5].drop 3).take (Tryz.prog.cellsOf 24)) = some x3 := hf 3 _ rfl
    rw [cells24] at h3
    have h3 : DataW.trod enc Tryz.prog W base sp held k 24 [c3] = some x3 := h3
    have h4 : DataW.trod enc Tryz.prog W base sp held k 25 (([c0, c1, c2, c3, c4, c5].drop 4).take (Tryz.prog.cellsOf 25)) = some x4 := hf 4 _ rfl
    rw [cells25] at h4
    have h4 : DataW.trod enc Tryz.prog W base sp held k 25 [c4] = some x4 := h4
    have h5 : DataW.trod enc Tryz.prog W base sp held k 3 (([c0, c1, c2, c3, c4, c5].drop 5).take (Tryz.prog.cellsOf 3)) = some x5 := hf 5 _ rfl
    rw [cells3] at h5
    have h5 : DataW.trod enc Tryz.prog W base sp held k 3 [c5] = some x5 := h5
    obtain ⟨n0, e0, _⟩ := DataW.trod_bool Tryz.underlying4 h0
    obtain ⟨n1, v1, F1, e1, q1⟩ := read_slice (row := fun y : {x : Item // RItem x} => y.1.row) Tryz.underlying22 cells99 (by decide) (fun y => Item.row_len y.1) (fun n' cs' x' hn h' => (ih n' (by omega)).2.1 _ _ h') h1
    obtain ⟨n2, v2, F2, e2, q2⟩ := read_slice (row := fun y : {x : Source // RSource x} => y.1.row) Tryz.underlying23 cells102 (by decide) (fun y => Source.row_len y.1) (fun n' cs' x' hn h' => (ih n' (by omega)).2.2.1 _ _ h') h2
    obtain ⟨n3, v3, F3, e3, q3⟩ := read_slice (row := fun y : {x : Expr // RExpr x} => y.1.row) Tryz.underlying24 cells97 (by decide) (fun y => Expr.row_len y.1) (fun n' cs' x' hn h' => (ih n' (by omega)).1 _ _ h') h3
    obtain ⟨n4, v4, F4, e4, q4⟩ := read_slice (row := fun y : {x : SortKey // RSortKey x} => y.1.row) Tryz.underlying25 cells106 (by decide) (fun y => SortKey.row_len y.1) (fun n' cs' x' hn h' => (ih n' (by omega)).2.2.2.1 _ _ h') h4
    obtain ⟨n5, e5, _, w5⟩ := DataW.trod_int Tryz.underlying3 h5
    simp only [List.cons.injEq, and_true] at e0 e1 e2 e3 e4 e5
    subst e0 e1 e2 e3 e4 e5
    refine ⟨⟨Query.mk n0 (n1.map Subtype.val) (n2.map Subtype.val) (n3.map Subtype.val) (n4.map Subtype.val) n5, ⟨(wf64 w5).2, fun x hx => by
      simp only [exprsQ, List.mem_append] at hx
      rcases hx with ((hx | hx) | hx) | hx
      · simp only [exprsI, List.mem_map, List.mem_filter] at hx
        obtain ⟨y, ⟨hy, _⟩, rfl⟩ := hx
        obtain ⟨z, _, rfl⟩ := hy
        exact z.2
      · simp only [List.mem_flatMap] at hx
        obtain ⟨y, hy, hx⟩ := hx
        exact sub_mem y hy x hx
      · exact sub_mem x hx
      · simp only [List.mem_map] at hx
        obtain ⟨y, hy, rfl⟩ := hx
        obtain ⟨z, _, rfl⟩ := hy
        exact z.2⟩⟩, (F1 ++ (F2 ++ (F3 ++ (F4 ++ [])))), ?_⟩
    rw [Query.row_mk]
    exact (vf_lit ⟨_, ⟨rfl, rfl, trivial⟩, rfl⟩ (vf_sl (cell_sub q1) (vf_sl (cell_sub q2) (vf_sl (cell_sub q3) (vf_sl (cell_sub q4) (vf_lit ⟨_, ⟨rfl, rfl, trivial⟩, rfl⟩ vf_nil))))))
end
end Go.Proofs.YthhkmmcgjnecbaaGreatDoor
namespace Go.Dv
open Go Go.ChangeShapes Go.WideShapes
theorem returnsInHanded_both {H : Type} {enc : TypeId × Value → H} {a : Assume} {C : Checked} {os : Os} {f : FuncId} {fn : Func} {s : ChangeSpec} {conds : List PathCond} {apart fresh handsOn again : Bool} {X : World → Array Value → Prop}
    (hX : ∀ (w w' : World) (args : Array Value), w.heap = w'.heap → X w args → X w' args)
    (own : ownKnob C.prog.godebug = none) (started : os.Started) (noInit : C.prog.inits.idxOf? f = none) (hfn : C.prog.funcs[f]? = some fn)
    (witness : ∃ (w : World) (tape : Tape) (i : Input), w.os = os ∧ (w.forCall tape i).Shaped C.prog ∧ i.vars = [] ∧ Input.okWide C.prog (w.forCall tape i) .any w.heap.size f i ∧
      ((s.pre enc C.prog fn conds apart (w.forCall tape i).memory i.args ∧ X (w.forCall tape i).memory i.args) ∧ sizedMet enc C.prog fn (OpenSpec.ofChange s) apart (w.forCall tape i).memory i.args) ∧ a.holds C.prog (lone (Frame.enter C.prog f i.args .normal) [] (w.forCall tape i)))
    (contract : ∀ (W : World) (base : Nat) (args : Array Value) (ds gs : List (DataW H)) (before : List MemPlace),
      (∀ (j : Nat) t v, fn.params[j]? = some t → args[j]? = some v → Value.okWide C.prog W .any base t v) →
      DataW.Whole enc C.prog fn.params.toList s.vars apart W args.toList ds gs before →
      conds.all (PathCond.test C.prog ⟨fn.params.toList, ds, s.plain.varTypes C.prog, gs⟩) = true →
      X W args → W.ShapedOpen C.prog →
      Calls C.prog f args W fun e W' => ∃ v, e = .returned v ∧ s.post enc C.prog fn apart fresh handsOn again W args v W') :
    ReturnsInHanded a C os f .any (fun w args => (s.pre enc C.prog fn conds apart w args ∧ X w args) ∧ sizedMet enc C.prog fn (OpenSpec.ofChange s) apart w args) (s.post enc C.prog fn apart fresh handsOn again) := by
  refine returnsInHanded_of_calls own started noInit witness ?_
  intro w tape i _ hsh _ hok hpre hholds
  obtain ⟨_, _, _, fn', hfn', _, _, _, _, hval⟩ := hok
  have e : fn' = fn := Option.some.inj (hfn'.symm.trans hfn)
  subst e
  obtain ⟨⟨⟨ds, gs, before, hw, hc⟩, hx⟩, _⟩ := hpre
  have hw' := DataW.Whole.of_heap (w' := w.forCall tape i) (by rfl) hw
  refine (contract (w.forCall tape i) w.heap.size i.args ds gs before hval hw' hc (hX _ _ _ (by rfl) hx) hsh).mono fun e W' ⟨v, he, hp⟩ => ?_
  subst he
  exact ChangeSpec.post_blind hp
theorem post_old {H : Type} {enc : TypeId × Value → H} {P : Program} {f : Func} {s : ChangeSpec} {apart fresh handsOn again : Bool} {W W' : World} {args : Array Value} {v : Value} {ds gs : List (DataW H)} {before pa pv : List MemPlace}
    (hW : DataW.Whole enc P f.params.toList s.vars apart W args.toList ds gs before)
    (hres : ∀ (b : Nat) (sp : Nat → Bool) (hd : Bool), DataW.TrodAll enc P W' b sp hd f.resultTypes.toList (v.resultList f.resultTypes.size) (s.fn H (ds ++ gs)).results [])
    (hargs : ∀ sp : Nat → Bool, (∀ p ∈ before, sp p.block = true) → DataW.TrodAll enc P W' 0 sp true f.params.toList args.toList (s.fn H (ds ++ gs)).args pa)
    (hvars : ∀ sp : Nat → Bool, (∀ p ∈ before, sp p.block = true) → DataW.TrodVars enc P W' sp s.vars (s.fn H (ds ++ gs)).vars pv)
    (hps : before = pa ++ pv) (hk : W.keptBut W' (· ∈ before)) (hfz : ∀ a : Addr, a.block < W.heap.size → W'.frozen? a = W.frozen? a)
    (hok : ∀ (j : Nat) (t : TypeId) (r : Value), f.resultTypes[j]? = some t → (v.resultList f.resultTypes.size)[j]? = some r → Value.okWide P W' .any 0 t r) :
    s.post enc P f apart fresh handsOn again W args v W' := by
  have hold : ∀ p ∈ before, (fun b => decide (b < W.heap.size)) p.block = true := fun p hp => by simpa using hW.lt p hp
  have hlt : ∀ p ∈ before, p.block < W.heap.size := fun p hp => hW.lt p hp
  refine ⟨ds, gs, before, [], pa, pv, hW, hres _ _ _, hargs _ hold, hvars _ hold, World.keptBut_mono (fun p hp => ⟨hp, ?_⟩) hk, fun _ => ?_⟩
  · rw [hps, List.mem_append] at hp
    exact Or.inr hp
  · obtain ⟨_, _, _, _, _, hz, hn⟩ := hW
    refine ⟨hok, _, _, ([] ++ pa) ++ pv, ⟨[] ++ pa, pv, trodAll_append (hargs _ (fun _ _ => rfl)) (hres _ _ _), hvars _ (fun _ _ => rfl), rfl, ?_, ?_⟩, ?_⟩
    · intro b off hp
      have hp' : MemPlace.cell b off ∈ before := by rw [hps]; simpa using hp
      rw [hfz ⟨b, off, none⟩ (hlt _ hp')]
      exact hz b off hp'
    · intro ha
      have := hn ha
      rw [hps] at this
      simpa using this
    · intro p hp _
      rw [hps]
      simpa using hp
theorem glw_of {P : Program} {W : World} {t : TypeId} {zero : Array Value} {n1 : String} (h1 : P.globalNamed n1 = some 1) (ht : Lib.TabIs P W n1 .u64 Lib.pow10Tab)
    (h : W.ShapedOpen P) (hg : 0 < P.globals.size) (hr : ((begin P (fun _ _ => 0) default).world.heap[0]?).bind Obj.row? = some (zero, t)) (hz : zero.size = 1)
    (hb : P.buildable t = true) (hc : P.cellTypes P.depth t = some [t]) (hu : P.underlying t = some (.int .i64)) : GlW W (fun _ => False) := by
  intro x hx
  simp only [libVars, List.mem_cons, List.not_mem_nil, or_false] at hx
  rcases hx with rfl | rfl
  · refine ⟨id, ?_⟩
    unfold Lib.TabIs World.var? at ht
    rw [h1, Option.bind_some] at ht
    split at ht
    · rename_i cs ty lh hh
      exact ⟨cs, ty, lh, hh, Option.some.inj ht⟩
    · cases ht
  · refine ⟨id, ?_⟩
    obtain ⟨m, hm⟩ := Go.Proofs.cell_of_shapedOpen_int h hg hr hz hb hc hu
    unfold World.cell? at hm
    simp only at hm
    split at hm
    · rename_i cs ty lh hh
      exact ⟨cs, ty, lh, hh, m, hm⟩
    · cases hm
end Go.Dv
namespace Go.Proofs.YthhkmmcgjnecbaaGreatDoor
open Go Go.Dv Go.ChangeShapes Go.WideShapes Go.ChangeAt Go.RowKit
theorem own : ownKnob Tryz.prog.godebug = none := by kernel_rfl
theorem laidOut : laidOutB Tryz.prog = true := by kernel_rfl
theorem laid_glw {W : World} (hL : laidMetH Tryz.prog Rows.fnExactQueryTokensRow.laid W) (hs : W.ShapedOpen Tryz.prog) : GlW W (fun _ => False) := by
  rw [MakeChecks.laidMetH_plain _ _ _ (by kernel_rfl)] at hL
  have h2 : laidMet Tryz.prog ((((Rows.fnExactQueryTokensRow.laid.map (·.1)).getD 2 ""), Lib.tabData .u64 Lib.pow10Tab) :: Rows.fnExactQueryTokensRow.laid.drop 3) W := laidMet.tail (laidMet.tail hL)
  exact glw_of (t := 3) (zero := #[.int .i64 0]) (by kernel_rfl) (Lib.tabIs_of_head (g := 1) (t := 210) (e := 202) (n := 20) (by kernel_rfl) (by kernel_rfl) Tryz.underlying210 Tryz.underlying202 (by kernel_rfl) (by kernel_rfl) h2) hs (of_decide_eq_true (by kernel_rfl)) (by kernel_rfl) rfl (by kernel_rfl) (by kernel_rfl) Tryz.underlying3
theorem gr_frozen {W W' : World} (g : Go.Cv.Gr W W') : ∀ a : Addr, a.block < W.heap.size → W'.frozen? a = W.frozen? a := fun a ha => by
  unfold World.frozen?
  rw [g.keep a.block ha]
end Go.Proofs.YthhkmmcgjnecbaaGreatDoor
namespace Go.Proofs.YthhkmmcgjnecbaaGreatDoor
namespace fnExactQueryTokens
open Go Go.Dv Go.ChangeShapes Go.WideShapes Go.ChangeAt Go.RowKit
set_option maxRecDepth 100000 in
theorem lifted (os : Os) (started : os.Started) (H : Type) (enc : TypeId × Value → H) :
    ReturnsInHanded {} Tryz.checked os 3 .any (fun w args => (Rows.fnExactQueryTokensSpec.pre enc Tryz.prog Tryz.f3 Rows.fnExactQueryTokensRow.domain false w args ∧ laidMetH Tryz.prog Rows.fnExactQueryTokensRow.laid w) ∧ sizedMet enc Tryz.prog Tryz.f3 (OpenSpec.ofChange Rows.fnExactQueryTokensSpec) false w args)
      (Rows.fnExactQueryTokensSpec.post enc Tryz.prog Tryz.f3 false true false false) := by
  refine returnsInHanded_both (C := Tryz.checked) (X := fun w _ => laidMetH Tryz.prog Rows.fnExactQueryTokensRow.laid w) (fun _ _ _ hh h => h.of_heap hh) own started (by kernel_rfl) Tryz.func3
    (ChangeSpec.witness_shaped (enc := enc) (C := Tryz.checked) (os := os) (X := fun w _ => laidMetH Tryz.prog Rows.fnExactQueryTokensRow.laid w) false (World.laidAll Tryz.prog os Rows.fnExactQueryTokensRow.laid) #[.agg #[.bool false, .slice none 0 0, .slice none 0 0, .slice none 0 0, .slice none 0 0, .int .i64 0]] 8 (World.laidAll_os _ _ _)
      (World.shaped_of_ZipB (by kernel_rfl) (by kernel_rfl)) (by kernel_rfl) (by kernel_rfl) (by kernel_rfl)
      (by rw [MakeChecks.laidMetH_plain _ _ _ (by kernel_rfl)]; exact laidMet_laidAll _ (by kernel_rfl) (by kernel_rfl))) ?_
  intro W base args ds gs before hval0 hW _ hL hsh
  have hval : ∀ (j : Nat) t v, Tryz.f3.params[j]? = some t → args[j]? = some v → Value.okWide Tryz.prog W .any base t v := hval0
  have hW' := hW
  obtain ⟨p, q, hA0, hV, rfl, hfz, hnd⟩ := hW
  have hA : DataW.TrodAll enc Tryz.prog W 0 (fun _ => true) true Tryz.f3.params.toList args.toList ds p := hA0
  rw [Tryz.params3] at hA hval
  obtain ⟨v0, vs0, d0, ds0, p0, q0, hargs, rfl, rfl, h0, r0⟩ := trodAll_cons hA
  obtain ⟨rfl, rfl, rfl⟩ := trodAll_nil r0
  obtain rfl : args = #[v0] := by cases args; simp_all
  obtain ⟨rfl, rfl⟩ := trodVars_none hV
  obtain ⟨cs0, rfl, _⟩ := okWide_struct Tryz.underlying27 (hval 0 27 v0 rfl rfl)
  obtain ⟨n0, t0⟩ := h0
  obtain ⟨⟨x, hok⟩, F0, hx⟩ := (read_trees n0).2.2.2.2 _ _ t0
  clear hA0 hval0
  simp only [List.append_nil] at hW'
  have hlt : ∀ p ∈ p0, p.block < W.heap.size := fun p hp => hW'.lt p hp
  have hcall : Calls Tryz.prog 3 #[.agg cs0] W fun e w' => ∃ v, e = .returned v ∧ v = .bool true ∧ Go.Cv.Gr W w' := lawQT x hok W cs0.toList F0 hx (laid_glw hL hsh)
  refine hcall.mono fun e W' ⟨v, he, hr, g⟩ => ?_
  have hb : Below W.heap.size W W' := ⟨g.os, g.tape, g.output, g.size, g.keep⟩
  have hf := gr_frozen g
  subst he hr
  exact ⟨_, rfl, post_old (pa := p0) (pv := []) hW' (fun _ _ _ => (trodAll_cons_mk (shut_bool Tryz.underlying4 _) trodAll_mk0))
    (fun sp hsp => trodAll_mk1 (WideElems.Trod_stays (t := 27) laidOut (by kernel_rfl) (of_decide_eq_true (by kernel_rfl)) ⟨n0, t0⟩ (fun p hp => hb.same (hlt p hp)) (fun p hp => hsp p hp)))
    (fun _ _ => rfl) (by simp)
    (hb.frame _) hf (ok_one (by kernel_rfl) rfl (okWide_bool_mk Tryz.underlying4 _))⟩
theorem over : Rows.fnExactQueryTokensRow.holds Tryz.pinned (OpenSpec.ofChange Rows.fnExactQueryTokensSpec) :=
  OpenClaim.holds_of_wide 3 Tryz.f3 rfl rfl rfl rfl rfl rfl rfl ⟨rfl, rfl, rfl, rfl, rfl⟩ rfl rfl rfl rfl rfl (by kernel_rfl) Tryz.func3 (by kernel_rfl)
    (of_decide_eq_true (by kernel_rfl)) (by unfold Func.isWrapper; first | (rw [if_pos (by decide +kernel)]; kernel_rfl) | (rw [if_neg (by decide +kernel)]; exact ⟨rfl, rfl⟩))
    (fun os started H enc _ => lifted os started H enc)
theorem proved : Rows.FnExactQueryTokensCardSaid :=
  Claim7.holds_tied_plain_at .later [] [.data, .data, .data, .data, .pinned] true (true, "ed92d938908f816fa5e90a3e27b1f11c9a36ce279de5d5aaad6f86ebf041fc55") false over (fun _ h => by cases h) (by kernel_rfl) (fun _ h => by cases h) fnExactQueryTokens_row_tie rfl ⟨rfl, rfl⟩ (by kernel_rfl) rfl
    (fun f fn hf hfn => by
      obtain rfl : f = 3 := Option.some.inj ((show Tryz.prog.funcNamed Rows.fnExactQueryTokensRow.func = some 3 by kernel_rfl).symm.trans hf) |>.symm
      obtain rfl : fn = Tryz.f3 := (Option.some.inj (Tryz.func3.symm.trans hfn)).symm
      exact ⟨by kernel_rfl, fun j t ht => by
        rw [Tryz.params3] at ht
        have hm : t ∈ [27] := by simpa using Array.mem_of_getElem? ht
        have hall : ([27].all fun u => !Tryz.prog.wantsStandIn u) = true := by kernel_rfl
        exact (show Tryz.prog.wantsStandIn t = false by simpa using List.all_eq_true.1 hall t hm)⟩)
    (by kernel_rfl)
#print axioms proved
end fnExactQueryTokens
end Go.Proofs.YthhkmmcgjnecbaaGreatDoor
