/-
  The program makes a desk of a catalog as the reference does.
  Conditions: none.
-/
import Derived.Test.YtijldlppojdehaaGreatDoorDNG
import Derived.Test.YtijldlppojdehaaGreatDoorRows
import Derived.Test.YtijldlppojdehaaGreatDoorTie
import Derived.Test.YtijldlppojdehaaGreatDoorCards
import Derived.ProofKit
import Derived.OpenShut
import Derived.Lib.LaidTab
import Derived.Stop.LaidErr
import Derived.MakeChecks
import Derived.Lay
import Derived.SevenTiedAt
import Derived.RowKitTokens
set_option linter.unusedVariables false
set_option linter.unusedSimpArgs false
set_option linter.unusedSectionVars false
set_option maxRecDepth 8000
namespace Go.Proofs.YtijldlppojdehaaGreatDoor
open Go Go.Dv
open Go.Vc (D shrI xorI andI and255)
open Go.Cv
open Go.Vc (CellF ValsF callable Cells)
theorem relS_ag {P : Program} {w : World} {ds : List D} {vs : List Value} {F : List Nat} (h : ValsF w ds vs F) : RelS P w (fun _ => none) (fun _ => True) (.ag (csOf ds)) (.agg vs.toArray) := ⟨vs, rfl, csOf_rel h fun _ _ => trivial⟩
theorem plain_agi (ds : List D) (k : Int) : plainL ([S.ag (csOf ds), vi k].flatMap cellsS) = true := by
 simp only [List.flatMap_cons, List.flatMap_nil, List.append_nil, plainL_append, cellsS, plainL_csOf, Bool.true_and]; rfl
theorem box_at {w : World} {b : Nat} {vs : List Value} {t : TypeId} (hb : w.heap[b]? = some (.cells vs.toArray t (0, 0))) : Cells w b 0 vs := fun j v hj => by
 rw [Nat.zero_add]; exact box_cell hb (by simpa using hj)
theorem _root_.Go.Cv.Gr.box {w w' : World} {b : Nat} {o : Obj} (g : Gr w w') (hb : w.heap[b]? = some o) : w'.heap[b]? = some o := (g.keep b (Array.getElem?_eq_some_iff.1 hb).1).trans hb
theorem _root_.Go.Cv.ChL.box {F : List Nat} {w w' : World} {b : Nat} {o : Obj} (g : ChL F w w') (hb : w.heap[b]? = some o) (hn : b ∉ F) : w'.heap[b]? = some o := (g.keep b (Array.getElem?_eq_some_iff.1 hb).1 hn).trans hb
theorem obj_lt {w : World} {b : Nat} {o : Obj} (hb : w.heap[b]? = some o) : b < w.heap.size := (Array.getElem?_eq_some_iff.1 hb).1
theorem glw_lt {w : World} (hg : GlW w (fun _ => False)) : ∀ t ∈ libVars, t.1 < w.heap.size := fun t ht => by
 obtain ⟨_, cs, ty, lh, h, _⟩ := hg t ht
 exact obj_lt h
theorem one' {w : World} {ds : List D} {vs : List Value} {F : List Nat} (h : ValsF w ds vs F) : ∀ v ∈ vs, v.oneCell' = true := fun v hv => by
 have := h.oneCell v hv
 revert this
 cases v <;> simp [Go.Vc.oneCell, Value.oneCell']
theorem box_fill {w w1 w2 : World} {b : Nat} {t : TypeId} {z vs : List Value} (hb : b = w.heap.size) (h1 : w1 = w.alloc (.cells z.toArray t)) (h2 : w1.setRow b vs.toArray = w2) (hl : vs.length = z.length) : w2.heap[b]? = some (.cells vs.toArray t (0, 0)) ∧ Gr w w2 := by
 obtain ⟨k1, k2⟩ := box_new hb h1
 subst h2
 refine ⟨setRow_heap w1 b _ _ t _ k1, Nat.le_trans k2.size (by simp), fun x hx => ?_, by rw [← k2.os]; rfl, by rw [← k2.tape]; rfl, by rw [← k2.output]; rfl⟩
 rw [← k2.keep x hx]
 have hne : x ≠ b := by omega
 simp [World.setRow, Array.getElem?_modify, Ne.symm hne]
theorem fpL_app : ∀ a b : List C, fpL (a ++ b) = fpL a ++ fpL b
 | [], _ => rfl
 | x :: r, b => by simp [fpL, fpL_app r b]
theorem res_tuT {P : Program} {w w' : World} {cs : List C} {ds : List D} {F : List (List Nat)} {x v : Value} (ht : Td cs ds F) (h : Go.Cv.Res P w w' (.tu [(cs, false), ([.v x], true)]) v) : ∃ vs G, v = .tuple #[.agg (vs : List Value).toArray, x] ∧ ValsF w' ds vs G ∧ New w w' G := by
 obtain ⟨β, ok, h, hno, hobj, hnew, hnd, hfr⟩ := h
 simp only [expS, expT, ht.exp, expC] at h
 obtain ⟨ys, rfl, h⟩ := h
 have hf : fps (.tu [(cs, false), ([.v x], true)]) [] = F := by simp [fps, cellsS, fpL_app, ht.fp, fpL, fpC, fpB]
 rw [hf] at hnd hfr
 match ys, h with
 | [y, z], h =>
  obtain ⟨h1, h2, _⟩ := h
  obtain ⟨vs, rfl, h1⟩ : ∃ vs : List Value, y = .agg vs.toArray ∧ _ := h1
  obtain ⟨⟨rfl, _⟩, _⟩ : (z = x ∧ _) ∧ True := h2
  obtain ⟨G, hG, hok, hs⟩ := dsOf_rel ht.dat h1
  exact ⟨vs, G, rfl, hG, ⟨(hs _ rfl).nodup hnd, fun b hb => (hfr b ((hs _ rfl).mem hb)).1, fun b hb => (hfr b ((hs _ rfl).mem hb)).2⟩⟩
 | [], h => exact h.elim
 | [_], h => exact h.2.elim
 | _ :: _ :: _ :: _, h => exact h.2.2.elim
theorem res_tu {P : Program} {w w' : World} {ds : List D} {x v : Value} (h : Go.Cv.Res P w w' (.tu [(csOf ds, false), ([.v x], true)]) v) : ∃ vs G, v = .tuple #[.agg (vs : List Value).toArray, x] ∧ ValsF w' ds vs G := by
 obtain ⟨β, ok, h, _⟩ := h
 simp only [expS, expT, expC_csOf, expC] at h
 obtain ⟨ys, rfl, h⟩ := h
 match ys, h with
 | [y, z], h =>
  obtain ⟨h1, h2, _⟩ := h
  obtain ⟨vs, rfl, h1⟩ : ∃ vs : List Value, y = .agg vs.toArray ∧ _ := h1
  obtain ⟨⟨rfl, _⟩, _⟩ : (z = x ∧ _) ∧ True := h2
  obtain ⟨G, hG⟩ := csOf_vals (fun _ _ _ _ => trivial) h1
  exact ⟨vs, G, rfl, hG⟩
 | [], h => exact h.elim
 | [_], h => exact h.2.elim
 | _ :: _ :: _ :: _, h => exact h.2.2.elim
theorem plain_agag (a b : List D) : plainL ([S.ag (csOf a), S.ag (csOf b)].flatMap cellsS) = true := by
 simp only [List.flatMap_cons, List.flatMap_nil, List.append_nil, plainL_append, cellsS, plainL_csOf, Bool.true_and]
theorem desk_dk (x : Option (List Table)) : deskV x = (.mk (.mk (x.getD [])) (eDb (x.getD []).length), x.isSome) := by cases x <;> rfl
theorem cnCols_le : ∀ l : List Col, cnL cnCol l = 2 * l.length
 | [] => rfl
 | x :: r => by
  obtain ⟨a, b⟩ := x
  rw [cnL, cnCols_le r, cnCol_mk, List.length_cons]; omega
theorem cnTables_le : ∀ l : List Table, (∀ t ∈ l, t.cols.length ≤ 4) → cnL cnTable l ≤ 9 * l.length
 | [], _ => Nat.le_refl _
 | x :: r, h => by
  have h1 := h x (by simp)
  have h2 := cnTables_le r fun t ht => h t (by simp [ht])
  obtain ⟨a, b⟩ := x
  have h1 : b.length ≤ 4 := h1
  have := cnCols_le b
  rw [cnL, cnTable_mk, List.length_cons]; omega
theorem cnDatas_z : ∀ n : Nat, cnL cnData (List.replicate n zData) = 0
 | 0 => rfl
 | n + 1 => by
  rw [List.replicate_succ, cnL, cnDatas_z n]; rfl
theorem desk_cn (s : ByteArray) : cnL cnTable ((catD cgS s).getD []) ≤ 100 ∧ cnL cnData (List.replicate ((catD cgS s).getD []).length zData) = 0 := by
 refine ⟨?_, cnDatas_z _⟩
 cases h : catD cgS s with
 | none => exact Nat.zero_le _
 | some t =>
  have hk : catOk t = true := by
   unfold catD at h
   split at h
   ·unfold catR at h
    split at h
    ·rename_i hc
     injection h with h
     rw [← h]; exact hc.2.1
    ·cases h
   ·cases h
  obtain ⟨h1, h2⟩ := catOk_tab hk
  have := cnTables_le t fun x hx => (h2 x hx).1
  show cnL cnTable t ≤ 100
  omega
set_option maxHeartbeats 4000000 in
theorem lawDN_c (s : ByteArray) (w : World) (hok : Go.Vc.okV (.string s)) (hG : GlW w (fun _ => False)) :
 callable Tryz.prog 3 = true ∧ Calls Tryz.prog 3 #[.string s] w fun e w' => ∃ v, e = .returned v ∧ v = .bool true ∧ Gr w w' := by
 have hGw := hG
 refine ⟨by kernel_rfl, ?_⟩
 have hcc := fun R => @calls_of_c Tryz.prog w 3 Tryz.f3 _ [.string s] R Tryz.func3 rfl (Nat.le_of_ble_eq_true rfl)
 refine hcc _ ?_
 clear hcc
 simp (maxSteps := 10000000) only [tt, cc, seval, cAlloc, cStoreA, cBox, Go.Vc.guardSlot, Tryz.f3]
 try refine fun _ => ?_
 refine And.intro (fun hbig => ?_) (fun hsm => ?_)
 ·first | exact Gr.refl w | exact ⟨rfl, Gr.refl w⟩
 have hs : s.size ≤ 1048576 := by omega
 have csp := DeskNew_d s
 have cim := iDeskNew_d s
 obtain ⟨hcn, hcn2⟩ := desk_cn s
 rw [desk_dk] at csp cim
 simp only [deS] at csp
 generalize ((catD cgS s).getD []) = tb at *
 generalize (catD cgS s).isSome = ok at *
 have gW := Gr.refl w
 obtain ⟨w1, hw1⟩ : ∃ w1, w1 = w := ⟨_, rfl⟩
 rw [← hw1] at hG gW hGw ⊢
 clear hw1
 obtain ⟨hc1, hk1⟩ := Go.Cv.Cl.at (P := Tryz.prog) (csp) (rfl) (vs := [.string s]) (w := w1) (⟨⟨rfl, hok⟩, trivial⟩) hG
 refine ⟨hc1, _, hk1, ?_⟩
 rintro _ w2 ⟨_, rfl, g1, hres⟩
 replace hG := glw_gr g1 hG
 replace gW := gW.trans g1
 obtain ⟨vs0, G0, rfl, hv0⟩ := res_tu hres
 have lv0 : vs0.length = 2 := hv0.length.trans (Desk.row_len _)
 refine Stp.go ?_
 simp (maxSteps := 10000000) only [tt, cc, seval, cAlloc, cStoreA, cBox, Go.Vc.guardSlot]
 refine ⟨_, rfl, ?_⟩
 simp (maxSteps := 10000000) only [tt, cc, seval, cAlloc, cStoreA, cBox, Go.Vc.guardSlot]
 refine ⟨_, rfl, ?_⟩
 try simp (maxSteps := 10000000) only [tt, cc, seval, cAlloc, cStoreA, cBox, Go.Vc.guardSlot]
 intro b3 w3x hb hw
 try simp (maxSteps := 10000000) only [tt, cc, seval, cAlloc, cStoreA, cBox, Go.Vc.guardSlot, lv0]
 refine ⟨?_, ⟨_, _, _, (box_new hb hw).1, Lh.zero _, ?_⟩, one' hv0, _, rfl, ?_⟩
 ·first | rfl | simp [lv0]
 ·simp [lv0]
 obtain ⟨w3, hw6⟩ : ∃ w3, w3x.setRow b3 vs0.toArray = w3 := ⟨_, rfl⟩
 try rw [hw6]
 obtain ⟨hb3, g2⟩ := box_fill hb hw hw6 (by simp [lv0])
 replace hG := glw_gr g2 hG
 replace gW := gW.trans g2
 replace hv0 := hv0.grow g2.grow
 refine Stp.go ?_
 simp (maxSteps := 10000000) only [tt, cc, seval, cAlloc, cStoreA, cBox, Go.Vc.guardSlot]
 have hV0 : ∀ x ∈ G0, x < w3.heap.size := fun x hx => Go.Cv.vis_lt (hv0.vis x hx)
 have sb3 : b3 < w3.heap.size := obj_lt hb3
 have s2 : w1.heap.size ≤ w3.heap.size := gW.size
 obtain ⟨hc3, hk3⟩ := Go.Cv.Cl.at (P := Tryz.prog) (cim) (rfl) (vs := [.string s]) (w := w3) (⟨⟨rfl, hok⟩, trivial⟩) hG
 refine ⟨hc3, _, hk3, ?_⟩
 rintro _ w4 ⟨_, ⟨F0, F1, rfl⟩, g3, hres⟩
 replace hG := glw_gr g3 hG
 replace gW := gW.trans g3
 replace hv0 := hv0.grow g3.grow
 replace hb3 := g3.box hb3
 obtain ⟨vs6, G6, rfl, hg0, nw6⟩ := res_tuT (told_td (Desk.mk (.mk tb) (eDb tb.length)).row [F0, F1] (by simp [Desk.row_mk, Catalog.row_mk, Db.row_mk, eDb, lc, tOk, int, bool, str])) hres
 have o6 := nw6.own
 have n6 := nw6.nodup
 have l6 := nw6.new
 have lv6 : vs6.length = 2 := hg0.length.trans (Desk.row_len _)
 refine Stp.go ?_
 simp (maxSteps := 10000000) only [tt, cc, seval, cAlloc, cStoreA, cBox, Go.Vc.guardSlot]
 have u6 : ∀ x ∈ G6, x < w4.heap.size := nw6.lt
 have s4 : w3.heap.size ≤ w4.heap.size := g3.size
 refine ⟨_, rfl, ?_⟩
 simp (maxSteps := 10000000) only [tt, cc, seval, cAlloc, cStoreA, cBox, Go.Vc.guardSlot]
 refine ⟨_, rfl, ?_⟩
 try simp (maxSteps := 10000000) only [tt, cc, seval, cAlloc, cStoreA, cBox, Go.Vc.guardSlot]
 intro b5 w5x hb hw
 try simp (maxSteps := 10000000) only [tt, cc, seval, cAlloc, cStoreA, cBox, Go.Vc.guardSlot, lv6]
 refine ⟨?_, ⟨_, _, _, (box_new hb hw).1, Lh.zero _, ?_⟩, one' hg0, _, rfl, ?_⟩
 ·first | rfl | simp [lv6]
 ·simp [lv6]
 obtain ⟨w5, hw6⟩ : ∃ w5, w5x.setRow b5 vs6.toArray = w5 := ⟨_, rfl⟩
 try rw [hw6]
 obtain ⟨hb5, g4⟩ := box_fill hb hw hw6 (by simp [lv6])
 replace hG := glw_gr g4 hG
 replace gW := gW.trans g4
 replace hv0 := hv0.grow g4.grow
 replace hb3 := g4.box hb3
 replace hg0 := hg0.grow g4.grow
 replace o6 := o6.grow g4.grow
 refine Stp.go ?_
 simp (maxSteps := 10000000) only [tt, cc, seval, cAlloc, cStoreA, cBox, Go.Vc.guardSlot]
 have sb5 : w4.heap.size ≤ b5 := by
  have := hb
  omega
 refine ⟨vs6, lv6, box_at hb5, ?_⟩
 try simp (maxSteps := 10000000) only [tt, cc, seval, cAlloc, cStoreA, cBox, Go.Vc.guardSlot]
 refine ⟨vs0, lv0, box_at hb3, ?_⟩
 try simp (maxSteps := 10000000) only [tt, cc, seval, cAlloc, cStoreA, cBox, Go.Vc.guardSlot]
 obtain ⟨hc5, hk5⟩ := Go.Cv.Cl.at (P := Tryz.prog) (eqDesk_d tb tb.length) (plain_agag _ _) (vs := [.agg vs6.toArray, .agg vs0.toArray]) (w := w5) (⟨relS_ag hg0, relS_ag hv0, trivial⟩) hG
 refine ⟨hc5, _, hk5, ?_⟩
 rintro _ w6 ⟨_, rfl, g5, hres⟩
 replace hG := glw_gr g5 hG
 replace gW := gW.trans g5
 replace hv0 := hv0.grow g5.grow
 replace hb3 := g5.box hb3
 replace hg0 := hg0.grow g5.grow
 replace o6 := o6.grow g5.grow
 replace hb5 := g5.box hb5
 obtain rfl := hres.val
 refine Stp.go ?_
 simp (maxSteps := 10000000) only [tt, cc, seval, cAlloc, cStoreA, cBox, Go.Vc.guardSlot, Bool.not_true, decide_not, decide_true, ne_eq, not_true_eq_false, decide_false, Bool.false_eq_true]
 refine ⟨vs6, lv6, box_at hb5, ?_⟩
 try simp (maxSteps := 10000000) only [tt, cc, seval, cAlloc, cStoreA, cBox, Go.Vc.guardSlot]
 have d6 : ∀ t, t < w3.heap.size → t ∉ G6 := fun t ht hm => by have := l6 t hm; omega
 obtain ⟨hc6, hk6⟩ := markDesk_c tb (List.replicate tb.length zData) (markDatas_z tb.length) 1 w6 vs6 G6 hg0 n6 o6 hG (fun t ht => d6 _ (Nat.lt_of_lt_of_le (glw_lt hGw t ht) (by omega))) (by omega) (by omega)
 refine ⟨hc6, _, hk6, ?_⟩
 rintro _ w7 ⟨rfl, hg0, o6, gc⟩
 replace hb3 := gc.box hb3 (d6 _ (by omega))
 replace hb5 := gc.box hb5 (fun hm => by have := u6 _ hm; omega)
 replace hG := glw_chl gc hG (fun t ht => d6 _ (Nat.lt_of_lt_of_le (glw_lt hGw t ht) (by omega)))
 replace gW := gW.chl_trans gc fun x hx => by have := l6 x hx; omega
 replace hv0 := hv0.chg gc.chg fun x hx => d6 x (by have := hV0 x hx; omega)
 have held := heldDesk_d tb (List.replicate tb.length zData) (heldDatas_z tb.length) 1 (by omega) (by omega)
 have hneg : ¬ (1 + (cnL cnTable tb : Int) + (cnL cnData (List.replicate tb.length zData) : Int) < 0) := by omega
 generalize 1 + (cnL cnTable tb : Int) + (cnL cnData (List.replicate tb.length zData) : Int) = mm at *
 refine Stp.go ?_
 simp (maxSteps := 10000000) only [tt, cc, seval, cAlloc, cStoreA, cBox, Go.Vc.guardSlot]
 refine ⟨vs6, lv6, box_at hb5, ?_⟩
 try simp (maxSteps := 10000000) only [tt, cc, seval, cAlloc, cStoreA, cBox, Go.Vc.guardSlot]
 obtain ⟨hc7, hk7⟩ := Go.Cv.Cl.at (P := Tryz.prog) (held) (plain_agi _ _) (vs := [.agg vs6.toArray, .int .i64 1]) (w := w7) (⟨relS_ag hg0, ⟨rfl, trivial⟩, trivial⟩) hG
 refine ⟨hc7, _, hk7, ?_⟩
 rintro _ w8 ⟨_, rfl, g7, hres⟩
 replace hG := glw_gr g7 hG
 replace gW := gW.trans g7
 replace hv0 := hv0.grow g7.grow
 replace hb3 := g7.box hb3
 replace hg0 := hg0.grow g7.grow
 replace o6 := o6.grow g7.grow
 replace hb5 := g7.box hb5
 obtain rfl := hres.val
 refine Stp.go ?_
 simp (maxSteps := 10000000) only [tt, cc, seval, cAlloc, cStoreA, cBox, Go.Vc.guardSlot, decide_eq_false hneg, decide_true, Bool.not_true, eq_self, ne_eq, not_true_eq_false, decide_false, Bool.false_eq_true]
 obtain ⟨hc8, hk8⟩ := Go.Cv.Cl.at (P := Tryz.prog) (cim) (rfl) (vs := [.string s]) (w := w8) (⟨⟨rfl, hok⟩, trivial⟩) hG
 refine ⟨hc8, _, hk8, ?_⟩
 rintro _ w9 ⟨_, ⟨F2, F3, rfl⟩, g8, hres⟩
 replace hG := glw_gr g8 hG
 replace gW := gW.trans g8
 replace hv0 := hv0.grow g8.grow
 replace hb3 := g8.box hb3
 replace hg0 := hg0.grow g8.grow
 replace o6 := o6.grow g8.grow
 replace hb5 := g8.box hb5
 obtain ⟨vs8, G10, rfl, hh0, _⟩ := res_tuT (told_td (Desk.mk (.mk tb) (eDb tb.length)).row [F2, F3] (by simp [Desk.row_mk, Catalog.row_mk, Db.row_mk, eDb, lc, tOk, int, bool, str])) hres
 have lv8 : vs8.length = 2 := hh0.length.trans (Desk.row_len _)
 refine Stp.go ?_
 simp (maxSteps := 10000000) only [tt, cc, seval, cAlloc, cStoreA, cBox, Go.Vc.guardSlot]
 refine ⟨_, rfl, ?_⟩
 simp (maxSteps := 10000000) only [tt, cc, seval, cAlloc, cStoreA, cBox, Go.Vc.guardSlot]
 refine ⟨_, rfl, ?_⟩
 try simp (maxSteps := 10000000) only [tt, cc, seval, cAlloc, cStoreA, cBox, Go.Vc.guardSlot]
 intro b9 w10x hb hw
 try simp (maxSteps := 10000000) only [tt, cc, seval, cAlloc, cStoreA, cBox, Go.Vc.guardSlot, lv8]
 refine ⟨?_, ⟨_, _, _, (box_new hb hw).1, Lh.zero _, ?_⟩, one' hh0, _, rfl, ?_⟩
 ·first | rfl | simp [lv8]
 ·simp [lv8]
 obtain ⟨w10, hw6⟩ : ∃ w10, w10x.setRow b9 vs8.toArray = w10 := ⟨_, rfl⟩
 try rw [hw6]
 obtain ⟨hb9, g9⟩ := box_fill hb hw hw6 (by simp [lv8])
 replace hG := glw_gr g9 hG
 replace gW := gW.trans g9
 replace hv0 := hv0.grow g9.grow
 replace hb3 := g9.box hb3
 replace hg0 := hg0.grow g9.grow
 replace o6 := o6.grow g9.grow
 replace hb5 := g9.box hb5
 replace hh0 := hh0.grow g9.grow
 refine Stp.go ?_
 simp (maxSteps := 10000000) only [tt, cc, seval, cAlloc, cStoreA, cBox, Go.Vc.guardSlot]
 refine ⟨vs8, lv8, box_at hb9, ?_⟩
 try simp (maxSteps := 10000000) only [tt, cc, seval, cAlloc, cStoreA, cBox, Go.Vc.guardSlot]
 refine ⟨vs0, lv0, box_at hb3, ?_⟩
 try simp (maxSteps := 10000000) only [tt, cc, seval, cAlloc, cStoreA, cBox, Go.Vc.guardSlot]
 obtain ⟨hc10, hk10⟩ := Go.Cv.Cl.at (P := Tryz.prog) (eqDesk_d tb tb.length) (plain_agag _ _) (vs := [.agg vs8.toArray, .agg vs0.toArray]) (w := w10) (⟨relS_ag hh0, relS_ag hv0, trivial⟩) hG
 refine ⟨hc10, _, hk10, ?_⟩
 rintro _ w11 ⟨_, rfl, g10, hres⟩
 replace hG := glw_gr g10 hG
 replace gW := gW.trans g10
 replace hv0 := hv0.grow g10.grow
 replace hb3 := g10.box hb3
 replace hg0 := hg0.grow g10.grow
 replace o6 := o6.grow g10.grow
 replace hb5 := g10.box hb5
 replace hh0 := hh0.grow g10.grow
 replace hb9 := g10.box hb9
 obtain rfl := hres.val
 refine Stp.go ?_
 simp (maxSteps := 10000000) only [tt, cc, seval, cAlloc, cStoreA, cBox, Go.Vc.guardSlot, Bool.not_true, decide_not, decide_true, ne_eq, not_true_eq_false, decide_false, Bool.false_eq_true]
 refine ⟨vs6, lv6, box_at hb5, ?_⟩
 try simp (maxSteps := 10000000) only [tt, cc, seval, cAlloc, cStoreA, cBox, Go.Vc.guardSlot]
 obtain ⟨hc11, hk11⟩ := Go.Cv.Cl.at (P := Tryz.prog) (held) (plain_agi _ _) (vs := [.agg vs6.toArray, .int .i64 1]) (w := w11) (⟨relS_ag hg0, ⟨rfl, trivial⟩, trivial⟩) hG
 refine ⟨hc11, _, hk11, ?_⟩
 rintro _ w12 ⟨_, rfl, g11, hres⟩
 replace hG := glw_gr g11 hG
 replace gW := gW.trans g11
 replace hv0 := hv0.grow g11.grow
 replace hb3 := g11.box hb3
 replace hg0 := hg0.grow g11.grow
 replace o6 := o6.grow g11.grow
 replace hb5 := g11.box hb5
 replace hh0 := hh0.grow g11.grow
 replace hb9 := g11.box hb9
 obtain rfl := hres.val
 refine Stp.go ?_
 simp (maxSteps := 10000000) only [tt, cc, seval, cAlloc, cStoreA, cBox, Go.Vc.guardSlot, decide_eq_false hneg, decide_true, Bool.not_true, eq_self, ne_eq, not_true_eq_false, decide_false, Bool.false_eq_true]
 first | exact gW | exact ⟨rfl, gW⟩
end Go.Proofs.YtijldlppojdehaaGreatDoor
set_option maxRecDepth 8000
namespace Go.Dv
open Go Go.ChangeShapes Go.WideShapes
theorem returnsInHanded_both {H : Type} {enc : TypeId × Value → H} {a : Assume} {C : Checked} {os : Os} {f : FuncId} {fn : Func} {s : ChangeSpec} {conds : List PathCond} {apart fresh handsOn again : Bool} {X : World → Array Value → Prop}
 (hX : ∀ (w w' : World) (args : Array Value), w.heap = w'.heap → X w args → X w' args)
 (own : ownKnob C.prog.godebug = none) (started : os.Started) (noInit : C.prog.inits.idxOf? f = none) (hfn : C.prog.funcs[f]? = some fn)
 (witness : ∃ (w : World) (tape : Tape) (i : Input), w.os = os ∧ (w.forCall tape i).Shaped C.prog ∧ i.vars = [] ∧ Input.okWide C.prog (w.forCall tape i) .any w.heap.size f i ∧
   ((s.pre enc C.prog fn conds apart (w.forCall tape i).memory i.args ∧ X (w.forCall tape i).memory i.args) ∧ sizedMet enc C.prog fn (OpenSpec.ofChange s) apart (w.forCall tape i).memory i.args) ∧ a.holds C.prog (lone (Frame.enter C.prog f i.args .normal) [] (w.forCall tape i)))
 (contract : ∀ (W : World) (base : Nat) (args : Array Value) (ds gs : List (DataW H)) (before : List MemPlace),
   (∀ (j : Nat) t v, fn.params[j]? = some t → args[j]? = some v → Value.okWide C.prog W .any base t v) →
   DataW.Whole enc C.prog fn.params.toList s.vars apart W args.toList ds gs before →
   conds.all (PathCond.test C.prog ⟨fn.params.toList, ds, s.plain.varTypes C.prog, gs⟩) = true →
   X W args → W.ShapedOpen C.prog →
   Calls C.prog f args W fun e W' => ∃ v, e = .returned v ∧ s.post enc C.prog fn apart fresh handsOn again W args v W') :
 ReturnsInHanded a C os f .any (fun w args => (s.pre enc C.prog fn conds apart w args ∧ X w args) ∧ sizedMet enc C.prog fn (OpenSpec.ofChange s) apart w args) (s.post enc C.prog fn apart fresh handsOn again) := by
 refine returnsInHanded_of_calls own started noInit witness ?_
 intro w tape i _ hsh _ hok hpre hholds
 obtain ⟨_, _, _, fn', hfn', _, _, _, _, hval⟩ := hok
 have e : fn' = fn := Option.some.inj (hfn'.symm.trans hfn)
 subst e
 obtain ⟨⟨⟨ds, gs, before, hw, hc⟩, hx⟩, _⟩ := hpre
 have hw' := DataW.Whole.of_heap (w' := w.forCall tape i) (by rfl) hw
 refine (contract (w.forCall tape i) w.heap.size i.args ds gs before hval hw' hc (hX _ _ _ (by rfl) hx) hsh).mono fun e W' ⟨v, he, hp⟩ => ?_
 subst he
 exact ChangeSpec.post_blind hp
theorem post_old {H : Type} {enc : TypeId × Value → H} {P : Program} {f : Func} {s : ChangeSpec} {apart fresh handsOn again : Bool} {W W' : World} {args : Array Value} {v : Value} {ds gs : List (DataW H)} {before pa pv : List MemPlace}
 (hW : DataW.Whole enc P f.params.toList s.vars apart W args.toList ds gs before)
 (hres : ∀ (b : Nat) (sp : Nat → Bool) (hd : Bool), DataW.TrodAll enc P W' b sp hd f.resultTypes.toList (v.resultList f.resultTypes.size) (s.fn H (ds ++ gs)).results [])
 (hargs : ∀ sp : Nat → Bool, (∀ p ∈ before, sp p.block = true) → DataW.TrodAll enc P W' 0 sp true f.params.toList args.toList (s.fn H (ds ++ gs)).args pa)
 (hvars : ∀ sp : Nat → Bool, (∀ p ∈ before, sp p.block = true) → DataW.TrodVars enc P W' sp s.vars (s.fn H (ds ++ gs)).vars pv)
 (hps : before = pa ++ pv) (hk : W.keptBut W' (· ∈ before)) (hfz : ∀ a : Addr, a.block < W.heap.size → W'.frozen? a = W.frozen? a)
 (hok : ∀ (j : Nat) (t : TypeId) (r : Value), f.resultTypes[j]? = some t → (v.resultList f.resultTypes.size)[j]? = some r → Value.okWide P W' .any 0 t r) :
 s.post enc P f apart fresh handsOn again W args v W' := by
 have hold : ∀ p ∈ before, (fun b => decide (b < W.heap.size)) p.block = true := fun p hp => by simpa using hW.lt p hp
 have hlt : ∀ p ∈ before, p.block < W.heap.size := fun p hp => hW.lt p hp
 refine ⟨ds, gs, before, [], pa, pv, hW, hres _ _ _, hargs _ hold, hvars _ hold, World.keptBut_mono (fun p hp => ⟨hp, ?_⟩) hk, fun _ => ?_⟩
 ·rw [hps, List.mem_append] at hp
  exact Or.inr hp
 ·obtain ⟨_, _, _, _, _, hz, hn⟩ := hW
  refine ⟨hok, _, _, ([] ++ pa) ++ pv, ⟨[] ++ pa, pv, trodAll_append (hargs _ (fun _ _ => rfl)) (hres _ _ _), hvars _ (fun _ _ => rfl), rfl, ?_, ?_⟩, ?_⟩
  ·intro b off hp
   have hp' : MemPlace.cell b off ∈ before := by rw [hps]; simpa using hp
   rw [hfz ⟨b, off, none⟩ (hlt _ hp')]
   exact hz b off hp'
  ·intro ha
   have := hn ha
   rw [hps] at this
   simpa using this
  ·intro p hp _
   rw [hps]
   simpa using hp
theorem glw_of {P : Program} {W : World} {t tp4 tp5 : TypeId} {zero : Array Value} {n1 n4 n5 : String} {a4 a5 : Value} (h1 : P.globalNamed n1 = some 5) (ht : Lib.TabIs P W n1 .u64 Lib.pow10Tab)
 (h : W.ShapedOpen P) (hg : 0 < P.globals.size) (hr : ((begin P (fun _ _ => 0) default).world.heap[0]?).bind Obj.row? = some (zero, t)) (hz : zero.size = 1)
 (hb : P.buildable t = true) (hc : P.cellTypes P.depth t = some [t]) (hu : P.underlying t = some (.int .i64))
 (g4 : P.globalNamed n4 = some 1) (v4 : W.var? P n4 = some #[.iface tp4 a4]) (g5 : P.globalNamed n5 = some 2) (v5 : W.var? P n5 = some #[.iface tp5 a5]) : GlW W (fun _ => False) := by
 intro x hx
 simp only [libVars, List.mem_cons, List.not_mem_nil, or_false] at hx
 rcases hx with rfl | rfl | rfl | rfl
 ·refine ⟨id, ?_⟩
  unfold Lib.TabIs World.var? at ht
  rw [h1, Option.bind_some] at ht
  split at ht
  ·rename_i cs ty lh hh
   exact ⟨cs, ty, lh, hh, Option.some.inj ht⟩
  ·cases ht
 ·refine ⟨id, ?_⟩
  obtain ⟨m, hm⟩ := Go.Proofs.cell_of_shapedOpen_int h hg hr hz hb hc hu
  unfold World.cell? at hm
  simp only at hm
  split at hm
  ·rename_i cs ty lh hh
   exact ⟨cs, ty, lh, hh, m, hm⟩
  ·cases hm
 ·refine ⟨id, ?_⟩
  unfold World.var? at v4
  rw [g4, Option.bind_some] at v4
  split at v4
  ·rename_i cs ty lh hh
   obtain rfl := Option.some.inj v4
   exact ⟨_, ty, lh, hh, _, rfl, .inr ⟨_, _, rfl⟩⟩
  ·cases v4
 ·refine ⟨id, ?_⟩
  unfold World.var? at v5
  rw [g5, Option.bind_some] at v5
  split at v5
  ·rename_i cs ty lh hh
   obtain rfl := Option.some.inj v5
   exact ⟨_, ty, lh, hh, _, rfl, .inr ⟨_, _, rfl⟩⟩
  ·cases v5
end Go.Dv
namespace Go.Proofs.YtijldlppojdehaaGreatDoor
open Go Go.Dv Go.ChangeShapes Go.WideShapes Go.ChangeAt Go.RowKit
open Go.Vc (D CellF ValsF read_slice list_cons list_one)
section
variable {H : Type} {enc : TypeId × Value → H} {W : World} {base : Nat} {sp : Nat → Bool} {held : Bool}
theorem cells9 : Tryz.prog.cellsOf 9 = 1 := by kernel_rfl
end
theorem own : ownKnob Tryz.prog.godebug = none := by kernel_rfl
theorem laidOut : laidOutB Tryz.prog = true := by kernel_rfl
theorem star : "*" ++ "errors.errorString" = "*errors.errorString" := by decide
theorem row258 (u : TypeId) (h : Tryz.prog.typeName? 3 u = some "*errors.errorString") : u = 258 :=
 typeName_ptr_named (nm := "errors.errorString") (by rw [star]; kernel_rfl) (by kernel_rfl) (by decide) u (by rw [star]; exact h)
theorem cells260 : Tryz.prog.cellsOf 260 = 1 := by kernel_rfl
theorem gr_frozen {W W' : World} (g : Go.Cv.Gr W W') : ∀ a : Addr, a.block < W.heap.size → W'.frozen? a = W.frozen? a := fun a ha => by
 unfold World.frozen?
 rw [g.keep a.block ha]
end Go.Proofs.YtijldlppojdehaaGreatDoor
set_option maxRecDepth 8000
namespace Go.Proofs.YtijldlppojdehaaGreatDoor
open Go Go.Dv Go.ChangeShapes Go.WideShapes Go.ChangeAt Go.RowKit
theorem laid_glwD {W : World} (hL : laidMetH Tryz.prog Rows.fnExactDeskNewRow.laid W) (hs : W.ShapedOpen Tryz.prog) : GlW W (fun _ => False) := by
 rw [MakeChecks.laidMetH_plain _ _ _ (by kernel_rfl)] at hL
 have h2 : laidMet Tryz.prog ((((Rows.fnExactDeskNewRow.laid.map (·.1)).getD 2 ""), Lib.tabData .u64 Lib.pow10Tab) :: Rows.fnExactDeskNewRow.laid.drop 3) W := laidMet.tail (laidMet.tail hL)
 have h4 : laidMet Tryz.prog (Rows.fnExactDeskNewRow.laid.drop 4) W := laidMet.tail (laidMet.tail h2)
 have h5 : laidMet Tryz.prog (Rows.fnExactDeskNewRow.laid.drop 5) W := laidMet.tail h4
 obtain ⟨a5, s5, v5, _⟩ := laid_sentinel (g := 2) (ti := 220) (tp := 258) (te := 260) (ts := 9) h4 (by kernel_rfl) (by kernel_rfl) Tryz.underlying220 row258 Tryz.underlying258 Tryz.underlying260 rfl rfl Tryz.underlying9 cells260 cells9
 obtain ⟨a4, s4, v4, _⟩ := laid_sentinel (g := 1) (ti := 220) (tp := 258) (te := 260) (ts := 9) h5 (by kernel_rfl) (by kernel_rfl) Tryz.underlying220 row258 Tryz.underlying258 Tryz.underlying260 rfl rfl Tryz.underlying9 cells260 cells9
 exact glw_of (t := 3) (zero := #[.int .i64 0]) (by kernel_rfl) (Lib.tabIs_of_head (g := 5) (t := 270) (e := 195) (n := 20) (by kernel_rfl) (by kernel_rfl) Tryz.underlying270 Tryz.underlying195 (by kernel_rfl) (by kernel_rfl) h2) hs (of_decide_eq_true (by kernel_rfl)) (by kernel_rfl) rfl (by kernel_rfl) (by kernel_rfl) Tryz.underlying3 (by kernel_rfl) v4 (by kernel_rfl) v5
namespace fnExactDeskNew
open Go Go.Dv Go.ChangeShapes Go.WideShapes Go.ChangeAt Go.RowKit
set_option maxRecDepth 100000 in
theorem lifted (os : Os) (started : os.Started) (H : Type) (enc : TypeId × Value → H) :
 ReturnsInHanded {} Tryz.checked os 3 .any (fun w args => (Rows.fnExactDeskNewSpec.pre enc Tryz.prog Tryz.f3 Rows.fnExactDeskNewRow.domain false w args ∧ laidMetH Tryz.prog Rows.fnExactDeskNewRow.laid w) ∧ sizedMet enc Tryz.prog Tryz.f3 (OpenSpec.ofChange Rows.fnExactDeskNewSpec) false w args)
  (Rows.fnExactDeskNewSpec.post enc Tryz.prog Tryz.f3 false true false false) := by
 refine returnsInHanded_both (C := Tryz.checked) (X := fun w _ => laidMetH Tryz.prog Rows.fnExactDeskNewRow.laid w) (fun _ _ _ hh h => h.of_heap hh) own started (by as_aux_lemma => kernel_rfl) Tryz.func3
  (ChangeSpec.witness_shaped (enc := enc) (C := Tryz.checked) (os := os) (X := fun w _ => laidMetH Tryz.prog Rows.fnExactDeskNewRow.laid w) false (World.laidAll Tryz.prog os Rows.fnExactDeskNewRow.laid) #[.string ByteArray.empty] 8 (World.laidAll_os _ _ _)
    (World.shaped_of_ZipB (by as_aux_lemma => kernel_rfl) (by as_aux_lemma => kernel_rfl)) (by as_aux_lemma => kernel_rfl) (by as_aux_lemma => kernel_rfl) (by as_aux_lemma => kernel_rfl)
    (by rw [MakeChecks.laidMetH_plain _ _ _ (by as_aux_lemma => kernel_rfl)]; exact laidMet_laidAll _ (by as_aux_lemma => kernel_rfl) (by as_aux_lemma => kernel_rfl))) ?_
 intro W base args ds gs before hval0 hW _ hL hsh
 have hval : ∀ (j : Nat) t v, Tryz.f3.params[j]? = some t → args[j]? = some v → Value.okWide Tryz.prog W .any base t v := hval0
 have hW' := hW
 obtain ⟨p, q, hA0, hV, rfl, hfz, hnd⟩ := hW
 have hA : DataW.TrodAll enc Tryz.prog W 0 (fun _ => true) true Tryz.f3.params.toList args.toList ds p := hA0
 rw [Tryz.params3] at hA hval
 obtain ⟨v0, vs0, d0, ds0, p0, q0, hargs, rfl, rfl, h0, r0⟩ := trodAll_cons hA
 obtain ⟨rfl, rfl, rfl⟩ := trodAll_nil r0
 obtain rfl : args = #[v0] := by cases args; simp_all
 obtain ⟨rfl, rfl⟩ := trodVars_none hV
 have hv0 := hval 0 9 v0 rfl rfl
 obtain ⟨s0, rfl⟩ := okWide_string Tryz.underlying9 hv0
 have hok : Go.Vc.okV (.string s0) := by
  simp only [Value.okWide, Tryz.underlying9, Cell.okWide, Cell.ok] at hv0
  have hmx : IntKind.i64.max = 9223372036854775807 := rfl
  rw [hmx] at hv0
  show s0.size ≤ 9223372036854775807
  omega
 obtain ⟨n0, t0⟩ := h0
 clear hA0 hval0
 simp only [List.append_nil] at hW'
 have hlt : ∀ p ∈ p0, p.block < W.heap.size := fun p hp => hW'.lt p hp
 have hcall : Calls Tryz.prog 3 #[_] W fun e w' => ∃ v, e = .returned v ∧ v = .bool true ∧ Go.Cv.Gr W w' := (lawDN_c s0 W hok (laid_glwD hL hsh)).2
 refine hcall.mono fun e W' ⟨v, he, hr, g⟩ => ?_
 have hb : Below W.heap.size W W' := ⟨g.os, g.tape, g.output, g.size, g.keep⟩
 have hf := gr_frozen g
 subst he hr
 exact ⟨_, rfl, post_old (pa := p0) (pv := []) hW' (fun _ _ _ => (trodAll_cons_mk (shut_bool Tryz.underlying4 _) trodAll_mk0))
  (fun sp hsp => trodAll_mk1 (WideElems.Trod_stays (t := 9) laidOut (by as_aux_lemma => kernel_rfl) (of_decide_eq_true (by as_aux_lemma => kernel_rfl)) ⟨n0, t0⟩ (fun p hp => hb.same (hlt p hp)) (fun p hp => hsp p hp)))
  (fun _ _ => rfl) (by simp)
  (hb.frame _) hf (ok_one (by as_aux_lemma => kernel_rfl) rfl (okWide_bool_mk Tryz.underlying4 _))⟩
set_option maxHeartbeats 4000000 in
theorem jf : joinedFacts Tryz.prog 3 Tryz.f3 Rows.fnExactDeskNewSpec Rows.fnExactDeskNewRow = true := by
 unfold joinedFacts
 refine Bool.and_eq_true_iff.2 ⟨Bool.and_eq_true_iff.2 ⟨Bool.and_eq_true_iff.2 ⟨Bool.and_eq_true_iff.2 ⟨Bool.and_eq_true_iff.2 ⟨Bool.and_eq_true_iff.2 ⟨Bool.and_eq_true_iff.2 ⟨Bool.and_eq_true_iff.2 ⟨Bool.and_eq_true_iff.2 ⟨Bool.and_eq_true_iff.2 ⟨Bool.and_eq_true_iff.2 ⟨Bool.and_eq_true_iff.2 ⟨Bool.and_eq_true_iff.2 ⟨Bool.and_eq_true_iff.2 ⟨Bool.and_eq_true_iff.2 ⟨Bool.and_eq_true_iff.2 ⟨Bool.and_eq_true_iff.2 ⟨Bool.and_eq_true_iff.2 ⟨Bool.and_eq_true_iff.2 ⟨Bool.and_eq_true_iff.2 ⟨Bool.and_eq_true_iff.2 ⟨Bool.and_eq_true_iff.2 ⟨Bool.and_eq_true_iff.2 ⟨Bool.and_eq_true_iff.2 ⟨Bool.and_eq_true_iff.2 ⟨Bool.and_eq_true_iff.2 ⟨Bool.and_eq_true_iff.2 ⟨Bool.and_eq_true_iff.2 ⟨Bool.and_eq_true_iff.2 ⟨Bool.and_eq_true_iff.2 ⟨Bool.and_eq_true_iff.2 ⟨?_, ?_⟩, ?_⟩, ?_⟩, ?_⟩, ?_⟩, ?_⟩, ?_⟩, ?_⟩, ?_⟩, ?_⟩, ?_⟩, ?_⟩, ?_⟩, ?_⟩, ?_⟩, ?_⟩, ?_⟩, ?_⟩, ?_⟩, ?_⟩, ?_⟩, ?_⟩, ?_⟩, ?_⟩, ?_⟩, ?_⟩, ?_⟩, ?_⟩, ?_⟩, ?_⟩, ?_⟩
 all_goals as_aux_lemma => kernel_rfl
theorem fnamed : Tryz.prog.funcNamed Rows.fnExactDeskNewRow.func = some 3 := by kernel_rfl
set_option maxHeartbeats 4000000 in
theorem over : Rows.fnExactDeskNewRow.holds Tryz.pinned (OpenSpec.ofChange Rows.fnExactDeskNewSpec) :=
 OpenClaim.holds_of_wide 3 Tryz.f3 rfl rfl rfl rfl rfl rfl rfl ⟨rfl, rfl, rfl, rfl, rfl⟩ rfl rfl rfl rfl rfl fnamed Tryz.func3 jf
  (of_decide_eq_true (by as_aux_lemma => kernel_rfl)) (by unfold Func.isWrapper; first | (rw [if_pos (by decide +kernel)]; kernel_rfl) | (rw [if_neg (by decide +kernel)]; exact ⟨rfl, rfl⟩))
  (fun os started H enc _ => lifted os started H enc)
set_option maxHeartbeats 4000000 in
theorem proved : Rows.FnExactDeskNewCardSaid :=
 Claim7.holds_tied_plain_at .later [] [.data, .data, .data, .data, .sentinel, .sentinel, .pinned] true (true, "611aaf74a879254fa3a1379812155e018b819ed22a97eae299cbab41d76d90e0") true over (fun _ h => by cases h) (by as_aux_lemma => kernel_rfl) (fun _ h => by cases h) fnExactDeskNew_row_tie rfl ⟨rfl, rfl⟩ (by as_aux_lemma => kernel_rfl) rfl
  (fun f fn hf hfn => by
    obtain rfl : f = 3 := Option.some.inj (fnamed.symm.trans hf) |>.symm
    obtain rfl : fn = Tryz.f3 := (Option.some.inj (Tryz.func3.symm.trans hfn)).symm
    exact ⟨by as_aux_lemma => kernel_rfl, fun j t ht => by
     rw [Tryz.params3] at ht
     have hm : t ∈ [9] := by simpa using Array.mem_of_getElem? ht
     have hall : ([9].all fun u => !Tryz.prog.wantsStandIn u) = true := by as_aux_lemma => kernel_rfl
     exact (show Tryz.prog.wantsStandIn t = false by simpa using List.all_eq_true.1 hall t hm)⟩)
  (by as_aux_lemma => kernel_rfl)
#print axioms proved
end fnExactDeskNew
end Go.Proofs.YtijldlppojdehaaGreatDoor
