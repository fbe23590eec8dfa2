/-
  The program's TakeStmt returns what the reference's returns.
  Conditions: none.
-/
import Derived.Test.YteffjmaadkkmeaaGreatDoorYTextD
set_option linter.unusedVariables false
set_option linter.unusedSimpArgs false
set_option linter.unusedSectionVars false
set_option maxRecDepth 8000
namespace Go.Proofs.YteffjmaadkkmeaaGreatDoor
open Go Go.Dv
open Go.Vc (D shrI xorI andI and255)
open Go.Cv
open Go.Vc (CellF ValsF callable Cells)
set_option maxHeartbeats 4000000 in
theorem lawTS_c (a : List Tok) (w : World) (v0 : Value) (F : List Nat) (hq : CellF w (.sl a.length (a.flatMap Tok.row)) v0 F) (hG : GlW w (fun _ => False)) :
 callable Tryz.prog 5 = true ∧ Calls Tryz.prog 5 #[v0] w fun e w' => ∃ v, e = .returned v ∧ v = .bool true ∧ Gr w w' := by
 have hGw := hG
 refine ⟨by kernel_rfl, ?_⟩
 have hcc := fun R => @calls_of_c Tryz.prog w 5 Tryz.f5 _ [v0] R Tryz.func5 rfl (Nat.le_of_ble_eq_true rfl)
 refine hcc _ ?_
 clear hcc
 simp (maxSteps := 10000000) only [tt, c, cl, cg0, cg1, cOp, cCall, cLoad, cLoadA, cStore, cLoop, cEnd, cRet, argsV, regsV, Go.Vc.oneCell, Nat.add_zero, seval, cAlloc, cStoreA, cBox, Go.Vc.guardSlot, Tryz.f5]
 have gW := Gr.refl w
 have hF : ∀ x ∈ F, x < w.heap.size := fun x hx => Go.Cv.vis_lt (hq.vis _ x hx)
 obtain ⟨w1, hw1⟩ : ∃ w1, w1 = w := ⟨_, rfl⟩
 rw [← hw1] at hq hG gW hGw hF ⊢
 clear hw1
 obtain ⟨hc1, hk1⟩ := Go.Cv.Cl.at (P := Tryz.prog) (szToks_d a 1048576 (by omega) (by omega)) (rfl) (vs := [v0, .int .i64 1048576]) (w := w1) (⟨relS_sl hq, ⟨rfl, trivial⟩, trivial⟩) hG
 refine ⟨hc1, _, hk1, ?_⟩
 rintro _ w2 ⟨_, rfl, g1, hres⟩
 replace hq := hq.grow g1.grow
 replace hG := glw_gr g1 hG
 replace gW := gW.trans g1
 obtain rfl := hres.val
 refine Stp.go ?_
 simp (maxSteps := 10000000) only [tt, c, cl, cg0, cg1, cOp, cCall, cLoad, cLoadA, cStore, cLoop, cEnd, cRet, argsV, regsV, Go.Vc.oneCell, Nat.add_zero, seval, cAlloc, cStoreA, cBox, Go.Vc.guardSlot]
 refine And.intro (fun hneg => ?_) (fun hpos => ?_)
 ·first | exact gW | exact ⟨rfl, gW⟩
 have hsz : szToks a ≤ 1048576 := by
  unfold subL at hpos
  split at hpos
  ·omega
  ·exact absurd hpos (by decide)
 have hL := szToks_len hsz
 have hT := szToks_text hsz
 have hcn := takeS_cn (L := a) hL
 have csp := TakeStmt_d a hL hT
 have cim := iTakeStmt_d a hL hT
 generalize (takeS a).1 = e at *
 generalize (takeS a).2 = m at *
 obtain ⟨hc2, hk2⟩ := Go.Cv.Cl.at (P := Tryz.prog) (toToks_o a hsz) (rfl) (vs := [v0]) (w := w2) (⟨relS_sl hq, trivial⟩) hG
 refine ⟨hc2, _, hk2, ?_⟩
 rintro _ w3 ⟨_, rfl, g2, hres⟩
 replace hq := hq.grow g2.grow
 replace hG := glw_gr g2 hG
 replace gW := gW.trans g2
 obtain ⟨G3, hv, _⟩ := hres.owL (Tok.lits a)
 refine Stp.go ?_
 simp (maxSteps := 10000000) only [tt, c, cl, cg0, cg1, cOp, cCall, cLoad, cLoadA, cStore, cLoop, cEnd, cRet, argsV, regsV, Go.Vc.oneCell, Nat.add_zero, seval, cAlloc, cStoreA, cBox, Go.Vc.guardSlot]
 obtain ⟨hc3, hk3⟩ := Go.Cv.Cl.at (P := Tryz.prog) (csp) (rfl) (vs := [_]) (w := w3) (⟨relS_sl hv, trivial⟩) hG
 refine ⟨hc3, _, hk3, ?_⟩
 rintro _ w4 ⟨_, rfl, g3, hres⟩
 replace hq := hq.grow g3.grow
 replace hG := glw_gr g3 hG
 replace gW := gW.trans g3
 replace hv := hv.grow g3.grow
 obtain ⟨vs0, G0, rfl, hw0⟩ := res_tu hres
 have hlen0 : vs0.length = 12 := hw0.length.trans (Stmt.row_len e)
 refine Stp.go ?_
 simp (maxSteps := 10000000) only [tt, c, cl, cg0, cg1, cOp, cCall, cLoad, cLoadA, cStore, cLoop, cEnd, cRet, argsV, regsV, Go.Vc.oneCell, Nat.add_zero, seval, cAlloc, cStoreA, cBox, Go.Vc.guardSlot]
 refine ⟨_, rfl, ?_⟩
 simp (maxSteps := 10000000) only [tt, c, cl, cg0, cg1, cOp, cCall, cLoad, cLoadA, cStore, cLoop, cEnd, cRet, argsV, regsV, Go.Vc.oneCell, Nat.add_zero, seval, cAlloc, cStoreA, cBox, Go.Vc.guardSlot]
 refine ⟨_, rfl, ?_⟩
 try simp (maxSteps := 10000000) only [tt, c, cl, cg0, cg1, cOp, cCall, cLoad, cLoadA, cStore, cLoop, cEnd, cRet, argsV, regsV, Go.Vc.oneCell, Nat.add_zero, seval, cAlloc, cStoreA, cBox, Go.Vc.guardSlot]
 intro b4 w5x hb hw
 try simp (maxSteps := 10000000) only [tt, c, cl, cg0, cg1, cOp, cCall, cLoad, cLoadA, cStore, cLoop, cEnd, cRet, argsV, regsV, Go.Vc.oneCell, Nat.add_zero, seval, cAlloc, cStoreA, cBox, Go.Vc.guardSlot, hlen0]
 refine ⟨?_, ⟨_, _, _, (box_new hb hw).1, Lh.zero _, ?_⟩, one' hw0, _, rfl, ?_⟩
 ·first | rfl | simp [hlen0]
 ·simp [hlen0]
 obtain ⟨w5, hw6⟩ : ∃ w5, w5x.setRow b4 vs0.toArray = w5 := ⟨_, rfl⟩
 try rw [hw6]
 obtain ⟨hb4, g4⟩ := box_fill hb hw hw6 (by simp [hlen0])
 replace hq := hq.grow g4.grow
 replace hG := glw_gr g4 hG
 replace gW := gW.trans g4
 replace hw0 := hw0.grow g4.grow
 refine Stp.go ?_
 simp (maxSteps := 10000000) only [tt, c, cl, cg0, cg1, cOp, cCall, cLoad, cLoadA, cStore, cLoop, cEnd, cRet, argsV, regsV, Go.Vc.oneCell, Nat.add_zero, seval, cAlloc, cStoreA, cBox, Go.Vc.guardSlot]
 have hG0 : ∀ x ∈ G0, x < w5.heap.size := fun x hx => Go.Cv.vis_lt (hw0.vis x hx)
 have sb4 : b4 < w5.heap.size := obj_lt hb4
 have s2 : w1.heap.size ≤ w5.heap.size := gW.size
 obtain ⟨hc5, hk5⟩ := Go.Cv.Cl.at (P := Tryz.prog) (toToks_o a hsz) (rfl) (vs := [v0]) (w := w5) (⟨relS_sl hq, trivial⟩) hG
 refine ⟨hc5, _, hk5, ?_⟩
 rintro _ w6 ⟨_, rfl, g5, hres⟩
 replace hq := hq.grow g5.grow
 replace hG := glw_gr g5 hG
 replace gW := gW.trans g5
 replace hw0 := hw0.grow g5.grow
 replace hb4 := g5.box hb4
 obtain ⟨G5, hx0, nw5⟩ := hres.owL (Tok.lits a)
 have o5 := nw5.own
 have n5 := nw5.nodup
 have l5 := nw5.new
 have u5 := nw5.lt
 refine Stp.go ?_
 simp (maxSteps := 10000000) only [tt, c, cl, cg0, cg1, cOp, cCall, cLoad, cLoadA, cStore, cLoop, cEnd, cRet, argsV, regsV, Go.Vc.oneCell, Nat.add_zero, seval, cAlloc, cStoreA, cBox, Go.Vc.guardSlot]
 have s3 : w5.heap.size ≤ w6.heap.size := g5.size
 obtain ⟨hc6, hk6⟩ := Go.Cv.Cl.at (P := Tryz.prog) (cim) (rfl) (vs := [_]) (w := w6) (⟨relS_sl hx0, trivial⟩) hG
 refine ⟨hc6, _, hk6, ?_⟩
 rintro _ w7 ⟨_, ⟨F0, F1, F2, F3, F4, F5, F6, F7, rfl⟩, g6, hres⟩
 replace hq := hq.grow g6.grow
 replace hG := glw_gr g6 hG
 replace gW := gW.trans g6
 replace hw0 := hw0.grow g6.grow
 replace hb4 := g6.box hb4
 replace hx0 := hx0.grow g6.grow
 replace o5 := o5.grow g6.grow
 obtain ⟨vs6, G6, rfl, hg0, nw6⟩ := res_tuT (told_td e.row [F0, F1, F2, F3, F4, F5, F6, F7] (by obtain ⟨kind, ⟨query_distinct, query_items, query_from_, query_where_, query_order, query_limit⟩, table, rows, cols, sets, where_⟩ := e; simp [Stmt.row_mk, Query.row_mk, tOk, int, bool, str])) hres
 have o6 := nw6.own
 have n6 := nw6.nodup
 have l6 := nw6.new
 have hlen6 : vs6.length = 12 := hg0.length.trans (Stmt.row_len e)
 refine Stp.go ?_
 simp (maxSteps := 10000000) only [tt, c, cl, cg0, cg1, cOp, cCall, cLoad, cLoadA, cStore, cLoop, cEnd, cRet, argsV, regsV, Go.Vc.oneCell, Nat.add_zero, seval, cAlloc, cStoreA, cBox, Go.Vc.guardSlot]
 have u6 : ∀ x ∈ G6, x < w7.heap.size := nw6.lt
 have s4 : w6.heap.size ≤ w7.heap.size := g6.size
 refine ⟨_, rfl, ?_⟩
 simp (maxSteps := 10000000) only [tt, c, cl, cg0, cg1, cOp, cCall, cLoad, cLoadA, cStore, cLoop, cEnd, cRet, argsV, regsV, Go.Vc.oneCell, Nat.add_zero, seval, cAlloc, cStoreA, cBox, Go.Vc.guardSlot]
 refine ⟨_, rfl, ?_⟩
 try simp (maxSteps := 10000000) only [tt, c, cl, cg0, cg1, cOp, cCall, cLoad, cLoadA, cStore, cLoop, cEnd, cRet, argsV, regsV, Go.Vc.oneCell, Nat.add_zero, seval, cAlloc, cStoreA, cBox, Go.Vc.guardSlot]
 intro b7 w8x hb hw
 try simp (maxSteps := 10000000) only [tt, c, cl, cg0, cg1, cOp, cCall, cLoad, cLoadA, cStore, cLoop, cEnd, cRet, argsV, regsV, Go.Vc.oneCell, Nat.add_zero, seval, cAlloc, cStoreA, cBox, Go.Vc.guardSlot, hlen6]
 refine ⟨?_, ⟨_, _, _, (box_new hb hw).1, Lh.zero _, ?_⟩, one' hg0, _, rfl, ?_⟩
 ·first | rfl | simp [hlen6]
 ·simp [hlen6]
 obtain ⟨w8, hw6⟩ : ∃ w8, w8x.setRow b7 vs6.toArray = w8 := ⟨_, rfl⟩
 try rw [hw6]
 obtain ⟨hb7, g7⟩ := box_fill hb hw hw6 (by simp [hlen6])
 replace hq := hq.grow g7.grow
 replace hG := glw_gr g7 hG
 replace gW := gW.trans g7
 replace hw0 := hw0.grow g7.grow
 replace hb4 := g7.box hb4
 replace hx0 := hx0.grow g7.grow
 replace o5 := o5.grow g7.grow
 replace hg0 := hg0.grow g7.grow
 replace o6 := o6.grow g7.grow
 refine Stp.go ?_
 simp (maxSteps := 10000000) only [tt, c, cl, cg0, cg1, cOp, cCall, cLoad, cLoadA, cStore, cLoop, cEnd, cRet, argsV, regsV, Go.Vc.oneCell, Nat.add_zero, seval, cAlloc, cStoreA, cBox, Go.Vc.guardSlot]
 have sb7 : w7.heap.size ≤ b7 := by
  have := hb
  omega
 refine ⟨vs6, hlen6, box_at hb7, ?_⟩
 try simp (maxSteps := 10000000) only [tt, c, cl, cg0, cg1, cOp, cCall, cLoad, cLoadA, cStore, cLoop, cEnd, cRet, argsV, regsV, Go.Vc.oneCell, Nat.add_zero, seval, cAlloc, cStoreA, cBox, Go.Vc.guardSlot]
 refine ⟨vs0, hlen0, box_at hb4, ?_⟩
 try simp (maxSteps := 10000000) only [tt, c, cl, cg0, cg1, cOp, cCall, cLoad, cLoadA, cStore, cLoop, cEnd, cRet, argsV, regsV, Go.Vc.oneCell, Nat.add_zero, seval, cAlloc, cStoreA, cBox, Go.Vc.guardSlot]
 obtain ⟨hc8, hk8⟩ := Go.Cv.Cl.at (P := Tryz.prog) (eqStmt_d e) (plain_agag _ _) (vs := [.agg vs6.toArray, .agg vs0.toArray]) (w := w8) (⟨relS_ag hg0, relS_ag hw0, trivial⟩) hG
 refine ⟨hc8, _, hk8, ?_⟩
 rintro _ w9 ⟨_, rfl, g8, hres⟩
 replace hq := hq.grow g8.grow
 replace hG := glw_gr g8 hG
 replace gW := gW.trans g8
 replace hw0 := hw0.grow g8.grow
 replace hb4 := g8.box hb4
 replace hx0 := hx0.grow g8.grow
 replace o5 := o5.grow g8.grow
 replace hg0 := hg0.grow g8.grow
 replace o6 := o6.grow g8.grow
 replace hb7 := g8.box hb7
 obtain rfl := hres.val
 refine Stp.go ?_
 simp (maxSteps := 10000000) only [tt, c, cl, cg0, cg1, cOp, cCall, cLoad, cLoadA, cStore, cLoop, cEnd, cRet, argsV, regsV, Go.Vc.oneCell, Nat.add_zero, seval, cAlloc, cStoreA, cBox, Go.Vc.guardSlot, Bool.not_true, decide_not, decide_true, ne_eq, not_true_eq_false, decide_false, Bool.false_eq_true]
 obtain ⟨hc9, hk9⟩ := Go.Cv.Cl.at (P := Tryz.prog) (toToks_o a hsz) (rfl) (vs := [v0]) (w := w9) (⟨relS_sl hq, trivial⟩) hG
 refine ⟨hc9, _, hk9, ?_⟩
 rintro _ w10 ⟨_, rfl, g9, hres⟩
 replace hq := hq.grow g9.grow
 replace hG := glw_gr g9 hG
 replace gW := gW.trans g9
 replace hw0 := hw0.grow g9.grow
 replace hb4 := g9.box hb4
 replace hx0 := hx0.grow g9.grow
 replace o5 := o5.grow g9.grow
 replace hg0 := hg0.grow g9.grow
 replace o6 := o6.grow g9.grow
 replace hb7 := g9.box hb7
 obtain ⟨G9, hv, _⟩ := hres.owL (Tok.lits a)
 refine Stp.go ?_
 simp (maxSteps := 10000000) only [tt, c, cl, cg0, cg1, cOp, cCall, cLoad, cLoadA, cStore, cLoop, cEnd, cRet, argsV, regsV, Go.Vc.oneCell, Nat.add_zero, seval, cAlloc, cStoreA, cBox, Go.Vc.guardSlot]
 obtain ⟨hc10, hk10⟩ := Go.Cv.Cl.at (P := Tryz.prog) (eqToks_d a) (rfl) (vs := [_, _]) (w := w10) (⟨relS_sl hx0, relS_sl hv, trivial⟩) hG
 refine ⟨hc10, _, hk10, ?_⟩
 rintro _ w11 ⟨_, rfl, g10, hres⟩
 replace hq := hq.grow g10.grow
 replace hG := glw_gr g10 hG
 replace gW := gW.trans g10
 replace hw0 := hw0.grow g10.grow
 replace hb4 := g10.box hb4
 replace hx0 := hx0.grow g10.grow
 replace o5 := o5.grow g10.grow
 replace hg0 := hg0.grow g10.grow
 replace o6 := o6.grow g10.grow
 replace hb7 := g10.box hb7
 replace hv := hv.grow g10.grow
 obtain rfl := hres.val
 refine Stp.go ?_
 simp (maxSteps := 10000000) only [tt, c, cl, cg0, cg1, cOp, cCall, cLoad, cLoadA, cStore, cLoop, cEnd, cRet, argsV, regsV, Go.Vc.oneCell, Nat.add_zero, seval, cAlloc, cStoreA, cBox, Go.Vc.guardSlot, Bool.not_true, Bool.false_eq_true]
 clear hv
 have d5 : ∀ t, t < w5.heap.size → t ∉ G5 := fun t ht hm => by have := l5 t hm; omega
 have e6 : ∀ t ∈ G6, t ∉ G5 := fun t ht hm => by have := l6 t ht; have := u5 t hm; omega
 obtain ⟨hc11, hk11⟩ := markToks_step a w11 1 _ G5 hx0 n5 o5 hG (fun t ht => d5 _ (Nat.lt_of_lt_of_le (glw_lt hGw t ht) (by omega))) (by omega) (by rw [cnTok_L]; omega)
 refine ⟨hc11, _, hk11, ?_⟩
 rintro _ w12 ⟨rfl, _, _, gc⟩
 have hm0 : ¬ ((1 : Int) + (cnL cnTok a : Nat) < 0) := by omega
 replace hq := hq.chg gc.chg fun x hx => d5 x (by have := hF x hx; omega)
 replace hb4 := gc.box hb4 (d5 _ (by omega))
 replace hb7 := gc.box hb7 (fun hm => by have := u5 _ hm; omega)
 replace hG := glw_chl gc hG (fun t ht => d5 _ (Nat.lt_of_lt_of_le (glw_lt hGw t ht) (by omega)))
 replace gW := gW.chl_trans gc fun x hx => by have := l5 x hx; omega
 replace hw0 := hw0.chg gc.chg fun x hx => d5 x (hG0 x hx)
 replace hg0 := hg0.chg gc.chg e6
 replace o6 := o6.other gc e6
 clear hx0 o5
 refine Stp.go ?_
 simp (maxSteps := 10000000) only [tt, c, cl, cg0, cg1, cOp, cCall, cLoad, cLoadA, cStore, cLoop, cEnd, cRet, argsV, regsV, Go.Vc.oneCell, Nat.add_zero, seval, cAlloc, cStoreA, cBox, Go.Vc.guardSlot, decide_eq_false hm0]
 refine ⟨vs6, hlen6, box_at hb7, ?_⟩
 try simp (maxSteps := 10000000) only [tt, c, cl, cg0, cg1, cOp, cCall, cLoad, cLoadA, cStore, cLoop, cEnd, cRet, argsV, regsV, Go.Vc.oneCell, Nat.add_zero, seval, cAlloc, cStoreA, cBox, Go.Vc.guardSlot]
 refine ⟨vs0, hlen0, box_at hb4, ?_⟩
 try simp (maxSteps := 10000000) only [tt, c, cl, cg0, cg1, cOp, cCall, cLoad, cLoadA, cStore, cLoop, cEnd, cRet, argsV, regsV, Go.Vc.oneCell, Nat.add_zero, seval, cAlloc, cStoreA, cBox, Go.Vc.guardSlot]
 obtain ⟨hc12, hk12⟩ := Go.Cv.Cl.at (P := Tryz.prog) (eqStmt_d e) (plain_agag _ _) (vs := [.agg vs6.toArray, .agg vs0.toArray]) (w := w12) (⟨relS_ag hg0, relS_ag hw0, trivial⟩) hG
 refine ⟨hc12, _, hk12, ?_⟩
 rintro _ w13 ⟨_, rfl, g12, hres⟩
 replace hq := hq.grow g12.grow
 replace hG := glw_gr g12 hG
 replace gW := gW.trans g12
 replace hw0 := hw0.grow g12.grow
 replace hb4 := g12.box hb4
 replace hg0 := hg0.grow g12.grow
 replace o6 := o6.grow g12.grow
 replace hb7 := g12.box hb7
 obtain rfl := hres.val
 refine Stp.go ?_
 simp (maxSteps := 10000000) only [tt, c, cl, cg0, cg1, cOp, cCall, cLoad, cLoadA, cStore, cLoop, cEnd, cRet, argsV, regsV, Go.Vc.oneCell, Nat.add_zero, seval, cAlloc, cStoreA, cBox, Go.Vc.guardSlot, Bool.not_true, decide_not, decide_true, ne_eq, not_true_eq_false, decide_false, Bool.false_eq_true]
 refine ⟨vs6, hlen6, box_at hb7, ?_⟩
 try simp (maxSteps := 10000000) only [tt, c, cl, cg0, cg1, cOp, cCall, cLoad, cLoadA, cStore, cLoop, cEnd, cRet, argsV, regsV, Go.Vc.oneCell, Nat.add_zero, seval, cAlloc, cStoreA, cBox, Go.Vc.guardSlot]
 obtain ⟨kind, ⟨query_distinct, query_items, query_from_, query_where_, query_order, query_limit⟩, table, rows, cols, sets, where_⟩ := e
 rw [cnStmt_mk] at hcn
 have d6 : ∀ t, t < w6.heap.size → t ∉ G6 := fun t ht hm => by have := l6 t hm; omega
 obtain ⟨hc13, hk13⟩ := markStmt_c kind query_distinct query_items query_from_ query_where_ query_order query_limit table rows cols sets where_ 1 w13 vs6 G6 hg0 n6 o6 hG (fun t ht => d6 _ (Nat.lt_of_lt_of_le (glw_lt hGw t ht) (by omega))) (by omega) (by omega)
 refine ⟨hc13, _, hk13, ?_⟩
 rintro _ w14 ⟨rfl, hg0, o6, gc⟩
 replace hq := hq.chg gc.chg fun x hx => d6 x (by have := hF x hx; omega)
 replace hb4 := gc.box hb4 (d6 _ (by omega))
 replace hb7 := gc.box hb7 (fun hm => by have := u6 _ hm; omega)
 replace hG := glw_chl gc hG (fun t ht => d6 _ (Nat.lt_of_lt_of_le (glw_lt hGw t ht) (by omega)))
 replace gW := gW.chl_trans gc fun x hx => by have := l6 x hx; omega
 replace hw0 := hw0.chg gc.chg fun x hx => d6 x (by have := hG0 x hx; omega)
 have held := heldStmt_d kind query_distinct query_items query_from_ query_where_ query_order query_limit table rows cols sets where_ 1 (by omega) (by omega)
 have hneg : ¬ (1 + (cnL cnItem query_items : Int) + (cnL cnSource query_from_ : Int) + (cnL cnExpr query_where_ : Int) + (cnL cnSortKey query_order : Int) + (cnL cnERow rows : Int) + (cnL (fun _ => 1) cols : Int) + (cnL cnExpr sets : Int) + (cnL cnExpr where_ : Int) < 0) := by omega
 generalize 1 + (cnL cnItem query_items : Int) + (cnL cnSource query_from_ : Int) + (cnL cnExpr query_where_ : Int) + (cnL cnSortKey query_order : Int) + (cnL cnERow rows : Int) + (cnL (fun _ => 1) cols : Int) + (cnL cnExpr sets : Int) + (cnL cnExpr where_ : Int) = mm at *
 refine Stp.go ?_
 simp (maxSteps := 10000000) only [tt, c, cl, cg0, cg1, cOp, cCall, cLoad, cLoadA, cStore, cLoop, cEnd, cRet, argsV, regsV, Go.Vc.oneCell, Nat.add_zero, seval, cAlloc, cStoreA, cBox, Go.Vc.guardSlot]
 refine ⟨vs6, hlen6, box_at hb7, ?_⟩
 try simp (maxSteps := 10000000) only [tt, c, cl, cg0, cg1, cOp, cCall, cLoad, cLoadA, cStore, cLoop, cEnd, cRet, argsV, regsV, Go.Vc.oneCell, Nat.add_zero, seval, cAlloc, cStoreA, cBox, Go.Vc.guardSlot]
 obtain ⟨hc14, hk14⟩ := Go.Cv.Cl.at (P := Tryz.prog) (held) (plain_agi _ _) (vs := [.agg vs6.toArray, .int .i64 1]) (w := w14) (⟨relS_ag hg0, ⟨rfl, trivial⟩, trivial⟩) hG
 refine ⟨hc14, _, hk14, ?_⟩
 rintro _ w15 ⟨_, rfl, g14, hres⟩
 replace hq := hq.grow g14.grow
 replace hG := glw_gr g14 hG
 replace gW := gW.trans g14
 replace hw0 := hw0.grow g14.grow
 replace hb4 := g14.box hb4
 replace hg0 := hg0.grow g14.grow
 replace o6 := o6.grow g14.grow
 replace hb7 := g14.box hb7
 obtain rfl := hres.val
 refine Stp.go ?_
 simp (maxSteps := 10000000) only [tt, c, cl, cg0, cg1, cOp, cCall, cLoad, cLoadA, cStore, cLoop, cEnd, cRet, argsV, regsV, Go.Vc.oneCell, Nat.add_zero, seval, cAlloc, cStoreA, cBox, Go.Vc.guardSlot, decide_eq_false hneg, decide_true, Bool.not_true, eq_self, ne_eq, not_true_eq_false, decide_false, Bool.false_eq_true]
 obtain ⟨hc15, hk15⟩ := Go.Cv.Cl.at (P := Tryz.prog) (toToks_o a hsz) (rfl) (vs := [v0]) (w := w15) (⟨relS_sl hq, trivial⟩) hG
 refine ⟨hc15, _, hk15, ?_⟩
 rintro _ w16 ⟨_, rfl, g15, hres⟩
 replace hq := hq.grow g15.grow
 replace hG := glw_gr g15 hG
 replace gW := gW.trans g15
 replace hw0 := hw0.grow g15.grow
 replace hb4 := g15.box hb4
 replace hg0 := hg0.grow g15.grow
 replace o6 := o6.grow g15.grow
 replace hb7 := g15.box hb7
 obtain ⟨G8, hv, _⟩ := hres.owL (Tok.lits a)
 refine Stp.go ?_
 simp (maxSteps := 10000000) only [tt, c, cl, cg0, cg1, cOp, cCall, cLoad, cLoadA, cStore, cLoop, cEnd, cRet, argsV, regsV, Go.Vc.oneCell, Nat.add_zero, seval, cAlloc, cStoreA, cBox, Go.Vc.guardSlot]
 obtain ⟨hc16, hk16⟩ := Go.Cv.Cl.at (P := Tryz.prog) (cim) (rfl) (vs := [_]) (w := w16) (⟨relS_sl hv, trivial⟩) hG
 refine ⟨hc16, _, hk16, ?_⟩
 rintro _ w17 ⟨_, ⟨F0, F1, F2, F3, F4, F5, F6, F7, rfl⟩, g16, hres⟩
 replace hq := hq.grow g16.grow
 replace hG := glw_gr g16 hG
 replace gW := gW.trans g16
 replace hw0 := hw0.grow g16.grow
 replace hb4 := g16.box hb4
 replace hg0 := hg0.grow g16.grow
 replace o6 := o6.grow g16.grow
 replace hb7 := g16.box hb7
 replace hv := hv.grow g16.grow
 obtain ⟨vs8, G10, rfl, hh0, _⟩ := res_tuT (told_td _ [F0, F1, F2, F3, F4, F5, F6, F7] (by simp [Stmt.row_mk, Query.row_mk, tOk, int, bool, str])) hres
 have hlen8 : vs8.length = 12 := hh0.length.trans (Stmt.row_len _)
 refine Stp.go ?_
 simp (maxSteps := 10000000) only [tt, c, cl, cg0, cg1, cOp, cCall, cLoad, cLoadA, cStore, cLoop, cEnd, cRet, argsV, regsV, Go.Vc.oneCell, Nat.add_zero, seval, cAlloc, cStoreA, cBox, Go.Vc.guardSlot]
 clear hv
 refine ⟨_, rfl, ?_⟩
 simp (maxSteps := 10000000) only [tt, c, cl, cg0, cg1, cOp, cCall, cLoad, cLoadA, cStore, cLoop, cEnd, cRet, argsV, regsV, Go.Vc.oneCell, Nat.add_zero, seval, cAlloc, cStoreA, cBox, Go.Vc.guardSlot]
 refine ⟨_, rfl, ?_⟩
 try simp (maxSteps := 10000000) only [tt, c, cl, cg0, cg1, cOp, cCall, cLoad, cLoadA, cStore, cLoop, cEnd, cRet, argsV, regsV, Go.Vc.oneCell, Nat.add_zero, seval, cAlloc, cStoreA, cBox, Go.Vc.guardSlot]
 intro b12 w18x hb hw
 try simp (maxSteps := 10000000) only [tt, c, cl, cg0, cg1, cOp, cCall, cLoad, cLoadA, cStore, cLoop, cEnd, cRet, argsV, regsV, Go.Vc.oneCell, Nat.add_zero, seval, cAlloc, cStoreA, cBox, Go.Vc.guardSlot, hlen8]
 refine ⟨?_, ⟨_, _, _, (box_new hb hw).1, Lh.zero _, ?_⟩, one' hh0, _, rfl, ?_⟩
 ·first | rfl | simp [hlen8]
 ·simp [hlen8]
 obtain ⟨w18, hw6⟩ : ∃ w18, w18x.setRow b12 vs8.toArray = w18 := ⟨_, rfl⟩
 try rw [hw6]
 obtain ⟨hb12, g17⟩ := box_fill hb hw hw6 (by simp [hlen8])
 replace hq := hq.grow g17.grow
 replace hG := glw_gr g17 hG
 replace gW := gW.trans g17
 replace hw0 := hw0.grow g17.grow
 replace hb4 := g17.box hb4
 replace hg0 := hg0.grow g17.grow
 replace o6 := o6.grow g17.grow
 replace hb7 := g17.box hb7
 replace hh0 := hh0.grow g17.grow
 refine Stp.go ?_
 simp (maxSteps := 10000000) only [tt, c, cl, cg0, cg1, cOp, cCall, cLoad, cLoadA, cStore, cLoop, cEnd, cRet, argsV, regsV, Go.Vc.oneCell, Nat.add_zero, seval, cAlloc, cStoreA, cBox, Go.Vc.guardSlot]
 refine ⟨vs8, hlen8, box_at hb12, ?_⟩
 try simp (maxSteps := 10000000) only [tt, c, cl, cg0, cg1, cOp, cCall, cLoad, cLoadA, cStore, cLoop, cEnd, cRet, argsV, regsV, Go.Vc.oneCell, Nat.add_zero, seval, cAlloc, cStoreA, cBox, Go.Vc.guardSlot]
 refine ⟨vs0, hlen0, box_at hb4, ?_⟩
 try simp (maxSteps := 10000000) only [tt, c, cl, cg0, cg1, cOp, cCall, cLoad, cLoadA, cStore, cLoop, cEnd, cRet, argsV, regsV, Go.Vc.oneCell, Nat.add_zero, seval, cAlloc, cStoreA, cBox, Go.Vc.guardSlot]
 obtain ⟨hc18, hk18⟩ := Go.Cv.Cl.at (P := Tryz.prog) (eqStmt_d (Stmt.mk kind (Query.mk query_distinct query_items query_from_ query_where_ query_order query_limit) table rows cols sets where_)) (plain_agag _ _) (vs := [.agg vs8.toArray, .agg vs0.toArray]) (w := w18) (⟨relS_ag hh0, relS_ag hw0, trivial⟩) hG
 refine ⟨hc18, _, hk18, ?_⟩
 rintro _ w19 ⟨_, rfl, g18, hres⟩
 replace hq := hq.grow g18.grow
 replace hG := glw_gr g18 hG
 replace gW := gW.trans g18
 replace hw0 := hw0.grow g18.grow
 replace hb4 := g18.box hb4
 replace hg0 := hg0.grow g18.grow
 replace o6 := o6.grow g18.grow
 replace hb7 := g18.box hb7
 replace hh0 := hh0.grow g18.grow
 replace hb12 := g18.box hb12
 obtain rfl := hres.val
 refine Stp.go ?_
 simp (maxSteps := 10000000) only [tt, c, cl, cg0, cg1, cOp, cCall, cLoad, cLoadA, cStore, cLoop, cEnd, cRet, argsV, regsV, Go.Vc.oneCell, Nat.add_zero, seval, cAlloc, cStoreA, cBox, Go.Vc.guardSlot, Bool.not_true, decide_not, decide_true, ne_eq, not_true_eq_false, decide_false, Bool.false_eq_true]
 refine ⟨vs6, hlen6, box_at hb7, ?_⟩
 try simp (maxSteps := 10000000) only [tt, c, cl, cg0, cg1, cOp, cCall, cLoad, cLoadA, cStore, cLoop, cEnd, cRet, argsV, regsV, Go.Vc.oneCell, Nat.add_zero, seval, cAlloc, cStoreA, cBox, Go.Vc.guardSlot]
 obtain ⟨hc19, hk19⟩ := Go.Cv.Cl.at (P := Tryz.prog) (held) (plain_agi _ _) (vs := [.agg vs6.toArray, .int .i64 1]) (w := w19) (⟨relS_ag hg0, ⟨rfl, trivial⟩, trivial⟩) hG
 refine ⟨hc19, _, hk19, ?_⟩
 rintro _ w20 ⟨_, rfl, g19, hres⟩
 replace hq := hq.grow g19.grow
 replace hG := glw_gr g19 hG
 replace gW := gW.trans g19
 replace hw0 := hw0.grow g19.grow
 replace hb4 := g19.box hb4
 replace hg0 := hg0.grow g19.grow
 replace o6 := o6.grow g19.grow
 replace hb7 := g19.box hb7
 replace hh0 := hh0.grow g19.grow
 replace hb12 := g19.box hb12
 obtain rfl := hres.val
 refine Stp.go ?_
 simp (maxSteps := 10000000) only [tt, c, cl, cg0, cg1, cOp, cCall, cLoad, cLoadA, cStore, cLoop, cEnd, cRet, argsV, regsV, Go.Vc.oneCell, Nat.add_zero, seval, cAlloc, cStoreA, cBox, Go.Vc.guardSlot, decide_eq_false hneg, decide_true, Bool.not_true, eq_self, ne_eq, not_true_eq_false, decide_false, Bool.false_eq_true]
 first | exact gW | exact ⟨rfl, gW⟩
end Go.Proofs.YteffjmaadkkmeaaGreatDoor
set_option maxRecDepth 8000
namespace Go.Proofs.YteffjmaadkkmeaaGreatDoor
open Go Go.Dv Go.ChangeShapes Go.WideShapes Go.ChangeAt Go.RowKit
theorem laid_glwS {W : World} (hL : laidMetH Tryz.prog Rows.fnExactTakeStmtRow.laid W) (hs : W.ShapedOpen Tryz.prog) : GlW W (fun _ => False) := by
 rw [MakeChecks.laidMetH_plain _ _ _ (by kernel_rfl)] at hL
 have h2 : laidMet Tryz.prog ((((Rows.fnExactTakeStmtRow.laid.map (·.1)).getD 2 ""), Lib.tabData .u64 Lib.pow10Tab) :: Rows.fnExactTakeStmtRow.laid.drop 3) W := laidMet.tail (laidMet.tail hL)
 have h4 : laidMet Tryz.prog (Rows.fnExactTakeStmtRow.laid.drop 4) W := laidMet.tail (laidMet.tail h2)
 have h5 : laidMet Tryz.prog (Rows.fnExactTakeStmtRow.laid.drop 5) W := laidMet.tail h4
 obtain ⟨a5, s5, v5, _⟩ := laid_sentinel (g := 2) (ti := 203) (tp := 273) (te := 275) (ts := 9) h4 (by kernel_rfl) (by kernel_rfl) Tryz.underlying203 row273 Tryz.underlying273 Tryz.underlying275 rfl rfl Tryz.underlying9 cells275 cells9
 obtain ⟨a4, s4, v4, _⟩ := laid_sentinel (g := 1) (ti := 203) (tp := 273) (te := 275) (ts := 9) h5 (by kernel_rfl) (by kernel_rfl) Tryz.underlying203 row273 Tryz.underlying273 Tryz.underlying275 rfl rfl Tryz.underlying9 cells275 cells9
 exact glw_of (t := 3) (zero := #[.int .i64 0]) (by kernel_rfl) (Lib.tabIs_of_head (g := 3) (t := 285) (e := 260) (n := 20) (by kernel_rfl) (by kernel_rfl) Tryz.underlying285 Tryz.underlying260 (by kernel_rfl) (by kernel_rfl) h2) hs (of_decide_eq_true (by kernel_rfl)) (by kernel_rfl) rfl (by kernel_rfl) (by kernel_rfl) Tryz.underlying3 (by kernel_rfl) v4 (by kernel_rfl) v5
namespace fnExactTakeStmt
open Go Go.Dv Go.ChangeShapes Go.WideShapes Go.ChangeAt Go.RowKit
set_option maxRecDepth 100000 in
theorem lifted (os : Os) (started : os.Started) (H : Type) (enc : TypeId × Value → H) :
 ReturnsInHanded {} Tryz.checked os 5 .any (fun w args => (Rows.fnExactTakeStmtSpec.pre enc Tryz.prog Tryz.f5 Rows.fnExactTakeStmtRow.domain false w args ∧ laidMetH Tryz.prog Rows.fnExactTakeStmtRow.laid w) ∧ sizedMet enc Tryz.prog Tryz.f5 (OpenSpec.ofChange Rows.fnExactTakeStmtSpec) false w args)
  (Rows.fnExactTakeStmtSpec.post enc Tryz.prog Tryz.f5 false true false false) := by
 refine returnsInHanded_both (C := Tryz.checked) (X := fun w _ => laidMetH Tryz.prog Rows.fnExactTakeStmtRow.laid w) (fun _ _ _ hh h => h.of_heap hh) own started (by as_aux_lemma => kernel_rfl) Tryz.func5
  (ChangeSpec.witness_shaped (enc := enc) (C := Tryz.checked) (os := os) (X := fun w _ => laidMetH Tryz.prog Rows.fnExactTakeStmtRow.laid w) false (World.laidAll Tryz.prog os Rows.fnExactTakeStmtRow.laid) #[.slice none 0 0] 8 (World.laidAll_os _ _ _)
    (World.shaped_of_ZipB (by as_aux_lemma => kernel_rfl) (by as_aux_lemma => kernel_rfl)) (by as_aux_lemma => kernel_rfl) (by as_aux_lemma => kernel_rfl) (by as_aux_lemma => kernel_rfl)
    (by rw [MakeChecks.laidMetH_plain _ _ _ (by as_aux_lemma => kernel_rfl)]; exact laidMet_laidAll _ (by as_aux_lemma => kernel_rfl) (by as_aux_lemma => kernel_rfl))) ?_
 intro W base args ds gs before hval0 hW _ hL hsh
 have hval : ∀ (j : Nat) t v, Tryz.f5.params[j]? = some t → args[j]? = some v → Value.okWide Tryz.prog W .any base t v := hval0
 have hW' := hW
 obtain ⟨p, q, hA0, hV, rfl, hfz, hnd⟩ := hW
 have hA : DataW.TrodAll enc Tryz.prog W 0 (fun _ => true) true Tryz.f5.params.toList args.toList ds p := hA0
 rw [Tryz.params5] at hA hval
 obtain ⟨v0, vs0, d0, ds0, p0, q0, hargs, rfl, rfl, h0, r0⟩ := trodAll_cons hA
 obtain ⟨rfl, rfl, rfl⟩ := trodAll_nil r0
 obtain rfl : args = #[v0] := by cases args; simp_all
 obtain ⟨rfl, rfl⟩ := trodVars_none hV
 obtain ⟨_, _, _, rfl⟩ := okWide_slice Tryz.underlying22 (hval 0 22 v0 rfl rfl)
 obtain ⟨n0, t0⟩ := h0
 obtain ⟨x, v, F0, ev, hx⟩ := read_Toks t0
 obtain rfl := List.head_eq_of_cons_eq ev
 clear hA0 hval0
 simp only [List.append_nil] at hW'
 have hlt : ∀ p ∈ p0, p.block < W.heap.size := fun p hp => hW'.lt p hp
 have hcall : Calls Tryz.prog 5 #[_] W fun e w' => ∃ v, e = .returned v ∧ v = .bool true ∧ Go.Cv.Gr W w' := (lawTS_c x W _ F0 hx (laid_glwS hL hsh)).2
 refine hcall.mono fun e W' ⟨v, he, hr, g⟩ => ?_
 have hb : Below W.heap.size W W' := ⟨g.os, g.tape, g.output, g.size, g.keep⟩
 have hf := gr_frozen g
 subst he hr
 exact ⟨_, rfl, post_old (pa := p0) (pv := []) hW' (fun _ _ _ => (trodAll_cons_mk (shut_bool Tryz.underlying4 _) trodAll_mk0))
  (fun sp hsp => trodAll_mk1 (WideElems.Trod_stays (t := 22) laidOut (by as_aux_lemma => kernel_rfl) (of_decide_eq_true (by as_aux_lemma => kernel_rfl)) ⟨n0, t0⟩ (fun p hp => hb.same (hlt p hp)) (fun p hp => hsp p hp)))
  (fun _ _ => rfl) (by simp)
  (hb.frame _) hf (ok_one (by as_aux_lemma => kernel_rfl) rfl (okWide_bool_mk Tryz.underlying4 _))⟩
set_option maxHeartbeats 4000000 in
theorem jf : joinedFacts Tryz.prog 5 Tryz.f5 Rows.fnExactTakeStmtSpec Rows.fnExactTakeStmtRow = true := by
 unfold joinedFacts
 refine Bool.and_eq_true_iff.2 ⟨Bool.and_eq_true_iff.2 ⟨Bool.and_eq_true_iff.2 ⟨Bool.and_eq_true_iff.2 ⟨Bool.and_eq_true_iff.2 ⟨Bool.and_eq_true_iff.2 ⟨Bool.and_eq_true_iff.2 ⟨Bool.and_eq_true_iff.2 ⟨Bool.and_eq_true_iff.2 ⟨Bool.and_eq_true_iff.2 ⟨Bool.and_eq_true_iff.2 ⟨Bool.and_eq_true_iff.2 ⟨Bool.and_eq_true_iff.2 ⟨Bool.and_eq_true_iff.2 ⟨Bool.and_eq_true_iff.2 ⟨Bool.and_eq_true_iff.2 ⟨Bool.and_eq_true_iff.2 ⟨Bool.and_eq_true_iff.2 ⟨Bool.and_eq_true_iff.2 ⟨Bool.and_eq_true_iff.2 ⟨Bool.and_eq_true_iff.2 ⟨Bool.and_eq_true_iff.2 ⟨Bool.and_eq_true_iff.2 ⟨Bool.and_eq_true_iff.2 ⟨Bool.and_eq_true_iff.2 ⟨Bool.and_eq_true_iff.2 ⟨Bool.and_eq_true_iff.2 ⟨Bool.and_eq_true_iff.2 ⟨Bool.and_eq_true_iff.2 ⟨Bool.and_eq_true_iff.2 ⟨Bool.and_eq_true_iff.2 ⟨?_, ?_⟩, ?_⟩, ?_⟩, ?_⟩, ?_⟩, ?_⟩, ?_⟩, ?_⟩, ?_⟩, ?_⟩, ?_⟩, ?_⟩, ?_⟩, ?_⟩, ?_⟩, ?_⟩, ?_⟩, ?_⟩, ?_⟩, ?_⟩, ?_⟩, ?_⟩, ?_⟩, ?_⟩, ?_⟩, ?_⟩, ?_⟩, ?_⟩, ?_⟩, ?_⟩, ?_⟩
 all_goals as_aux_lemma => kernel_rfl
theorem fnamed : Tryz.prog.funcNamed Rows.fnExactTakeStmtRow.func = some 5 := by kernel_rfl
set_option maxHeartbeats 4000000 in
theorem over : Rows.fnExactTakeStmtRow.holds Tryz.pinned (OpenSpec.ofChange Rows.fnExactTakeStmtSpec) :=
 OpenClaim.holds_of_wide 5 Tryz.f5 rfl rfl rfl rfl rfl rfl rfl ⟨rfl, rfl, rfl, rfl, rfl⟩ rfl rfl rfl rfl rfl fnamed Tryz.func5 jf
  (of_decide_eq_true (by as_aux_lemma => kernel_rfl)) (by unfold Func.isWrapper; first | (rw [if_pos (by decide +kernel)]; kernel_rfl) | (rw [if_neg (by decide +kernel)]; exact ⟨rfl, rfl⟩))
  (fun os started H enc _ => lifted os started H enc)
set_option maxHeartbeats 4000000 in
theorem proved : Rows.FnExactTakeStmtCardSaid :=
 Claim7.holds_tied_plain_at .later [] [.data, .data, .data, .data, .sentinel, .sentinel, .pinned] true (true, "d117c1e6b76b058e49b910101838f26852bd41ec55806f975281d979b3de11dc") true over (fun _ h => by cases h) (by as_aux_lemma => kernel_rfl) (fun _ h => by cases h) fnExactTakeStmt_row_tie rfl ⟨rfl, rfl⟩ (by as_aux_lemma => kernel_rfl) rfl
  (fun f fn hf hfn => by
    obtain rfl : f = 5 := Option.some.inj (fnamed.symm.trans hf) |>.symm
    obtain rfl : fn = Tryz.f5 := (Option.some.inj (Tryz.func5.symm.trans hfn)).symm
    exact ⟨by as_aux_lemma => kernel_rfl, fun j t ht => by
     rw [Tryz.params5] at ht
     have hm : t ∈ [22] := by simpa using Array.mem_of_getElem? ht
     have hall : ([22].all fun u => !Tryz.prog.wantsStandIn u) = true := by as_aux_lemma => kernel_rfl
     exact (show Tryz.prog.wantsStandIn t = false by simpa using List.all_eq_true.1 hall t hm)⟩)
  (by as_aux_lemma => kernel_rfl)
#print axioms proved
end fnExactTakeStmt
end Go.Proofs.YteffjmaadkkmeaaGreatDoor
