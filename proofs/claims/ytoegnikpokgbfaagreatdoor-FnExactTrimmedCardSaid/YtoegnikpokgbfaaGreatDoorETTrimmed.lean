/-
  Both trim alike.
  Conditions: none.
-/
import Derived.Test.YtoegnikpokgbfaaGreatDoorETWu
import Derived.Test.YtoegnikpokgbfaaGreatDoorETTop
set_option linter.unusedVariables false
set_option linter.unusedSimpArgs false
set_option linter.unusedSectionVars false
set_option maxRecDepth 8000
namespace Go.Proofs.YtoegnikpokgbfaaGreatDoor
open Go Go.Dv
open Go.Vc (D shrI xorI andI)
open Go.Cv
open Go.Vc (CellF ValsF callable Cells)
theorem relS_sl {P : Program} {w : World} {n : Nat} {ds : List D} {v : Value} {G : List Nat} (h : CellF w (.sl n ds) v G) : RelS P w (fun _ => none) (fun _ => True) (.c (.sl n ds none)) v := ⟨G, h, fun _ _ => trivial, fun _ h => by cases h⟩
theorem obj_lt {w : World} {b : Nat} {o : Obj} (hb : w.heap[b]? = some o) : b < w.heap.size := (Array.getElem?_eq_some_iff.1 hb).1
theorem glw_lt {w : World} (hg : GlW w (fun _ => False)) : ∀ t ∈ libVars, t.1 < w.heap.size := fun t ht => by
 obtain ⟨_, cs, ty, lh, h, _⟩ := hg t ht
 exact obj_lt h
theorem res_slT {P : Program} {w w' : World} {n : Nat} {ds : List D} {F : List Nat} {v : Value} (h : Go.Cv.Res P w w' (.c (.sl n ds (some [F]))) v) : ∃ G, CellF w' (.sl n ds) v G ∧ New w w' G := by
 obtain ⟨β, ok, h, hno, hobj, hnew, hnd, hfr⟩ := h
 have hf : fps (.c (.sl n ds (some [F]))) [] = [F] := by simp [fps, cellsS, fpL, fpC, fpB]
 rw [hf] at hnd hfr
 obtain ⟨G, hG, hok, hs⟩ := h
 exact ⟨G, hG, ⟨(hs _ rfl).1.nodup hnd, fun b hb => (hfr b ((hs _ rfl).1.mem hb)).1, fun b hb => (hfr b ((hs _ rfl).1.mem hb)).2⟩⟩
set_option maxHeartbeats 4000000 in
theorem lawTM_c (a : List Tok) (w : World) (v0 : Value) (F : List Nat) (hq : CellF w (.sl a.length (a.flatMap Tok.row)) v0 F) (hG : GlW w (fun _ => False)) :
 callable Tryz.prog 6 = true ∧ Calls Tryz.prog 6 #[v0] w fun e w' => ∃ v, e = .returned v ∧ v = .bool true ∧ Gr w w' := by
 have hGw := hG
 refine ⟨by kernel_rfl, ?_⟩
 have hcc := fun R => @calls_of_c Tryz.prog w 6 Tryz.f6 _ [v0] R Tryz.func6 rfl (Nat.le_of_ble_eq_true rfl)
 refine hcc _ ?_
 clear hcc
 simp (maxSteps := 10000000) only [tt, cc, seval, cAlloc, cStoreA, cBox, Go.Vc.guardSlot, Tryz.f6]
 have gW := Gr.refl w
 have hF : ∀ x ∈ F, x < w.heap.size := fun x hx => Go.Cv.vis_lt (hq.vis _ x hx)
 obtain ⟨w1, hw1⟩ : ∃ w1, w1 = w := ⟨_, rfl⟩
 rw [← hw1] at hq hG gW hGw hF ⊢
 clear hw1
 obtain ⟨hc1, hk1⟩ := Go.Cv.Cl.at (P := Tryz.prog) (szToks_d a 1048576 (by omega) (by omega)) (rfl) (vs := [v0, .int .i64 1048576]) (w := w1) (⟨relS_sl hq, ⟨rfl, trivial⟩, trivial⟩) hG
 refine ⟨hc1, _, hk1, ?_⟩
 rintro _ w2 ⟨_, rfl, g1, hres⟩
 replace hq := hq.grow g1.grow
 replace hG := glw_gr g1 hG
 replace gW := gW.trans g1
 obtain rfl := hres.val
 refine Stp.go ?_
 simp (maxSteps := 10000000) only [tt, cc, seval, cAlloc, cStoreA, cBox, Go.Vc.guardSlot]
 refine And.intro (fun hneg => ?_) (fun hpos => ?_)
 ·first | exact gW | exact ⟨rfl, gW⟩
 have hsz : szToks a ≤ 1048576 := by
  unfold subL at hpos
  split at hpos
  ·omega
  ·exact absurd hpos (by decide)
 have hL := szToks_len hsz
 have hT := szToks_text hsz
 have csp := Trimmed_d a hL hT
 have cim := iTrimmed_d a hL hT
 have hel : (trT a).length ≤ a.length := trF_le _ _
 generalize trT a = es at *
 obtain ⟨hc2, hk2⟩ := Go.Cv.Cl.at (P := Tryz.prog) (toToks_o a hsz) (rfl) (vs := [v0]) (w := w2) (⟨relS_sl hq, trivial⟩) hG
 refine ⟨hc2, _, hk2, ?_⟩
 rintro _ w3 ⟨_, rfl, g2, hres⟩
 replace hq := hq.grow g2.grow
 replace hG := glw_gr g2 hG
 replace gW := gW.trans g2
 obtain ⟨G3, hv, _⟩ := hres.owL (Tok.lits a)
 refine Stp.go ?_
 simp (maxSteps := 10000000) only [tt, cc, seval, cAlloc, cStoreA, cBox, Go.Vc.guardSlot]
 obtain ⟨hc3, hk3⟩ := Go.Cv.Cl.at (P := Tryz.prog) (csp) (rfl) (vs := [_]) (w := w3) (⟨relS_sl hv, trivial⟩) hG
 refine ⟨hc3, _, hk3, ?_⟩
 rintro _ w4 ⟨_, rfl, g3, hres⟩
 replace hq := hq.grow g3.grow
 replace hG := glw_gr g3 hG
 replace gW := gW.trans g3
 replace hv := hv.grow g3.grow
 obtain ⟨G0, hw0⟩ := hres.sl
 refine Stp.go ?_
 simp (maxSteps := 10000000) only [tt, cc, seval, cAlloc, cStoreA, cBox, Go.Vc.guardSlot]
 clear hv
 have hG0 : ∀ x ∈ G0, x < w4.heap.size := fun x hx => Go.Cv.vis_lt (hw0.vis _ x hx)
 have s2 : w1.heap.size ≤ w4.heap.size := gW.size
 obtain ⟨hc4, hk4⟩ := Go.Cv.Cl.at (P := Tryz.prog) (toToks_o a hsz) (rfl) (vs := [v0]) (w := w4) (⟨relS_sl hq, trivial⟩) hG
 refine ⟨hc4, _, hk4, ?_⟩
 rintro _ w5 ⟨_, rfl, g4, hres⟩
 replace hq := hq.grow g4.grow
 replace hG := glw_gr g4 hG
 replace gW := gW.trans g4
 replace hw0 := hw0.grow g4.grow
 obtain ⟨G5, hx0, nw5⟩ := hres.owL (Tok.lits a)
 have o5 := nw5.own
 have n5 := nw5.nodup
 have l5 := nw5.new
 have u5 := nw5.lt
 refine Stp.go ?_
 simp (maxSteps := 10000000) only [tt, cc, seval, cAlloc, cStoreA, cBox, Go.Vc.guardSlot]
 have s3 : w4.heap.size ≤ w5.heap.size := g4.size
 obtain ⟨hc5, hk5⟩ := Go.Cv.Cl.at (P := Tryz.prog) (cim) (rfl) (vs := [_]) (w := w5) (⟨relS_sl hx0, trivial⟩) hG
 refine ⟨hc5, _, hk5, ?_⟩
 rintro _ w6 ⟨_, ⟨F6, rfl⟩, g5, hres⟩
 replace hq := hq.grow g5.grow
 replace hG := glw_gr g5 hG
 replace gW := gW.trans g5
 replace hw0 := hw0.grow g5.grow
 replace hx0 := hx0.grow g5.grow
 replace o5 := o5.grow g5.grow
 obtain ⟨G6, hg0, nw6⟩ := res_slT hres
 have o6 := nw6.own
 have n6 := nw6.nodup
 have l6 := nw6.new
 refine Stp.go ?_
 simp (maxSteps := 10000000) only [tt, cc, seval, cAlloc, cStoreA, cBox, Go.Vc.guardSlot]
 obtain ⟨hc6, hk6⟩ := Go.Cv.Cl.at (P := Tryz.prog) (eqToks_d es) (rfl) (vs := [_, _]) (w := w6) (⟨relS_sl hg0, relS_sl hw0, trivial⟩) hG
 refine ⟨hc6, _, hk6, ?_⟩
 rintro _ w7 ⟨_, rfl, g6, hres⟩
 replace hq := hq.grow g6.grow
 replace hG := glw_gr g6 hG
 replace gW := gW.trans g6
 replace hw0 := hw0.grow g6.grow
 replace hx0 := hx0.grow g6.grow
 replace o5 := o5.grow g6.grow
 replace hg0 := hg0.grow g6.grow
 replace o6 := o6.grow g6.grow
 obtain rfl := hres.val
 refine Stp.go ?_
 simp (maxSteps := 10000000) only [tt, cc, seval, cAlloc, cStoreA, cBox, Go.Vc.guardSlot, Bool.not_true, decide_not, decide_true, ne_eq, not_true_eq_false, decide_false, Bool.false_eq_true]
 obtain ⟨hc7, hk7⟩ := Go.Cv.Cl.at (P := Tryz.prog) (toToks_o a hsz) (rfl) (vs := [v0]) (w := w7) (⟨relS_sl hq, trivial⟩) hG
 refine ⟨hc7, _, hk7, ?_⟩
 rintro _ w8 ⟨_, rfl, g7, hres⟩
 replace hq := hq.grow g7.grow
 replace hG := glw_gr g7 hG
 replace gW := gW.trans g7
 replace hw0 := hw0.grow g7.grow
 replace hx0 := hx0.grow g7.grow
 replace o5 := o5.grow g7.grow
 replace hg0 := hg0.grow g7.grow
 replace o6 := o6.grow g7.grow
 obtain ⟨G9, hv, _⟩ := hres.owL (Tok.lits a)
 refine Stp.go ?_
 simp (maxSteps := 10000000) only [tt, cc, seval, cAlloc, cStoreA, cBox, Go.Vc.guardSlot]
 obtain ⟨hc8, hk8⟩ := Go.Cv.Cl.at (P := Tryz.prog) (eqToks_d a) (rfl) (vs := [_, _]) (w := w8) (⟨relS_sl hx0, relS_sl hv, trivial⟩) hG
 refine ⟨hc8, _, hk8, ?_⟩
 rintro _ w9 ⟨_, rfl, g8, hres⟩
 replace hq := hq.grow g8.grow
 replace hG := glw_gr g8 hG
 replace gW := gW.trans g8
 replace hw0 := hw0.grow g8.grow
 replace hx0 := hx0.grow g8.grow
 replace o5 := o5.grow g8.grow
 replace hg0 := hg0.grow g8.grow
 replace o6 := o6.grow g8.grow
 replace hv := hv.grow g8.grow
 obtain rfl := hres.val
 refine Stp.go ?_
 simp (maxSteps := 10000000) only [tt, cc, seval, cAlloc, cStoreA, cBox, Go.Vc.guardSlot, Bool.not_true, Bool.false_eq_true]
 clear hv
 have d5 : ∀ t, t < w4.heap.size → t ∉ G5 := fun t ht hm => by have := l5 t hm; omega
 have e6 : ∀ t ∈ G6, t ∉ G5 := fun t ht hm => by have := l6 t ht; have := u5 t hm; omega
 obtain ⟨hc9, hk9⟩ := markToks_step a w9 1 _ G5 hx0 n5 o5 hG (fun t ht => d5 _ (Nat.lt_of_lt_of_le (glw_lt hGw t ht) (by omega))) (by omega) (by rw [cnTok_L]; omega)
 refine ⟨hc9, _, hk9, ?_⟩
 rintro _ w10 ⟨rfl, _, _, gc⟩
 have hm0 : ¬ ((1 : Int) + (cnL cnTok a : Nat) < 0) := by omega
 replace hq := hq.chg gc.chg fun x hx => d5 x (by have := hF x hx; omega)
 replace hG := glw_chl gc hG (fun t ht => d5 _ (Nat.lt_of_lt_of_le (glw_lt hGw t ht) (by omega)))
 replace gW := gW.chl_trans gc fun x hx => by have := l5 x hx; omega
 replace hw0 := hw0.chg gc.chg fun x hx => d5 x (hG0 x hx)
 replace hg0 := hg0.chg gc.chg e6
 replace o6 := o6.other gc e6
 clear hx0 o5
 refine Stp.go ?_
 simp (maxSteps := 10000000) only [tt, cc, seval, cAlloc, cStoreA, cBox, Go.Vc.guardSlot, decide_eq_false hm0]
 obtain ⟨hc10, hk10⟩ := Go.Cv.Cl.at (P := Tryz.prog) (eqToks_d es) (rfl) (vs := [_, _]) (w := w10) (⟨relS_sl hg0, relS_sl hw0, trivial⟩) hG
 refine ⟨hc10, _, hk10, ?_⟩
 rintro _ w11 ⟨_, rfl, g10, hres⟩
 replace hq := hq.grow g10.grow
 replace hG := glw_gr g10 hG
 replace gW := gW.trans g10
 replace hw0 := hw0.grow g10.grow
 replace hg0 := hg0.grow g10.grow
 replace o6 := o6.grow g10.grow
 obtain rfl := hres.val
 refine Stp.go ?_
 simp (maxSteps := 10000000) only [tt, cc, seval, cAlloc, cStoreA, cBox, Go.Vc.guardSlot, Bool.not_true, decide_not, decide_true, ne_eq, not_true_eq_false, decide_false, Bool.false_eq_true]
 have d6 : ∀ t, t < w5.heap.size → t ∉ G6 := fun t ht hm => by have := l6 t hm; omega
 have cnt := cnTok_L es
 obtain ⟨hc11, hk11⟩ := markToks_step es w11 1 _ G6 hg0 n6 o6 hG (fun t ht => d6 _ (Nat.lt_of_lt_of_le (glw_lt hGw t ht) (by omega))) (by omega) (by omega)
 refine ⟨hc11, _, hk11, ?_⟩
 rintro _ w12 ⟨rfl, hg0, o6, gc⟩
 replace hq := hq.chg gc.chg fun x hx => d6 x (by have := hF x hx; omega)
 replace hG := glw_chl gc hG (fun t ht => d6 _ (Nat.lt_of_lt_of_le (glw_lt hGw t ht) (by omega)))
 replace gW := gW.chl_trans gc fun x hx => by have := l6 x hx; omega
 replace hw0 := hw0.chg gc.chg fun x hx => d6 x (by have := hG0 x hx; omega)
 rw [cnt]
 have e3 : ((3 * es.length : Nat) : Int) = 3 * (es.length : Int) := by omega
 rw [e3]
 have hml := mkL_len mkTok cnTok 1 es
 have held := heldToks_d (mkL mkTok cnTok 1 es) 1 (by omega) (by rw [hml]; omega) fun i hi => by
  have hi' : i < es.length := by omega
  have := mkTok_get 1 es i hi'
  rw [List.getElem?_eq_getElem hi] at this
  exact Option.some.inj this
 rw [hml] at held
 generalize mkL mkTok cnTok 1 es = ms at *
 have hneg : ¬ (1 + 3 * (es.length : Int) < 0) := by omega
 refine Stp.go ?_
 simp (maxSteps := 10000000) only [tt, cc, seval, cAlloc, cStoreA, cBox, Go.Vc.guardSlot]
 obtain ⟨hc12, hk12⟩ := Go.Cv.Cl.at (P := Tryz.prog) (held) (rfl) (vs := [_, .int .i64 1]) (w := w12) (⟨relS_sl hg0, ⟨rfl, trivial⟩, trivial⟩) hG
 refine ⟨hc12, _, hk12, ?_⟩
 rintro _ w13 ⟨_, rfl, g12, hres⟩
 replace hq := hq.grow g12.grow
 replace hG := glw_gr g12 hG
 replace gW := gW.trans g12
 replace hw0 := hw0.grow g12.grow
 replace hg0 := hg0.grow g12.grow
 replace o6 := o6.grow g12.grow
 obtain rfl := hres.val
 refine Stp.go ?_
 simp (maxSteps := 10000000) only [tt, cc, seval, cAlloc, cStoreA, cBox, Go.Vc.guardSlot, decide_eq_false hneg, decide_true, Bool.not_true, eq_self, ne_eq, not_true_eq_false, decide_false, Bool.false_eq_true]
 obtain ⟨hc13, hk13⟩ := Go.Cv.Cl.at (P := Tryz.prog) (toToks_o a hsz) (rfl) (vs := [v0]) (w := w13) (⟨relS_sl hq, trivial⟩) hG
 refine ⟨hc13, _, hk13, ?_⟩
 rintro _ w14 ⟨_, rfl, g13, hres⟩
 replace hq := hq.grow g13.grow
 replace hG := glw_gr g13 hG
 replace gW := gW.trans g13
 replace hw0 := hw0.grow g13.grow
 replace hg0 := hg0.grow g13.grow
 replace o6 := o6.grow g13.grow
 obtain ⟨G8, hv, _⟩ := hres.owL (Tok.lits a)
 refine Stp.go ?_
 simp (maxSteps := 10000000) only [tt, cc, seval, cAlloc, cStoreA, cBox, Go.Vc.guardSlot]
 obtain ⟨hc14, hk14⟩ := Go.Cv.Cl.at (P := Tryz.prog) (cim) (rfl) (vs := [_]) (w := w14) (⟨relS_sl hv, trivial⟩) hG
 refine ⟨hc14, _, hk14, ?_⟩
 rintro _ w15 ⟨_, ⟨F10, rfl⟩, g14, hres⟩
 replace hq := hq.grow g14.grow
 replace hG := glw_gr g14 hG
 replace gW := gW.trans g14
 replace hw0 := hw0.grow g14.grow
 replace hg0 := hg0.grow g14.grow
 replace o6 := o6.grow g14.grow
 replace hv := hv.grow g14.grow
 obtain ⟨G10, hh0, _⟩ := res_slT hres
 refine Stp.go ?_
 simp (maxSteps := 10000000) only [tt, cc, seval, cAlloc, cStoreA, cBox, Go.Vc.guardSlot]
 clear hv
 obtain ⟨hc15, hk15⟩ := Go.Cv.Cl.at (P := Tryz.prog) (eqToks_d es) (rfl) (vs := [_, _]) (w := w15) (⟨relS_sl hh0, relS_sl hw0, trivial⟩) hG
 refine ⟨hc15, _, hk15, ?_⟩
 rintro _ w16 ⟨_, rfl, g15, hres⟩
 replace hq := hq.grow g15.grow
 replace hG := glw_gr g15 hG
 replace gW := gW.trans g15
 replace hw0 := hw0.grow g15.grow
 replace hg0 := hg0.grow g15.grow
 replace o6 := o6.grow g15.grow
 replace hh0 := hh0.grow g15.grow
 obtain rfl := hres.val
 refine Stp.go ?_
 simp (maxSteps := 10000000) only [tt, cc, seval, cAlloc, cStoreA, cBox, Go.Vc.guardSlot, Bool.not_true, decide_not, decide_true, ne_eq, not_true_eq_false, decide_false, Bool.false_eq_true]
 obtain ⟨hc16, hk16⟩ := Go.Cv.Cl.at (P := Tryz.prog) (held) (rfl) (vs := [_, .int .i64 1]) (w := w16) (⟨relS_sl hg0, ⟨rfl, trivial⟩, trivial⟩) hG
 refine ⟨hc16, _, hk16, ?_⟩
 rintro _ w17 ⟨_, rfl, g16, hres⟩
 replace hq := hq.grow g16.grow
 replace hG := glw_gr g16 hG
 replace gW := gW.trans g16
 replace hw0 := hw0.grow g16.grow
 replace hg0 := hg0.grow g16.grow
 replace o6 := o6.grow g16.grow
 replace hh0 := hh0.grow g16.grow
 obtain rfl := hres.val
 refine Stp.go ?_
 simp (maxSteps := 10000000) only [tt, cc, seval, cAlloc, cStoreA, cBox, Go.Vc.guardSlot, decide_eq_false hneg, decide_true, Bool.not_true, eq_self, ne_eq, not_true_eq_false, decide_false, Bool.false_eq_true]
 first | exact gW | exact ⟨rfl, gW⟩
end Go.Proofs.YtoegnikpokgbfaaGreatDoor
namespace Go.Proofs.YtoegnikpokgbfaaGreatDoor
namespace fnExactTrimmed
theorem proved : Rows.FnExactTrimmedCardSaid := proved0 lawTM_c
end fnExactTrimmed
end Go.Proofs.YtoegnikpokgbfaaGreatDoor
