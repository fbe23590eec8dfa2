/-
  Marks, and what holds them.
  Conditions: none.
-/
import Derived.Test.YtijldlppojdehaaGreatDoorDNY2
set_option linter.unusedVariables false
set_option linter.unusedSimpArgs false
set_option linter.unusedSectionVars false
set_option maxRecDepth 8000
namespace Go.Proofs.YtijldlppojdehaaGreatDoor
open Go Go.Dv
open Go.Vc (D shrI xorI andI and255)
open Go.Cv
open Go.Vc (CellF ValsF callable Cells)
def VRow.l : VRow → List Val | .mk l => l
theorem eqCol_step (name : ByteArray) (ty : Int)  : Cl Tryz.prog 190 [.ag (csOf (Col.mk name ty).row), .ag (csOf (Col.mk name ty).row)] [] fun r _ => r = vb true := by
 rw [Col.row_mk]
 refine cl_of_d follows_mixed false Tryz.func190 rfl (by kernel_rfl) ?_
 simp only [Tryz.f190, tt, seval]
 exact ⟨_, _, rfl, end0 rfl⟩
theorem eqCols_step (a : List Col) (hx : ∀ x ∈ a, Cl Tryz.prog 190 [.ag (csOf x.row), .ag (csOf x.row)] [] fun r _ => r = vb true) : Cl Tryz.prog 148 [.c (.sl a.length (a.flatMap Col.row) none), .c (.sl a.length (a.flatMap Col.row) none)] [] fun r _ => r = vb true := by
 refine cl_of_d follows_mixed false Tryz.func148 rfl (by kernel_rfl) ?_
 simp only [Tryz.f148, tt, seval]
 refine fun _ _ => ?_
 refine dLoop.intro (fun f L p => ∃ i : Nat, f 5 = vi i ∧ i ≤ a.length ∧ L = [] ∧ p = none) (fun f _ _ => (a.length - ixS (f 5)).toNat) [] none ⟨SubO.nil _, PoSub.none _, ?_⟩ ?_
 ·simp only [tt, seval]
  exact ⟨0, rfl, by omega⟩
 ·rintro g L p ⟨i, h5, hi, rfl, rfl⟩
  simp only [tt, seval] at h5
  simp only [tt, seval, h5, Int.ofNat_lt]
  refine fun _ => And.intro (fun hlt => ?_) (fun hge => ?_)
  ·have hlt : i < a.length := by omega
   refine dDrawn.intro [] (pln [0, 2, 4, 6, 8, 10, 12, 14, 17, 18]) (by kernel_rfl) ?_
   simp only [tt, seval]
   simp only [tt, seval, h5]
   refine ⟨by omega, by omega, _, drop_row Col.row_len (List.getElem?_eq_getElem hlt), Col.ne _ _, ?_⟩
   simp only [tt, seval, h5, Col.tk, Col.row_len]
   refine ⟨by omega, by omega, _, drop_row Col.row_len (List.getElem?_eq_getElem hlt), Col.ne _ _, ?_⟩
   simp only [tt, seval, h5, Col.tk, Col.row_len]
   refine call0 (hx a[i] (List.getElem_mem hlt)) ?_ ?_ ?_
   ·decide
   ·simp only [tt, seval]
   rintro r rfl
   simp only [tt, seval, h5]
   rw [wrS i (by omega)]
   exact ⟨[], none, SubO.nil _, PoSub.none _, ⟨i + 1, rfl, by omega, rfl, rfl⟩, by simp only [ixS]; omega⟩
  ·exact ⟨_, _, rfl, end0 rfl⟩
theorem eqCols_d (a : List Col) : Cl Tryz.prog 148 [.c (.sl a.length (a.flatMap Col.row) none), .c (.sl a.length (a.flatMap Col.row) none)] [] fun r _ => r = vb true := eqCols_step a fun x _ => by
 cases x; exact eqCol_step _ _
theorem eqTable_step (name : ByteArray) (cols : List Col)  : Cl Tryz.prog 104 [.ag (csOf (Table.mk name cols).row), .ag (csOf (Table.mk name cols).row)] [] fun r _ => r = vb true := by
 rw [Table.row_mk]
 refine cl_of_d follows_mixed false Tryz.func104 rfl (by kernel_rfl) ?_
 simp only [Tryz.f104, tt, seval]
 refine cZ (eqCols_d cols) (by decide) ?_ ?_ <;> simp only [tt, seval, Val.row, lc]
 exact ⟨_, _, rfl, end0 rfl⟩
theorem eqTables_step (a : List Table) (hx : ∀ x ∈ a, Cl Tryz.prog 104 [.ag (csOf x.row), .ag (csOf x.row)] [] fun r _ => r = vb true) : Cl Tryz.prog 61 [.c (.sl a.length (a.flatMap Table.row) none), .c (.sl a.length (a.flatMap Table.row) none)] [] fun r _ => r = vb true := by
 refine cl_of_d follows_mixed false Tryz.func61 rfl (by kernel_rfl) ?_
 simp only [Tryz.f61, tt, seval]
 refine fun _ _ => ?_
 refine dLoop.intro (fun f L p => ∃ i : Nat, f 5 = vi i ∧ i ≤ a.length ∧ L = [] ∧ p = none) (fun f _ _ => (a.length - ixS (f 5)).toNat) [] none ⟨SubO.nil _, PoSub.none _, ?_⟩ ?_
 ·simp only [tt, seval]
  exact ⟨0, rfl, by omega⟩
 ·rintro g L p ⟨i, h5, hi, rfl, rfl⟩
  simp only [tt, seval] at h5
  simp only [tt, seval, h5, Int.ofNat_lt]
  refine fun _ => And.intro (fun hlt => ?_) (fun hge => ?_)
  ·have hlt : i < a.length := by omega
   refine dDrawn.intro [] (pln [0, 2, 4, 6, 8, 10, 12, 14, 17, 18]) (by kernel_rfl) ?_
   simp only [tt, seval]
   simp only [tt, seval, h5]
   refine ⟨by omega, by omega, _, drop_row Table.row_len (List.getElem?_eq_getElem hlt), Table.ne _ _, ?_⟩
   simp only [tt, seval, h5, Table.tk, Table.row_len]
   refine ⟨by omega, by omega, _, drop_row Table.row_len (List.getElem?_eq_getElem hlt), Table.ne _ _, ?_⟩
   simp only [tt, seval, h5, Table.tk, Table.row_len]
   refine call0 (hx a[i] (List.getElem_mem hlt)) ?_ ?_ ?_
   ·decide
   ·simp only [tt, seval]
   rintro r rfl
   simp only [tt, seval, h5]
   rw [wrS i (by omega)]
   exact ⟨[], none, SubO.nil _, PoSub.none _, ⟨i + 1, rfl, by omega, rfl, rfl⟩, by simp only [ixS]; omega⟩
  ·exact ⟨_, _, rfl, end0 rfl⟩
theorem eqTables_d (a : List Table) : Cl Tryz.prog 61 [.c (.sl a.length (a.flatMap Table.row) none), .c (.sl a.length (a.flatMap Table.row) none)] [] fun r _ => r = vb true := eqTables_step a fun x _ => by
 cases x; exact eqTable_step _ _
theorem eqCatalog_step (tables : List Table)  : Cl Tryz.prog 27 [.ag (csOf (Catalog.mk tables).row), .ag (csOf (Catalog.mk tables).row)] [] fun r _ => r = vb true := by
 rw [Catalog.row_mk]
 refine cl_of_d follows_mixed false Tryz.func27 rfl (by kernel_rfl) ?_
 simp only [Tryz.f27, tt, seval]
 refine cZ (eqTables_d tables) (by decide) ?_ ?_ <;> simp only [tt, seval, Val.row, lc]
 exact ⟨_, _, rfl, end0 rfl⟩
theorem eqVRows_step (a : List VRow) (hx : ∀ x ∈ a, Cl Tryz.prog 191 [.c (.sl (x).l.length ((x).l.flatMap Val.row) none), .c (.sl (x).l.length ((x).l.flatMap Val.row) none)] [] fun r _ => r = vb true) : Cl Tryz.prog 149 [.c (.sl a.length (a.flatMap VRow.row) none), .c (.sl a.length (a.flatMap VRow.row) none)] [] fun r _ => r = vb true := by
 refine cl_of_d follows_mixed false Tryz.func149 rfl (by kernel_rfl) ?_
 simp only [Tryz.f149, tt, seval]
 refine fun _ _ => ?_
 refine dLoop.intro (fun f L p => ∃ i : Nat, f 5 = vi i ∧ i ≤ a.length ∧ L = [] ∧ p = none) (fun f _ _ => (a.length - ixS (f 5)).toNat) [] none ⟨SubO.nil _, PoSub.none _, ?_⟩ ?_
 ·simp only [tt, seval]
  exact ⟨0, rfl, by omega⟩
 ·rintro g L p ⟨i, h5, hi, rfl, rfl⟩
  simp only [tt, seval] at h5
  simp only [tt, seval, h5, Int.ofNat_lt]
  refine fun _ => And.intro (fun hlt => ?_) (fun hge => ?_)
  ·have hlt : i < a.length := by omega
   refine dDrawn.intro [] (pln [0, 2, 4, 6, 8, 10, 12, 14, 17, 18]) (by kernel_rfl) ?_
   simp only [tt, seval]
   simp only [tt, seval, h5]
   refine ⟨by omega, by omega, _, drop_row VRow.row_len (List.getElem?_eq_getElem hlt), VRow.ne _ _, ?_⟩
   simp only [tt, seval, h5, VRow.tk, VRow.row_len]
   refine ⟨by omega, by omega, _, drop_row VRow.row_len (List.getElem?_eq_getElem hlt), VRow.ne _ _, ?_⟩
   simp only [tt, seval, h5, VRow.tk, VRow.row_len]
   refine call0 (hx a[i] (List.getElem_mem hlt)) ?_ ?_ ?_
   ·decide
   ·simp only [tt, seval]
    exact ⟨⟨rfl, rfl⟩, rfl, rfl⟩
   rintro r rfl
   simp only [tt, seval, h5]
   rw [wrS i (by omega)]
   exact ⟨[], none, SubO.nil _, PoSub.none _, ⟨i + 1, rfl, by omega, rfl, rfl⟩, by simp only [ixS]; omega⟩
  ·exact ⟨_, _, rfl, end0 rfl⟩
theorem eqData_step (rows : List VRow) (hrows : Cl Tryz.prog 149 [.c (.sl rows.length (rows.flatMap VRow.row) none), .c (.sl rows.length (rows.flatMap VRow.row) none)] [] fun r _ => r = vb true) : Cl Tryz.prog 105 [.ag (csOf (Data.mk rows).row), .ag (csOf (Data.mk rows).row)] [] fun r _ => r = vb true := by
 rw [Data.row_mk]
 refine cl_of_d follows_mixed false Tryz.func105 rfl (by kernel_rfl) ?_
 simp only [Tryz.f105, tt, seval]
 refine cZ (hrows) (by decide) ?_ ?_ <;> simp only [tt, seval, Val.row, lc]
 exact ⟨_, _, rfl, end0 rfl⟩
theorem eqDatas_step (a : List Data) (hx : ∀ x ∈ a, Cl Tryz.prog 105 [.ag (csOf x.row), .ag (csOf x.row)] [] fun r _ => r = vb true) : Cl Tryz.prog 62 [.c (.sl a.length (a.flatMap Data.row) none), .c (.sl a.length (a.flatMap Data.row) none)] [] fun r _ => r = vb true := by
 refine cl_of_d follows_mixed false Tryz.func62 rfl (by kernel_rfl) ?_
 simp only [Tryz.f62, tt, seval]
 refine fun _ _ => ?_
 refine dLoop.intro (fun f L p => ∃ i : Nat, f 5 = vi i ∧ i ≤ a.length ∧ L = [] ∧ p = none) (fun f _ _ => (a.length - ixS (f 5)).toNat) [] none ⟨SubO.nil _, PoSub.none _, ?_⟩ ?_
 ·simp only [tt, seval]
  exact ⟨0, rfl, by omega⟩
 ·rintro g L p ⟨i, h5, hi, rfl, rfl⟩
  simp only [tt, seval] at h5
  simp only [tt, seval, h5, Int.ofNat_lt]
  refine fun _ => And.intro (fun hlt => ?_) (fun hge => ?_)
  ·have hlt : i < a.length := by omega
   refine dDrawn.intro [] (pln [0, 2, 4, 6, 8, 10, 12, 14, 17, 18]) (by kernel_rfl) ?_
   simp only [tt, seval]
   simp only [tt, seval, h5]
   refine ⟨by omega, by omega, _, drop_row Data.row_len (List.getElem?_eq_getElem hlt), Data.ne _ _, ?_⟩
   simp only [tt, seval, h5, Data.tk, Data.row_len]
   refine ⟨by omega, by omega, _, drop_row Data.row_len (List.getElem?_eq_getElem hlt), Data.ne _ _, ?_⟩
   simp only [tt, seval, h5, Data.tk, Data.row_len]
   refine call0 (hx a[i] (List.getElem_mem hlt)) ?_ ?_ ?_
   ·decide
   ·simp only [tt, seval]
   rintro r rfl
   simp only [tt, seval, h5]
   rw [wrS i (by omega)]
   exact ⟨[], none, SubO.nil _, PoSub.none _, ⟨i + 1, rfl, by omega, rfl, rfl⟩, by simp only [ixS]; omega⟩
  ·exact ⟨_, _, rfl, end0 rfl⟩
theorem eqDatas_d (n : Nat) : Cl Tryz.prog 62 [.c (.sl (List.replicate n zData).length ((List.replicate n zData).flatMap Data.row) none), .c (.sl (List.replicate n zData).length ((List.replicate n zData).flatMap Data.row) none)] [] fun r _ => r = vb true := eqDatas_step _ fun x hx => by
 rw [List.eq_of_mem_replicate hx]
 exact eqData_step _ (eqVRows_step [] fun x hx => by cases hx)
theorem eqDb_step (tables : List Data) (htables : Cl Tryz.prog 62 [.c (.sl tables.length (tables.flatMap Data.row) none), .c (.sl tables.length (tables.flatMap Data.row) none)] [] fun r _ => r = vb true) : Cl Tryz.prog 28 [.ag (csOf (Db.mk tables).row), .ag (csOf (Db.mk tables).row)] [] fun r _ => r = vb true := by
 rw [Db.row_mk]
 refine cl_of_d follows_mixed false Tryz.func28 rfl (by kernel_rfl) ?_
 simp only [Tryz.f28, tt, seval]
 refine cZ (htables) (by decide) ?_ ?_ <;> simp only [tt, seval, Val.row, lc]
 exact ⟨_, _, rfl, end0 rfl⟩
mutual
def cnVal : Val → Nat
 | .mk kind num text => 3
end
mutual
def mkVal : Int → Val → Val
 | q, .mk kind num text => .mk (q) (q + 1) (mtext (q + 1 + 1))
end
mutual
def cnVRow : VRow → Nat
 | .mk l => 0 + cnL cnVal l
end
mutual
def mkVRow : Int → VRow → VRow
 | q, .mk l => .mk (mkL mkVal cnVal (q) l)
end
theorem cnVRow_mk (l : List Val) : cnVRow (.mk l) = 0 + cnL cnVal l := by simp only [cnVRow, ]
theorem mkVRow_mk (q : Int) (l : List Val) : mkVRow q (.mk l) = .mk (mkL mkVal cnVal (q) l) := by simp only [mkVRow, ]
mutual
def cnData : Data → Nat
 | .mk rows => 0 + cnL cnVRow rows
end
mutual
def mkData : Int → Data → Data
 | q, .mk rows => .mk (mkL mkVRow cnVRow (q) rows)
end
theorem cnData_mk (rows : List VRow) : cnData (.mk rows) = 0 + cnL cnVRow rows := by simp only [cnData, ]
theorem mkData_mk (q : Int) (rows : List VRow) : mkData q (.mk rows) = .mk (mkL mkVRow cnVRow (q) rows) := by simp only [mkData, ]
mutual
def cnCol : Col → Nat
 | .mk name ty => 2
end
mutual
def mkCol : Int → Col → Col
 | q, .mk name ty => .mk (mtext (q)) (q + 1)
end
theorem cnCol_mk (name : ByteArray) (ty : Int) : cnCol (.mk name ty) = 2 := by simp only [cnCol, ]
theorem mkCol_mk (q : Int) (name : ByteArray) (ty : Int) : mkCol q (.mk name ty) = .mk (mtext (q)) (q + 1) := by simp only [mkCol, ]
mutual
def cnTable : Table → Nat
 | .mk name cols => 1 + cnL cnCol cols
end
mutual
def mkTable : Int → Table → Table
 | q, .mk name cols => .mk (mtext (q)) (mkL mkCol cnCol (q + 1) cols)
end
theorem cnTable_mk (name : ByteArray) (cols : List Col) : cnTable (.mk name cols) = 1 + cnL cnCol cols := by simp only [cnTable, ]
theorem mkTable_mk (q : Int) (name : ByteArray) (cols : List Col) : mkTable q (.mk name cols) = .mk (mtext (q)) (mkL mkCol cnCol (q + 1) cols) := by simp only [mkTable, ]
def MkVRow : VRow → Prop
 | .mk l => MkC 150 Val.row mkVal cnVal l
def MkData : Data → Prop
 | .mk rows => MkC 107 VRow.row mkVRow cnVRow rows
set_option maxHeartbeats 8000000 in
theorem markCols_step (es : List Col) : MkC 106 Col.row mkCol cnCol es := by
 intro w k v F h hn ho hg hlib h0 h1
 obtain ⟨a, cap, rfl, hcap, hmax, hz⟩ := h.slice
 have hmax' : cap ≤ 9223372036854775807 := hmax
 have hM := Mrk.start h hn ho
 clear h hn ho
 refine ⟨by kernel_rfl, calls_of_c (vs := [.slice a es.length cap, .int .i64 k]) Tryz.func106 rfl (Nat.le_of_ble_eq_true rfl) ?_⟩
 simp (maxSteps := 10000000) only [tt, cc, seval, Tryz.f106]
 refine ⟨fun f w1 => ∃ i : Nat, f 5 = vi i ∧ f 1 = vi (k + cnL cnCol (es.take i)) ∧ i ≤ es.length ∧ Mrk w F w1 a ((mkL mkCol cnCol k (es.take i)).flatMap Col.row) ((es.drop i).flatMap Col.row), fun f _ => (es.length - ixS (f 5)).toNat, ?_, ?_⟩
 ·simp (maxSteps := 10000000) only [tt, cc, seval]
  exact ⟨0, rfl, viE (by simp [cnL]), by omega, by simpa [mkL] using hM⟩
 ·rintro g w0 ⟨i, h5, h1', hi, hM⟩
  simp (maxSteps := 10000000) only [tt, cc, seval] at h5 h1'
  simp (maxSteps := 10000000) only [tt, cc, seval, h5, h1', Int.ofNat_lt]
  refine And.intro (fun hlt => ?_) (fun hge => ?_)
  ·have hlt : i < es.length := by omega
   have hd : es.drop i = es[i] :: es.drop (i + 1) := List.drop_eq_getElem_cons hlt
   have hks := cnL_take_succ cnCol es i hlt
   have hkl := cnL_take_le cnCol es (i + 1)
   have hts := mkL_take_succ mkCol cnCol k es i hlt
   have hdl : ((mkL mkCol cnCol k (es.take i)).flatMap Col.row).length = i * 2 := by rw [flatMap_len Col.row_len, mkL_len, List.length_take]; congr 1; omega
   rw [hd, List.flatMap_cons] at hM
   generalize hk0 : k + (cnL cnCol (es.take i) : Int) = k0 at *
   generalize hdone : (mkL mkCol cnCol k (es.take i)).flatMap Col.row = done at *
   obtain ⟨e, he⟩ : ∃ e, es[i] = e := ⟨_, rfl⟩
   rw [he] at hks hts hM
   obtain ⟨name, ty⟩ := e
   rw [cnCol_mk] at hks
   simp only [Col.row_mk, lc, Val.row] at hM
   obtain ⟨b, o, rfl, hM0⟩ := hM.open (by simp)
   clear hM
   have hc0 := hM0.chl
   obtain ⟨hcb0, hcl0⟩ := markText_c k0 w0 (glw_chl hc0 hg hlib) (by omega)
   refine ⟨hcb0, _, hcl0, ?_⟩
   rintro _ w1 ⟨rfl, hgr0⟩
   replace hM1 := hM0.grow hgr0
   have hc1 := hM1.chl
   refine Stp.go ?_
   simp (maxSteps := 10000000) only [tt, cc, seval, h5, h1']
   obtain ⟨q0, z0, w2, e1, hM2⟩ := Mrk1.st hM1 (o + i * 2) (.string (mtext k0)) (by simp [hdl]; try omega) (mtext_ok (by omega))
   have hc2 := hM2.chl
   refine ⟨by omega, by omega, q0, z0, w2, e1, Stp.go ?_⟩
   simp (maxSteps := 10000000) only [tt, cc, seval, h5, h1']
   rw [wrap_id (n := k0 + 1) (by omega) (by omega)]
   generalize hk1 : k0 + 1 = k1 at *
   obtain ⟨q1, z1, w3, e2, hM3⟩ := Mrk1.st hM2 (o + i * 2 + 1) (.int .i64 k1) (by simp [hdl]; try omega) trivial
   have hc3 := hM3.chl
   refine ⟨by omega, by omega, q1, z1, w3, e2, Stp.go ?_⟩
   simp (maxSteps := 10000000) only [tt, cc, seval, h5, h1']
   rw [wrap_id (n := k1 + 1) (by omega) (by omega)]
   generalize hk2 : k1 + 1 = k2 at *
   rw [wrS i (by omega)]
   refine ⟨⟨i + 1, rfl, viE (by rw [hks]; omega), by omega, ?_⟩, by simp only [ixS]; omega⟩
   rw [hts, List.flatMap_append]
   have := hM3.close
   rw [hdone]
   simpa [mkCol_mk, Col.row_mk, lc, Val.row, hk1, hk2, mkL_len, int, bool, str] using this
  ·have : i = es.length := by omega
   subst this
   rw [List.take_length, List.drop_length] at hM
   obtain ⟨hc, ho, hcg⟩ := hM.done hcap hmax hz
   exact ⟨by rw [List.take_length], hc, ho, hcg⟩
theorem markCols_c (es : List Col) : MkC 106 Col.row mkCol cnCol es := markCols_step es
set_option maxHeartbeats 8000000 in
theorem markTables_step (es : List Table) : MkC 63 Table.row mkTable cnTable es := by
 intro w k v F h hn ho hg hlib h0 h1
 obtain ⟨a, cap, rfl, hcap, hmax, hz⟩ := h.slice
 have hmax' : cap ≤ 9223372036854775807 := hmax
 have hM := Mrk.start h hn ho
 clear h hn ho
 refine ⟨by kernel_rfl, calls_of_c (vs := [.slice a es.length cap, .int .i64 k]) Tryz.func63 rfl (Nat.le_of_ble_eq_true rfl) ?_⟩
 simp (maxSteps := 10000000) only [tt, cc, seval, Tryz.f63]
 refine ⟨fun f w1 => ∃ i : Nat, f 5 = vi i ∧ f 1 = vi (k + cnL cnTable (es.take i)) ∧ i ≤ es.length ∧ Mrk w F w1 a ((mkL mkTable cnTable k (es.take i)).flatMap Table.row) ((es.drop i).flatMap Table.row), fun f _ => (es.length - ixS (f 5)).toNat, ?_, ?_⟩
 ·simp (maxSteps := 10000000) only [tt, cc, seval]
  exact ⟨0, rfl, viE (by simp [cnL]), by omega, by simpa [mkL] using hM⟩
 ·rintro g w0 ⟨i, h5, h1', hi, hM⟩
  simp (maxSteps := 10000000) only [tt, cc, seval] at h5 h1'
  simp (maxSteps := 10000000) only [tt, cc, seval, h5, h1', Int.ofNat_lt]
  refine And.intro (fun hlt => ?_) (fun hge => ?_)
  ·have hlt : i < es.length := by omega
   have hd : es.drop i = es[i] :: es.drop (i + 1) := List.drop_eq_getElem_cons hlt
   have hks := cnL_take_succ cnTable es i hlt
   have hkl := cnL_take_le cnTable es (i + 1)
   have hts := mkL_take_succ mkTable cnTable k es i hlt
   have hdl : ((mkL mkTable cnTable k (es.take i)).flatMap Table.row).length = i * 2 := by rw [flatMap_len Table.row_len, mkL_len, List.length_take]; congr 1; omega
   rw [hd, List.flatMap_cons] at hM
   generalize hk0 : k + (cnL cnTable (es.take i) : Int) = k0 at *
   generalize hdone : (mkL mkTable cnTable k (es.take i)).flatMap Table.row = done at *
   obtain ⟨e, he⟩ : ∃ e, es[i] = e := ⟨_, rfl⟩
   rw [he] at hks hts hM
   obtain ⟨name, cols⟩ := e
   rw [cnTable_mk] at hks
   simp only [lc, Table.row_mk, Val.row] at hM
   obtain ⟨b, o, rfl, hM0⟩ := hM.open (by simp)
   clear hM
   have hc0 := hM0.chl
   obtain ⟨hcb0, hcl0⟩ := markText_c k0 w0 (glw_chl hc0 hg hlib) (by omega)
   refine ⟨hcb0, _, hcl0, ?_⟩
   rintro _ w1 ⟨rfl, hgr0⟩
   replace hM1 := hM0.grow hgr0
   have hc1 := hM1.chl
   refine Stp.go ?_
   simp (maxSteps := 10000000) only [tt, cc, seval, h5, h1']
   obtain ⟨q0, z0, w2, e1, hM2⟩ := Mrk1.st hM1 (o + i * 2) (.string (mtext k0)) (by simp [hdl]; try omega) (mtext_ok (by omega))
   have hc2 := hM2.chl
   refine ⟨by omega, by omega, q0, z0, w2, e1, Stp.go ?_⟩
   simp (maxSteps := 10000000) only [tt, cc, seval, h5, h1']
   rw [wrap_id (n := k0 + 1) (by omega) (by omega)]
   generalize hk1 : k0 + 1 = k1 at *
   obtain ⟨v1, G1, hv1, hd1, nd1, ow1, sb1, nx1⟩ := Mrk1.load hM2 (p := o + i * 2 + 1) (by simp [hdl]; try omega)
   refine ⟨by omega, by omega, _, hv1, ?_⟩
   obtain ⟨hcb1, hcl1⟩ := markCols_c _ w2 k1 v1 G1 hd1 nd1 ow1 (glw_chl hc2 hg hlib) (fun t ht hm => hlib t ht (sb1 _ hm)) (by omega) (by omega)
   refine ⟨hcb1, _, hcl1, ?_⟩
   rintro _ w3 ⟨rfl, cd1, ow1', cg1⟩
   have hM3 := nx1 _ _ cg1 cd1 ow1'
   have hc3 := hM3.chl
   refine Stp.go ?_
   simp (maxSteps := 10000000) only [tt, cc, seval, h5, h1']
   generalize hk2 : k1 + (cnL cnCol cols : Int) = k2 at *
   rw [wrS i (by omega)]
   refine ⟨⟨i + 1, rfl, viE (by rw [hks]; omega), by omega, ?_⟩, by simp only [ixS]; omega⟩
   rw [hts, List.flatMap_append]
   have := hM3.close
   rw [hdone]
   simpa [mkTable_mk, lc, Table.row_mk, Val.row, hk1, hk2, mkL_len, int, bool, str] using this
  ·have : i = es.length := by omega
   subst this
   rw [List.take_length, List.drop_length] at hM
   obtain ⟨hc, ho, hcg⟩ := hM.done hcap hmax hz
   exact ⟨by rw [List.take_length], hc, ho, hcg⟩
theorem markTables_c (es : List Table) : MkC 63 Table.row mkTable cnTable es := markTables_step es
set_option maxHeartbeats 1000000 in
theorem markCatalog_c (tables : List Table) (q : Int) (w : World) (vs : List Value) (F : List Nat) (h : ValsF w (Catalog.mk tables).row vs F) (hn : F.Nodup) (ho : OwnL w F) (hg : GlW w (fun _ => False)) (hlib : ∀ t ∈ libVars, t.1 ∉ F) (h0 : 0 ≤ q) (h1 : q + (cnL cnTable tables : Int) ≤ 4611686018427387904) :
 callable Tryz.prog 29 = true ∧ Calls Tryz.prog 29 #[.agg vs.toArray, .int .i64 q] w fun e w' => ∃ r, e = .returned r ∧ r = .int .i64 (q + (cnL cnTable tables : Int)) ∧ ValsF w' (Catalog.mk (mkL mkTable cnTable (q) tables)).row vs F ∧ OwnL w' F ∧ ChL F w w' := by
 simp only [Catalog.row_mk, lc, Val.row] at h ⊢
 obtain ⟨v0, r0, F0, R0, rfl, c0, hh0, rfl⟩ := vals_cons h
 obtain ⟨rfl, rfl⟩ := vals_nil hh0
 simp only [List.nil_append, List.append_nil] at hn ho hlib ⊢
 have n0 : F0.Nodup := nodup_of hn (by intro x; (try simp only [List.count_append]); omega)
 have o0 : OwnL w F0 := ho.sub (by intro x hx; simp [hx])
 have l0 : ∀ t ∈ libVars, t.1 ∉ F0 := fun t ht hm => hlib t ht (by simp [hm])
 refine ⟨by kernel_rfl, ?_⟩
 have hcc := fun R => @calls_of_c Tryz.prog w 29 Tryz.f29 _ [.agg [v0].toArray, .int .i64 q] R Tryz.func29 rfl (Nat.le_of_ble_eq_true rfl)
 refine hcc _ ?_
 simp (maxSteps := 10000000) only [tt, cc, seval, Tryz.f29, cBox]
 intro b w1 hb hw1
 obtain ⟨hbx, hg1⟩ := box_new hb hw1
 have hlt : ∀ x ∈ F0, x < b := fun x hx => by rw [hb]; exact Go.Cv.vis_lt (ho.vis x hx)
 replace c0 := c0.grow hg1.grow
 replace o0 := o0.grow hg1.grow
 have hG := glw_gr hg1 hg
 refine ⟨_, box_cell (j := 0) hbx rfl, ?_⟩
 obtain ⟨hcb0, hcl0⟩ := markTables_c tables w1 (q) v0 F0 c0 n0 o0 hG l0 (by omega) (by omega)
 refine ⟨hcb0, _, hcl0, ?_⟩
 rintro _ w2 ⟨rfl, c0, o0, g0⟩
 replace hbx := (g0.keep b (lt_of_heap hbx) (fun hm => absurd (hlt b (by simp [hm])) (Nat.lt_irrefl _))).trans hbx
 replace hG := glw_chl g0 hG l0
 have gg0 : ChL (F0) w1 w2 := g0.mono (by intro x hx; simp [hx])
 refine Stp.go ?_
 simp (maxSteps := 10000000) only [tt, cc, seval]
 refine ⟨?_, o0, ((hg1.chl _).trans gg0)⟩
 simpa [mkL_len] using (vals_cons_mk c0 vals_nil_mk)
set_option maxHeartbeats 8000000 in
theorem markVRows_step (es : List VRow) (hx : ∀ e ∈ es, MkVRow e) : MkC 107 VRow.row mkVRow cnVRow es := by
 intro w k v F h hn ho hg hlib h0 h1
 obtain ⟨a, cap, rfl, hcap, hmax, hz⟩ := h.slice
 have hmax' : cap ≤ 9223372036854775807 := hmax
 have hM := Mrk.start h hn ho
 clear h hn ho
 refine ⟨by kernel_rfl, calls_of_c (vs := [.slice a es.length cap, .int .i64 k]) Tryz.func107 rfl (Nat.le_of_ble_eq_true rfl) ?_⟩
 simp (maxSteps := 10000000) only [tt, cc, seval, Tryz.f107]
 refine ⟨fun f w1 => ∃ i : Nat, f 5 = vi i ∧ f 1 = vi (k + cnL cnVRow (es.take i)) ∧ i ≤ es.length ∧ Mrk w F w1 a ((mkL mkVRow cnVRow k (es.take i)).flatMap VRow.row) ((es.drop i).flatMap VRow.row), fun f _ => (es.length - ixS (f 5)).toNat, ?_, ?_⟩
 ·simp (maxSteps := 10000000) only [tt, cc, seval]
  exact ⟨0, rfl, viE (by simp [cnL]), by omega, by simpa [mkL] using hM⟩
 ·rintro g w0 ⟨i, h5, h1', hi, hM⟩
  simp (maxSteps := 10000000) only [tt, cc, seval] at h5 h1'
  simp (maxSteps := 10000000) only [tt, cc, seval, h5, h1', Int.ofNat_lt]
  refine And.intro (fun hlt => ?_) (fun hge => ?_)
  ·have hlt : i < es.length := by omega
   have hd : es.drop i = es[i] :: es.drop (i + 1) := List.drop_eq_getElem_cons hlt
   have hks := cnL_take_succ cnVRow es i hlt
   have hkl := cnL_take_le cnVRow es (i + 1)
   have hts := mkL_take_succ mkVRow cnVRow k es i hlt
   have hdl : ((mkL mkVRow cnVRow k (es.take i)).flatMap VRow.row).length = i * 1 := by rw [flatMap_len VRow.row_len, mkL_len, List.length_take]; congr 1; omega
   rw [hd, List.flatMap_cons] at hM
   generalize hk0 : k + (cnL cnVRow (es.take i) : Int) = k0 at *
   generalize hdone : (mkL mkVRow cnVRow k (es.take i)).flatMap VRow.row = done at *
   obtain ⟨e, he⟩ : ∃ e, es[i] = e := ⟨_, rfl⟩
   rw [he] at hks hts hM
   have hxe := hx _ (List.getElem_mem hlt)
   rw [he] at hxe
   obtain ⟨l⟩ := e
   have Hl := hxe
   rw [cnVRow_mk] at hks
   simp only [lc, VRow.row_mk, Val.row] at hM
   obtain ⟨b, o, rfl, hM0⟩ := hM.open (by simp)
   clear hM
   have hc0 := hM0.chl
   obtain ⟨v0, G0, hv0, hd0, nd0, ow0, sb0, nx0⟩ := Mrk1.load hM0 (p := o + i * 1) (by simp [hdl]; try omega)
   refine ⟨by omega, by omega, _, hv0, ?_⟩
   obtain ⟨hcb0, hcl0⟩ := Hl w0 k0 v0 G0 hd0 nd0 ow0 (glw_chl hc0 hg hlib) (fun t ht hm => hlib t ht (sb0 _ hm)) (by omega) (by omega)
   refine ⟨hcb0, _, hcl0, ?_⟩
   rintro _ w1 ⟨rfl, cd0, ow0', cg0⟩
   have hM1 := nx0 _ _ cg0 cd0 ow0'
   have hc1 := hM1.chl
   refine Stp.go ?_
   simp (maxSteps := 10000000) only [tt, cc, seval, h5, h1']
   generalize hk1 : k0 + (cnL cnVal l : Int) = k1 at *
   rw [wrS i (by omega)]
   refine ⟨⟨i + 1, rfl, viE (by rw [hks]; omega), by omega, ?_⟩, by simp only [ixS]; omega⟩
   rw [hts, List.flatMap_append]
   have := hM1.close
   rw [hdone]
   simpa [mkVRow_mk, lc, VRow.row_mk, Val.row, hk1, mkL_len, int, bool, str] using this
  ·have : i = es.length := by omega
   subst this
   rw [List.take_length, List.drop_length] at hM
   obtain ⟨hc, ho, hcg⟩ := hM.done hcap hmax hz
   exact ⟨by rw [List.take_length], hc, ho, hcg⟩
set_option maxHeartbeats 8000000 in
theorem markDatas_step (es : List Data) (hx : ∀ e ∈ es, MkData e) : MkC 64 Data.row mkData cnData es := by
 intro w k v F h hn ho hg hlib h0 h1
 obtain ⟨a, cap, rfl, hcap, hmax, hz⟩ := h.slice
 have hmax' : cap ≤ 9223372036854775807 := hmax
 have hM := Mrk.start h hn ho
 clear h hn ho
 refine ⟨by kernel_rfl, calls_of_c (vs := [.slice a es.length cap, .int .i64 k]) Tryz.func64 rfl (Nat.le_of_ble_eq_true rfl) ?_⟩
 simp (maxSteps := 10000000) only [tt, cc, seval, Tryz.f64]
 refine ⟨fun f w1 => ∃ i : Nat, f 5 = vi i ∧ f 1 = vi (k + cnL cnData (es.take i)) ∧ i ≤ es.length ∧ Mrk w F w1 a ((mkL mkData cnData k (es.take i)).flatMap Data.row) ((es.drop i).flatMap Data.row), fun f _ => (es.length - ixS (f 5)).toNat, ?_, ?_⟩
 ·simp (maxSteps := 10000000) only [tt, cc, seval]
  exact ⟨0, rfl, viE (by simp [cnL]), by omega, by simpa [mkL] using hM⟩
 ·rintro g w0 ⟨i, h5, h1', hi, hM⟩
  simp (maxSteps := 10000000) only [tt, cc, seval] at h5 h1'
  simp (maxSteps := 10000000) only [tt, cc, seval, h5, h1', Int.ofNat_lt]
  refine And.intro (fun hlt => ?_) (fun hge => ?_)
  ·have hlt : i < es.length := by omega
   have hd : es.drop i = es[i] :: es.drop (i + 1) := List.drop_eq_getElem_cons hlt
   have hks := cnL_take_succ cnData es i hlt
   have hkl := cnL_take_le cnData es (i + 1)
   have hts := mkL_take_succ mkData cnData k es i hlt
   have hdl : ((mkL mkData cnData k (es.take i)).flatMap Data.row).length = i * 1 := by rw [flatMap_len Data.row_len, mkL_len, List.length_take]; congr 1; omega
   rw [hd, List.flatMap_cons] at hM
   generalize hk0 : k + (cnL cnData (es.take i) : Int) = k0 at *
   generalize hdone : (mkL mkData cnData k (es.take i)).flatMap Data.row = done at *
   obtain ⟨e, he⟩ : ∃ e, es[i] = e := ⟨_, rfl⟩
   rw [he] at hks hts hM
   have hxe := hx _ (List.getElem_mem hlt)
   rw [he] at hxe
   obtain ⟨rows⟩ := e
   have Hrows := hxe
   rw [cnData_mk] at hks
   simp only [Data.row_mk, lc, Val.row] at hM
   obtain ⟨b, o, rfl, hM0⟩ := hM.open (by simp)
   clear hM
   have hc0 := hM0.chl
   obtain ⟨v0, G0, hv0, hd0, nd0, ow0, sb0, nx0⟩ := Mrk1.load hM0 (p := o + i * 1) (by simp [hdl]; try omega)
   refine ⟨by omega, by omega, _, hv0, ?_⟩
   obtain ⟨hcb0, hcl0⟩ := Hrows w0 k0 v0 G0 hd0 nd0 ow0 (glw_chl hc0 hg hlib) (fun t ht hm => hlib t ht (sb0 _ hm)) (by omega) (by omega)
   refine ⟨hcb0, _, hcl0, ?_⟩
   rintro _ w1 ⟨rfl, cd0, ow0', cg0⟩
   have hM1 := nx0 _ _ cg0 cd0 ow0'
   have hc1 := hM1.chl
   refine Stp.go ?_
   simp (maxSteps := 10000000) only [tt, cc, seval, h5, h1']
   generalize hk1 : k0 + (cnL cnVRow rows : Int) = k1 at *
   rw [wrS i (by omega)]
   refine ⟨⟨i + 1, rfl, viE (by rw [hks]; omega), by omega, ?_⟩, by simp only [ixS]; omega⟩
   rw [hts, List.flatMap_append]
   have := hM1.close
   rw [hdone]
   simpa [mkData_mk, Data.row_mk, lc, Val.row, hk1, mkL_len, int, bool, str] using this
  ·have : i = es.length := by omega
   subst this
   rw [List.take_length, List.drop_length] at hM
   obtain ⟨hc, ho, hcg⟩ := hM.done hcap hmax hz
   exact ⟨by rw [List.take_length], hc, ho, hcg⟩
theorem markDatas_z (n : Nat) : MkC 64 Data.row mkData cnData (List.replicate n zData) := markDatas_step _ fun e he => by
 rw [List.eq_of_mem_replicate he]
 exact markVRows_step [] fun e he => by cases he
set_option maxHeartbeats 1000000 in
theorem markDb_c (tables : List Data) (hdt : MkC 64 Data.row mkData cnData tables) (q : Int) (w : World) (vs : List Value) (F : List Nat) (h : ValsF w (Db.mk tables).row vs F) (hn : F.Nodup) (ho : OwnL w F) (hg : GlW w (fun _ => False)) (hlib : ∀ t ∈ libVars, t.1 ∉ F) (h0 : 0 ≤ q) (h1 : q + (cnL cnData tables : Int) ≤ 4611686018427387904) :
 callable Tryz.prog 30 = true ∧ Calls Tryz.prog 30 #[.agg vs.toArray, .int .i64 q] w fun e w' => ∃ r, e = .returned r ∧ r = .int .i64 (q + (cnL cnData tables : Int)) ∧ ValsF w' (Db.mk (mkL mkData cnData (q) tables)).row vs F ∧ OwnL w' F ∧ ChL F w w' := by
 simp only [Db.row_mk, lc, Val.row] at h ⊢
 obtain ⟨v0, r0, F0, R0, rfl, c0, hh0, rfl⟩ := vals_cons h
 obtain ⟨rfl, rfl⟩ := vals_nil hh0
 simp only [List.nil_append, List.append_nil] at hn ho hlib ⊢
 have n0 : F0.Nodup := nodup_of hn (by intro x; (try simp only [List.count_append]); omega)
 have o0 : OwnL w F0 := ho.sub (by intro x hx; simp [hx])
 have l0 : ∀ t ∈ libVars, t.1 ∉ F0 := fun t ht hm => hlib t ht (by simp [hm])
 refine ⟨by kernel_rfl, ?_⟩
 have hcc := fun R => @calls_of_c Tryz.prog w 30 Tryz.f30 _ [.agg [v0].toArray, .int .i64 q] R Tryz.func30 rfl (Nat.le_of_ble_eq_true rfl)
 refine hcc _ ?_
 simp (maxSteps := 10000000) only [tt, cc, seval, Tryz.f30, cBox]
 intro b w1 hb hw1
 obtain ⟨hbx, hg1⟩ := box_new hb hw1
 have hlt : ∀ x ∈ F0, x < b := fun x hx => by rw [hb]; exact Go.Cv.vis_lt (ho.vis x hx)
 replace c0 := c0.grow hg1.grow
 replace o0 := o0.grow hg1.grow
 have hG := glw_gr hg1 hg
 refine ⟨_, box_cell (j := 0) hbx rfl, ?_⟩
 obtain ⟨hcb0, hcl0⟩ := hdt w1 (q) v0 F0 c0 n0 o0 hG l0 (by omega) (by omega)
 refine ⟨hcb0, _, hcl0, ?_⟩
 rintro _ w2 ⟨rfl, c0, o0, g0⟩
 replace hbx := (g0.keep b (lt_of_heap hbx) (fun hm => absurd (hlt b (by simp [hm])) (Nat.lt_irrefl _))).trans hbx
 replace hG := glw_chl g0 hG l0
 have gg0 : ChL (F0) w1 w2 := g0.mono (by intro x hx; simp [hx])
 refine Stp.go ?_
 simp (maxSteps := 10000000) only [tt, cc, seval]
 refine ⟨?_, o0, ((hg1.chl _).trans gg0)⟩
 simpa [mkL_len] using (vals_cons_mk c0 vals_nil_mk)
theorem box_sub1 {w : World} {b : Nat} {t : TypeId} (pre va post : List Value) (hb : w.heap[b]? = some (.cells (pre ++ (va ++ post)).toArray t (0, 0))) : Cells w b pre.length va := fun j v hj => box_cell hb (by
 rw [List.getElem?_toArray, List.getElem?_append_right (by omega), Nat.add_sub_cancel_left, List.getElem?_append_left (List.getElem?_eq_some_iff.1 hj).1]; exact hj)
theorem vals_one {w : World} {x : D} {v : Value} {F : List Nat} (h : CellF w x v F) : ValsF w [x] [v] F := by simpa using vals_cons_mk h vals_nil_mk
theorem vals_one' {w : World} {x : D} {v : Value} {F : List Nat} (h : ValsF w [x] [v] F) : CellF w x v F := by
 obtain ⟨v0, r0, F0, R0, e, c0, hh0, rfl⟩ := vals_cons h
 obtain ⟨rfl, rfl⟩ := vals_nil hh0
 injection e with e _
 rw [List.append_nil]; rw [e]; exact c0
set_option maxHeartbeats 1000000 in
theorem markDesk_c (t : List Table) (d : List Data) (hdt : MkC 64 Data.row mkData cnData d) (q : Int) (w : World) (vs : List Value) (F : List Nat) (h : ValsF w (Desk.mk (.mk t) (.mk d)).row vs F) (hn : F.Nodup) (ho : OwnL w F) (hg : GlW w (fun _ => False)) (hlib : ∀ t ∈ libVars, t.1 ∉ F) (h0 : 0 ≤ q) (h1 : q + (cnL cnTable t : Int) + (cnL cnData d : Int) ≤ 4611686018427387904) :
 callable Tryz.prog 9 = true ∧ Calls Tryz.prog 9 #[.agg vs.toArray, .int .i64 q] w fun e w' => ∃ r, e = .returned r ∧ r = .int .i64 (q + (cnL cnTable t : Int) + (cnL cnData d : Int)) ∧ ValsF w' (Desk.mk (.mk (mkL mkTable cnTable q t)) (.mk (mkL mkData cnData (q + (cnL cnTable t : Int)) d))).row vs F ∧ OwnL w' F ∧ ChL F w w' := by
 simp only [Desk.row_mk, Catalog.row_mk, Db.row_mk, lc] at h ⊢
 obtain ⟨v0, r0, F0, R0, rfl, c0, hh0, rfl⟩ := vals_cons h
 obtain ⟨v1, r1, F1, R1, rfl, c1, hh1, rfl⟩ := vals_cons hh0
 obtain ⟨rfl, rfl⟩ := vals_nil hh1
 simp only [List.nil_append, List.append_nil] at hn ho hlib ⊢
 have n0 : F0.Nodup := nodup_of hn (by intro x; simp only [List.count_append]; omega)
 have n1 : F1.Nodup := nodup_of hn (by intro x; simp only [List.count_append]; omega)
 have o0 : OwnL w F0 := ho.sub (by intro x hx; simp [hx])
 have o1 : OwnL w F1 := ho.sub (by intro x hx; simp [hx])
 have l0 : ∀ t ∈ libVars, t.1 ∉ F0 := fun t ht hm => hlib t ht (by simp [hm])
 have l1 : ∀ t ∈ libVars, t.1 ∉ F1 := fun t ht hm => hlib t ht (by simp [hm])
 have d0_1 : ∀ x ∈ F0, x ∉ F1 := fun x hx hy => disj_of hn (by intro x; simp only [List.count_append]; omega) x hx hy
 have d1_0 : ∀ x ∈ F1, x ∉ F0 := fun x hx hy => disj_of hn (by intro x; simp only [List.count_append]; omega) x hx hy
 refine ⟨by kernel_rfl, ?_⟩
 have hcc := fun R => @calls_of_c Tryz.prog w 9 Tryz.f9 _ [.agg [v0, v1].toArray, .int .i64 q] R Tryz.func9 rfl (Nat.le_of_ble_eq_true rfl)
 refine hcc _ ?_
 simp (maxSteps := 10000000) only [tt, cc, seval, Tryz.f9, cBox]
 intro b w1 hb hw1
 obtain ⟨hbx, hg1⟩ := box_new hb hw1
 have hlt : ∀ x ∈ F0 ++ F1, x < b := fun x hx => by rw [hb]; exact Go.Cv.vis_lt (ho.vis x hx)
 replace c0 := c0.grow hg1.grow
 replace o0 := o0.grow hg1.grow
 replace c1 := c1.grow hg1.grow
 replace o1 := o1.grow hg1.grow
 have hG := glw_gr hg1 hg
 refine ⟨[v0], rfl, box_sub1 [] [v0] [v1] hbx, ?_⟩
 obtain ⟨hcb0, hcl0⟩ := markCatalog_c t q w1 [v0] F0 (by rw [Catalog.row_mk]; exact vals_one c0) n0 o0 hG l0 h0 (by omega)
 refine ⟨hcb0, _, hcl0, ?_⟩
 rintro _ w2 ⟨rfl, e0, o0, g0⟩
 rw [Catalog.row_mk] at e0
 replace c0 := vals_one' e0
 replace hbx := (g0.keep b (lt_of_heap hbx) (fun hm => absurd (hlt b (by simp [hm])) (Nat.lt_irrefl _))).trans hbx
 replace hG := glw_chl g0 hG l0
 replace c1 := c1.chg g0.chg d1_0
 replace o1 := o1.other g0 d1_0
 have gg0 : ChL (F0 ++ F1) w1 w2 := g0.mono (by intro x hx; simp [hx])
 refine Stp.go ?_
 simp (maxSteps := 10000000) only [tt, cc, seval]
 refine ⟨[v1], rfl, box_sub1 [v0] [v1] [] hbx, ?_⟩
 obtain ⟨hcb1, hcl1⟩ := markDb_c d hdt (q + (cnL cnTable t : Int)) w2 [v1] F1 (by rw [Db.row_mk]; exact vals_one c1) n1 o1 hG l1 (by omega) (by omega)
 refine ⟨hcb1, _, hcl1, ?_⟩
 rintro _ w3 ⟨rfl, e1, o1, g1⟩
 rw [Db.row_mk] at e1
 replace c1 := vals_one' e1
 replace c0 := c0.chg g1.chg d0_1
 replace o0 := o0.other g1 d0_1
 have gg1 : ChL (F0 ++ F1) w2 w3 := g1.mono (by intro x hx; simp [hx])
 refine Stp.go ?_
 simp (maxSteps := 10000000) only [tt, cc, seval]
 refine ⟨?_, o0.app o1, (((hg1.chl _).trans gg0).trans gg1)⟩
 simpa [mkL_len] using (vals_cons_mk c0 (vals_cons_mk c1 vals_nil_mk))
def HdC {α : Type} (fn : FuncId) (row : α → List D) (f : Int → α → α) (c : α → Nat) (es : List α) : Prop :=
 ∀ k : Int, 0 ≤ k → k + cnL c es ≤ 4611686018427387904 → Cl Tryz.prog fn [.c (.sl es.length ((mkL f c k es).flatMap row) none), vi k] [] fun r _ => r = vi (k + cnL c es)
def HdVRow : VRow → Prop
 | .mk l => HdC 151 Val.row mkVal cnVal l
def HdData : Data → Prop
 | .mk rows => HdC 109 VRow.row mkVRow cnVRow rows
set_option maxHeartbeats 8000000 in
theorem heldCols_step (es : List Col) : HdC 108 Col.row mkCol cnCol es := by
 intro k h0 hk
 obtain ⟨ms, hms⟩ : ∃ ms, ms = mkL mkCol cnCol k es := ⟨_, rfl⟩
 have hml : es.length = ms.length := by rw [hms, mkL_len]
 rw [← hms, hml]
 refine cl_of_d follows_mixed false Tryz.func108 rfl (by kernel_rfl) ?_
 simp only [Tryz.f108, tt, seval]
 refine dLoop.intro (fun f L p => ∃ i : Nat, f 5 = vi i ∧ f 1 = vi (k + cnL cnCol (es.take i)) ∧ i ≤ ms.length ∧ L = [] ∧ p = none) (fun f _ _ => (ms.length - ixS (f 5)).toNat) [] none ⟨SubO.nil _, PoSub.none _, ?_⟩ ?_
 ·simp only [tt, seval]
  exact ⟨0, rfl, viE (by simp [cnL]), by omega⟩
 ·rintro g L p ⟨i, h5, h1, hi, rfl, rfl⟩
  simp only [tt, seval] at h5 h1
  simp only [tt, seval, h5, h1, Int.ofNat_lt]
  refine fun _ => And.intro (fun hlt => ?_) (fun hge => ?_)
  ·have hlt : i < ms.length := by omega
   have hlt' : i < es.length := by omega
   have hks := cnL_take_succ cnCol es i hlt'
   have hkl := cnL_take_le cnCol es (i + 1)
   have hx' : ms[i]? = some (mkCol (k + cnL cnCol (es.take i)) es[i]) := by rw [hms]; exact mkL_get _ _ _ _ _ hlt'
   generalize hk0 : k + (cnL cnCol (es.take i) : Int) = k0 at *
   obtain ⟨e, he⟩ : ∃ e, es[i] = e := ⟨_, rfl⟩
   rw [he] at hx' hks
   obtain ⟨name, ty⟩ := e
   rw [cnCol_mk] at hks
   rw [mkCol_mk] at hx'
   have i0 : ((0 : Int) ≤ (i : Int)) = True := eq_true (by omega)
   have iL : ((i : Int) < (ms.length : Int)) = True := eq_true (by omega)
   have iT : (i < ms.length) = True := eq_true hlt
   simp only [tt, seval, h5, h1, idxAt hx' Col.row_len, i0, iL, iT, mkL_len, Col.row_mk, Val.row, lc, List.append_assoc]
   refine dDrawn.intro [] (pln [0, 2, 4, 6, 8, 10, 13, 14]) (by kernel_rfl) ?_
   simp only [tt, seval]
   all_goals try simp only [tt, seval, h5, h1, idxAt hx' Col.row_len, i0, iL, iT, mkL_len, Col.row_mk, Val.row, lc, List.append_assoc]
   refine cZ (markText_d (k0) (by omega)) (by decide) ?_ ?_ <;> simp only [tt, seval, h5, h1, idxAt hx' Col.row_len, i0, iL, iT, mkL_len, Col.row_mk, Val.row, lc, List.append_assoc]
   rw [wrap_id (n := k0 + 1) (by omega) (by omega)]
   generalize hk1 : k0 + 1 = k1 at *
   try simp only [tt, seval, h5, h1, idxAt hx' Col.row_len, i0, iL, iT, mkL_len, Col.row_mk, Val.row, lc, List.append_assoc]
   rw [wrap_id (n := k1 + 1) (by omega) (by omega)]
   generalize hk2 : k1 + 1 = k2 at *
   try simp only [tt, seval, h5, h1, idxAt hx' Col.row_len, i0, iL, iT, mkL_len, Col.row_mk, Val.row, lc, List.append_assoc]
   rw [wrS i (by omega)]
   exact ⟨[], none, SubO.nil _, PoSub.none _, ⟨i + 1, rfl, viE (by rw [hks]; omega), by omega, rfl, rfl⟩, by simp only [ixS]; omega⟩
  ·have : i = es.length := by omega
   subst this
   rw [List.take_length] at h1
   refine ⟨_, _, ?_, end0 rfl⟩
   first | rfl | (rw [List.take_length]) | simp only [List.take_length]
theorem heldCols_d (es : List Col) : HdC 108 Col.row mkCol cnCol es := heldCols_step es
set_option maxHeartbeats 8000000 in
theorem heldTables_step (es : List Table) : HdC 65 Table.row mkTable cnTable es := by
 intro k h0 hk
 obtain ⟨ms, hms⟩ : ∃ ms, ms = mkL mkTable cnTable k es := ⟨_, rfl⟩
 have hml : es.length = ms.length := by rw [hms, mkL_len]
 rw [← hms, hml]
 refine cl_of_d follows_mixed false Tryz.func65 rfl (by kernel_rfl) ?_
 simp only [Tryz.f65, tt, seval]
 refine dLoop.intro (fun f L p => ∃ i : Nat, f 5 = vi i ∧ f 1 = vi (k + cnL cnTable (es.take i)) ∧ i ≤ ms.length ∧ L = [] ∧ p = none) (fun f _ _ => (ms.length - ixS (f 5)).toNat) [] none ⟨SubO.nil _, PoSub.none _, ?_⟩ ?_
 ·simp only [tt, seval]
  exact ⟨0, rfl, viE (by simp [cnL]), by omega⟩
 ·rintro g L p ⟨i, h5, h1, hi, rfl, rfl⟩
  simp only [tt, seval] at h5 h1
  simp only [tt, seval, h5, h1, Int.ofNat_lt]
  refine fun _ => And.intro (fun hlt => ?_) (fun hge => ?_)
  ·have hlt : i < ms.length := by omega
   have hlt' : i < es.length := by omega
   have hks := cnL_take_succ cnTable es i hlt'
   have hkl := cnL_take_le cnTable es (i + 1)
   have hx' : ms[i]? = some (mkTable (k + cnL cnTable (es.take i)) es[i]) := by rw [hms]; exact mkL_get _ _ _ _ _ hlt'
   generalize hk0 : k + (cnL cnTable (es.take i) : Int) = k0 at *
   obtain ⟨e, he⟩ : ∃ e, es[i] = e := ⟨_, rfl⟩
   rw [he] at hx' hks
   obtain ⟨name, cols⟩ := e
   rw [cnTable_mk] at hks
   rw [mkTable_mk] at hx'
   have i0 : ((0 : Int) ≤ (i : Int)) = True := eq_true (by omega)
   have iL : ((i : Int) < (ms.length : Int)) = True := eq_true (by omega)
   have iT : (i < ms.length) = True := eq_true hlt
   simp only [tt, seval, h5, h1, idxAt hx' Table.row_len, i0, iL, iT, mkL_len, Table.row_mk, Val.row, lc, List.append_assoc]
   refine dDrawn.intro [] (pln [0, 2, 4, 6, 8, 10, 13, 14]) (by kernel_rfl) ?_
   simp only [tt, seval]
   all_goals try simp only [tt, seval, h5, h1, idxAt hx' Table.row_len, i0, iL, iT, mkL_len, Table.row_mk, Val.row, lc, List.append_assoc]
   refine cZ (markText_d (k0) (by omega)) (by decide) ?_ ?_ <;> simp only [tt, seval, h5, h1, idxAt hx' Table.row_len, i0, iL, iT, mkL_len, Table.row_mk, Val.row, lc, List.append_assoc]
   rw [wrap_id (n := k0 + 1) (by omega) (by omega)]
   generalize hk1 : k0 + 1 = k1 at *
   try simp only [tt, seval, h5, h1, idxAt hx' Table.row_len, i0, iL, iT, mkL_len, Table.row_mk, Val.row, lc, List.append_assoc]
   refine cZ (heldCols_d cols (k1) (by omega) (by omega)) (by decide) ?_ ?_ <;> simp only [tt, seval, h5, h1, idxAt hx' Table.row_len, i0, iL, iT, mkL_len, Table.row_mk, Val.row, lc, List.append_assoc]
   have ng1 : decide (k1 + (cnL cnCol cols : Int) < 0) = false := decide_eq_false (by omega)
   have np1 : (k1 + (cnL cnCol cols : Int) < 0) = False := eq_false (by omega)
   try simp only [tt, seval, ng1, np1, h5, h1, idxAt hx' Table.row_len, i0, iL, iT, mkL_len, Table.row_mk, Val.row, lc, List.append_assoc]
   generalize hk2 : k1 + (cnL cnCol cols : Int) = k2 at *
   rw [wrS i (by omega)]
   exact ⟨[], none, SubO.nil _, PoSub.none _, ⟨i + 1, rfl, viE (by rw [hks]; omega), by omega, rfl, rfl⟩, by simp only [ixS]; omega⟩
  ·have : i = es.length := by omega
   subst this
   rw [List.take_length] at h1
   refine ⟨_, _, ?_, end0 rfl⟩
   first | rfl | (rw [List.take_length]) | simp only [List.take_length]
theorem heldTables_d (es : List Table) : HdC 65 Table.row mkTable cnTable es := heldTables_step es
theorem heldCatalog_d (tables : List Table) (q : Int) (h0 : 0 ≤ q) (h1 : q + (cnL cnTable tables : Int) ≤ 4611686018427387904) : Cl Tryz.prog 31 [.ag (csOf (Catalog.mk (mkL mkTable cnTable (q) tables)).row), vi q] [] fun r _ => r = vi (q + (cnL cnTable tables : Int)) := by
 simp only [Catalog.row_mk, lc, Val.row, mkL_len]
 refine cl_of_d follows_mixed false Tryz.func31 rfl (by kernel_rfl) ?_
 simp only [Tryz.f31, tt, seval]
 refine cZ (heldTables_d tables (q) (by omega) (by omega)) (by decide) ?_ ?_ <;> simp only [tt, seval, Catalog.row_mk, lc, Val.row, mkL_len]
 have ng0 : decide (q + (cnL cnTable tables : Int) < 0) = false := decide_eq_false (by omega)
 have np0 : (q + (cnL cnTable tables : Int) < 0) = False := eq_false (by omega)
 try simp only [tt, seval, ng0, np0, Catalog.row_mk, lc, Val.row, mkL_len]
 exact ⟨_, _, rfl, end0 rfl⟩
set_option maxHeartbeats 8000000 in
theorem heldVRows_step (es : List VRow) (hx : ∀ e ∈ es, HdVRow e) : HdC 109 VRow.row mkVRow cnVRow es := by
 intro k h0 hk
 obtain ⟨ms, hms⟩ : ∃ ms, ms = mkL mkVRow cnVRow k es := ⟨_, rfl⟩
 have hml : es.length = ms.length := by rw [hms, mkL_len]
 rw [← hms, hml]
 refine cl_of_d follows_mixed false Tryz.func109 rfl (by kernel_rfl) ?_
 simp only [Tryz.f109, tt, seval]
 refine dLoop.intro (fun f L p => ∃ i : Nat, f 5 = vi i ∧ f 1 = vi (k + cnL cnVRow (es.take i)) ∧ i ≤ ms.length ∧ L = [] ∧ p = none) (fun f _ _ => (ms.length - ixS (f 5)).toNat) [] none ⟨SubO.nil _, PoSub.none _, ?_⟩ ?_
 ·simp only [tt, seval]
  exact ⟨0, rfl, viE (by simp [cnL]), by omega⟩
 ·rintro g L p ⟨i, h5, h1, hi, rfl, rfl⟩
  simp only [tt, seval] at h5 h1
  simp only [tt, seval, h5, h1, Int.ofNat_lt]
  refine fun _ => And.intro (fun hlt => ?_) (fun hge => ?_)
  ·have hlt : i < ms.length := by omega
   have hlt' : i < es.length := by omega
   have hks := cnL_take_succ cnVRow es i hlt'
   have hkl := cnL_take_le cnVRow es (i + 1)
   have hx' : ms[i]? = some (mkVRow (k + cnL cnVRow (es.take i)) es[i]) := by rw [hms]; exact mkL_get _ _ _ _ _ hlt'
   generalize hk0 : k + (cnL cnVRow (es.take i) : Int) = k0 at *
   have hxe := hx _ (List.getElem_mem hlt')
   obtain ⟨e, he⟩ : ∃ e, es[i] = e := ⟨_, rfl⟩
   rw [he] at hx' hks hxe
   obtain ⟨l⟩ := e
   have Hl := hxe
   rw [cnVRow_mk] at hks
   rw [mkVRow_mk] at hx'
   have i0 : ((0 : Int) ≤ (i : Int)) = True := eq_true (by omega)
   have iL : ((i : Int) < (ms.length : Int)) = True := eq_true (by omega)
   have iT : (i < ms.length) = True := eq_true hlt
   simp only [tt, seval, h5, h1, idxAt hx' VRow.row_len, i0, iL, iT, mkL_len, VRow.row_mk, Val.row, lc, List.append_assoc]
   refine cZ (Hl (k0) (by omega) (by omega)) (by decide) ?_ ?_ <;> simp only [tt, seval, h5, h1, idxAt hx' VRow.row_len, i0, iL, iT, mkL_len, VRow.row_mk, Val.row, lc, List.append_assoc]
   have ng0 : decide (k0 + (cnL cnVal l : Int) < 0) = false := decide_eq_false (by omega)
   have np0 : (k0 + (cnL cnVal l : Int) < 0) = False := eq_false (by omega)
   try simp only [tt, seval, ng0, np0, h5, h1, idxAt hx' VRow.row_len, i0, iL, iT, mkL_len, VRow.row_mk, Val.row, lc, List.append_assoc]
   generalize hk1 : k0 + (cnL cnVal l : Int) = k1 at *
   rw [wrS i (by omega)]
   exact ⟨[], none, SubO.nil _, PoSub.none _, ⟨i + 1, rfl, viE (by rw [hks]; omega), by omega, rfl, rfl⟩, by simp only [ixS]; omega⟩
  ·have : i = es.length := by omega
   subst this
   rw [List.take_length] at h1
   refine ⟨_, _, ?_, end0 rfl⟩
   first | rfl | (rw [List.take_length]) | simp only [List.take_length]
set_option maxHeartbeats 8000000 in
theorem heldDatas_step (es : List Data) (hx : ∀ e ∈ es, HdData e) : HdC 66 Data.row mkData cnData es := by
 intro k h0 hk
 obtain ⟨ms, hms⟩ : ∃ ms, ms = mkL mkData cnData k es := ⟨_, rfl⟩
 have hml : es.length = ms.length := by rw [hms, mkL_len]
 rw [← hms, hml]
 refine cl_of_d follows_mixed false Tryz.func66 rfl (by kernel_rfl) ?_
 simp only [Tryz.f66, tt, seval]
 refine dLoop.intro (fun f L p => ∃ i : Nat, f 5 = vi i ∧ f 1 = vi (k + cnL cnData (es.take i)) ∧ i ≤ ms.length ∧ L = [] ∧ p = none) (fun f _ _ => (ms.length - ixS (f 5)).toNat) [] none ⟨SubO.nil _, PoSub.none _, ?_⟩ ?_
 ·simp only [tt, seval]
  exact ⟨0, rfl, viE (by simp [cnL]), by omega⟩
 ·rintro g L p ⟨i, h5, h1, hi, rfl, rfl⟩
  simp only [tt, seval] at h5 h1
  simp only [tt, seval, h5, h1, Int.ofNat_lt]
  refine fun _ => And.intro (fun hlt => ?_) (fun hge => ?_)
  ·have hlt : i < ms.length := by omega
   have hlt' : i < es.length := by omega
   have hks := cnL_take_succ cnData es i hlt'
   have hkl := cnL_take_le cnData es (i + 1)
   have hx' : ms[i]? = some (mkData (k + cnL cnData (es.take i)) es[i]) := by rw [hms]; exact mkL_get _ _ _ _ _ hlt'
   generalize hk0 : k + (cnL cnData (es.take i) : Int) = k0 at *
   have hxe := hx _ (List.getElem_mem hlt')
   obtain ⟨e, he⟩ : ∃ e, es[i] = e := ⟨_, rfl⟩
   rw [he] at hx' hks hxe
   obtain ⟨rows⟩ := e
   have Hrows := hxe
   rw [cnData_mk] at hks
   rw [mkData_mk] at hx'
   have i0 : ((0 : Int) ≤ (i : Int)) = True := eq_true (by omega)
   have iL : ((i : Int) < (ms.length : Int)) = True := eq_true (by omega)
   have iT : (i < ms.length) = True := eq_true hlt
   simp only [tt, seval, h5, h1, idxAt hx' Data.row_len, i0, iL, iT, mkL_len, Data.row_mk, Val.row, lc, List.append_assoc]
   refine cZ (Hrows (k0) (by omega) (by omega)) (by decide) ?_ ?_ <;> simp only [tt, seval, h5, h1, idxAt hx' Data.row_len, i0, iL, iT, mkL_len, Data.row_mk, Val.row, lc, List.append_assoc]
   have ng0 : decide (k0 + (cnL cnVRow rows : Int) < 0) = false := decide_eq_false (by omega)
   have np0 : (k0 + (cnL cnVRow rows : Int) < 0) = False := eq_false (by omega)
   try simp only [tt, seval, ng0, np0, h5, h1, idxAt hx' Data.row_len, i0, iL, iT, mkL_len, Data.row_mk, Val.row, lc, List.append_assoc]
   generalize hk1 : k0 + (cnL cnVRow rows : Int) = k1 at *
   rw [wrS i (by omega)]
   exact ⟨[], none, SubO.nil _, PoSub.none _, ⟨i + 1, rfl, viE (by rw [hks]; omega), by omega, rfl, rfl⟩, by simp only [ixS]; omega⟩
  ·have : i = es.length := by omega
   subst this
   rw [List.take_length] at h1
   refine ⟨_, _, ?_, end0 rfl⟩
   first | rfl | (rw [List.take_length]) | simp only [List.take_length]
theorem heldDatas_z (n : Nat) : HdC 66 Data.row mkData cnData (List.replicate n zData) := heldDatas_step _ fun e he => by
 rw [List.eq_of_mem_replicate he]
 exact heldVRows_step [] fun e he => by cases he
theorem heldDb_d (tables : List Data) (hdt : HdC 66 Data.row mkData cnData tables) (q : Int) (h0 : 0 ≤ q) (h1 : q + (cnL cnData tables : Int) ≤ 4611686018427387904) : Cl Tryz.prog 32 [.ag (csOf (Db.mk (mkL mkData cnData (q) tables)).row), vi q] [] fun r _ => r = vi (q + (cnL cnData tables : Int)) := by
 simp only [Db.row_mk, lc, Val.row, mkL_len]
 refine cl_of_d follows_mixed false Tryz.func32 rfl (by kernel_rfl) ?_
 simp only [Tryz.f32, tt, seval]
 refine cZ (hdt (q) (by omega) (by omega)) (by decide) ?_ ?_ <;> simp only [tt, seval, Db.row_mk, lc, Val.row, mkL_len]
 have ng0 : decide (q + (cnL cnData tables : Int) < 0) = false := decide_eq_false (by omega)
 have np0 : (q + (cnL cnData tables : Int) < 0) = False := eq_false (by omega)
 try simp only [tt, seval, ng0, np0, Db.row_mk, lc, Val.row, mkL_len]
 exact ⟨_, _, rfl, end0 rfl⟩
theorem heldDesk_d (t : List Table) (d : List Data) (hdt : HdC 66 Data.row mkData cnData d) (q : Int) (h0 : 0 ≤ q) (h1 : q + (cnL cnTable t : Int) + (cnL cnData d : Int) ≤ 4611686018427387904) : Cl Tryz.prog 10 [.ag (csOf (Desk.mk (.mk (mkL mkTable cnTable q t)) (.mk (mkL mkData cnData (q + (cnL cnTable t : Int)) d))).row), vi q] [] fun r _ => r = vi (q + (cnL cnTable t : Int) + (cnL cnData d : Int)) := by
 have c1 := heldCatalog_d t q h0 (by omega)
 have c2 := heldDb_d d hdt (q + (cnL cnTable t : Int)) (by omega) (by omega)
 simp only [Desk.row_mk, Catalog.row_mk, Db.row_mk, lc, mkL_len] at c1 c2 ⊢
 refine cl_of_d follows_mixed false Tryz.func10 rfl (by kernel_rfl) ?_
 simp only [Tryz.f10, tt, seval]
 refine cZ (c1) (by decide) ?_ ?_ <;> simp only [tt, seval]
 have ng0 : decide (q + (cnL cnTable t : Int) < 0) = false := decide_eq_false (by omega)
 have np0 : (q + (cnL cnTable t : Int) < 0) = False := eq_false (by omega)
 try simp only [tt, seval, ng0, np0]
 refine cZ (c2) (by decide) ?_ ?_ <;> simp only [tt, seval]
 have ng1 : decide (q + (cnL cnTable t : Int) + (cnL cnData d : Int) < 0) = false := decide_eq_false (by omega)
 have np1 : (q + (cnL cnTable t : Int) + (cnL cnData d : Int) < 0) = False := eq_false (by omega)
 try simp only [tt, seval, ng1, np1]
 exact ⟨_, _, rfl, end0 rfl⟩
theorem eqDesk_d (t : List Table) (n : Nat) : Cl Tryz.prog 8 [.ag (csOf (Desk.mk (.mk t) (eDb n)).row), .ag (csOf (Desk.mk (.mk t) (eDb n)).row)] [] fun r _ => r = vb true := by
 have c1 := eqCatalog_step t
 have c2 := eqDb_step (List.replicate n zData) (eqDatas_d n)
 simp only [eDb, Desk.row_mk, Catalog.row_mk, Db.row_mk, lc] at c1 c2 ⊢
 refine cl_of_d follows_mixed false Tryz.func8 rfl (by kernel_rfl) ?_
 simp only [Tryz.f8, tt, seval]
 refine cZ (c1) (by decide) ?_ ?_ <;> simp only [tt, seval]
 refine cZ (c2) (by decide) ?_ ?_ <;> simp only [tt, seval]
 exact ⟨_, _, rfl, end0 rfl⟩
end Go.Proofs.YtijldlppojdehaaGreatDoor
