/-
  Equality of trees; the marks.
  Conditions: none.
-/
import Derived.Test.YtklligemdfnimaaPTreeA
set_option linter.unusedVariables false
set_option linter.unusedSimpArgs false
set_option linter.unusedVariables false
set_option linter.unusedSimpArgs false
set_option maxRecDepth 4000
namespace Go.Proofs.Ytklligemdfnimaa
open Go Go.Vc
def EqE (e : PExpr) : Prop := ∀ (f : PExpr) (m : World) (vs us : List Value) (F G : List Nat), ValsF m e.row vs F → ValsF m f.row us G →
  FCalls Try.prog 25 #[.agg vs.toArray, .agg us.toArray] m fun r m' => Grow m m' ∧ ∃ b, r = .bool b ∧ (b = true ↔ e = f)
def EqP (e : Plan) : Prop := ∀ (f : Plan) (m : World) (vs us : List Value) (F G : List Nat), ValsF m e.row vs F → ValsF m f.row us G →
  FCalls Try.prog 38 #[.agg vs.toArray, .agg us.toArray] m fun r m' => Grow m m' ∧ ∃ b, r = .bool b ∧ (b = true ↔ e = f)
def EqO (e : PSort) : Prop := ∀ (f : PSort) (m : World) (vs us : List Value) (F G : List Nat), ValsF m e.row vs F → ValsF m f.row us G →
  FCalls Try.prog 153 #[.agg vs.toArray, .agg us.toArray] m fun r m' => Grow m m' ∧ ∃ b, r = .bool b ∧ (b = true ↔ e = f)
theorem eqPExprS (es fs : List PExpr) (hx : ∀ e ∈ es, EqE e) (m : World) (v u : Value) (F G : List Nat) (h : CellF m (.sl es.length (es.flatMap PExpr.row)) v F) (k : CellF m (.sl fs.length (fs.flatMap PExpr.row)) u G) :
   FCalls Try.prog 74 #[v, u] m fun r m' => Grow m m' ∧ ∃ b, r = .bool b ∧ (b = true ↔ es = fs) := by
  obtain ⟨a, cap, rfl, hcap, hmax, _⟩ := h.slice
  obtain ⟨a', cap', rfl, hcap', hmax', _⟩ := k.slice
  have hmax1 : cap ≤ 9223372036854775807 := hmax
  refine fcalls_of_vc (args := [_, _]) follows_mixed Try.func74 rfl (by kernel_rfl) (by simp [Try.f74]) ?_
  simp only [Try.f74, vcs, tbl, crs, List.map, reduceIte, Nat.reduceLT, Nat.reduceLeDiff, Nat.reduceEqDiff, Nat.reduceAdd, Nat.reduceMul, Nat.reduceSub]
  refine ⟨fun h => ⟨Grow.refl _, false, rfl, by simp; intro e; subst e; simp at h⟩, fun hl => ?_⟩
  have hl : es.length = fs.length := by simp at hl; omega
  refine vcLoop.intro (fun f L m1 => ∃ (k : Nat), f 5 = .c (.v (.int .i64 k)) ∧ L = [] ∧ k ≤ es.length ∧ Grow m m1 ∧ es.take k = fs.take k)
    (fun f _ _ => (es.length - ixS (f 5)).toNat) ⟨[], Sub.nil _, 0, ?_⟩ ?_
  · simp only [vcs, tbl, crs, List.map, reduceIte, Nat.reduceLT, Nat.reduceLeDiff, Nat.reduceEqDiff, Nat.reduceAdd, Nat.reduceMul, Nat.reduceSub]
    first | exact ⟨rfl, by omega, Grow.refl _, by simp⟩ | exact ⟨rfl, by omega, Grow.refl _⟩
  · rintro g L1 m1 ⟨i, h5, rfl, hi, hg, heq⟩
    simp only [vcs, tbl, crs, List.map, reduceIte, Nat.reduceLT, Nat.reduceLeDiff, Nat.reduceEqDiff, Nat.reduceAdd, Nat.reduceMul, Nat.reduceSub] at h5
    simp only [vcs, tbl, crs, List.map, reduceIte, Nat.reduceLT, Nat.reduceLeDiff, Nat.reduceEqDiff, Nat.reduceAdd, Nat.reduceMul, Nat.reduceSub, h5]
    refine ⟨fun hlt => ?_, fun hge => ?_⟩
    · have hlt : i < es.length := by omega
      have hlt' : i < fs.length := by omega
      obtain ⟨ada, vsa, Fka, haa, hlena, hcella, hva, _⟩ := h.elem PExpr.row_len (by decide) (List.getElem?_eq_getElem hlt)
      obtain ⟨adb, vsb, Fkb, hab, hlenb, hcellb, hvb, _⟩ := k.elem PExpr.row_len (by decide) (List.getElem?_eq_getElem hlt')
      refine vcDrawn.intro (.take 0 (.take 1 (.take 2 (.take 3 (.take 4 (.take 5 (.take 6 (.take 7 (.br 8 (.take 9 .done) .nobr))))))))) (by kernel_rfl) ?_
      simp only [vcs, tbl, crs, List.map, reduceIte, Nat.reduceLT, Nat.reduceLeDiff, Nat.reduceEqDiff, Nat.reduceAdd, Nat.reduceMul, Nat.reduceSub, h5]
      have next : es[i] = fs[i] → es.take (i + 1) = fs.take (i + 1) := fun e => by
        rw [List.take_add_one, List.take_add_one, heq, List.getElem?_eq_getElem hlt, List.getElem?_eq_getElem hlt', e]
      have diff : es[i] ≠ fs[i] → es ≠ fs := fun e he => e (by subst he; rfl)
      refine ⟨by omega, by omega, ada, haa, _, hlena, fun j v hj => hg.cell (by simpa using hcella j v hj), ?_⟩
      simp only [vcs, tbl, crs, List.map, reduceIte, Nat.reduceLT, Nat.reduceLeDiff, Nat.reduceEqDiff, Nat.reduceAdd, Nat.reduceMul, Nat.reduceSub, h5]
      refine ⟨by omega, by omega, adb, hab, _, hlenb, fun j v hj => hg.cell (by simpa using hcellb j v hj), ?_⟩
      simp only [vcs, tbl, crs, List.map, reduceIte, Nat.reduceLT, Nat.reduceLeDiff, Nat.reduceEqDiff, Nat.reduceAdd, Nat.reduceMul, Nat.reduceSub, h5]
      refine (hx _ (List.getElem_mem hlt) _ _ _ _ _ _ (hva.grow hg) (hvb.grow hg)).mono ?_
      rintro r m2 ⟨hg2, b, rfl, hb⟩
      refine ⟨hg2, ?_⟩
      simp only [vcs, tbl, crs, List.map, reduceIte, Nat.reduceLT, Nat.reduceLeDiff, Nat.reduceEqDiff, Nat.reduceAdd, Nat.reduceMul, Nat.reduceSub, h5]
      refine ⟨fun hn => ⟨hg.trans hg2, false, rfl, ?_⟩, fun hn => ?_⟩
      · have hb' : b = false := by simpa using hn
        subst hb'
        simp only [Bool.false_eq_true, false_iff]
        exact diff fun e => by simp [e] at hb
      · have hb' : b = true := by simpa using hn
        rw [wrap_id (by omega) (by omega)]
        exact ⟨[], Sub.nil _, ⟨i + 1, by simp, rfl, by omega, hg.trans hg2, next (hb.1 hb')⟩, by omega⟩
    · have : i = es.length := by omega
      subst this
      exact ⟨hg, true, rfl, by simp; rw [List.take_length] at heq; rw [heq, hl, List.take_length]⟩

theorem eqPlanS (es fs : List Plan) (hx : ∀ e ∈ es, EqP e) (m : World) (v u : Value) (F G : List Nat) (h : CellF m (.sl es.length (es.flatMap Plan.row)) v F) (k : CellF m (.sl fs.length (fs.flatMap Plan.row)) u G) :
   FCalls Try.prog 75 #[v, u] m fun r m' => Grow m m' ∧ ∃ b, r = .bool b ∧ (b = true ↔ es = fs) := by
  obtain ⟨a, cap, rfl, hcap, hmax, _⟩ := h.slice
  obtain ⟨a', cap', rfl, hcap', hmax', _⟩ := k.slice
  have hmax1 : cap ≤ 9223372036854775807 := hmax
  refine fcalls_of_vc (args := [_, _]) follows_mixed Try.func75 rfl (by kernel_rfl) (by simp [Try.f75]) ?_
  simp only [Try.f75, vcs, tbl, crs, List.map, reduceIte, Nat.reduceLT, Nat.reduceLeDiff, Nat.reduceEqDiff, Nat.reduceAdd, Nat.reduceMul, Nat.reduceSub]
  refine ⟨fun h => ⟨Grow.refl _, false, rfl, by simp; intro e; subst e; simp at h⟩, fun hl => ?_⟩
  have hl : es.length = fs.length := by simp at hl; omega
  refine vcLoop.intro (fun f L m1 => ∃ (k : Nat), f 5 = .c (.v (.int .i64 k)) ∧ L = [] ∧ k ≤ es.length ∧ Grow m m1 ∧ es.take k = fs.take k)
    (fun f _ _ => (es.length - ixS (f 5)).toNat) ⟨[], Sub.nil _, 0, ?_⟩ ?_
  · simp only [vcs, tbl, crs, List.map, reduceIte, Nat.reduceLT, Nat.reduceLeDiff, Nat.reduceEqDiff, Nat.reduceAdd, Nat.reduceMul, Nat.reduceSub]
    first | exact ⟨rfl, by omega, Grow.refl _, by simp⟩ | exact ⟨rfl, by omega, Grow.refl _⟩
  · rintro g L1 m1 ⟨i, h5, rfl, hi, hg, heq⟩
    simp only [vcs, tbl, crs, List.map, reduceIte, Nat.reduceLT, Nat.reduceLeDiff, Nat.reduceEqDiff, Nat.reduceAdd, Nat.reduceMul, Nat.reduceSub] at h5
    simp only [vcs, tbl, crs, List.map, reduceIte, Nat.reduceLT, Nat.reduceLeDiff, Nat.reduceEqDiff, Nat.reduceAdd, Nat.reduceMul, Nat.reduceSub, h5]
    refine ⟨fun hlt => ?_, fun hge => ?_⟩
    · have hlt : i < es.length := by omega
      have hlt' : i < fs.length := by omega
      obtain ⟨ada, vsa, Fka, haa, hlena, hcella, hva, _⟩ := h.elem Plan.row_len (by decide) (List.getElem?_eq_getElem hlt)
      obtain ⟨adb, vsb, Fkb, hab, hlenb, hcellb, hvb, _⟩ := k.elem Plan.row_len (by decide) (List.getElem?_eq_getElem hlt')
      refine vcDrawn.intro (.take 0 (.take 1 (.take 2 (.take 3 (.take 4 (.take 5 (.take 6 (.take 7 (.br 8 (.take 9 .done) .nobr))))))))) (by kernel_rfl) ?_
      simp only [vcs, tbl, crs, List.map, reduceIte, Nat.reduceLT, Nat.reduceLeDiff, Nat.reduceEqDiff, Nat.reduceAdd, Nat.reduceMul, Nat.reduceSub, h5]
      have next : es[i] = fs[i] → es.take (i + 1) = fs.take (i + 1) := fun e => by
        rw [List.take_add_one, List.take_add_one, heq, List.getElem?_eq_getElem hlt, List.getElem?_eq_getElem hlt', e]
      have diff : es[i] ≠ fs[i] → es ≠ fs := fun e he => e (by subst he; rfl)
      refine ⟨by omega, by omega, ada, haa, _, hlena, fun j v hj => hg.cell (by simpa using hcella j v hj), ?_⟩
      simp only [vcs, tbl, crs, List.map, reduceIte, Nat.reduceLT, Nat.reduceLeDiff, Nat.reduceEqDiff, Nat.reduceAdd, Nat.reduceMul, Nat.reduceSub, h5]
      refine ⟨by omega, by omega, adb, hab, _, hlenb, fun j v hj => hg.cell (by simpa using hcellb j v hj), ?_⟩
      simp only [vcs, tbl, crs, List.map, reduceIte, Nat.reduceLT, Nat.reduceLeDiff, Nat.reduceEqDiff, Nat.reduceAdd, Nat.reduceMul, Nat.reduceSub, h5]
      refine (hx _ (List.getElem_mem hlt) _ _ _ _ _ _ (hva.grow hg) (hvb.grow hg)).mono ?_
      rintro r m2 ⟨hg2, b, rfl, hb⟩
      refine ⟨hg2, ?_⟩
      simp only [vcs, tbl, crs, List.map, reduceIte, Nat.reduceLT, Nat.reduceLeDiff, Nat.reduceEqDiff, Nat.reduceAdd, Nat.reduceMul, Nat.reduceSub, h5]
      refine ⟨fun hn => ⟨hg.trans hg2, false, rfl, ?_⟩, fun hn => ?_⟩
      · have hb' : b = false := by simpa using hn
        subst hb'
        simp only [Bool.false_eq_true, false_iff]
        exact diff fun e => by simp [e] at hb
      · have hb' : b = true := by simpa using hn
        rw [wrap_id (by omega) (by omega)]
        exact ⟨[], Sub.nil _, ⟨i + 1, by simp, rfl, by omega, hg.trans hg2, next (hb.1 hb')⟩, by omega⟩
    · have : i = es.length := by omega
      subst this
      exact ⟨hg, true, rfl, by simp; rw [List.take_length] at heq; rw [heq, hl, List.take_length]⟩

theorem eqPSortS (es fs : List PSort) (hx : ∀ e ∈ es, EqO e) (m : World) (v u : Value) (F G : List Nat) (h : CellF m (.sl es.length (es.flatMap PSort.row)) v F) (k : CellF m (.sl fs.length (fs.flatMap PSort.row)) u G) :
   FCalls Try.prog 103 #[v, u] m fun r m' => Grow m m' ∧ ∃ b, r = .bool b ∧ (b = true ↔ es = fs) := by
  obtain ⟨a, cap, rfl, hcap, hmax, _⟩ := h.slice
  obtain ⟨a', cap', rfl, hcap', hmax', _⟩ := k.slice
  have hmax1 : cap ≤ 9223372036854775807 := hmax
  refine fcalls_of_vc (args := [_, _]) follows_mixed Try.func103 rfl (by kernel_rfl) (by simp [Try.f103]) ?_
  simp only [Try.f103, vcs, tbl, crs, List.map, reduceIte, Nat.reduceLT, Nat.reduceLeDiff, Nat.reduceEqDiff, Nat.reduceAdd, Nat.reduceMul, Nat.reduceSub]
  refine ⟨fun h => ⟨Grow.refl _, false, rfl, by simp; intro e; subst e; simp at h⟩, fun hl => ?_⟩
  have hl : es.length = fs.length := by simp at hl; omega
  refine vcLoop.intro (fun f L m1 => ∃ (k : Nat), f 5 = .c (.v (.int .i64 k)) ∧ L = [] ∧ k ≤ es.length ∧ Grow m m1 ∧ es.take k = fs.take k)
    (fun f _ _ => (es.length - ixS (f 5)).toNat) ⟨[], Sub.nil _, 0, ?_⟩ ?_
  · simp only [vcs, tbl, crs, List.map, reduceIte, Nat.reduceLT, Nat.reduceLeDiff, Nat.reduceEqDiff, Nat.reduceAdd, Nat.reduceMul, Nat.reduceSub]
    first | exact ⟨rfl, by omega, Grow.refl _, by simp⟩ | exact ⟨rfl, by omega, Grow.refl _⟩
  · rintro g L1 m1 ⟨i, h5, rfl, hi, hg, heq⟩
    simp only [vcs, tbl, crs, List.map, reduceIte, Nat.reduceLT, Nat.reduceLeDiff, Nat.reduceEqDiff, Nat.reduceAdd, Nat.reduceMul, Nat.reduceSub] at h5
    simp only [vcs, tbl, crs, List.map, reduceIte, Nat.reduceLT, Nat.reduceLeDiff, Nat.reduceEqDiff, Nat.reduceAdd, Nat.reduceMul, Nat.reduceSub, h5]
    refine ⟨fun hlt => ?_, fun hge => ?_⟩
    · have hlt : i < es.length := by omega
      have hlt' : i < fs.length := by omega
      obtain ⟨ada, vsa, Fka, haa, hlena, hcella, hva, _⟩ := h.elem PSort.row_len (by decide) (List.getElem?_eq_getElem hlt)
      obtain ⟨adb, vsb, Fkb, hab, hlenb, hcellb, hvb, _⟩ := k.elem PSort.row_len (by decide) (List.getElem?_eq_getElem hlt')
      refine vcDrawn.intro (.take 0 (.take 1 (.take 2 (.take 3 (.take 4 (.take 5 (.take 6 (.take 7 (.br 8 (.take 9 .done) .nobr))))))))) (by kernel_rfl) ?_
      simp only [vcs, tbl, crs, List.map, reduceIte, Nat.reduceLT, Nat.reduceLeDiff, Nat.reduceEqDiff, Nat.reduceAdd, Nat.reduceMul, Nat.reduceSub, h5]
      have next : es[i] = fs[i] → es.take (i + 1) = fs.take (i + 1) := fun e => by
        rw [List.take_add_one, List.take_add_one, heq, List.getElem?_eq_getElem hlt, List.getElem?_eq_getElem hlt', e]
      have diff : es[i] ≠ fs[i] → es ≠ fs := fun e he => e (by subst he; rfl)
      refine ⟨by omega, by omega, ada, haa, _, hlena, fun j v hj => hg.cell (by simpa using hcella j v hj), ?_⟩
      simp only [vcs, tbl, crs, List.map, reduceIte, Nat.reduceLT, Nat.reduceLeDiff, Nat.reduceEqDiff, Nat.reduceAdd, Nat.reduceMul, Nat.reduceSub, h5]
      refine ⟨by omega, by omega, adb, hab, _, hlenb, fun j v hj => hg.cell (by simpa using hcellb j v hj), ?_⟩
      simp only [vcs, tbl, crs, List.map, reduceIte, Nat.reduceLT, Nat.reduceLeDiff, Nat.reduceEqDiff, Nat.reduceAdd, Nat.reduceMul, Nat.reduceSub, h5]
      refine (hx _ (List.getElem_mem hlt) _ _ _ _ _ _ (hva.grow hg) (hvb.grow hg)).mono ?_
      rintro r m2 ⟨hg2, b, rfl, hb⟩
      refine ⟨hg2, ?_⟩
      simp only [vcs, tbl, crs, List.map, reduceIte, Nat.reduceLT, Nat.reduceLeDiff, Nat.reduceEqDiff, Nat.reduceAdd, Nat.reduceMul, Nat.reduceSub, h5]
      refine ⟨fun hn => ⟨hg.trans hg2, false, rfl, ?_⟩, fun hn => ?_⟩
      · have hb' : b = false := by simpa using hn
        subst hb'
        simp only [Bool.false_eq_true, false_iff]
        exact diff fun e => by simp [e] at hb
      · have hb' : b = true := by simpa using hn
        rw [wrap_id (by omega) (by omega)]
        exact ⟨[], Sub.nil _, ⟨i + 1, by simp, rfl, by omega, hg.trans hg2, next (hb.1 hb')⟩, by omega⟩
    · have : i = es.length := by omega
      subst this
      exact ⟨hg, true, rfl, by simp; rw [List.take_length] at heq; rw [heq, hl, List.take_length]⟩

theorem eqPExprSS (es fs : List (List PExpr)) (hx : ∀ l ∈ es, ∀ e ∈ l, EqE e) (m : World) (v u : Value) (F G : List Nat) (h : CellF m (.sl es.length (es.flatMap erow)) v F) (k : CellF m (.sl fs.length (fs.flatMap erow)) u G) :
   FCalls Try.prog 102 #[v, u] m fun r m' => Grow m m' ∧ ∃ b, r = .bool b ∧ (b = true ↔ es = fs) := by
  obtain ⟨a, cap, rfl, hcap, hmax, _⟩ := h.slice
  obtain ⟨a', cap', rfl, hcap', hmax', _⟩ := k.slice
  have hmax1 : cap ≤ 9223372036854775807 := hmax
  refine fcalls_of_vc (args := [_, _]) follows_mixed Try.func102 rfl (by kernel_rfl) (by simp [Try.f102]) ?_
  simp only [Try.f102, vcs, tbl, crs, List.map, reduceIte, Nat.reduceLT, Nat.reduceLeDiff, Nat.reduceEqDiff, Nat.reduceAdd, Nat.reduceMul, Nat.reduceSub]
  refine ⟨fun h => ⟨Grow.refl _, false, rfl, by simp; intro e; subst e; simp at h⟩, fun hl => ?_⟩
  have hl : es.length = fs.length := by simp at hl; omega
  refine vcLoop.intro (fun f L m1 => ∃ (k : Nat), f 5 = .c (.v (.int .i64 k)) ∧ L = [] ∧ k ≤ es.length ∧ Grow m m1 ∧ es.take k = fs.take k)
    (fun f _ _ => (es.length - ixS (f 5)).toNat) ⟨[], Sub.nil _, 0, ?_⟩ ?_
  · simp only [vcs, tbl, crs, List.map, reduceIte, Nat.reduceLT, Nat.reduceLeDiff, Nat.reduceEqDiff, Nat.reduceAdd, Nat.reduceMul, Nat.reduceSub]
    first | exact ⟨rfl, by omega, Grow.refl _, by simp⟩ | exact ⟨rfl, by omega, Grow.refl _⟩
  · rintro g L1 m1 ⟨i, h5, rfl, hi, hg, heq⟩
    simp only [vcs, tbl, crs, List.map, reduceIte, Nat.reduceLT, Nat.reduceLeDiff, Nat.reduceEqDiff, Nat.reduceAdd, Nat.reduceMul, Nat.reduceSub] at h5
    simp only [vcs, tbl, crs, List.map, reduceIte, Nat.reduceLT, Nat.reduceLeDiff, Nat.reduceEqDiff, Nat.reduceAdd, Nat.reduceMul, Nat.reduceSub, h5]
    refine ⟨fun hlt => ?_, fun hge => ?_⟩
    · have hlt : i < es.length := by omega
      have hlt' : i < fs.length := by omega
      obtain ⟨ada, vsa, Fka, haa, hlena, hcella, hva, _⟩ := h.elem erow_len (by decide) (List.getElem?_eq_getElem hlt)
      obtain ⟨adb, vsb, Fkb, hab, hlenb, hcellb, hvb, _⟩ := k.elem erow_len (by decide) (List.getElem?_eq_getElem hlt')
      obtain ⟨ua, hua⟩ : ∃ u, vsa[0]? = some u := ⟨vsa[0]'(by omega), List.getElem?_eq_getElem _⟩
      have hcua := hg.cell (hcella 0 ua hua)
      rw [add0] at hcua
      have hvua := (ValsF.one hva hua).grow hg
      obtain ⟨ub, hub⟩ : ∃ u, vsb[0]? = some u := ⟨vsb[0]'(by omega), List.getElem?_eq_getElem _⟩
      have hcub := hg.cell (hcellb 0 ub hub)
      rw [add0] at hcub
      have hvub := (ValsF.one hvb hub).grow hg
      refine vcDrawn.intro (.take 0 (.take 1 (.take 2 (.take 3 (.take 4 (.take 5 (.take 6 (.take 7 (.br 8 (.take 9 .done) .nobr))))))))) (by kernel_rfl) ?_
      simp only [vcs, tbl, crs, List.map, reduceIte, Nat.reduceLT, Nat.reduceLeDiff, Nat.reduceEqDiff, Nat.reduceAdd, Nat.reduceMul, Nat.reduceSub, h5]
      have next : es[i] = fs[i] → es.take (i + 1) = fs.take (i + 1) := fun e => by
        rw [List.take_add_one, List.take_add_one, heq, List.getElem?_eq_getElem hlt, List.getElem?_eq_getElem hlt', e]
      have diff : es[i] ≠ fs[i] → es ≠ fs := fun e he => e (by subst he; rfl)
      refine ⟨by omega, by omega, ada, haa, ua, hcua, ?_⟩
      simp only [vcs, tbl, crs, List.map, reduceIte, Nat.reduceLT, Nat.reduceLeDiff, Nat.reduceEqDiff, Nat.reduceAdd, Nat.reduceMul, Nat.reduceSub, h5]
      refine ⟨by omega, by omega, adb, hab, ub, hcub, ?_⟩
      simp only [vcs, tbl, crs, List.map, reduceIte, Nat.reduceLT, Nat.reduceLeDiff, Nat.reduceEqDiff, Nat.reduceAdd, Nat.reduceMul, Nat.reduceSub, h5]
      refine (eqPExprS _ _ (hx _ (List.getElem_mem hlt)) _ _ _ _ _ hvua hvub).mono ?_
      rintro r m2 ⟨hg2, b, rfl, hb⟩
      refine ⟨hg2, ?_⟩
      simp only [vcs, tbl, crs, List.map, reduceIte, Nat.reduceLT, Nat.reduceLeDiff, Nat.reduceEqDiff, Nat.reduceAdd, Nat.reduceMul, Nat.reduceSub, h5]
      refine ⟨fun hn => ⟨hg.trans hg2, false, rfl, ?_⟩, fun hn => ?_⟩
      · have hb' : b = false := by simpa using hn
        subst hb'
        simp only [Bool.false_eq_true, false_iff]
        exact diff fun e => by simp [e] at hb
      · have hb' : b = true := by simpa using hn
        rw [wrap_id (by omega) (by omega)]
        exact ⟨[], Sub.nil _, ⟨i + 1, by simp, rfl, by omega, hg.trans hg2, next (hb.1 hb')⟩, by omega⟩
    · have : i = es.length := by omega
      subst this
      exact ⟨hg, true, rfl, by simp; rw [List.take_length] at heq; rw [heq, hl, List.take_length]⟩

theorem eqIntS (es fs : List Int)  (m : World) (v u : Value) (F G : List Nat) (h : CellF m (.sl es.length (es.flatMap irow)) v F) (k : CellF m (.sl fs.length (fs.flatMap irow)) u G) :
   FCalls Try.prog 101 #[v, u] m fun r m' => Grow m m' ∧ ∃ b, r = .bool b ∧ (b = true ↔ es = fs) := by
  obtain ⟨a, cap, rfl, hcap, hmax, _⟩ := h.slice
  obtain ⟨a', cap', rfl, hcap', hmax', _⟩ := k.slice
  have hmax1 : cap ≤ 9223372036854775807 := hmax
  refine fcalls_of_vc (args := [_, _]) follows_mixed Try.func101 rfl (by kernel_rfl) (by simp [Try.f101]) ?_
  simp only [Try.f101, vcs, tbl, crs, List.map, reduceIte, Nat.reduceLT, Nat.reduceLeDiff, Nat.reduceEqDiff, Nat.reduceAdd, Nat.reduceMul, Nat.reduceSub]
  refine ⟨fun h => ⟨Grow.refl _, false, rfl, by simp; intro e; subst e; simp at h⟩, fun hl => ?_⟩
  have hl : es.length = fs.length := by simp at hl; omega
  refine vcLoop.intro (fun f L m1 => ∃ (k : Nat), f 5 = .c (.v (.int .i64 k)) ∧ L = [] ∧ k ≤ es.length ∧ Grow m m1 ∧ es.take k = fs.take k)
    (fun f _ _ => (es.length - ixS (f 5)).toNat) ⟨[], Sub.nil _, 0, ?_⟩ ?_
  · simp only [vcs, tbl, crs, List.map, reduceIte, Nat.reduceLT, Nat.reduceLeDiff, Nat.reduceEqDiff, Nat.reduceAdd, Nat.reduceMul, Nat.reduceSub]
    first | exact ⟨rfl, by omega, Grow.refl _, by simp⟩ | exact ⟨rfl, by omega, Grow.refl _⟩
  · rintro g L1 m1 ⟨i, h5, rfl, hi, hg, heq⟩
    simp only [vcs, tbl, crs, List.map, reduceIte, Nat.reduceLT, Nat.reduceLeDiff, Nat.reduceEqDiff, Nat.reduceAdd, Nat.reduceMul, Nat.reduceSub] at h5
    simp only [vcs, tbl, crs, List.map, reduceIte, Nat.reduceLT, Nat.reduceLeDiff, Nat.reduceEqDiff, Nat.reduceAdd, Nat.reduceMul, Nat.reduceSub, h5]
    refine ⟨fun hlt => ?_, fun hge => ?_⟩
    · have hlt : i < es.length := by omega
      have hlt' : i < fs.length := by omega
      obtain ⟨ada, vsa, Fka, haa, hlena, hcella, hva, _⟩ := h.elem irow_len (by decide) (List.getElem?_eq_getElem hlt)
      obtain ⟨adb, vsb, Fkb, hab, hlenb, hcellb, hvb, _⟩ := k.elem irow_len (by decide) (List.getElem?_eq_getElem hlt')
      obtain ⟨ra, rfl, _, _⟩ := valsF_lit hva
      obtain ⟨rb, rfl, _, _⟩ := valsF_lit hvb
      have hcua := hg.cell (hcella 0 _ rfl)
      rw [add0] at hcua
      have hcub := hg.cell (hcellb 0 _ rfl)
      rw [add0] at hcub
      refine vcDrawn.intro (.take 0 (.take 1 (.take 2 (.take 3 (.take 4 (.take 5 (.take 6 (.take 7 (.take 8 .done))))))))) (by kernel_rfl) ?_
      simp only [vcs, tbl, crs, List.map, reduceIte, Nat.reduceLT, Nat.reduceLeDiff, Nat.reduceEqDiff, Nat.reduceAdd, Nat.reduceMul, Nat.reduceSub, h5]
      have next : es[i] = fs[i] → es.take (i + 1) = fs.take (i + 1) := fun e => by
        rw [List.take_add_one, List.take_add_one, heq, List.getElem?_eq_getElem hlt, List.getElem?_eq_getElem hlt', e]
      have diff : es[i] ≠ fs[i] → es ≠ fs := fun e he => e (by subst he; rfl)
      refine ⟨by omega, by omega, ada, haa, _, hcua, ?_⟩
      simp only [vcs, tbl, crs, List.map, reduceIte, Nat.reduceLT, Nat.reduceLeDiff, Nat.reduceEqDiff, Nat.reduceAdd, Nat.reduceMul, Nat.reduceSub, h5]
      refine ⟨by omega, by omega, adb, hab, _, hcub, ?_⟩
      simp only [vcs, tbl, crs, List.map, reduceIte, Nat.reduceLT, Nat.reduceLeDiff, Nat.reduceEqDiff, Nat.reduceAdd, Nat.reduceMul, Nat.reduceSub, h5]
      refine ⟨fun hn => ⟨hg, false, rfl, ?_⟩, fun hn => ?_⟩
      · simp only [Bool.false_eq_true, false_iff]
        exact diff fun e => by simp [e] at hn
      · rw [wrap_id (by omega) (by omega)]
        exact ⟨[], Sub.nil _, ⟨i + 1, by simp, rfl, by omega, hg, next (by simpa using hn)⟩, by omega⟩
    · have : i = es.length := by omega
      subst this
      exact ⟨hg, true, rfl, by simp; rw [List.take_length] at heq; rw [heq, hl, List.take_length]⟩

theorem eqStringS (es fs : List ByteArray)  (m : World) (v u : Value) (F G : List Nat) (h : CellF m (.sl es.length (es.flatMap srow)) v F) (k : CellF m (.sl fs.length (fs.flatMap srow)) u G) :
   FCalls Try.prog 104 #[v, u] m fun r m' => Grow m m' ∧ ∃ b, r = .bool b ∧ (b = true ↔ es = fs) := by
  obtain ⟨a, cap, rfl, hcap, hmax, _⟩ := h.slice
  obtain ⟨a', cap', rfl, hcap', hmax', _⟩ := k.slice
  have hmax1 : cap ≤ 9223372036854775807 := hmax
  refine fcalls_of_vc (args := [_, _]) follows_mixed Try.func104 rfl (by kernel_rfl) (by simp [Try.f104]) ?_
  simp only [Try.f104, vcs, tbl, crs, List.map, reduceIte, Nat.reduceLT, Nat.reduceLeDiff, Nat.reduceEqDiff, Nat.reduceAdd, Nat.reduceMul, Nat.reduceSub]
  refine ⟨fun h => ⟨Grow.refl _, false, rfl, by simp; intro e; subst e; simp at h⟩, fun hl => ?_⟩
  have hl : es.length = fs.length := by simp at hl; omega
  refine vcLoop.intro (fun f L m1 => ∃ (k : Nat), f 5 = .c (.v (.int .i64 k)) ∧ L = [] ∧ k ≤ es.length ∧ Grow m m1 ∧ es.take k = fs.take k)
    (fun f _ _ => (es.length - ixS (f 5)).toNat) ⟨[], Sub.nil _, 0, ?_⟩ ?_
  · simp only [vcs, tbl, crs, List.map, reduceIte, Nat.reduceLT, Nat.reduceLeDiff, Nat.reduceEqDiff, Nat.reduceAdd, Nat.reduceMul, Nat.reduceSub]
    first | exact ⟨rfl, by omega, Grow.refl _, by simp⟩ | exact ⟨rfl, by omega, Grow.refl _⟩
  · rintro g L1 m1 ⟨i, h5, rfl, hi, hg, heq⟩
    simp only [vcs, tbl, crs, List.map, reduceIte, Nat.reduceLT, Nat.reduceLeDiff, Nat.reduceEqDiff, Nat.reduceAdd, Nat.reduceMul, Nat.reduceSub] at h5
    simp only [vcs, tbl, crs, List.map, reduceIte, Nat.reduceLT, Nat.reduceLeDiff, Nat.reduceEqDiff, Nat.reduceAdd, Nat.reduceMul, Nat.reduceSub, h5]
    refine ⟨fun hlt => ?_, fun hge => ?_⟩
    · have hlt : i < es.length := by omega
      have hlt' : i < fs.length := by omega
      obtain ⟨ada, vsa, Fka, haa, hlena, hcella, hva, _⟩ := h.elem srow_len (by decide) (List.getElem?_eq_getElem hlt)
      obtain ⟨adb, vsb, Fkb, hab, hlenb, hcellb, hvb, _⟩ := k.elem srow_len (by decide) (List.getElem?_eq_getElem hlt')
      obtain ⟨ra, rfl, _, _⟩ := valsF_lit hva
      obtain ⟨rb, rfl, _, _⟩ := valsF_lit hvb
      have hcua := hg.cell (hcella 0 _ rfl)
      rw [add0] at hcua
      have hcub := hg.cell (hcellb 0 _ rfl)
      rw [add0] at hcub
      refine vcDrawn.intro (.take 0 (.take 1 (.take 2 (.take 3 (.take 4 (.take 5 (.take 6 (.take 7 (.take 8 .done))))))))) (by kernel_rfl) ?_
      simp only [vcs, tbl, crs, List.map, reduceIte, Nat.reduceLT, Nat.reduceLeDiff, Nat.reduceEqDiff, Nat.reduceAdd, Nat.reduceMul, Nat.reduceSub, h5]
      have next : es[i] = fs[i] → es.take (i + 1) = fs.take (i + 1) := fun e => by
        rw [List.take_add_one, List.take_add_one, heq, List.getElem?_eq_getElem hlt, List.getElem?_eq_getElem hlt', e]
      have diff : es[i] ≠ fs[i] → es ≠ fs := fun e he => e (by subst he; rfl)
      refine ⟨by omega, by omega, ada, haa, _, hcua, ?_⟩
      simp only [vcs, tbl, crs, List.map, reduceIte, Nat.reduceLT, Nat.reduceLeDiff, Nat.reduceEqDiff, Nat.reduceAdd, Nat.reduceMul, Nat.reduceSub, h5]
      refine ⟨by omega, by omega, adb, hab, _, hcub, ?_⟩
      simp only [vcs, tbl, crs, List.map, reduceIte, Nat.reduceLT, Nat.reduceLeDiff, Nat.reduceEqDiff, Nat.reduceAdd, Nat.reduceMul, Nat.reduceSub, h5]
      refine ⟨fun hn => ⟨hg, false, rfl, ?_⟩, fun hn => ?_⟩
      · simp only [Bool.false_eq_true, false_iff]
        exact diff fun e => by simp [e] at hn
      · rw [wrap_id (by omega) (by omega)]
        exact ⟨[], Sub.nil _, ⟨i + 1, by simp, rfl, by omega, hg, next (by simpa using hn)⟩, by omega⟩
    · have : i = es.length := by omega
      subst this
      exact ⟨hg, true, rfl, by simp; rw [List.take_length] at heq; rw [heq, hl, List.take_length]⟩

theorem eqPExpr_step (k o n v u a ks ss) (hk : ∀ e ∈ ks, EqE e) (hp : ∀ p ∈ ss, EqP p) : EqE (.mk k o n v u a ks ss) := by
  intro f m vs us F G h h'
  obtain ⟨k', o', n', v', u', a', ks', ss'⟩ := f
  obtain ⟨x, y, F1, F2, rfl, hv, c1, c2, rfl⟩ := PExpr.vals h
  obtain ⟨x', y', G1, G2, rfl, hv', d1, d2, rfl⟩ := PExpr.vals h'
  obtain ⟨ax, px, rfl, _⟩ := c1.slice
  obtain ⟨ay, py, rfl, _⟩ := c2.slice
  obtain ⟨bx, qx, rfl, _⟩ := d1.slice
  obtain ⟨b_y, qy, rfl, _⟩ := d2.slice
  rw [PExpr.mk.injEq]
  refine fcalls_of_vc (args := [_, _]) follows_mixed Try.func25 rfl (by kernel_rfl) (by simp [Try.f25]) ?_
  simp only [Try.f25, vcs, tbl, crs, List.map, reduceIte, Nat.reduceLT, Nat.reduceLeDiff, Nat.reduceEqDiff, Nat.reduceAdd, Nat.reduceMul, Nat.reduceSub]
  refine ⟨fun e1 => ⟨(Grow.refl _), false, rfl, by simp_all⟩, fun e1 => ?_⟩
  refine ⟨fun e2 => ⟨(Grow.refl _), false, rfl, by simp_all⟩, fun e2 => ?_⟩
  rw [pure_bneq ub4]
  simp only [vcs, tbl, crs, List.map, reduceIte, Nat.reduceLT, Nat.reduceLeDiff, Nat.reduceEqDiff, Nat.reduceAdd, Nat.reduceMul, Nat.reduceSub]
  refine ⟨fun e3 => ⟨(Grow.refl _), false, rfl, by simp_all⟩, fun e3 => ?_⟩
  refine (eqValue v v' _ _ _ _ _ (Val.mk_vals _ _ hv) (Val.mk_vals _ _ hv')).mono ?_
  rintro r m4 ⟨hg4, b4, rfl, hb4⟩
  have g4 := (Grow.refl _).trans hg4
  simp only [vcs, tbl, crs, List.map, reduceIte, Nat.reduceLT, Nat.reduceLeDiff, Nat.reduceEqDiff, Nat.reduceAdd, Nat.reduceMul, Nat.reduceSub]
  refine ⟨fun e5 => ⟨g4, false, rfl, by simp_all⟩, fun e5 => ?_⟩
  refine ⟨fun e6 => ⟨g4, false, rfl, by simp_all⟩, fun e6 => ?_⟩
  refine ⟨fun e7 => ⟨g4, false, rfl, by simp_all⟩, fun e7 => ?_⟩
  refine (eqPExprS _ _ hk _ _ _ _ _ ((c1.grow g4).grow (Grow.refl _)) (d1.grow g4)).mono ?_
  rintro r m8 ⟨hg8, b8, rfl, hb8⟩
  have g8 := g4.trans hg8
  simp only [vcs, tbl, crs, List.map, reduceIte, Nat.reduceLT, Nat.reduceLeDiff, Nat.reduceEqDiff, Nat.reduceAdd, Nat.reduceMul, Nat.reduceSub]
  refine ⟨fun e9 => ⟨g8, false, rfl, by simp_all⟩, fun e9 => ?_⟩
  refine (eqPlanS _ _ hp _ _ _ _ _ (c2.grow g8) (d2.grow g8)).mono ?_
  rintro r m10 ⟨hg10, b10, rfl, hb10⟩
  have g10 := g8.trans hg10
  simp only [vcs, tbl, crs, List.map, reduceIte, Nat.reduceLT, Nat.reduceLeDiff, Nat.reduceEqDiff, Nat.reduceAdd, Nat.reduceMul, Nat.reduceSub]
  refine ⟨fun e11 => ⟨g10, false, rfl, by simp_all⟩, fun e11 => ?_⟩
  exact ⟨g10, true, rfl, by simp_all⟩

theorem eqPSort_step (e d) (he : EqE e) : EqO (.mk e d) := by
  intro f m vs us F G h h'
  obtain ⟨e', d'⟩ := f
  obtain ⟨ws, rfl, hl, hv⟩ := PSort.vals h
  obtain ⟨ws', rfl, hl', hv'⟩ := PSort.vals h'
  rw [PSort.mk.injEq]
  obtain ⟨k, o, n, v, u, a, ks, ss⟩ := e
  obtain ⟨k', o', n', v', u', a', ks', ss'⟩ := e'
  obtain ⟨x, y, F1, F2, rfl, _, c1, c2, rfl⟩ := PExpr.vals hv
  obtain ⟨x', y', G1, G2, rfl, _, d1, d2, rfl⟩ := PExpr.vals hv'
  refine fcalls_of_vc (args := [_, _]) follows_mixed Try.func153 rfl (by kernel_rfl) (by simp [Try.f153]) ?_
  simp only [Try.f153, vcs, tbl, crs, List.map, reduceIte, Nat.reduceLT, Nat.reduceLeDiff, Nat.reduceEqDiff, Nat.reduceAdd, Nat.reduceMul, Nat.reduceSub]
  refine (he _ _ _ _ _ _ hv hv').mono ?_
  rintro r m1 ⟨hg1, b1, rfl, hb1⟩
  have g1 := (Grow.refl _).trans hg1
  simp only [vcs, tbl, crs, List.map, reduceIte, Nat.reduceLT, Nat.reduceLeDiff, Nat.reduceEqDiff, Nat.reduceAdd, Nat.reduceMul, Nat.reduceSub]
  refine ⟨fun e2 => ⟨g1, false, rfl, by simp_all⟩, fun e2 => ?_⟩
  rw [pure_bneq ub4]
  simp only [vcs, tbl, crs, List.map, reduceIte, Nat.reduceLT, Nat.reduceLeDiff, Nat.reduceEqDiff, Nat.reduceAdd, Nat.reduceMul, Nat.reduceSub]
  refine ⟨fun e3 => ⟨g1, false, rfl, by simp_all⟩, fun e3 => ?_⟩
  exact ⟨g1, true, rfl, by simp_all⟩

theorem eqPlan_step (t on wh or it nm ds li) (h1 : ∀ l ∈ on, ∀ e ∈ l, EqE e) (h2 : ∀ e ∈ wh, EqE e) (h3 : ∀ s ∈ or, EqO s) (h4 : ∀ e ∈ it, EqE e) : EqP (.mk t on wh or it nm ds li) := by
  intro f m vs us F G h h'
  obtain ⟨t', on', wh', or', it', nm', ds', li'⟩ := f
  obtain ⟨a, b, c, d, e, f, F1, F2, F3, F4, F5, F6, rfl, c1, c2, c3, c4, c5, c6, rfl⟩ := Plan.vals h
  obtain ⟨a', b', c', d', e', f', G1, G2, G3, G4, G5, G6, rfl, d1, d2, d3, d4, d5, d6, rfl⟩ := Plan.vals h'
  rw [Plan.mk.injEq]
  refine fcalls_of_vc (args := [_, _]) follows_mixed Try.func38 rfl (by kernel_rfl) (by simp [Try.f38]) ?_
  simp only [Try.f38, vcs, tbl, crs, List.map, reduceIte, Nat.reduceLT, Nat.reduceLeDiff, Nat.reduceEqDiff, Nat.reduceAdd, Nat.reduceMul, Nat.reduceSub]
  refine (eqIntS _ _ _ _ _ _ _ c1 d1).mono ?_
  rintro r m1 ⟨hg1, b1, rfl, hb1⟩
  have g1 := (Grow.refl _).trans hg1
  simp only [vcs, tbl, crs, List.map, reduceIte, Nat.reduceLT, Nat.reduceLeDiff, Nat.reduceEqDiff, Nat.reduceAdd, Nat.reduceMul, Nat.reduceSub]
  refine ⟨fun e2 => ⟨g1, false, rfl, by simp_all⟩, fun e2 => ?_⟩
  refine (eqPExprSS _ _ h1 _ _ _ _ _ (c2.grow g1) (d2.grow g1)).mono ?_
  rintro r m3 ⟨hg3, b3, rfl, hb3⟩
  have g3 := g1.trans hg3
  simp only [vcs, tbl, crs, List.map, reduceIte, Nat.reduceLT, Nat.reduceLeDiff, Nat.reduceEqDiff, Nat.reduceAdd, Nat.reduceMul, Nat.reduceSub]
  refine ⟨fun e4 => ⟨g3, false, rfl, by simp_all⟩, fun e4 => ?_⟩
  refine (eqPExprS _ _ h2 _ _ _ _ _ (c3.grow g3) (d3.grow g3)).mono ?_
  rintro r m5 ⟨hg5, b5, rfl, hb5⟩
  have g5 := g3.trans hg5
  simp only [vcs, tbl, crs, List.map, reduceIte, Nat.reduceLT, Nat.reduceLeDiff, Nat.reduceEqDiff, Nat.reduceAdd, Nat.reduceMul, Nat.reduceSub]
  refine ⟨fun e6 => ⟨g5, false, rfl, by simp_all⟩, fun e6 => ?_⟩
  refine (eqPSortS _ _ h3 _ _ _ _ _ (c4.grow g5) (d4.grow g5)).mono ?_
  rintro r m7 ⟨hg7, b7, rfl, hb7⟩
  have g7 := g5.trans hg7
  simp only [vcs, tbl, crs, List.map, reduceIte, Nat.reduceLT, Nat.reduceLeDiff, Nat.reduceEqDiff, Nat.reduceAdd, Nat.reduceMul, Nat.reduceSub]
  refine ⟨fun e8 => ⟨g7, false, rfl, by simp_all⟩, fun e8 => ?_⟩
  refine (eqPExprS _ _ h4 _ _ _ _ _ (c5.grow g7) (d5.grow g7)).mono ?_
  rintro r m9 ⟨hg9, b9, rfl, hb9⟩
  have g9 := g7.trans hg9
  simp only [vcs, tbl, crs, List.map, reduceIte, Nat.reduceLT, Nat.reduceLeDiff, Nat.reduceEqDiff, Nat.reduceAdd, Nat.reduceMul, Nat.reduceSub]
  refine ⟨fun e10 => ⟨g9, false, rfl, by simp_all⟩, fun e10 => ?_⟩
  refine (eqStringS _ _ _ _ _ _ _ (c6.grow g9) (d6.grow g9)).mono ?_
  rintro r m11 ⟨hg11, b11, rfl, hb11⟩
  have g11 := g9.trans hg11
  simp only [vcs, tbl, crs, List.map, reduceIte, Nat.reduceLT, Nat.reduceLeDiff, Nat.reduceEqDiff, Nat.reduceAdd, Nat.reduceMul, Nat.reduceSub]
  refine ⟨fun e12 => ⟨g11, false, rfl, by simp_all⟩, fun e12 => ?_⟩
  rw [pure_bneq ub4]
  simp only [vcs, tbl, crs, List.map, reduceIte, Nat.reduceLT, Nat.reduceLeDiff, Nat.reduceEqDiff, Nat.reduceAdd, Nat.reduceMul, Nat.reduceSub]
  refine ⟨fun e13 => ⟨g11, false, rfl, by simp_all⟩, fun e13 => ?_⟩
  refine ⟨fun e14 => ⟨g11, false, rfl, by simp_all⟩, fun e14 => ?_⟩
  exact ⟨g11, true, rfl, by simp_all⟩

theorem eq_all : (∀ e, EqE e) ∧ (∀ p, EqP p) ∧ (∀ s, EqO s) := tree_ind eqPExpr_step eqPlan_step eqPSort_step
end Go.Proofs.Ytklligemdfnimaa
set_option linter.unusedVariables false
set_option linter.unusedSimpArgs false
set_option maxRecDepth 4000
namespace Go.Proofs.Ytklligemdfnimaa
open Go Go.Vc
theorem isNot_c (k o n v u a ks ss) (m : World) (vs : List Value) (F : List Nat) (h : ValsF m (PExpr.mk k o n v u a ks ss).row vs F) : FCalls Try.prog 72 #[.agg vs.toArray] m fun r m' => Grow m m' ∧ r = .bool (decide (k = 3 ∧ o = 15)) := by
  obtain ⟨x, y, F1, F2, rfl, hv, c1, c2, rfl⟩ := PExpr.vals h
  refine fcalls_of_vc (args := [_]) follows_mixed Try.func72 rfl (by kernel_rfl) (by simp [Try.f72]) ?_
  simp only [Try.f72, vcs, tbl, crs, List.map, reduceIte, Nat.reduceLT, Nat.reduceLeDiff, Nat.reduceEqDiff, Nat.reduceAdd, Nat.reduceMul, Nat.reduceSub]
  refine ⟨fun h1 => ?_, fun h1 => ?_⟩
  · simp only [vcs, tbl, crs, List.map, reduceIte, Nat.reduceLT, Nat.reduceLeDiff, Nat.reduceEqDiff, Nat.reduceAdd, Nat.reduceMul, Nat.reduceSub]
    exact ⟨Grow.refl _, by simp_all⟩
  · simp only [vcs, tbl, crs, List.map, reduceIte, Nat.reduceLT, Nat.reduceLeDiff, Nat.reduceEqDiff, Nat.reduceAdd, Nat.reduceMul, Nat.reduceSub]
    exact ⟨Grow.refl _, by simp_all⟩
end Go.Proofs.Ytklligemdfnimaa
set_option linter.unusedVariables false
set_option linter.unusedSimpArgs false
set_option maxRecDepth 4000
namespace Go.Proofs.Ytklligemdfnimaa
open Go Go.Vc
def mtLoop : Nat → Int → ByteArray → ByteArray
  | 0, _, s => s
  | n + 1, k, s => if 0 < k then mtLoop n (k.tdiv 10) (⟨#[UInt8.ofNat (48 + k.tmod 10).toNat]⟩ ++ s) else s
def mtext (k : Int) : ByteArray := if k ≤ 0 then ⟨#[109, 48]⟩ else ⟨#[109]⟩ ++ mtLoop k.toNat k ⟨#[]⟩
theorem mtLoop_size : ∀ (n : Nat) (k : Int) (s : ByteArray), 0 ≤ k → ((mtLoop n k s).size : Int) ≤ s.size + k
  | 0, k, s, h => by simp [mtLoop]; omega
  | n + 1, k, s, h => by
    rw [mtLoop]
    split
    · rename_i hk
      have hq0 : 0 ≤ k.tdiv 10 := Int.tdiv_nonneg h (by decide)
      have hq1 : k.tdiv 10 < k := by rw [Int.tdiv_eq_ediv_of_nonneg h]; omega
      have := mtLoop_size n (k.tdiv 10) (⟨#[UInt8.ofNat (48 + k.tmod 10).toNat]⟩ ++ s) hq0
      have hz : (⟨#[UInt8.ofNat (48 + k.tmod 10).toNat]⟩ : ByteArray).size = 1 := rfl
      rw [ByteArray.size_append, hz] at this
      omega
    · omega
theorem mtext_ok {k : Int} (h1 : k ≤ 4611686018427387904) : okV (.string (mtext k)) := by
  show (mtext k).size ≤ 9223372036854775807
  rw [mtext]
  split
  · exact (by decide : (⟨#[109, 48]⟩ : ByteArray).size ≤ 9223372036854775807)
  · have := mtLoop_size k.toNat k ⟨#[]⟩ (by omega)
    have hz : (⟨#[109]⟩ : ByteArray).size = 1 := rfl
    have hz0 : (⟨#[]⟩ : ByteArray).size = 0 := rfl
    rw [ByteArray.size_append, hz]
    omega
theorem intKind5 : Try.prog.intKind 5 = .u8 := by kernel_rfl
theorem markText (k : Int) (m : World) (h1 : k ≤ 4611686018427387904) :
   FCalls Try.prog 147 #[.int .i64 k] m fun r m' => Grow m m' ∧ r = .string (mtext k) := by
  rw [mtext]
  refine fcalls_of_vc (args := [_]) follows_mixed Try.func147 rfl (by kernel_rfl) (by simp [Try.f147]) ?_
  simp only [Try.f147, vcs, tbl, crs, List.map, reduceIte, Nat.reduceLT, Nat.reduceLeDiff, Nat.reduceEqDiff, Nat.reduceAdd, Nat.reduceMul, Nat.reduceSub]
  refine ⟨fun h => ⟨Grow.refl _, by rw [if_pos h]⟩, fun h => ?_⟩
  refine vcLoop.intro (fun f L m1 => ∃ (j : Int) (s : ByteArray) (N : Nat), f 0 = .c (.v (.int .i64 j)) ∧ f 3 = .c (.v (.string s)) ∧ L = [] ∧ 0 ≤ j ∧ j ≤ N ∧ s.size + j ≤ k ∧ Grow m m1 ∧ mtLoop N j s = mtLoop k.toNat k ⟨#[]⟩)
    (fun f _ _ => (ixS (f 0)).toNat) ⟨[], Sub.nil _, k, ⟨#[]⟩, k.toNat, ?_⟩ ?_
  · simp only [vcs, tbl, crs, List.map, reduceIte, Nat.reduceLT, Nat.reduceLeDiff, Nat.reduceEqDiff, Nat.reduceAdd, Nat.reduceMul, Nat.reduceSub]
    refine ⟨by omega, by omega, ?_, Grow.refl _⟩
    show ((0 : Nat) : Int) + k ≤ k
    omega
  · rintro g L1 m1 ⟨j, s, N, h0, h3, rfl, hj, hN, hsz, hg, heq⟩
    simp only [vcs, tbl, crs, List.map, reduceIte, Nat.reduceLT, Nat.reduceLeDiff, Nat.reduceEqDiff, Nat.reduceAdd, Nat.reduceMul, Nat.reduceSub] at h0 h3
    simp only [vcs, tbl, crs, List.map, reduceIte, Nat.reduceLT, Nat.reduceLeDiff, Nat.reduceEqDiff, Nat.reduceAdd, Nat.reduceMul, Nat.reduceSub, h0, h3]
    refine ⟨fun hlt => ?_, fun hge => ?_⟩
    · rw [pure_rem (by decide)]
      simp only [vcs, tbl, crs, List.map, reduceIte, Nat.reduceLT, Nat.reduceLeDiff, Nat.reduceEqDiff, Nat.reduceAdd, Nat.reduceMul, Nat.reduceSub, h0, h3]
      rw [pure_cint (by kernel_rfl) (by kernel_rfl), intKind5]
      have hr : List.range 1 = [0] := rfl
      have hrep : (List.replicate 1 [Value.int .u8 0]).flatten = [Value.int .u8 0] := rfl
      simp only [vcs, tbl, crs, List.map, reduceIte, Nat.reduceLT, Nat.reduceLeDiff, Nat.reduceEqDiff, Nat.reduceAdd, Nat.reduceMul, Nat.reduceSub, h0, h3, hr, hrep, Nat.zero_mul, Nat.zero_add, Nat.le_refl]
      have hr0 : 0 ≤ j.tmod 10 := Int.tmod_nonneg _ hj
      have hr1 : j.tmod 10 < 10 := Int.tmod_lt_of_pos _ (by decide)
      refine ⟨by kernel_rfl, [UInt8.ofNat (48 + j.tmod 10).toNat], rfl, fun i b hb => ?_, ?_⟩
      · cases i with
        | zero =>
          simp at hb
          subst hb
          rw [wrap_id (by omega) (by omega)]
          have e : IntKind.u8.wrap (48 + j.tmod 10) = 48 + j.tmod 10 := by simp [IntKind.wrap, IntKind.bits, IntKind.signed]; omega
          rw [e]
          simp
          omega
        | succ i => simp at hb
      · have hz : (⟨#[UInt8.ofNat (48 + j.tmod 10).toNat]⟩ : ByteArray).size = 1 := rfl
        rw [pure_sadd (by show (⟨#[UInt8.ofNat (48 + j.tmod 10).toNat]⟩ : ByteArray).size + s.size ≤ _; rw [hz]; omega)]
        simp only [vcs, tbl, crs, List.map, reduceIte, Nat.reduceLT, Nat.reduceLeDiff, Nat.reduceEqDiff, Nat.reduceAdd, Nat.reduceMul, Nat.reduceSub, h0, h3]
        rw [pure_quo (by decide)]
        simp only [vcs, tbl, crs, List.map, reduceIte, Nat.reduceLT, Nat.reduceLeDiff, Nat.reduceEqDiff, Nat.reduceAdd, Nat.reduceMul, Nat.reduceSub, h0, h3]
        have hq0 : 0 ≤ j.tdiv 10 := Int.tdiv_nonneg hj (by decide)
        have hq1 : j.tdiv 10 < j := by rw [Int.tdiv_eq_ediv_of_nonneg hj]; omega
        rw [wrap_id (n := j.tdiv 10) (by omega) (by omega)]
        have hsz2 : ((⟨#[UInt8.ofNat (48 + j.tmod 10).toNat]⟩ : ByteArray) ++ s).size = 1 + s.size := by rw [ByteArray.size_append, hz]
        cases N with
        | zero => exact absurd hlt (by omega)
        | succ N =>
        rw [mtLoop, if_pos hlt] at heq
        exact ⟨[], Sub.nil _, ⟨_, _, N, rfl, rfl, rfl, hq0, by omega, by rw [hsz2]; omega, hg, heq⟩, by omega⟩
    · have : j = 0 := by omega
      subst this
      have heq' : s = mtLoop k.toNat k ⟨#[]⟩ := by rw [← heq]; cases N <;> simp [mtLoop]
      have hz : (⟨#[109]⟩ : ByteArray).size = 1 := rfl
      rw [pure_sadd (by rw [hz]; omega)]
      simp only [vcs, tbl, crs, List.map, reduceIte, Nat.reduceLT, Nat.reduceLeDiff, Nat.reduceEqDiff, Nat.reduceAdd, Nat.reduceMul, Nat.reduceSub, h0, h3]
      exact ⟨hg, by rw [if_neg h, heq']⟩

end Go.Proofs.Ytklligemdfnimaa
set_option linter.unusedVariables false
set_option linter.unusedSimpArgs false
set_option maxRecDepth 4000
namespace Go.Proofs.Ytklligemdfnimaa
open Go Go.Vc
section
variable {α : Type} (f : Int → α → α) (c : α → Nat)
def cnL : List α → Nat
  | [] => 0
  | e :: es => c e + cnL es
def mkL : Int → List α → List α
  | _, [] => []
  | k, e :: es => f k e :: mkL (k + c e) es
theorem cnL_app : ∀ (es fs : List α), cnL c (es ++ fs) = cnL c es + cnL c fs
  | [], fs => by simp [cnL]
  | e :: es, fs => by simp [cnL, cnL_app es fs]; omega
theorem mkL_len : ∀ (k : Int) (es : List α), (mkL f c k es).length = es.length
  | _, [] => rfl
  | k, e :: es => by simp [mkL, mkL_len (k + c e) es]
theorem mkL_snoc : ∀ (k : Int) (es : List α) (e : α), mkL f c k (es ++ [e]) = mkL f c k es ++ [f (k + cnL c es) e]
  | k, [], e => by simp [mkL, cnL]
  | k, x :: es, e => by simp [mkL, cnL, mkL_snoc (k + c x) es e]; congr 1; omega
theorem cnL_take_le (es : List α) (i : Nat) : cnL c (es.take i) ≤ cnL c es := by
  have := cnL_app c (es.take i) (es.drop i)
  rw [List.take_append_drop] at this; omega
theorem cnL_take_succ (es : List α) (i : Nat) (h : i < es.length) : cnL c (es.take (i + 1)) = cnL c (es.take i) + c es[i] := by
  rw [List.take_add_one, List.getElem?_eq_getElem h, cnL_app]; simp [cnL]
theorem mkL_take_succ (k : Int) (es : List α) (i : Nat) (h : i < es.length) : mkL f c k (es.take (i + 1)) = mkL f c k (es.take i) ++ [f (k + cnL c (es.take i)) es[i]] := by
  rw [List.take_add_one, List.getElem?_eq_getElem h]; exact mkL_snoc f c _ _ _
theorem mkL_get : ∀ (k : Int) (es : List α) (i : Nat) (h : i < es.length), (mkL f c k es)[i]? = some (f (k + cnL c (es.take i)) es[i])
  | _, [], i, h => by simp at h
  | k, e :: es, 0, h => by simp [mkL, cnL]
  | k, e :: es, i + 1, h => by
    simp only [mkL, List.getElem?_cons_succ, List.take_succ_cons, cnL, List.getElem_cons_succ]
    rw [mkL_get (k + c e) es i (by simpa using h)]
    congr 2; omega
end
/-- What a marking function does with a slice of its own. -/
def MkC {α : Type} (fn : FuncId) (row : α → List D) (f : Int → α → α) (c : α → Nat) (es : List α) : Prop :=
  ∀ (m : World) (k : Int) (v : Value) (F : List Nat), CellF m (.sl es.length (es.flatMap row)) v F → F.Nodup → Own m F → 0 ≤ k → k + cnL c es ≤ 4611686018427387904 →
    FCalls Try.prog fn #[v, .int .i64 k] m fun r m' => r = .int .i64 (k + cnL c es) ∧ CellF m' (.sl es.length ((mkL f c k es).flatMap row)) v F ∧ Own m' F ∧ Chg F m m'

theorem markIntS (es : List Int) : MkC 105 irow (fun k _ => k) (fun _ => 1) es := by
  intro m k v F h hn ho h0 h1
  obtain ⟨a, cap, rfl, hcap, hmax, hz⟩ := h.slice
  have hmax' : cap ≤ 9223372036854775807 := hmax
  have hM := Mrk.start h hn ho
  clear h hn ho
  refine fcalls_of_vc (args := [_, _]) follows_mixed Try.func105 rfl (by kernel_rfl) (by simp [Try.f105]) ?_
  simp only [Try.f105, vcs, tbl, crs, List.map, reduceIte, Nat.reduceLT, Nat.reduceLeDiff, Nat.reduceEqDiff, Nat.reduceAdd, Nat.reduceMul, Nat.reduceSub]
  refine vcLoop.intro (fun s L m1 => ∃ i : Nat, s 5 = .c (.v (.int .i64 i)) ∧ s 1 = .c (.v (.int .i64 (k + cnL (fun _ => 1) (es.take i)))) ∧ L = [] ∧ i ≤ es.length ∧ Mrk m F m1 a ((mkL (fun k _ => k) (fun _ => 1) k (es.take i)).flatMap irow) ((es.drop i).flatMap irow))
    (fun s _ _ => (es.length - ixS (s 5)).toNat) ⟨[], Sub.nil _, 0, ?_⟩ ?_
  · simp only [vcs, tbl, crs, List.map, reduceIte, Nat.reduceLT, Nat.reduceLeDiff, Nat.reduceEqDiff, Nat.reduceAdd, Nat.reduceMul, Nat.reduceSub]
    exact ⟨rfl, by simp [cnL], by omega, by simpa [mkL] using hM⟩
  · rintro g L1 m1 ⟨i, h5, h1', rfl, hi, hM⟩
    simp only [vcs, tbl, crs, List.map, reduceIte, Nat.reduceLT, Nat.reduceLeDiff, Nat.reduceEqDiff, Nat.reduceAdd, Nat.reduceMul, Nat.reduceSub] at h5 h1'
    simp only [vcs, tbl, crs, List.map, reduceIte, Nat.reduceLT, Nat.reduceLeDiff, Nat.reduceEqDiff, Nat.reduceAdd, Nat.reduceMul, Nat.reduceSub, h5, h1']
    refine ⟨fun hlt => ?_, fun hge => ?_⟩
    · have hlt : i < es.length := by omega
      have hd : es.drop i = es[i] :: es.drop (i + 1) := List.drop_eq_getElem_cons hlt
      have hks := cnL_take_succ (fun _ => 1) es i hlt
      have hkl := cnL_take_le (fun _ => 1) es (i + 1)
      rw [hd, List.flatMap_cons] at hM
      obtain ⟨b, o, rfl, hM1⟩ := hM.open (by simp [irow])
      clear hM
      have hdl : ((mkL (fun k _ => k) (fun _ => 1) k (es.take i)).flatMap irow).length = i * 1 := by rw [flatMap_len irow_len, mkL_len, List.length_take]; congr 1; omega
      refine ⟨by omega, by omega, _, rfl, ?_⟩
      simp only [vcs, tbl, crs, List.map, reduceIte, Nat.reduceLT, Nat.reduceLeDiff, Nat.reduceEqDiff, Nat.reduceAdd, Nat.reduceMul, Nat.reduceSub, h5, h1', add_lit0]
      obtain ⟨q1, m2, e2, hM2⟩ := Mrk1.st hM1 (o + i * 1) (.int .i64 (k + cnL (fun _ => 1) (es.take i))) (by simp [hdl]) trivial
      refine ⟨by simp, by simp [oneCell], q1, ?_⟩
      rw [e2]
      rw [wrap_id (by omega) (by omega), wrap_id (by omega) (by omega)]
      refine ⟨[], Sub.nil _, ⟨i + 1, by simp, ?_, rfl, by omega, ?_⟩, by omega⟩
      · rw [hks]; simp; omega
      · rw [mkL_take_succ _ _ _ _ _ hlt, List.flatMap_append]
        simpa [irow, int] using hM2.close
    · have : i = es.length := by omega
      subst this
      rw [List.take_length, List.drop_length] at hM
      obtain ⟨hc, ho, hg⟩ := hM.done hcap hmax hz
      exact ⟨by rw [List.take_length], hc, ho, hg⟩

mutual
def cnE : PExpr → Nat
  | .mk k o n v u a ks ss => 8 + (cnEs ks + cnPs ss)
def cnEs : List PExpr → Nat
  | [] => 0
  | e :: es => cnE e + cnEs es
def cnP : Plan → Nat
  | .mk t on wh or it nm ds li => cnL (fun _ => 1) t + (cnEEs on + (cnEs wh + (cnSs or + (cnEs it + (cnL (fun _ => 1) nm + 2)))))
def cnPs : List Plan → Nat
  | [] => 0
  | e :: es => cnP e + cnPs es
def cnEEs : List (List PExpr) → Nat
  | [] => 0
  | e :: es => cnEs e + cnEEs es
def cnS : PSort → Nat
  | .mk e d => cnE e + 1
def cnSs : List PSort → Nat
  | [] => 0
  | e :: es => cnS e + cnSs es
end
theorem cnEs_eq : ∀ es, cnEs es = cnL cnE es
  | [] => by simp [cnEs, cnL]
  | e :: es => by simp [cnEs, cnL, cnEs_eq es]
theorem cnPs_eq : ∀ es, cnPs es = cnL cnP es
  | [] => by simp [cnPs, cnL]
  | e :: es => by simp [cnPs, cnL, cnPs_eq es]
theorem cnSs_eq : ∀ es, cnSs es = cnL cnS es
  | [] => by simp [cnSs, cnL]
  | e :: es => by simp [cnSs, cnL, cnSs_eq es]
theorem cnEEs_eq : ∀ es, cnEEs es = cnL (cnL cnE) es
  | [] => by simp [cnEEs, cnL]
  | e :: es => by simp [cnEEs, cnL, cnEEs_eq es, cnEs_eq]
mutual
def mkE : Int → PExpr → PExpr
  | q, .mk k o n v u a ks ss => .mk q (q + 1) (decide ((q + 2).tmod 3 = 0)) ⟨q + 3, q + 4, mtext (q + 5)⟩ (q + 6) (q + 7) (mkEs (q + 8) ks) (mkPs (q + 8 + cnL cnE ks) ss)
def mkEs : Int → List PExpr → List PExpr
  | _, [] => []
  | q, e :: es => mkE q e :: mkEs (q + cnE e) es
def mkP : Int → Plan → Plan
  | q, .mk t on wh or it nm ds li =>
    let q1 := q + cnL (fun _ => 1) t
    let q2 := q1 + cnL (cnL cnE) on
    let q3 := q2 + cnL cnE wh
    let q4 := q3 + cnL cnS or
    let q5 := q4 + cnL cnE it
    let q6 := q5 + cnL (fun _ => 1) nm
    .mk (mkL (fun k _ => k) (fun _ => 1) q t) (mkEEs q1 on) (mkEs q2 wh) (mkSs q3 or) (mkEs q4 it) (mkL (fun k _ => mtext k) (fun _ => 1) q5 nm) (decide (q6.tmod 3 = 0)) (q6 + 1)
def mkPs : Int → List Plan → List Plan
  | _, [] => []
  | q, e :: es => mkP q e :: mkPs (q + cnP e) es
def mkEEs : Int → List (List PExpr) → List (List PExpr)
  | _, [] => []
  | q, e :: es => mkEs q e :: mkEEs (q + cnL cnE e) es
def mkS : Int → PSort → PSort
  | q, .mk e d => .mk (mkE q e) (decide ((q + cnE e).tmod 3 = 0))
def mkSs : Int → List PSort → List PSort
  | _, [] => []
  | q, e :: es => mkS q e :: mkSs (q + cnS e) es
end
theorem mkEs_eq : ∀ q es, mkEs q es = mkL mkE cnE q es
  | q, [] => by simp [mkEs, mkL]
  | q, e :: es => by simp [mkEs, mkL, mkEs_eq _ es]
theorem mkPs_eq : ∀ q es, mkPs q es = mkL mkP cnP q es
  | q, [] => by simp [mkPs, mkL]
  | q, e :: es => by simp [mkPs, mkL, mkPs_eq _ es]
theorem mkSs_eq : ∀ q es, mkSs q es = mkL mkS cnS q es
  | q, [] => by simp [mkSs, mkL]
  | q, e :: es => by simp [mkSs, mkL, mkSs_eq _ es]
theorem mkEEs_eq : ∀ q es, mkEEs q es = mkL (mkL mkE cnE) (cnL cnE) q es
  | q, [] => by simp [mkEEs, mkL]
  | q, e :: es => by simp [mkEEs, mkL, mkEEs_eq _ es, mkEs_eq]

def MkA : PExpr → Prop
  | .mk k o n v u a ks ss => MkC 86 PExpr.row mkE cnE ks ∧ MkC 87 Plan.row mkP cnP ss
def MkB : Plan → Prop
  | .mk t on wh or it nm ds li => MkC 106 erow (mkL mkE cnE) (cnL cnE) on ∧ MkC 86 PExpr.row mkE cnE wh ∧ MkC 107 PSort.row mkS cnS or ∧ MkC 86 PExpr.row mkE cnE it
def MkO : PSort → Prop
  | .mk e d => MkA e

theorem markStringS (es : List ByteArray) : MkC 108 srow (fun k _ => mtext k) (fun _ => 1) es := by
  intro m k v F h hn ho h0 h1
  obtain ⟨a, cap, rfl, hcap, hmax, hz⟩ := h.slice
  have hmax' : cap ≤ 9223372036854775807 := hmax
  have hM := Mrk.start h hn ho
  clear h hn ho
  refine fcalls_of_vc (args := [_, _]) follows_mixed Try.func108 rfl (by kernel_rfl) (by simp [Try.f108]) ?_
  simp only [Try.f108, vcs, tbl, crs, List.map, reduceIte, Nat.reduceLT, Nat.reduceLeDiff, Nat.reduceEqDiff, Nat.reduceAdd, Nat.reduceMul, Nat.reduceSub]
  refine vcLoop.intro (fun s L m1 => ∃ i : Nat, s 5 = .c (.v (.int .i64 i)) ∧ s 1 = .c (.v (.int .i64 (k + cnL (fun _ => 1) (es.take i)))) ∧ L = [] ∧ i ≤ es.length ∧ Mrk m F m1 a ((mkL (fun k _ => mtext k) (fun _ => 1) k (es.take i)).flatMap srow) ((es.drop i).flatMap srow))
    (fun s _ _ => (es.length - ixS (s 5)).toNat) ⟨[], Sub.nil _, 0, ?_⟩ ?_
  · simp only [vcs, tbl, crs, List.map, reduceIte, Nat.reduceLT, Nat.reduceLeDiff, Nat.reduceEqDiff, Nat.reduceAdd, Nat.reduceMul, Nat.reduceSub]
    exact ⟨rfl, by simp [cnL], by omega, by simpa [mkL] using hM⟩
  · rintro g L1 m1 ⟨i, h5, h1', rfl, hi, hM⟩
    simp only [vcs, tbl, crs, List.map, reduceIte, Nat.reduceLT, Nat.reduceLeDiff, Nat.reduceEqDiff, Nat.reduceAdd, Nat.reduceMul, Nat.reduceSub] at h5 h1'
    simp only [vcs, tbl, crs, List.map, reduceIte, Nat.reduceLT, Nat.reduceLeDiff, Nat.reduceEqDiff, Nat.reduceAdd, Nat.reduceMul, Nat.reduceSub, h5, h1']
    refine ⟨fun hlt => ?_, fun hge => ?_⟩
    · have hlt : i < es.length := by omega
      have hd : es.drop i = es[i] :: es.drop (i + 1) := List.drop_eq_getElem_cons hlt
      have hks := cnL_take_succ (fun _ => 1) es i hlt
      have hkl := cnL_take_le (fun _ => 1) es (i + 1)
      rw [hd, List.flatMap_cons] at hM
      have hdl : ((mkL (fun k _ => mtext k) (fun _ => 1) k (es.take i)).flatMap srow).length = i * 1 := by rw [flatMap_len srow_len, mkL_len, List.length_take]; congr 1; omega
      have hts := mkL_take_succ (fun k _ => mtext k) (fun _ => 1) k es i hlt
      obtain ⟨k0, hk0⟩ : ∃ k0 : Int, k0 = k + cnL (fun _ => 1) (es.take i) := ⟨_, rfl⟩
      rw [← hk0] at h1' hts
      try rw [← hk0]
      obtain ⟨e, he⟩ : ∃ e, es[i] = e := ⟨_, rfl⟩
      try rw [he] at hks
      try rw [he] at hts
      rw [he] at hM
      simp only [PExpr.row, Plan.row, PSort.row, erow, srow, str, rowsE_eq, rowsP_eq, rowsS_eq, rowsEE_eq, List.cons_append, List.nil_append] at hM
      have hk1 : 0 ≤ k0 := by omega
      obtain ⟨b, o, rfl, hM0⟩ := hM.open (by simp)
      clear hM
      refine (markText _ _ (by omega)).mono ?_
      rintro r x0 ⟨hg0, rfl⟩
      replace hM0 := hM0.grow hg0
      simp only [vcs, tbl, crs, List.map, reduceIte, Nat.reduceLT, Nat.reduceLeDiff, Nat.reduceEqDiff, Nat.reduceAdd, Nat.reduceMul, Nat.reduceSub, h5, h1', add_lit0, pure_fieldAt, Nat.add_zero]
      refine ⟨by omega, by omega, _, rfl, ?_⟩
      simp only [vcs, tbl, crs, List.map, reduceIte, Nat.reduceLT, Nat.reduceLeDiff, Nat.reduceEqDiff, Nat.reduceAdd, Nat.reduceMul, Nat.reduceSub, h5, h1', add_lit0, pure_fieldAt, Nat.add_zero]
      obtain ⟨q0, w1, e0, hM1⟩ := Mrk1.st hM0 (o + i * 1) (.string (mtext (k0))) (by simp [hdl]; try omega) (mtext_ok (by omega))
      refine ⟨by simp, by simp [oneCell], q0, ?_⟩
      rw [e0]
      rw [wrap_id (by omega) (by omega)]
      try simp only [Int.add_assoc, Int.reduceAdd]
      rw [wrap_id (by omega) (by omega)]
      refine ⟨[], Sub.nil _, ⟨i + 1, by simp, ?_, rfl, by omega, ?_⟩, by omega⟩
      · rw [hks]; simp; omega
      · rw [hts, List.flatMap_append]
        have := hM1.close
        simpa [mkE, mkP, mkS, cnE, cnEs_eq, cnPs_eq, cnSs_eq, cnEEs_eq, PExpr.row, Plan.row, PSort.row, erow, rowsE_eq, rowsP_eq, rowsS_eq, rowsEE_eq, mkEs_eq, mkPs_eq, mkSs_eq, mkEEs_eq, mkL_len, int, bool, str, irow, srow, Int.add_assoc] using this
    · have : i = es.length := by omega
      subst this
      rw [List.take_length, List.drop_length] at hM
      obtain ⟨hc, ho, hg⟩ := hM.done hcap hmax hz
      exact ⟨by rw [List.take_length], hc, ho, hg⟩

theorem markPExprS (es : List PExpr) (hx : ∀ e ∈ es, MkA e) : MkC 86 PExpr.row mkE cnE es := by
  intro m k v F h hn ho h0 h1
  obtain ⟨a, cap, rfl, hcap, hmax, hz⟩ := h.slice
  have hmax' : cap ≤ 9223372036854775807 := hmax
  have hM := Mrk.start h hn ho
  clear h hn ho
  refine fcalls_of_vc (args := [_, _]) follows_mixed Try.func86 rfl (by kernel_rfl) (by simp [Try.f86]) ?_
  simp only [Try.f86, vcs, tbl, crs, List.map, reduceIte, Nat.reduceLT, Nat.reduceLeDiff, Nat.reduceEqDiff, Nat.reduceAdd, Nat.reduceMul, Nat.reduceSub]
  refine vcLoop.intro (fun s L m1 => ∃ i : Nat, s 5 = .c (.v (.int .i64 i)) ∧ s 1 = .c (.v (.int .i64 (k + cnL cnE (es.take i)))) ∧ L = [] ∧ i ≤ es.length ∧ Mrk m F m1 a ((mkL mkE cnE k (es.take i)).flatMap PExpr.row) ((es.drop i).flatMap PExpr.row))
    (fun s _ _ => (es.length - ixS (s 5)).toNat) ⟨[], Sub.nil _, 0, ?_⟩ ?_
  · simp only [vcs, tbl, crs, List.map, reduceIte, Nat.reduceLT, Nat.reduceLeDiff, Nat.reduceEqDiff, Nat.reduceAdd, Nat.reduceMul, Nat.reduceSub]
    exact ⟨rfl, by simp [cnL], by omega, by simpa [mkL] using hM⟩
  · rintro g L1 m1 ⟨i, h5, h1', rfl, hi, hM⟩
    simp only [vcs, tbl, crs, List.map, reduceIte, Nat.reduceLT, Nat.reduceLeDiff, Nat.reduceEqDiff, Nat.reduceAdd, Nat.reduceMul, Nat.reduceSub] at h5 h1'
    simp only [vcs, tbl, crs, List.map, reduceIte, Nat.reduceLT, Nat.reduceLeDiff, Nat.reduceEqDiff, Nat.reduceAdd, Nat.reduceMul, Nat.reduceSub, h5, h1']
    refine ⟨fun hlt => ?_, fun hge => ?_⟩
    · have hlt : i < es.length := by omega
      have hd : es.drop i = es[i] :: es.drop (i + 1) := List.drop_eq_getElem_cons hlt
      have hks := cnL_take_succ cnE es i hlt
      have hkl := cnL_take_le cnE es (i + 1)
      rw [hd, List.flatMap_cons] at hM
      have hdl : ((mkL mkE cnE k (es.take i)).flatMap PExpr.row).length = i * 10 := by rw [flatMap_len PExpr.row_len, mkL_len, List.length_take]; congr 1; omega
      have hts := mkL_take_succ mkE cnE k es i hlt
      obtain ⟨k0, hk0⟩ : ∃ k0 : Int, k0 = k + cnL cnE (es.take i) := ⟨_, rfl⟩
      rw [← hk0] at h1' hts
      try rw [← hk0]
      obtain ⟨e, he⟩ : ∃ e, es[i] = e := ⟨_, rfl⟩
      try rw [he] at hks
      try rw [he] at hts
      rw [he] at hM
      have hxe := hx _ (List.getElem_mem hlt)
      rw [he] at hxe
      obtain ⟨kd, op, nt, vl, up, ap, ks, ss⟩ := e
      obtain ⟨hK, hS⟩ := hxe
      rw [cnE, cnEs_eq, cnPs_eq] at hks
      simp only [PExpr.row, Plan.row, PSort.row, erow, srow, str, rowsE_eq, rowsP_eq, rowsS_eq, rowsEE_eq, List.cons_append, List.nil_append] at hM
      have hk1 : 0 ≤ k0 := by omega
      obtain ⟨b, o, rfl, hM0⟩ := hM.open (by simp)
      clear hM
      refine ⟨by omega, by omega, _, rfl, ?_⟩
      simp only [vcs, tbl, crs, List.map, reduceIte, Nat.reduceLT, Nat.reduceLeDiff, Nat.reduceEqDiff, Nat.reduceAdd, Nat.reduceMul, Nat.reduceSub, h5, h1', add_lit0, pure_fieldAt, Nat.add_zero]
      obtain ⟨q0, w1, e0, hM1⟩ := Mrk1.st hM0 (o + i * 10) (.int .i64 (k0)) (by simp [hdl]; try omega) trivial
      refine ⟨by simp, by simp [oneCell], q0, ?_⟩
      rw [e0]
      rw [wrap_id (by omega) (by omega)]
      try simp only [Int.add_assoc, Int.reduceAdd]
      refine ⟨by omega, by omega, _, rfl, ?_⟩
      simp only [vcs, tbl, crs, List.map, reduceIte, Nat.reduceLT, Nat.reduceLeDiff, Nat.reduceEqDiff, Nat.reduceAdd, Nat.reduceMul, Nat.reduceSub, h5, h1', add_lit0, pure_fieldAt, Nat.add_zero]
      obtain ⟨q1, w2, e1, hM2⟩ := Mrk1.st hM1 (o + i * 10 + 1) (.int .i64 (k0 + 1)) (by simp [hdl]; try omega) trivial
      refine ⟨by simp, by simp [oneCell], q1, ?_⟩
      rw [e1]
      rw [wrap_id (by omega) (by omega)]
      try simp only [Int.add_assoc, Int.reduceAdd]
      rw [pure_rem (by decide)]
      simp only [vcs, tbl, crs, List.map, reduceIte, Nat.reduceLT, Nat.reduceLeDiff, Nat.reduceEqDiff, Nat.reduceAdd, Nat.reduceMul, Nat.reduceSub, h5, h1', Int.add_assoc, Int.reduceAdd]
      refine ⟨by omega, by omega, _, rfl, ?_⟩
      simp only [vcs, tbl, crs, List.map, reduceIte, Nat.reduceLT, Nat.reduceLeDiff, Nat.reduceEqDiff, Nat.reduceAdd, Nat.reduceMul, Nat.reduceSub, h5, h1', add_lit0, pure_fieldAt, Nat.add_zero]
      obtain ⟨q2, w3, e2, hM3⟩ := Mrk1.st hM2 (o + i * 10 + 2) (.bool (decide ((k0 + 2).tmod 3 = 0))) (by simp [hdl]; try omega) trivial
      refine ⟨by simp, by simp [oneCell], q2, ?_⟩
      rw [e2]
      rw [wrap_id (by omega) (by omega)]
      try simp only [Int.add_assoc, Int.reduceAdd]
      refine ⟨by omega, by omega, _, rfl, ?_⟩
      simp only [vcs, tbl, crs, List.map, reduceIte, Nat.reduceLT, Nat.reduceLeDiff, Nat.reduceEqDiff, Nat.reduceAdd, Nat.reduceMul, Nat.reduceSub, h5, h1', add_lit0, pure_fieldAt, Nat.add_zero]
      obtain ⟨q3, w4, e3, hM4⟩ := Mrk1.st hM3 (o + i * 10 + 3) (.int .i64 (k0 + 3)) (by simp [hdl]; try omega) trivial
      refine ⟨by simp, by simp [oneCell], q3, ?_⟩
      rw [e3]
      rw [wrap_id (by omega) (by omega)]
      try simp only [Int.add_assoc, Int.reduceAdd]
      refine ⟨by omega, by omega, _, rfl, ?_⟩
      simp only [vcs, tbl, crs, List.map, reduceIte, Nat.reduceLT, Nat.reduceLeDiff, Nat.reduceEqDiff, Nat.reduceAdd, Nat.reduceMul, Nat.reduceSub, h5, h1', add_lit0, pure_fieldAt, Nat.add_zero]
      obtain ⟨q4, w5, e4, hM5⟩ := Mrk1.st hM4 (o + i * 10 + 4) (.int .i64 (k0 + 4)) (by simp [hdl]; try omega) trivial
      refine ⟨by simp, by simp [oneCell], q4, ?_⟩
      rw [e4]
      rw [wrap_id (by omega) (by omega)]
      try simp only [Int.add_assoc, Int.reduceAdd]
      refine (markText _ _ (by omega)).mono ?_
      rintro r x5 ⟨hg5, rfl⟩
      replace hM5 := hM5.grow hg5
      simp only [vcs, tbl, crs, List.map, reduceIte, Nat.reduceLT, Nat.reduceLeDiff, Nat.reduceEqDiff, Nat.reduceAdd, Nat.reduceMul, Nat.reduceSub, h5, h1', add_lit0, pure_fieldAt, Nat.add_zero]
      refine ⟨by omega, by omega, _, rfl, ?_⟩
      simp only [vcs, tbl, crs, List.map, reduceIte, Nat.reduceLT, Nat.reduceLeDiff, Nat.reduceEqDiff, Nat.reduceAdd, Nat.reduceMul, Nat.reduceSub, h5, h1', add_lit0, pure_fieldAt, Nat.add_zero]
      obtain ⟨q5, w6, e5, hM6⟩ := Mrk1.st hM5 (o + i * 10 + 5) (.string (mtext (k0 + 5))) (by simp [hdl]; try omega) (mtext_ok (by omega))
      refine ⟨by simp, by simp [oneCell], q5, ?_⟩
      rw [e5]
      rw [wrap_id (by omega) (by omega)]
      try simp only [Int.add_assoc, Int.reduceAdd]
      refine ⟨by omega, by omega, _, rfl, ?_⟩
      simp only [vcs, tbl, crs, List.map, reduceIte, Nat.reduceLT, Nat.reduceLeDiff, Nat.reduceEqDiff, Nat.reduceAdd, Nat.reduceMul, Nat.reduceSub, h5, h1', add_lit0, pure_fieldAt, Nat.add_zero]
      obtain ⟨q6, w7, e6, hM7⟩ := Mrk1.st hM6 (o + i * 10 + 6) (.int .i64 (k0 + 6)) (by simp [hdl]; try omega) trivial
      refine ⟨by simp, by simp [oneCell], q6, ?_⟩
      rw [e6]
      rw [wrap_id (by omega) (by omega)]
      try simp only [Int.add_assoc, Int.reduceAdd]
      refine ⟨by omega, by omega, _, rfl, ?_⟩
      simp only [vcs, tbl, crs, List.map, reduceIte, Nat.reduceLT, Nat.reduceLeDiff, Nat.reduceEqDiff, Nat.reduceAdd, Nat.reduceMul, Nat.reduceSub, h5, h1', add_lit0, pure_fieldAt, Nat.add_zero]
      obtain ⟨q7, w8, e7, hM8⟩ := Mrk1.st hM7 (o + i * 10 + 7) (.int .i64 (k0 + 7)) (by simp [hdl]; try omega) trivial
      refine ⟨by simp, by simp [oneCell], q7, ?_⟩
      rw [e7]
      rw [wrap_id (by omega) (by omega)]
      try simp only [Int.add_assoc, Int.reduceAdd]
      refine ⟨by omega, by omega, _, rfl, ?_⟩
      simp only [vcs, tbl, crs, List.map, reduceIte, Nat.reduceLT, Nat.reduceLeDiff, Nat.reduceEqDiff, Nat.reduceAdd, Nat.reduceMul, Nat.reduceSub, h5, h1', add_lit0, pure_fieldAt, Nat.add_zero]
      obtain ⟨v8, G8, hc8, hd8, nd8, ow8, nx8⟩ := Mrk1.load hM8 (p := o + i * 10 + 8) (by simp [hdl]; try omega)
      refine ⟨_, hc8, ?_⟩
      obtain ⟨a8, p8, rfl, _⟩ := hd8.slice
      simp only [vcs, tbl, crs, List.map, reduceIte, Nat.reduceLT, Nat.reduceLeDiff, Nat.reduceEqDiff, Nat.reduceAdd, Nat.reduceMul, Nat.reduceSub, h5, h1']
      refine (hK _ _ _ _ hd8 nd8 ow8 (by omega) (by omega)).mono ?_
      rintro r w9 ⟨rfl, cd8, ow8', cg8⟩
      have hM9 := nx8 _ _ cg8 cd8 ow8'
      simp only [vcs, tbl, crs, List.map, reduceIte, Nat.reduceLT, Nat.reduceLeDiff, Nat.reduceEqDiff, Nat.reduceAdd, Nat.reduceMul, Nat.reduceSub, h5, h1', Int.add_assoc]
      refine ⟨by omega, by omega, _, rfl, ?_⟩
      simp only [vcs, tbl, crs, List.map, reduceIte, Nat.reduceLT, Nat.reduceLeDiff, Nat.reduceEqDiff, Nat.reduceAdd, Nat.reduceMul, Nat.reduceSub, h5, h1', add_lit0, pure_fieldAt, Nat.add_zero]
      obtain ⟨v9, G9, hc9, hd9, nd9, ow9, nx9⟩ := Mrk1.load hM9 (p := o + i * 10 + 9) (by simp [hdl]; try omega)
      refine ⟨_, hc9, ?_⟩
      obtain ⟨a9, p9, rfl, _⟩ := hd9.slice
      simp only [vcs, tbl, crs, List.map, reduceIte, Nat.reduceLT, Nat.reduceLeDiff, Nat.reduceEqDiff, Nat.reduceAdd, Nat.reduceMul, Nat.reduceSub, h5, h1']
      refine (hS _ _ _ _ hd9 nd9 ow9 (by omega) (by omega)).mono ?_
      rintro r w10 ⟨rfl, cd9, ow9', cg9⟩
      have hM10 := nx9 _ _ cg9 cd9 ow9'
      simp only [vcs, tbl, crs, List.map, reduceIte, Nat.reduceLT, Nat.reduceLeDiff, Nat.reduceEqDiff, Nat.reduceAdd, Nat.reduceMul, Nat.reduceSub, h5, h1', Int.add_assoc]
      rw [wrap_id (by omega) (by omega)]
      refine ⟨[], Sub.nil _, ⟨i + 1, by simp, ?_, rfl, by omega, ?_⟩, by omega⟩
      · rw [hks]; simp; omega
      · rw [hts, List.flatMap_append]
        have := hM10.close
        simpa [mkE, mkP, mkS, cnE, cnEs_eq, cnPs_eq, cnSs_eq, cnEEs_eq, PExpr.row, Plan.row, PSort.row, erow, rowsE_eq, rowsP_eq, rowsS_eq, rowsEE_eq, mkEs_eq, mkPs_eq, mkSs_eq, mkEEs_eq, mkL_len, int, bool, str, irow, srow, Int.add_assoc] using this
    · have : i = es.length := by omega
      subst this
      rw [List.take_length, List.drop_length] at hM
      obtain ⟨hc, ho, hg⟩ := hM.done hcap hmax hz
      exact ⟨by rw [List.take_length], hc, ho, hg⟩

theorem markPExprSS (es : List (List PExpr)) (hx : ∀ l ∈ es, ∀ e ∈ l, MkA e) : MkC 106 erow (mkL mkE cnE) (cnL cnE) es := by
  intro m k v F h hn ho h0 h1
  obtain ⟨a, cap, rfl, hcap, hmax, hz⟩ := h.slice
  have hmax' : cap ≤ 9223372036854775807 := hmax
  have hM := Mrk.start h hn ho
  clear h hn ho
  refine fcalls_of_vc (args := [_, _]) follows_mixed Try.func106 rfl (by kernel_rfl) (by simp [Try.f106]) ?_
  simp only [Try.f106, vcs, tbl, crs, List.map, reduceIte, Nat.reduceLT, Nat.reduceLeDiff, Nat.reduceEqDiff, Nat.reduceAdd, Nat.reduceMul, Nat.reduceSub]
  refine vcLoop.intro (fun s L m1 => ∃ i : Nat, s 5 = .c (.v (.int .i64 i)) ∧ s 1 = .c (.v (.int .i64 (k + cnL (cnL cnE) (es.take i)))) ∧ L = [] ∧ i ≤ es.length ∧ Mrk m F m1 a ((mkL (mkL mkE cnE) (cnL cnE) k (es.take i)).flatMap erow) ((es.drop i).flatMap erow))
    (fun s _ _ => (es.length - ixS (s 5)).toNat) ⟨[], Sub.nil _, 0, ?_⟩ ?_
  · simp only [vcs, tbl, crs, List.map, reduceIte, Nat.reduceLT, Nat.reduceLeDiff, Nat.reduceEqDiff, Nat.reduceAdd, Nat.reduceMul, Nat.reduceSub]
    exact ⟨rfl, by simp [cnL], by omega, by simpa [mkL] using hM⟩
  · rintro g L1 m1 ⟨i, h5, h1', rfl, hi, hM⟩
    simp only [vcs, tbl, crs, List.map, reduceIte, Nat.reduceLT, Nat.reduceLeDiff, Nat.reduceEqDiff, Nat.reduceAdd, Nat.reduceMul, Nat.reduceSub] at h5 h1'
    simp only [vcs, tbl, crs, List.map, reduceIte, Nat.reduceLT, Nat.reduceLeDiff, Nat.reduceEqDiff, Nat.reduceAdd, Nat.reduceMul, Nat.reduceSub, h5, h1']
    refine ⟨fun hlt => ?_, fun hge => ?_⟩
    · have hlt : i < es.length := by omega
      have hd : es.drop i = es[i] :: es.drop (i + 1) := List.drop_eq_getElem_cons hlt
      have hks := cnL_take_succ (cnL cnE) es i hlt
      have hkl := cnL_take_le (cnL cnE) es (i + 1)
      rw [hd, List.flatMap_cons] at hM
      have hdl : ((mkL (mkL mkE cnE) (cnL cnE) k (es.take i)).flatMap erow).length = i * 1 := by rw [flatMap_len erow_len, mkL_len, List.length_take]; congr 1; omega
      have hts := mkL_take_succ (mkL mkE cnE) (cnL cnE) k es i hlt
      obtain ⟨k0, hk0⟩ : ∃ k0 : Int, k0 = k + cnL (cnL cnE) (es.take i) := ⟨_, rfl⟩
      rw [← hk0] at h1' hts
      try rw [← hk0]
      obtain ⟨e, he⟩ : ∃ e, es[i] = e := ⟨_, rfl⟩
      try rw [he] at hks
      try rw [he] at hts
      rw [he] at hM
      have hxe := hx _ (List.getElem_mem hlt)
      rw [he] at hxe
      simp only [PExpr.row, Plan.row, PSort.row, erow, srow, str, rowsE_eq, rowsP_eq, rowsS_eq, rowsEE_eq, List.cons_append, List.nil_append] at hM
      have hk1 : 0 ≤ k0 := by omega
      obtain ⟨b, o, rfl, hM0⟩ := hM.open (by simp)
      clear hM
      refine ⟨by omega, by omega, _, rfl, ?_⟩
      simp only [vcs, tbl, crs, List.map, reduceIte, Nat.reduceLT, Nat.reduceLeDiff, Nat.reduceEqDiff, Nat.reduceAdd, Nat.reduceMul, Nat.reduceSub, h5, h1', add_lit0, pure_fieldAt, Nat.add_zero]
      obtain ⟨v0, G0, hc0, hd0, nd0, ow0, nx0⟩ := Mrk1.load hM0 (p := o + i * 1) (by simp [hdl]; try omega)
      refine ⟨_, hc0, ?_⟩
      obtain ⟨a0, p0, rfl, _⟩ := hd0.slice
      simp only [vcs, tbl, crs, List.map, reduceIte, Nat.reduceLT, Nat.reduceLeDiff, Nat.reduceEqDiff, Nat.reduceAdd, Nat.reduceMul, Nat.reduceSub, h5, h1']
      refine ((markPExprS _ hxe) _ _ _ _ hd0 nd0 ow0 (by omega) (by omega)).mono ?_
      rintro r w1 ⟨rfl, cd0, ow0', cg0⟩
      have hM1 := nx0 _ _ cg0 cd0 ow0'
      simp only [vcs, tbl, crs, List.map, reduceIte, Nat.reduceLT, Nat.reduceLeDiff, Nat.reduceEqDiff, Nat.reduceAdd, Nat.reduceMul, Nat.reduceSub, h5, h1', Int.add_assoc]
      rw [wrap_id (by omega) (by omega)]
      refine ⟨[], Sub.nil _, ⟨i + 1, by simp, ?_, rfl, by omega, ?_⟩, by omega⟩
      · rw [hks]; simp; omega
      · rw [hts, List.flatMap_append]
        have := hM1.close
        simpa [mkE, mkP, mkS, cnE, cnEs_eq, cnPs_eq, cnSs_eq, cnEEs_eq, PExpr.row, Plan.row, PSort.row, erow, rowsE_eq, rowsP_eq, rowsS_eq, rowsEE_eq, mkEs_eq, mkPs_eq, mkSs_eq, mkEEs_eq, mkL_len, int, bool, str, irow, srow, Int.add_assoc] using this
    · have : i = es.length := by omega
      subst this
      rw [List.take_length, List.drop_length] at hM
      obtain ⟨hc, ho, hg⟩ := hM.done hcap hmax hz
      exact ⟨by rw [List.take_length], hc, ho, hg⟩

set_option maxHeartbeats 1000000 in
theorem markPSortS (es : List PSort) (hx : ∀ e ∈ es, MkO e) : MkC 107 PSort.row mkS cnS es := by
  intro m k v F h hn ho h0 h1
  obtain ⟨a, cap, rfl, hcap, hmax, hz⟩ := h.slice
  have hmax' : cap ≤ 9223372036854775807 := hmax
  have hM := Mrk.start h hn ho
  clear h hn ho
  refine fcalls_of_vc (args := [_, _]) follows_mixed Try.func107 rfl (by kernel_rfl) (by simp [Try.f107]) ?_
  simp only [Try.f107, vcs, tbl, crs, List.map, reduceIte, Nat.reduceLT, Nat.reduceLeDiff, Nat.reduceEqDiff, Nat.reduceAdd, Nat.reduceMul, Nat.reduceSub]
  refine vcLoop.intro (fun s L m1 => ∃ i : Nat, s 5 = .c (.v (.int .i64 i)) ∧ s 1 = .c (.v (.int .i64 (k + cnL cnS (es.take i)))) ∧ L = [] ∧ i ≤ es.length ∧ Mrk m F m1 a ((mkL mkS cnS k (es.take i)).flatMap PSort.row) ((es.drop i).flatMap PSort.row))
    (fun s _ _ => (es.length - ixS (s 5)).toNat) ⟨[], Sub.nil _, 0, ?_⟩ ?_
  · simp only [vcs, tbl, crs, List.map, reduceIte, Nat.reduceLT, Nat.reduceLeDiff, Nat.reduceEqDiff, Nat.reduceAdd, Nat.reduceMul, Nat.reduceSub]
    exact ⟨rfl, by simp [cnL], by omega, by simpa [mkL] using hM⟩
  · rintro g L1 m1 ⟨i, h5, h1', rfl, hi, hM⟩
    simp only [vcs, tbl, crs, List.map, reduceIte, Nat.reduceLT, Nat.reduceLeDiff, Nat.reduceEqDiff, Nat.reduceAdd, Nat.reduceMul, Nat.reduceSub] at h5 h1'
    simp only [vcs, tbl, crs, List.map, reduceIte, Nat.reduceLT, Nat.reduceLeDiff, Nat.reduceEqDiff, Nat.reduceAdd, Nat.reduceMul, Nat.reduceSub, h5, h1']
    refine ⟨fun hlt => ?_, fun hge => ?_⟩
    · have hlt : i < es.length := by omega
      have hd : es.drop i = es[i] :: es.drop (i + 1) := List.drop_eq_getElem_cons hlt
      have hks := cnL_take_succ cnS es i hlt
      have hkl := cnL_take_le cnS es (i + 1)
      rw [hd, List.flatMap_cons] at hM
      have hdl : ((mkL mkS cnS k (es.take i)).flatMap PSort.row).length = i * 11 := by rw [flatMap_len PSort.row_len, mkL_len, List.length_take]; congr 1; omega
      have hts := mkL_take_succ mkS cnS k es i hlt
      obtain ⟨k0, hk0⟩ : ∃ k0 : Int, k0 = k + cnL cnS (es.take i) := ⟨_, rfl⟩
      rw [← hk0] at h1' hts
      try rw [← hk0]
      obtain ⟨e, he⟩ : ∃ e, es[i] = e := ⟨_, rfl⟩
      try rw [he] at hks
      try rw [he] at hts
      rw [he] at hM
      have hxe := hx _ (List.getElem_mem hlt)
      rw [he] at hxe
      obtain ⟨e, dsc⟩ := e
      obtain ⟨kd, op, nt, vl, up, ap, ks, ss⟩ := e
      obtain ⟨hK, hS⟩ := hxe
      rw [cnS, cnE, cnEs_eq, cnPs_eq] at hks
      simp only [PExpr.row, Plan.row, PSort.row, erow, srow, str, rowsE_eq, rowsP_eq, rowsS_eq, rowsEE_eq, List.cons_append, List.nil_append] at hM
      have hk1 : 0 ≤ k0 := by omega
      obtain ⟨b, o, rfl, hM0⟩ := hM.open (by simp)
      clear hM
      refine ⟨by omega, by omega, _, rfl, ?_⟩
      simp only [vcs, tbl, crs, List.map, reduceIte, Nat.reduceLT, Nat.reduceLeDiff, Nat.reduceEqDiff, Nat.reduceAdd, Nat.reduceMul, Nat.reduceSub, h5, h1', add_lit0, pure_fieldAt, Nat.add_zero]
      obtain ⟨q0, w1, e0, hM1⟩ := Mrk1.st hM0 (o + i * 11) (.int .i64 (k0)) (by simp [hdl]; try omega) trivial
      refine ⟨by simp, by simp [oneCell], q0, ?_⟩
      rw [e0]
      rw [wrap_id (by omega) (by omega)]
      try simp only [Int.add_assoc, Int.reduceAdd]
      refine ⟨by omega, by omega, _, rfl, ?_⟩
      simp only [vcs, tbl, crs, List.map, reduceIte, Nat.reduceLT, Nat.reduceLeDiff, Nat.reduceEqDiff, Nat.reduceAdd, Nat.reduceMul, Nat.reduceSub, h5, h1', add_lit0, pure_fieldAt, Nat.add_zero]
      obtain ⟨q1, w2, e1, hM2⟩ := Mrk1.st hM1 (o + i * 11 + 1) (.int .i64 (k0 + 1)) (by simp [hdl]; try omega) trivial
      refine ⟨by simp, by simp [oneCell], q1, ?_⟩
      rw [e1]
      rw [wrap_id (by omega) (by omega)]
      try simp only [Int.add_assoc, Int.reduceAdd]
      rw [pure_rem (by decide)]
      simp only [vcs, tbl, crs, List.map, reduceIte, Nat.reduceLT, Nat.reduceLeDiff, Nat.reduceEqDiff, Nat.reduceAdd, Nat.reduceMul, Nat.reduceSub, h5, h1', Int.add_assoc, Int.reduceAdd]
      refine ⟨by omega, by omega, _, rfl, ?_⟩
      simp only [vcs, tbl, crs, List.map, reduceIte, Nat.reduceLT, Nat.reduceLeDiff, Nat.reduceEqDiff, Nat.reduceAdd, Nat.reduceMul, Nat.reduceSub, h5, h1', add_lit0, pure_fieldAt, Nat.add_zero]
      obtain ⟨q2, w3, e2, hM3⟩ := Mrk1.st hM2 (o + i * 11 + 2) (.bool (decide ((k0 + 2).tmod 3 = 0))) (by simp [hdl]; try omega) trivial
      refine ⟨by simp, by simp [oneCell], q2, ?_⟩
      rw [e2]
      rw [wrap_id (by omega) (by omega)]
      try simp only [Int.add_assoc, Int.reduceAdd]
      refine ⟨by omega, by omega, _, rfl, ?_⟩
      simp only [vcs, tbl, crs, List.map, reduceIte, Nat.reduceLT, Nat.reduceLeDiff, Nat.reduceEqDiff, Nat.reduceAdd, Nat.reduceMul, Nat.reduceSub, h5, h1', add_lit0, pure_fieldAt, Nat.add_zero]
      obtain ⟨q3, w4, e3, hM4⟩ := Mrk1.st hM3 (o + i * 11 + 3) (.int .i64 (k0 + 3)) (by simp [hdl]; try omega) trivial
      refine ⟨by simp, by simp [oneCell], q3, ?_⟩
      rw [e3]
      rw [wrap_id (by omega) (by omega)]
      try simp only [Int.add_assoc, Int.reduceAdd]
      refine ⟨by omega, by omega, _, rfl, ?_⟩
      simp only [vcs, tbl, crs, List.map, reduceIte, Nat.reduceLT, Nat.reduceLeDiff, Nat.reduceEqDiff, Nat.reduceAdd, Nat.reduceMul, Nat.reduceSub, h5, h1', add_lit0, pure_fieldAt, Nat.add_zero]
      obtain ⟨q4, w5, e4, hM5⟩ := Mrk1.st hM4 (o + i * 11 + 4) (.int .i64 (k0 + 4)) (by simp [hdl]; try omega) trivial
      refine ⟨by simp, by simp [oneCell], q4, ?_⟩
      rw [e4]
      rw [wrap_id (by omega) (by omega)]
      try simp only [Int.add_assoc, Int.reduceAdd]
      refine (markText _ _ (by omega)).mono ?_
      rintro r x5 ⟨hg5, rfl⟩
      replace hM5 := hM5.grow hg5
      simp only [vcs, tbl, crs, List.map, reduceIte, Nat.reduceLT, Nat.reduceLeDiff, Nat.reduceEqDiff, Nat.reduceAdd, Nat.reduceMul, Nat.reduceSub, h5, h1', add_lit0, pure_fieldAt, Nat.add_zero]
      refine ⟨by omega, by omega, _, rfl, ?_⟩
      simp only [vcs, tbl, crs, List.map, reduceIte, Nat.reduceLT, Nat.reduceLeDiff, Nat.reduceEqDiff, Nat.reduceAdd, Nat.reduceMul, Nat.reduceSub, h5, h1', add_lit0, pure_fieldAt, Nat.add_zero]
      obtain ⟨q5, w6, e5, hM6⟩ := Mrk1.st hM5 (o + i * 11 + 5) (.string (mtext (k0 + 5))) (by simp [hdl]; try omega) (mtext_ok (by omega))
      refine ⟨by simp, by simp [oneCell], q5, ?_⟩
      rw [e5]
      rw [wrap_id (by omega) (by omega)]
      try simp only [Int.add_assoc, Int.reduceAdd]
      refine ⟨by omega, by omega, _, rfl, ?_⟩
      simp only [vcs, tbl, crs, List.map, reduceIte, Nat.reduceLT, Nat.reduceLeDiff, Nat.reduceEqDiff, Nat.reduceAdd, Nat.reduceMul, Nat.reduceSub, h5, h1', add_lit0, pure_fieldAt, Nat.add_zero]
      obtain ⟨q6, w7, e6, hM7⟩ := Mrk1.st hM6 (o + i * 11 + 6) (.int .i64 (k0 + 6)) (by simp [hdl]; try omega) trivial
      refine ⟨by simp, by simp [oneCell], q6, ?_⟩
      rw [e6]
      rw [wrap_id (by omega) (by omega)]
      try simp only [Int.add_assoc, Int.reduceAdd]
      refine ⟨by omega, by omega, _, rfl, ?_⟩
      simp only [vcs, tbl, crs, List.map, reduceIte, Nat.reduceLT, Nat.reduceLeDiff, Nat.reduceEqDiff, Nat.reduceAdd, Nat.reduceMul, Nat.reduceSub, h5, h1', add_lit0, pure_fieldAt, Nat.add_zero]
      obtain ⟨q7, w8, e7, hM8⟩ := Mrk1.st hM7 (o + i * 11 + 7) (.int .i64 (k0 + 7)) (by simp [hdl]; try omega) trivial
      refine ⟨by simp, by simp [oneCell], q7, ?_⟩
      rw [e7]
      rw [wrap_id (by omega) (by omega)]
      try simp only [Int.add_assoc, Int.reduceAdd]
      refine ⟨by omega, by omega, _, rfl, ?_⟩
      simp only [vcs, tbl, crs, List.map, reduceIte, Nat.reduceLT, Nat.reduceLeDiff, Nat.reduceEqDiff, Nat.reduceAdd, Nat.reduceMul, Nat.reduceSub, h5, h1', add_lit0, pure_fieldAt, Nat.add_zero]
      obtain ⟨v8, G8, hc8, hd8, nd8, ow8, nx8⟩ := Mrk1.load hM8 (p := o + i * 11 + 8) (by simp [hdl]; try omega)
      refine ⟨_, hc8, ?_⟩
      obtain ⟨a8, p8, rfl, _⟩ := hd8.slice
      simp only [vcs, tbl, crs, List.map, reduceIte, Nat.reduceLT, Nat.reduceLeDiff, Nat.reduceEqDiff, Nat.reduceAdd, Nat.reduceMul, Nat.reduceSub, h5, h1']
      refine (hK _ _ _ _ hd8 nd8 ow8 (by omega) (by omega)).mono ?_
      rintro r w9 ⟨rfl, cd8, ow8', cg8⟩
      have hM9 := nx8 _ _ cg8 cd8 ow8'
      simp only [vcs, tbl, crs, List.map, reduceIte, Nat.reduceLT, Nat.reduceLeDiff, Nat.reduceEqDiff, Nat.reduceAdd, Nat.reduceMul, Nat.reduceSub, h5, h1', Int.add_assoc]
      refine ⟨by omega, by omega, _, rfl, ?_⟩
      simp only [vcs, tbl, crs, List.map, reduceIte, Nat.reduceLT, Nat.reduceLeDiff, Nat.reduceEqDiff, Nat.reduceAdd, Nat.reduceMul, Nat.reduceSub, h5, h1', add_lit0, pure_fieldAt, Nat.add_zero]
      obtain ⟨v9, G9, hc9, hd9, nd9, ow9, nx9⟩ := Mrk1.load hM9 (p := o + i * 11 + 9) (by simp [hdl]; try omega)
      refine ⟨_, hc9, ?_⟩
      obtain ⟨a9, p9, rfl, _⟩ := hd9.slice
      simp only [vcs, tbl, crs, List.map, reduceIte, Nat.reduceLT, Nat.reduceLeDiff, Nat.reduceEqDiff, Nat.reduceAdd, Nat.reduceMul, Nat.reduceSub, h5, h1']
      refine (hS _ _ _ _ hd9 nd9 ow9 (by omega) (by omega)).mono ?_
      rintro r w10 ⟨rfl, cd9, ow9', cg9⟩
      have hM10 := nx9 _ _ cg9 cd9 ow9'
      simp only [vcs, tbl, crs, List.map, reduceIte, Nat.reduceLT, Nat.reduceLeDiff, Nat.reduceEqDiff, Nat.reduceAdd, Nat.reduceMul, Nat.reduceSub, h5, h1', Int.add_assoc]
      rw [pure_rem (by decide)]
      simp only [vcs, tbl, crs, List.map, reduceIte, Nat.reduceLT, Nat.reduceLeDiff, Nat.reduceEqDiff, Nat.reduceAdd, Nat.reduceMul, Nat.reduceSub, h5, h1', Int.add_assoc, Int.reduceAdd]
      refine ⟨by omega, by omega, _, rfl, ?_⟩
      simp only [vcs, tbl, crs, List.map, reduceIte, Nat.reduceLT, Nat.reduceLeDiff, Nat.reduceEqDiff, Nat.reduceAdd, Nat.reduceMul, Nat.reduceSub, h5, h1', add_lit0, pure_fieldAt, Nat.add_zero]
      obtain ⟨q10, w11, e10, hM11⟩ := Mrk1.st hM10 (o + i * 11 + 10) (.bool (decide ((k0 + (8 + (↑(cnL cnE ks) + ↑(cnL cnP ss)))).tmod 3 = 0))) (by simp [hdl]; try omega) trivial
      refine ⟨by simp, by simp [oneCell], q10, ?_⟩
      rw [e10]
      rw [wrap_id (by omega) (by omega)]
      try simp only [Int.add_assoc, Int.reduceAdd]
      rw [wrap_id (by omega) (by omega)]
      refine ⟨[], Sub.nil _, ⟨i + 1, by simp, ?_, rfl, by omega, ?_⟩, by omega⟩
      · rw [hks]; simp; omega
      · rw [hts, List.flatMap_append]
        have := hM11.close
        simpa [mkE, mkP, mkS, cnE, cnEs_eq, cnPs_eq, cnSs_eq, cnEEs_eq, PExpr.row, Plan.row, PSort.row, erow, rowsE_eq, rowsP_eq, rowsS_eq, rowsEE_eq, mkEs_eq, mkPs_eq, mkSs_eq, mkEEs_eq, mkL_len, int, bool, str, irow, srow, Int.add_assoc] using this
    · have : i = es.length := by omega
      subst this
      rw [List.take_length, List.drop_length] at hM
      obtain ⟨hc, ho, hg⟩ := hM.done hcap hmax hz
      exact ⟨by rw [List.take_length], hc, ho, hg⟩

set_option maxHeartbeats 1000000 in
theorem markPlanS (es : List Plan) (hx : ∀ e ∈ es, MkB e) : MkC 87 Plan.row mkP cnP es := by
  intro m k v F h hn ho h0 h1
  obtain ⟨a, cap, rfl, hcap, hmax, hz⟩ := h.slice
  have hmax' : cap ≤ 9223372036854775807 := hmax
  have hM := Mrk.start h hn ho
  clear h hn ho
  refine fcalls_of_vc (args := [_, _]) follows_mixed Try.func87 rfl (by kernel_rfl) (by simp [Try.f87]) ?_
  simp only [Try.f87, vcs, tbl, crs, List.map, reduceIte, Nat.reduceLT, Nat.reduceLeDiff, Nat.reduceEqDiff, Nat.reduceAdd, Nat.reduceMul, Nat.reduceSub]
  refine vcLoop.intro (fun s L m1 => ∃ i : Nat, s 5 = .c (.v (.int .i64 i)) ∧ s 1 = .c (.v (.int .i64 (k + cnL cnP (es.take i)))) ∧ L = [] ∧ i ≤ es.length ∧ Mrk m F m1 a ((mkL mkP cnP k (es.take i)).flatMap Plan.row) ((es.drop i).flatMap Plan.row))
    (fun s _ _ => (es.length - ixS (s 5)).toNat) ⟨[], Sub.nil _, 0, ?_⟩ ?_
  · simp only [vcs, tbl, crs, List.map, reduceIte, Nat.reduceLT, Nat.reduceLeDiff, Nat.reduceEqDiff, Nat.reduceAdd, Nat.reduceMul, Nat.reduceSub]
    exact ⟨rfl, by simp [cnL], by omega, by simpa [mkL] using hM⟩
  · rintro g L1 m1 ⟨i, h5, h1', rfl, hi, hM⟩
    simp only [vcs, tbl, crs, List.map, reduceIte, Nat.reduceLT, Nat.reduceLeDiff, Nat.reduceEqDiff, Nat.reduceAdd, Nat.reduceMul, Nat.reduceSub] at h5 h1'
    simp only [vcs, tbl, crs, List.map, reduceIte, Nat.reduceLT, Nat.reduceLeDiff, Nat.reduceEqDiff, Nat.reduceAdd, Nat.reduceMul, Nat.reduceSub, h5, h1']
    refine ⟨fun hlt => ?_, fun hge => ?_⟩
    · have hlt : i < es.length := by omega
      have hd : es.drop i = es[i] :: es.drop (i + 1) := List.drop_eq_getElem_cons hlt
      have hks := cnL_take_succ cnP es i hlt
      have hkl := cnL_take_le cnP es (i + 1)
      rw [hd, List.flatMap_cons] at hM
      have hdl : ((mkL mkP cnP k (es.take i)).flatMap Plan.row).length = i * 8 := by rw [flatMap_len Plan.row_len, mkL_len, List.length_take]; congr 1; omega
      have hts := mkL_take_succ mkP cnP k es i hlt
      obtain ⟨k0, hk0⟩ : ∃ k0 : Int, k0 = k + cnL cnP (es.take i) := ⟨_, rfl⟩
      rw [← hk0] at h1' hts
      try rw [← hk0]
      obtain ⟨e, he⟩ : ∃ e, es[i] = e := ⟨_, rfl⟩
      try rw [he] at hks
      try rw [he] at hts
      rw [he] at hM
      have hxe := hx _ (List.getElem_mem hlt)
      rw [he] at hxe
      obtain ⟨t, on, wh, or, it, nm, dst, li⟩ := e
      obtain ⟨h1, h2, h3, h4⟩ := hxe
      rw [cnP, cnEs_eq, cnSs_eq, cnEEs_eq, cnEs_eq] at hks
      simp only [PExpr.row, Plan.row, PSort.row, erow, srow, str, rowsE_eq, rowsP_eq, rowsS_eq, rowsEE_eq, List.cons_append, List.nil_append] at hM
      have hk1 : 0 ≤ k0 := by omega
      obtain ⟨b, o, rfl, hM0⟩ := hM.open (by simp)
      clear hM
      refine ⟨by omega, by omega, _, rfl, ?_⟩
      simp only [vcs, tbl, crs, List.map, reduceIte, Nat.reduceLT, Nat.reduceLeDiff, Nat.reduceEqDiff, Nat.reduceAdd, Nat.reduceMul, Nat.reduceSub, h5, h1', add_lit0, pure_fieldAt, Nat.add_zero]
      obtain ⟨v0, G0, hc0, hd0, nd0, ow0, nx0⟩ := Mrk1.load hM0 (p := o + i * 8) (by simp [hdl]; try omega)
      refine ⟨_, hc0, ?_⟩
      obtain ⟨a0, p0, rfl, _⟩ := hd0.slice
      simp only [vcs, tbl, crs, List.map, reduceIte, Nat.reduceLT, Nat.reduceLeDiff, Nat.reduceEqDiff, Nat.reduceAdd, Nat.reduceMul, Nat.reduceSub, h5, h1']
      refine ((markIntS t) _ _ _ _ hd0 nd0 ow0 (by omega) (by omega)).mono ?_
      rintro r w1 ⟨rfl, cd0, ow0', cg0⟩
      have hM1 := nx0 _ _ cg0 cd0 ow0'
      simp only [vcs, tbl, crs, List.map, reduceIte, Nat.reduceLT, Nat.reduceLeDiff, Nat.reduceEqDiff, Nat.reduceAdd, Nat.reduceMul, Nat.reduceSub, h5, h1', Int.add_assoc]
      refine ⟨by omega, by omega, _, rfl, ?_⟩
      simp only [vcs, tbl, crs, List.map, reduceIte, Nat.reduceLT, Nat.reduceLeDiff, Nat.reduceEqDiff, Nat.reduceAdd, Nat.reduceMul, Nat.reduceSub, h5, h1', add_lit0, pure_fieldAt, Nat.add_zero]
      obtain ⟨v1, G1, hc1, hd1, nd1, ow1, nx1⟩ := Mrk1.load hM1 (p := o + i * 8 + 1) (by simp [hdl]; try omega)
      refine ⟨_, hc1, ?_⟩
      obtain ⟨a1, p1, rfl, _⟩ := hd1.slice
      simp only [vcs, tbl, crs, List.map, reduceIte, Nat.reduceLT, Nat.reduceLeDiff, Nat.reduceEqDiff, Nat.reduceAdd, Nat.reduceMul, Nat.reduceSub, h5, h1']
      refine (h1 _ _ _ _ hd1 nd1 ow1 (by omega) (by omega)).mono ?_
      rintro r w2 ⟨rfl, cd1, ow1', cg1⟩
      have hM2 := nx1 _ _ cg1 cd1 ow1'
      simp only [vcs, tbl, crs, List.map, reduceIte, Nat.reduceLT, Nat.reduceLeDiff, Nat.reduceEqDiff, Nat.reduceAdd, Nat.reduceMul, Nat.reduceSub, h5, h1', Int.add_assoc]
      refine ⟨by omega, by omega, _, rfl, ?_⟩
      simp only [vcs, tbl, crs, List.map, reduceIte, Nat.reduceLT, Nat.reduceLeDiff, Nat.reduceEqDiff, Nat.reduceAdd, Nat.reduceMul, Nat.reduceSub, h5, h1', add_lit0, pure_fieldAt, Nat.add_zero]
      obtain ⟨v2, G2, hc2, hd2, nd2, ow2, nx2⟩ := Mrk1.load hM2 (p := o + i * 8 + 2) (by simp [hdl]; try omega)
      refine ⟨_, hc2, ?_⟩
      obtain ⟨a2, p2, rfl, _⟩ := hd2.slice
      simp only [vcs, tbl, crs, List.map, reduceIte, Nat.reduceLT, Nat.reduceLeDiff, Nat.reduceEqDiff, Nat.reduceAdd, Nat.reduceMul, Nat.reduceSub, h5, h1']
      refine (h2 _ _ _ _ hd2 nd2 ow2 (by omega) (by omega)).mono ?_
      rintro r w3 ⟨rfl, cd2, ow2', cg2⟩
      have hM3 := nx2 _ _ cg2 cd2 ow2'
      simp only [vcs, tbl, crs, List.map, reduceIte, Nat.reduceLT, Nat.reduceLeDiff, Nat.reduceEqDiff, Nat.reduceAdd, Nat.reduceMul, Nat.reduceSub, h5, h1', Int.add_assoc]
      refine ⟨by omega, by omega, _, rfl, ?_⟩
      simp only [vcs, tbl, crs, List.map, reduceIte, Nat.reduceLT, Nat.reduceLeDiff, Nat.reduceEqDiff, Nat.reduceAdd, Nat.reduceMul, Nat.reduceSub, h5, h1', add_lit0, pure_fieldAt, Nat.add_zero]
      obtain ⟨v3, G3, hc3, hd3, nd3, ow3, nx3⟩ := Mrk1.load hM3 (p := o + i * 8 + 3) (by simp [hdl]; try omega)
      refine ⟨_, hc3, ?_⟩
      obtain ⟨a3, p3, rfl, _⟩ := hd3.slice
      simp only [vcs, tbl, crs, List.map, reduceIte, Nat.reduceLT, Nat.reduceLeDiff, Nat.reduceEqDiff, Nat.reduceAdd, Nat.reduceMul, Nat.reduceSub, h5, h1']
      refine (h3 _ _ _ _ hd3 nd3 ow3 (by omega) (by omega)).mono ?_
      rintro r w4 ⟨rfl, cd3, ow3', cg3⟩
      have hM4 := nx3 _ _ cg3 cd3 ow3'
      simp only [vcs, tbl, crs, List.map, reduceIte, Nat.reduceLT, Nat.reduceLeDiff, Nat.reduceEqDiff, Nat.reduceAdd, Nat.reduceMul, Nat.reduceSub, h5, h1', Int.add_assoc]
      refine ⟨by omega, by omega, _, rfl, ?_⟩
      simp only [vcs, tbl, crs, List.map, reduceIte, Nat.reduceLT, Nat.reduceLeDiff, Nat.reduceEqDiff, Nat.reduceAdd, Nat.reduceMul, Nat.reduceSub, h5, h1', add_lit0, pure_fieldAt, Nat.add_zero]
      obtain ⟨v4, G4, hc4, hd4, nd4, ow4, nx4⟩ := Mrk1.load hM4 (p := o + i * 8 + 4) (by simp [hdl]; try omega)
      refine ⟨_, hc4, ?_⟩
      obtain ⟨a4, p4, rfl, _⟩ := hd4.slice
      simp only [vcs, tbl, crs, List.map, reduceIte, Nat.reduceLT, Nat.reduceLeDiff, Nat.reduceEqDiff, Nat.reduceAdd, Nat.reduceMul, Nat.reduceSub, h5, h1']
      refine (h4 _ _ _ _ hd4 nd4 ow4 (by omega) (by omega)).mono ?_
      rintro r w5 ⟨rfl, cd4, ow4', cg4⟩
      have hM5 := nx4 _ _ cg4 cd4 ow4'
      simp only [vcs, tbl, crs, List.map, reduceIte, Nat.reduceLT, Nat.reduceLeDiff, Nat.reduceEqDiff, Nat.reduceAdd, Nat.reduceMul, Nat.reduceSub, h5, h1', Int.add_assoc]
      refine ⟨by omega, by omega, _, rfl, ?_⟩
      simp only [vcs, tbl, crs, List.map, reduceIte, Nat.reduceLT, Nat.reduceLeDiff, Nat.reduceEqDiff, Nat.reduceAdd, Nat.reduceMul, Nat.reduceSub, h5, h1', add_lit0, pure_fieldAt, Nat.add_zero]
      obtain ⟨v5, G5, hc5, hd5, nd5, ow5, nx5⟩ := Mrk1.load hM5 (p := o + i * 8 + 5) (by simp [hdl]; try omega)
      refine ⟨_, hc5, ?_⟩
      obtain ⟨a5, p5, rfl, _⟩ := hd5.slice
      simp only [vcs, tbl, crs, List.map, reduceIte, Nat.reduceLT, Nat.reduceLeDiff, Nat.reduceEqDiff, Nat.reduceAdd, Nat.reduceMul, Nat.reduceSub, h5, h1']
      refine ((markStringS nm) _ _ _ _ hd5 nd5 ow5 (by omega) (by omega)).mono ?_
      rintro r w6 ⟨rfl, cd5, ow5', cg5⟩
      have hM6 := nx5 _ _ cg5 cd5 ow5'
      simp only [vcs, tbl, crs, List.map, reduceIte, Nat.reduceLT, Nat.reduceLeDiff, Nat.reduceEqDiff, Nat.reduceAdd, Nat.reduceMul, Nat.reduceSub, h5, h1', Int.add_assoc]
      rw [pure_rem (by decide)]
      simp only [vcs, tbl, crs, List.map, reduceIte, Nat.reduceLT, Nat.reduceLeDiff, Nat.reduceEqDiff, Nat.reduceAdd, Nat.reduceMul, Nat.reduceSub, h5, h1', Int.add_assoc, Int.reduceAdd]
      refine ⟨by omega, by omega, _, rfl, ?_⟩
      simp only [vcs, tbl, crs, List.map, reduceIte, Nat.reduceLT, Nat.reduceLeDiff, Nat.reduceEqDiff, Nat.reduceAdd, Nat.reduceMul, Nat.reduceSub, h5, h1', add_lit0, pure_fieldAt, Nat.add_zero]
      obtain ⟨q6, w7, e6, hM7⟩ := Mrk1.st hM6 (o + i * 8 + 6) (.bool (decide ((k0 + (↑(cnL (fun _ => 1) t) + (↑(cnL (cnL cnE) on) + (↑(cnL cnE wh) + (↑(cnL cnS or) + (↑(cnL cnE it) + ↑(cnL (fun _ => 1) nm))))))).tmod 3 = 0))) (by simp [hdl]; try omega) trivial
      refine ⟨by simp, by simp [oneCell], q6, ?_⟩
      rw [e6]
      rw [wrap_id (by omega) (by omega)]
      try simp only [Int.add_assoc, Int.reduceAdd]
      refine ⟨by omega, by omega, _, rfl, ?_⟩
      simp only [vcs, tbl, crs, List.map, reduceIte, Nat.reduceLT, Nat.reduceLeDiff, Nat.reduceEqDiff, Nat.reduceAdd, Nat.reduceMul, Nat.reduceSub, h5, h1', add_lit0, pure_fieldAt, Nat.add_zero]
      obtain ⟨q7, w8, e7, hM8⟩ := Mrk1.st hM7 (o + i * 8 + 7) (.int .i64 (k0 + (↑(cnL (fun _ => 1) t) + (↑(cnL (cnL cnE) on) + (↑(cnL cnE wh) + (↑(cnL cnS or) + (↑(cnL cnE it) + (↑(cnL (fun _ => 1) nm) + 1)))))))) (by simp [hdl]; try omega) trivial
      refine ⟨by simp, by simp [oneCell], q7, ?_⟩
      rw [e7]
      rw [wrap_id (by omega) (by omega)]
      try simp only [Int.add_assoc, Int.reduceAdd]
      rw [wrap_id (by omega) (by omega)]
      refine ⟨[], Sub.nil _, ⟨i + 1, by simp, ?_, rfl, by omega, ?_⟩, by omega⟩
      · rw [hks]; simp; omega
      · rw [hts, List.flatMap_append]
        have := hM8.close
        simpa [mkE, mkP, mkS, cnE, cnEs_eq, cnPs_eq, cnSs_eq, cnEEs_eq, PExpr.row, Plan.row, PSort.row, erow, rowsE_eq, rowsP_eq, rowsS_eq, rowsEE_eq, mkEs_eq, mkPs_eq, mkSs_eq, mkEEs_eq, mkL_len, int, bool, str, irow, srow, Int.add_assoc] using this
    · have : i = es.length := by omega
      subst this
      rw [List.take_length, List.drop_length] at hM
      obtain ⟨hc, ho, hg⟩ := hM.done hcap hmax hz
      exact ⟨by rw [List.take_length], hc, ho, hg⟩

theorem mk_all : (∀ e, MkA e) ∧ (∀ p, MkB p) ∧ (∀ s, MkO s) := tree_ind (fun _ _ _ _ _ _ _ _ h1 h2 => ⟨markPExprS _ h1, markPlanS _ h2⟩) (fun _ _ _ _ _ _ _ _ h1 h2 h3 h4 => ⟨markPExprSS _ h1, markPExprS _ h2, markPSortS _ h3, markPExprS _ h4⟩) (fun _ _ h => h)
end Go.Proofs.Ytklligemdfnimaa